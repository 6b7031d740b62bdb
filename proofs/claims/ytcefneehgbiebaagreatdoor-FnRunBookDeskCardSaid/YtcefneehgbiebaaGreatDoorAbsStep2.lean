/- Own text. -/
import Derived.Test.YtcefneehgbiebaaGreatDoorAbsStep
set_option linter.unusedVariables false
set_option linter.unusedSimpArgs false
namespace Go.Abs
open Go
theorem XA (v:AV) (adds sets:Hp) (dels frz:List Nat) (dst:Option Nat) (sl:Sl) (hp:Hp) :
  Zd.on { eff := { val:=v,adds:=adds,sets:=sets,dels:=dels,frz:=frz },gone:=[] } dst sl hp =
   (Zt sl dst v,Zh (Zh (Qs (Qi frz hp) dels) sets) adds):=rfl
section
variable {P:Program} {nt:Nat} {U:Nat→Prop} {F A I:Nat→Prop} {Γ:Gh} {sl:Sl} {hp:Hp} {a:Act} {w:World}
def Zfh (P:Program) (nt:Nat) (F A I:Nat→Prop) (Γ:Gh) (U:Nat→Prop) (sl:Sl) (hp:Hp) (a:Act) (w:World) (o:Oper) (base:Nat) (ce:Zd):Prop:=
 ∃ u w',Zpe P o a w u w'∧UZ nt F A I Γ w (Zad U base) (ce.on o.dst sl hp).1 (ce.on o.dst sl hp).2 (a.put o.dst u) w'
theorem Yo.opOK (h:Sim nt F A I Γ U sl hp a w) {o:Oper} {base:Nat} {ce:Zd} (hb:Xp U base) (hd:Xb nt o.dst=true) (hp' : Yo P Γ I o a w ce):Zfh P nt F A I Γ U sl hp a w o base ce:=by
 obtain⟨u,r,h1,rfl,h2⟩:=hp';exact⟨u,w,h1,h.pure (fun id hu=>.inl hu) h2 hd⟩
theorem Zz7 (h:Sim nt F A I Γ U sl hp a w) {o:Oper} {x:Operand} {y:Opd} {e:Option Nat} (ho:o.op=.assign x) (hc:Z5 x=some y) {base:Nat} (hb:Xp U base) (hd:Xb nt o.dst=true) {ce:Zd}
  (ae:QZ base (base+64) ce.eff.adds=true) (hv:ZdZ base e (evO sl y)=some ce):Zfh P nt F A I Γ U sl hp a w o base ce:=by
 unfold ZdZ at hv;split at hv
 ·rename_i hy;obtain⟨s,hs,hv⟩:=Za hv;cases hv;have h1:=h.slOK.ev hc;rw[hy] at h1;obtain⟨ad,h2⟩:=h1;refine⟨a.eval x,w,.inl (by simp[execOp,ho]),?_⟩;rw[XA,h2];refine h.add (Γ':=upd Γ base (.row ad 0 0 s)) (Vn _ (h.names base hb.self)) (fun _ _=>rfl) (Kt _) rfl rfl rfl ?_ ?_ ?_ ?_ ?_ ?_ hd
  ·intro k o' hk;simp at hk;obtain⟨rfl,rfl⟩:=hk;exact⟨ad,0,0,ZK _ _ _,rfl,.inl ⟨rfl,rfl⟩⟩
  ·intro i j o1 o2 b hi hj _ _;simp at hi hj;omega
  ·intro k o' b hk ab;simp at hk;obtain⟨rfl,rfl⟩:=hk;exact(ab.nil (by rw[ZK];cases ad<;>simp[ZB])).elim
  ·intro k hk;exact Qj _ _ (fun e=>hb.self (e ▸ hk))
  ·intro id aa;rw[Qj _ _ (fun e=>aa (.inr (by omega)))];exact h.names id (fun hu=>aa (.inl hu))
  ·exact⟨ad,0,0,s,ZK _ _ _,rfl⟩
 ·exact(Zls (.inr ho) h.slOK hc hv).opOK h hb hd
theorem Zkt:∀ (vs:List Value),ZfA (vs.map UG)=false
 | []=>rfl
 | v :: vs=>by
  simp only[Kj,ZfA,Zkt vs,Bool.or_false];cases v<;>try rfl
  ·rename_i x;cases x<;>rfl
  ·rename_i x n c;cases x<;>cases n<;>cases c<;>rfl
theorem ZlE (Γ:Gh) (w:World) (I:Nat→Prop) (z:Value):Zu (XO Γ w I) (evC z).cells z.cells.toList:=by
 have one:∀ z:Value,(∀ c,z≠.agg c)→(UG z).cells=[UG z]:=by
  intro z hz;cases z<;>try rfl
  ·rename_i x;cases x<;>rfl
  ·rename_i x n c;cases x<;>cases n<;>cases c<;>rfl
 cases z with
 | agg cs=>
  refine Rep.cells ?_ (ZyI (Value.agg cs));simp only[evC,J1];cases Zfz (cs.toList.map UG)
  ·simp only[Jl,Zkt,Ka,Kq];rfl
  ·rfl
 | _=>
  simp only[evC];rw[one _ (by simp)];exact⟨Zlk _,trivial⟩
theorem YZ (w:World) (o:Obj):∀ k,k<w.heap.size→(w.alloc o).heap[k]?=w.heap[k]?:=fun k hk=>heap_alloc_old w o k hk
theorem ZyT (h:Sim nt F A I Γ U sl hp a w) {o:Oper} {base:Nat} (hb:Xp U base) (hd:Xb nt o.dst=true) {e:TypeId} {cs:List AV} {vs:Array Value} (hr:Zu (XO (upd Γ base (.box (w.heap.size,e))) (w.alloc (.cells vs e)) I) cs vs.toList)
  (slc:List (Option Nat)) (hq:XY cs=true∨∃ x te u,cs=[x,.bbuf te []]∧vs.toList=[u,.slice none 0 0]) {ce:Zd} (al:QZ base (base+64) ce.eff.adds=true)
  (hv:ce = { eff := { val:=.ptr base 0,adds:=[(base,.box cs)] },gone:=[] } ∨
   XY cs=true∧ce = { eff := { val:=.ptr base 0,adds:=(base,.box (mat slc cs (base+1)).1) :: (mat slc cs (base+1)).2 },gone:=[] })
  (hg:Zpe P o a w (.pointer (some ⟨w.heap.size,0,none⟩)) (w.alloc (.cells vs e))):Zfh P nt F A I Γ U sl hp a w o base ce:=by
 refine⟨_,_,hg,?_⟩;have hI:ZR I I w (w.alloc (.cells vs e)):=⟨fun _ h=>h,fun b hb=>YZ w _ b (h.bound b hb)⟩
 have am:=Vn (.box (w.heap.size,e)) (h.names base hb.self);have ar:∀ id,base+1≤id→id<base+64→upd Γ base (.box (w.heap.size,e)) id=none:=fun id ae au=>by rw[Qj _ _ (by omega)];exact h.names id (hb id (by omega) au)
 have an:=hr;have ad:∀ (Γ' : Gh) (cs' : List AV),Zcp (w.alloc (.cells vs e)) I F w.heap.size cs' vs.toList→Γ' base=some (.box (w.heap.size,e))→Zu (XO Γ' (w.alloc (.cells vs e)) I) cs' vs.toList→Wa Γ' (w.alloc (.cells vs e)) I F A base (.box cs'):=
  fun Γ' cs' h0 h1 h2=>⟨w.heap.size,vs,e,h1,heap_alloc_new w _,fun hi=>absurd (h.bound _ hi) (by omega),h.fresh _ (Kt _),h2,h0⟩
 rcases hv with rfl | ⟨ao,rfl⟩
 ·rw[XA];refine h.add (Γ':=upd Γ base (.box (w.heap.size,e))) am (YZ w _) (by simp) rfl rfl rfl ?_ ?_ ?_ ?_ ?_ ?_ hd
  ·intro k o' hk;simp at hk;obtain⟨rfl,rfl⟩:=hk;exact ad _ _ (by
    rcases hq with hq | ⟨x,te,u,rfl,ai⟩
    ·exact Zbd hq
    ·rw[ai];exact .inl ⟨rfl,rfl⟩) (ZK _ _ _) an
  ·intro i j o1 o2 b hi hj _ _;simp at hi hj;omega
  ·intro k o' b hk aa;simp at hk;obtain⟨rfl,rfl⟩:=hk;rcases hq with hq | ⟨x,te,u,rfl,ai⟩
   ·have aa:=aa.box hq;rw[ZK] at aa;cases aa;exact Kt _
   ·rcases aa with aa | aa | ⟨g,ap,aj⟩
    ·rw[ZK] at aa;cases aa;exact Kt _
    ·exact aa.elim
    ·rw[ZK] at ap;cases ap;have ah:(w.alloc (.cells vs e)).cell? ⟨w.heap.size,1,none⟩=some (.slice none 0 0):=by
      have h2:(w.alloc (.cells vs e)).heap[w.heap.size]?=some (.cells vs e (0,0)):=heap_alloc_new w _;simpa using Zg4 h2 1 (.slice none 0 0) (by rw[ai];rfl)
     unfold YP at aj;rw[show (((w.heap.size,e):Nat×Nat).1)=w.heap.size from rfl,ah] at aj;simp[YB] at aj
  ·intro k hk;exact Qj _ _ (fun e=>hb.self (e ▸ hk))
  ·intro id ae;rw[Qj _ _ (fun e=>ae (.inr (by omega)))];exact h.names id (fun hu=>ae (.inl hu))
  ·exact⟨(w.heap.size,e),ZK _ _ _,rfl⟩
 ·rw[XA];simp only[QZ,Kf,Ko] at al;obtain⟨Γ',h1,h2,h3,h5⟩:=ZBo (w.alloc (.cells vs e)) I F A (base+64) slc cs vs.toList (base+1) (upd Γ base (.box (w.heap.size,e))) al.2 ar an;have ab:Γ' base=some (.box (w.heap.size,e)):=by rw[h2 base (by omega),ZK]
  refine h.add (Γ':=Γ') (fun id r hr=>h1 _ _ (am _ _ hr)) (YZ w _) (by simp) rfl rfl rfl ?_ ?_ ?_ ?_ ?_ ?_ hd
  ·intro k o' hk;rcases Kd.1 hk with hk | hk
   ·cases hk;exact ad _ _ (Zbd (by rw[Zik];exact ao)) ab h5
   ·exact(h3 k o' hk).2.1
  ·intro i j o1 o2 b hi hj av aq;rcases Kd.1 hi with hi | hi<;>rcases Kd.1 hj with hj | hj
   ·cases hi;cases hj;rfl
   ·exact(aq.nil (h3 j o2 hj).2.2).elim
   ·exact(av.nil (h3 i o1 hi).2.2).elim
   ·exact(aq.nil (h3 j o2 hj).2.2).elim
  ·intro k o' b hk aa;rcases Kd.1 hk with hk | hk
   ·cases hk;have aa:=aa.box (by rw[Zik];exact ao);rw[ab] at aa;cases aa;exact Kt _
   ·exact(aa.nil (h3 k o' hk).2.2).elim
  ·intro k hk;have ak:k≠base:=fun e=>hb.self (e ▸ hk);have af:k<base+1∨base+64≤k:=by
    rcases KZ k (base+1) with h' | h'
    ·exact .inl h'
    ·rcases KZ k (base+64) with ag | ag
     ·exact absurd hk (hb k (by omega) ag)
     ·exact .inr ag
   rw[h2 k af,Qj _ _ ak]
  ·intro id ae;have ak:id≠base:=fun e=>ae (.inr (by omega));have af:id<base+1∨base+64≤id:=by
    rcases KZ id (base+1) with h' | h'
    ·exact .inl h'
    ·rcases KZ id (base+64) with ag | ag
     ·exact absurd (.inr ⟨by omega,ag⟩) ae
     ·exact .inr ag
   rw[h2 id af,Qj _ _ ak];exact h.names id (fun hu=>ae (.inl hu))
  ·exact⟨(w.heap.size,e),ab,rfl⟩
def RepT (Γ:Gh) (w:World) (I:Nat→Prop) (base t:Nat) (x:AV) (v:Value):Prop:=(XO Γ w I x v∧Zje base x=x)∨(∃ i,x=.bnil i t)∧v=.pointer none
theorem Zz8 (base:Nat) (v:Value):Zje base (UG v)=UG v:=by
 unfold UG;split<;>rfl
theorem ZyU (base:Nat) (z:Value):∀ x∈(evC z).cells,Zje base x=x:=by
 intro x hx;have aa:∀ v:Value,x∈(UG v).cells→Zje base x=x:=by
  intro v hx;unfold UG at hx;split at hx<;>simp only[AV.cells,D.cells,Kj,Kx,KC] at hx<;>subst hx<;>rfl
 unfold evC at hx;split at hx
 ·rename_i cs;unfold J1 at hx;cases hd:Zfz (cs.toList.map UG) with
  | some ds=>
   rw[hd] at hx;simp only[Jl,AV.cells,Ld] at hx;obtain⟨y,_,rfl⟩:=hx;rfl
  | none=>
   rw[hd] at hx;simp only[Jl] at hx;split at hx
   ·simp only[AV.cells,KC] at hx;subst hx;rfl
   ·simp only[AV.cells,Ld] at hx;obtain⟨y,_,rfl⟩:=hx;exact Zz8 base y
 ·exact aa _ hx
theorem Zz9 {v:Value} (h:UG v=.nil):v=.slice none 0 0:=by
 unfold UG at h;split at h<;>first | rfl | cases h
theorem Zs1 {z:Value} (h:(evC z).cells=[.nilp,.nil]):∃ x,z.cells.toList=[x,.slice none 0 0]:=by
 unfold evC at h;split at h
 ·rename_i cs;unfold J1 at h;cases hd:Zfz (cs.toList.map UG) with
  | some ds=>
   rw[hd] at h;simp only[Jl,AV.cells] at h
   match (D.agg ds).cells,h with
   | a :: _,h=>simp only[Kj,List.cons.injEq] at h;exact absurd h.1 (by simp)
   | [],h=>cases h
  | none=>
   rw[hd] at h;simp only[Jl] at h;split at h
   ·cases h
   ·simp only[AV.cells] at h
    match hl:cs.toList,h with
    | [x,y],h=>
     simp only[Kj,Kx,List.cons.injEq,and_true] at h;exact⟨x,by rw[Zz9 h.2]⟩
    | [],h=>cases h
    | [_],h=>simp at h
    | _ :: _ :: _ :: _,h=>simp at h
 ·exfalso
  unfold UG at h;split at h<;>simp[AV.cells,D.cells] at h
theorem ZCD {Γ:Gh} {w:World} {I:Nat→Prop} {base b t te:Nat} (hb:Γ base=some (.box (b,t))) {z:Value} (ht:∀ x∈(evC z).cells,Zje base x=x) (hr:Zu (XO Γ w I) (evC z).cells z.cells.toList):Zu (RepT Γ w I base t) (bnT t te (evC z).cells) z.cells.toList:=by
 have aa:∀ {cs:List AV} {vs:List Value},(∀ x∈cs,Zje base x=x)→Zu (XO Γ w I) cs vs→Zu (RepT Γ w I base t) cs vs:=by
  intro cs
  induction cs with
  | nil=>intro vs _ h;cases vs with
   | nil=>trivial
   | cons _ _=>exact h.elim
  | cons x r ih=>intro vs ht h;cases vs with
   | nil=>exact h.elim
   | cons v vs=>exact⟨.inl ⟨h.1,ht x (by simp)⟩,ih (fun y hy=>ht y (by simp[hy])) h.2⟩
 unfold bnT;split
 ·rename_i hc;obtain⟨x,hx⟩:=Zs1 hc;rw[hc,hx] at hr;rw[hx];exact⟨.inr ⟨⟨0,rfl⟩,hr.1⟩,.inl ⟨⟨_,_,_,rfl⟩,rfl⟩,trivial⟩
 ·exact aa ht hr
theorem ZCE {Γ:Gh} {w:World} {I:Nat→Prop} {base b t:Nat} (hb:Γ base=some (.box (b,t))) {cs:List AV} {vs:List Value} (hr:Zu (RepT Γ w I base t) cs vs):Zu (XO Γ w I) (cs.map (Zje base)) vs:=by
 refine hr.map_left fun x v hx=>?_;rcases hx with hx | ⟨⟨i,rfl⟩,rfl⟩
 ·rw[hx.2];exact hx.1
 ·exact⟨b,hb,.inl rfl⟩
theorem ZCF (z:Value):XY (evC z).cells=true:=by
 rw[ZlD];intro te l hm;have aa:∀ v:Value,AV.bbuf te l∈(UG v).cells→False:=by
  intro v hx;unfold UG at hx;split at hx<;>simp[AV.cells,D.cells] at hx
 unfold evC at hm;split at hm
 ·rename_i cs;unfold J1 at hm;cases hd:Zfz (cs.toList.map UG) with
  | some ds=>
   rw[hd] at hm;simp[Jl,AV.cells] at hm
  | none=>
   rw[hd] at hm;simp only[Jl] at hm;split at hm
   ·simp[AV.cells] at hm
   ·simp only[AV.cells,Ld] at hm;obtain⟨y,_,hy⟩:=hm;unfold UG at hy;split at hy<;>cases hy
 ·exact aa _ hm
theorem ZxX {base:Nat} {cs:List AV} (h:∀ x∈cs,Zje base x=x):cs.map (Zje base)=cs:=by
 rw[KS h,List.map_id']
theorem ZAa (base t te:Nat) (z:Value):(XY ((bnT t te (evC z).cells).map (Zje base))=true)∨∃ u,(bnT t te (evC z).cells).map (Zje base)=[.bnil base t,.bbuf te []]∧z.cells.toList=[u,.slice none 0 0]:=by
 unfold bnT;split
 ·rename_i hc;obtain⟨x,hx⟩:=Zs1 hc;exact .inr ⟨x,rfl,hx⟩
 ·rw[ZxX (ZyU base z)];exact .inl (ZCF z)
theorem ZBp (h:Sim nt F A I Γ U sl hp a w) {o:Oper} {t:TypeId} {z:Value} (ho:o.op=.alloc t) (hz:Zco P t=some z) {base:Nat} (hb:Xp U base) (hd:Xb nt o.dst=true) {ce:Zd} {slc:List (Option Nat)} {te:Nat}
  (aa:QZ base (base+64) ce.eff.adds=true) (hv:ZfM slc base (bnT t te (evC z).cells)=some ce):Zfh P nt F A I Γ U sl hp a w o base ce:=by
 refine ZyT h hb hd (e:=t) (ZCE (ZK _ _ _) (ZCD (te:=te) (ZK _ _ _) (ZyU base z) ((ZlE Γ w I z).mono fun _ _ hx=>hx.mono (Vn _ (h.names base hb.self)) ⟨fun _ h=>h,fun b hb=>YZ w _ b (h.bound b hb)⟩))) slc ?_ aa ?_ (.inl ?_)
 ·rcases ZAa base t te z with h1 | ⟨u,h1,h2⟩
  ·exact .inl h1
  ·exact .inr ⟨_,te,u,h1,h2⟩
 ·unfold ZfM Zln at hv;split at hv
  ·split at hv
   ·cases hv;exact .inl rfl
   ·cases hv
  ·rename_i hn;split at hv
   ·cases hv;exact .inr ⟨by simpa using hn,rfl⟩
   ·cases hv;exact .inl rfl
 ·simp[execOp,ho,Instr.alloc,ZeY hz,newVar,newRow]
theorem op_box (h:Sim nt F A I Γ U sl hp a w) {o:Oper} {t:TypeId} {x:Operand} {y:Opd} (ho:o.op=.box t x) (hc:Z5 x=some y) {base:Nat} (hb:Xp U base) (hd:Xb nt o.dst=true) {ce:Zd}
  (aa:QZ base (base+64) ce.eff.adds=true) (hv:Zxr base (evO sl y)=some ce):Zfh P nt F A I Γ U sl hp a w o base ce:=by
 unfold Zxr at hv;split at hv
 ·rename_i hs;simp only[Kf] at hs;obtain⟨hs,ab⟩:=hs;cases hv;refine ZyT h hb hd (e:=t) ((Rep.cells hs (h.slOK.ev hc)).mono fun _ _ hx=>hx.mono (Vn _ (h.names base hb.self)) ⟨fun _ h=>h,fun b hb=>YZ w _ b (h.bound b hb)⟩) [] (.inl ab) aa (.inl rfl) (.inl ?_);simp[execOp,ho,Instr.box,newVar,newRow]
 ·cases hv
def Zm.soft:Zm→Bool
 | .row _ _ _ fz=>!fz
 | .deep _ _ _ _=>true
 | .box _=>false
def Zm.thaw:Zm→Bool
 | .row _ _ _ fz=>!fz
 | .deep _ _ _ _=>false
 | .box _=>false
def Zhm (Γ:Gh) (w:World) (hp:Hp) (I:Nat→Prop) (ids:List Nat) (b:Nat):Prop:=
 I b∨∃ id∈ids,∃ o,lkp hp id=some o∧o.soft=true∧Blk Γ w id o b
def XB (Γ:Gh) (w:World) (hp:Hp) (I:Nat→Prop) (ids:List Nat) (b:Nat):Prop:=
 I b∨∃ id∈ids,∃ o,lkp hp id=some o∧o.thaw=true∧Blk Γ w id o b
theorem Zs2 {a:Option Addr} {n c sz b:Nat} (h:ZB (some (.row a n c sz))=some b):∃ ad,a=some ad∧ad.block=b∧c≠0:=by
 cases a with
 | none=>simp[ZB] at h
 | some ad=>
  simp only[ZB] at h;split at h
  ·cases h
  ·cases h;exact⟨ad,rfl,rfl,by assumption⟩
theorem Sim.froze_F (h:Sim nt F A I Γ U sl hp a w) {ids:List Nat} {b:Nat} (hb:XB Γ w hp I ids b):I b∨F b:=by
 rcases hb with hb | ⟨id,aa,o,hl,_,hb⟩
 ·exact .inl hb
 ·exact .inr (ZiP (h.objs id o hl) hb)
theorem Sim.frozeL_F (h:Sim nt F A I Γ U sl hp a w) {ids:List Nat} {b:Nat} (hb:Zhm Γ w hp I ids b):I b∨F b:=by
 rcases hb with hb | ⟨id,aa,o,hl,_,hb⟩
 ·exact .inl hb
 ·exact .inr (ZiP (h.objs id o hl) hb)
theorem Zhn {id:Nat} {o:Zm} {t:Bool} {b:Nat} (h:Blk Γ w id (if t then VQ o else o) b):Blk Γ w id o b:=by
 cases t with
 | false=>exact h
 | true=>
  cases o with
  | box cs=>exact h
  | row sz xs ex fz=>exact h
  | deep sz ns xs lk=>exact h
theorem Sim.freeze (h:Sim nt F A I Γ U sl hp a w) (ids:List Nat):Sim nt F A (XB Γ w hp I ids) Γ U sl (Qi ids hp) a w:=by
 have aa:ZR I (XB Γ w hp I ids) w w:=⟨fun _ h=>.inl h,fun _ _=>rfl⟩
 refine { nt:=h.nt,dfr:=h.dfr,slots:=fun t=>(h.slots t).mono (Q9.refl Γ) aa,objs:=?_,inj:=?_,bound:=?_,fresh:=h.fresh,own:=h.own,names:=h.names,glob:=h.glob.mono aa }
 ·intro id o hl;rw[Qd] at hl;cases hl0:lkp hp id with
  | none=>rw[hl0] at hl;cases hl
  | some o0=>
   rw[hl0] at hl;simp only[KI,Option.some.injEq] at hl;have ho:=h.objs id o0 hl0;have ab:∀ b,Blk Γ w id o0 b→(ids.contains id=false∨o0.thaw=false)→XB Γ w hp I ids b→I b:=by
    intro b hb ae af;rcases af with af | ⟨aj,ag,o',ah,ak,al⟩
    ·exact af
    ·have he:=h.inj id aj _ _ b hl0 ah hb al;subst he;rw[hl0] at ah;cases ah;rcases ae with ae | ae
     ·simp at ae;exact absurd ag ae
     ·rw[ak] at ae;cases ae
   split at hl
   ·rename_i ai;subst hl;cases o0 with
    | box cs=>exact ho.mono (Q9.refl Γ) aa fun b hb=>⟨rfl,ab b hb (.inr rfl)⟩
    | deep sz ns xs lk=>exact ho.mono (Q9.refl Γ) aa fun b hb=>⟨rfl,ab b hb (.inr rfl)⟩
    | row sz xs ex fz=>
     simp only[VQ];cases fz with
     | true=>exact ho.mono (Q9.refl Γ) aa fun b hb=>⟨rfl,ab b hb (.inr rfl)⟩
     | false=>
      obtain⟨ad,n,c,h1,h2,h3⟩:=ho;refine⟨ad,n,c,h1,h2,?_⟩;rcases h3 with h3 | ⟨g,cur,e,rfl,hc,hw,h4,h5,h6,h7,h8,am,h9⟩
      ·exact .inl h3
      ·refine .inr ⟨g,cur,e,rfl,hc,hw,h4,h5,h6,h7,?_,am,?_⟩
       ·simp only[Km];exact .inr ⟨id,by simpa using ai,_,hl0,rfl,.inl (by rw[h1];simp[ZB,KG hc])⟩
       ·cases ex
        ·exact h9.mono' aa rfl
        ·simp only[Km] at h9 ⊢;exact h9.mono' ⟨fun b hb=>⟨aa.sub b hb.1,hb.2⟩,fun _ _=>rfl⟩ rfl
   ·rename_i ai;subst hl;exact ho.mono (Q9.refl Γ) aa fun b hb=>⟨rfl,ab b hb (.inl (by simpa using ai))⟩
 ·intro i j o o' b hi hj an ao;rw[Qd] at hi hj;cases hi0:lkp hp i with
  | none=>rw[hi0] at hi;cases hi
  | some oi=>cases hj0:lkp hp j with
   | none=>rw[hj0] at hj;cases hj
   | some oj=>
    rw[hi0] at hi;rw[hj0] at hj;simp only[KI,Option.some.injEq] at hi hj;subst hi hj;exact h.inj i j oi oj b hi0 hj0 (Zhn an) (Zhn ao)
 ·intro b hb;rcases hb with hb | ⟨id,ap,o,hl,_,hb⟩
  ·exact h.bound b hb
  ·exact h.blk_lt hl hb
theorem froze_nil (Γ:Gh) (w:World) (hp:Hp) (I:Nat→Prop) (b:Nat):XB Γ w hp I [] b↔I b:=by simp[XB]
theorem UZ.of_freeze (h:Sim nt F A I Γ U sl hp a w) (ids:List Nat) {U' : Nat→Prop} {sl' : Sl} {hp' : Hp} {a' : Act} {w' : World}
  (hp:UZ nt F A (XB Γ w hp I ids) Γ w U' sl' hp' a' w'):UZ nt F A I Γ w U' sl' hp' a' w':=by
 obtain⟨I',Γ',h1,h2,h3,h4,h5⟩:=hp;refine⟨I',Γ',h1,⟨fun b hb=>h2.sub b (.inl hb),fun b hb=>h2.blk b (.inl hb)⟩,fun b hb=>?_,h4,h5⟩;rcases h3 b hb with h6 | h6
 ·exact h.froze_F h6
 ·exact .inr h6
end
end Go.Abs
