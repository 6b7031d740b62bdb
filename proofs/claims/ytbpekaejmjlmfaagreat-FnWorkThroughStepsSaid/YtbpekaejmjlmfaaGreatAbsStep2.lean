/- Own text. -/
import Derived.Test.YtbpekaejmjlmfaaGreatAbsStep
set_option linter.unusedVariables false
set_option linter.unusedSimpArgs false
namespace Go.Abs
open Go
theorem Xn (v:AV) (adds sets:Hp) (dels frz:List Nat) (dst:Option Nat) (sl:Sl) (hp:Hp) :
  Zf.on { eff := { val:=v,adds:=adds,sets:=sets,dels:=dels,frz:=frz },gone:=[] } dst sl hp =
   (Zt sl dst v,Zi (Zi (Qe (Qr frz hp) dels) sets) adds):=rfl
section
variable {P:Program} {nt:Nat} {U:Nat→Prop} {F A I:Nat→Prop} {Γ:Gh} {sl:Sl} {hp:Hp} {a:Act} {w:World}
def Ze4 (P:Program) (nt:Nat) (F A I:Nat→Prop) (Γ:Gh) (U:Nat→Prop) (sl:Sl) (hp:Hp) (a:Act) (w:World) (o:Oper) (base:Nat) (ce:Zf):Prop:=
 ∃ u w',Zq0 P o a w u w'∧US nt F A I Γ w (ZaS U base) (ce.on o.dst sl hp).1 (ce.on o.dst sl hp).2 (a.put o.dst u) w'
theorem YA.opOK (h:Sim nt F A I Γ U sl hp a w) {o:Oper} {base:Nat} {ce:Zf} (hb:Xk U base) (hd:QX nt o.dst=true) (hp' : YA P Γ I o a w ce):Ze4 P nt F A I Γ U sl hp a w o base ce:=by
 obtain⟨u,r,h1,rfl,h2⟩:=hp';exact⟨u,w,h1,h.pure (fun id hu=>.inl hu) h2 hd⟩
theorem ZAO (h:Sim nt F A I Γ U sl hp a w) {o:Oper} {x:Operand} {y:Opd} {e:Option Nat} (ho:o.op=.assign x) (hc:Z4 x=some y) {base:Nat} (hb:Xk U base) (hd:QX nt o.dst=true) {ce:Zf}
  (ae:Q5 base (base+64) ce.eff.adds=true) (hv:Zgr base e (evO sl y)=some ce):Ze4 P nt F A I Γ U sl hp a w o base ce:=by
 unfold Zgr at hv;split at hv
 ·rename_i hy;obtain⟨s,hs,hv⟩:=Za hv;cases hv;have h1:=h.slOK.ev hc;rw[hy] at h1;obtain⟨ad,h2⟩:=h1;refine⟨a.eval x,w,.inl (by simp[execOp,ho]),?_⟩;rw[Xn,h2];refine h.add (Γ':=upd Γ base (.row ad 0 0 s)) (Wx _ (h.names base hb.self)) (fun _ _=>rfl) (Kq _) rfl rfl rfl ?_ ?_ ?_ ?_ ?_ ?_ hd
  ·intro k o' hk;simp at hk;obtain⟨rfl,rfl⟩:=hk;exact⟨ad,0,0,ZL _ _ _,rfl,.inl ⟨rfl,rfl⟩⟩
  ·intro i j o1 o2 b hi hj _ _;simp at hi hj;omega
  ·intro k o' b hk ab;simp at hk;obtain⟨rfl,rfl⟩:=hk;exact(ab.nil (by rw[ZL];cases ad<;>simp[ZC])).elim
  ·intro k hk;exact QN _ _ (fun e=>hb.self (e ▸ hk))
  ·intro id aa;rw[QN _ _ (fun e=>aa (.inr (by omega)))];exact h.names id (fun hu=>aa (.inl hu))
  ·exact⟨ad,0,0,s,ZL _ _ _,rfl⟩
 ·exact(Zml (.inr ho) h.slOK hc hv).opOK h hb hd
theorem Zlg:∀ (vs:List Value),ZeR (vs.map UU)=false
 | []=>rfl
 | v :: vs=>by
  simp only[Ko,ZeR,Zlg vs,Bool.or_false];cases v<;>try rfl
  ·rename_i x;cases x<;>rfl
  ·rename_i x n c;cases x<;>cases n<;>cases c<;>rfl
theorem Zmw (Γ:Gh) (w:World) (I:Nat→Prop) (z:Value):ZD (X3 Γ w I) (evC z).cells z.cells.toList:=by
 have one:∀ z:Value,(∀ c,z≠.agg c)→(UU z).cells=[UU z]:=by
  intro z hz;cases z<;>try rfl
  ·rename_i x;cases x<;>rfl
  ·rename_i x n c;cases x<;>cases n<;>cases c<;>rfl
 cases z with
 | agg cs=>
  refine Rep.cells ?_ (Zzi (Value.agg cs));simp only[evC,ZaK];cases Zgb (cs.toList.map UU)
  ·simp only[JC,Zlg,Ka,Kj];rfl
  ·rfl
 | _=>
  simp only[evC];rw[one _ (by simp)];exact⟨Zmc _,trivial⟩
theorem YB (w:World) (o:Obj):∀ k,k<w.heap.size→(w.alloc o).heap[k]?=w.heap[k]?:=fun k hk=>heap_alloc_old w o k hk
theorem Zzv (h:Sim nt F A I Γ U sl hp a w) {o:Oper} {base:Nat} (hb:Xk U base) (hd:QX nt o.dst=true) {e:TypeId} {cs:List AV} {vs:Array Value} (hr:ZD (X3 (upd Γ base (.box (w.heap.size,e))) (w.alloc (.cells vs e)) I) cs vs.toList)
  (slc:List (Option Nat)) (hq:XD cs=true∨∃ x te u,cs=[x,.bbuf te []]∧vs.toList=[u,.slice none 0 0]) {ce:Zf} (am:Q5 base (base+64) ce.eff.adds=true)
  (hv:ce = { eff := { val:=.ptr base 0,adds:=[(base,.box cs)] },gone:=[] } ∨
   XD cs=true∧ce = { eff := { val:=.ptr base 0,adds:=(base,.box (mat slc cs (base+1)).1) :: (mat slc cs (base+1)).2 },gone:=[] })
  (hg:Zq0 P o a w (.pointer (some ⟨w.heap.size,0,none⟩)) (w.alloc (.cells vs e))):Ze4 P nt F A I Γ U sl hp a w o base ce:=by
 refine⟨_,_,hg,?_⟩;have hI:ZY I I w (w.alloc (.cells vs e)):=⟨fun _ h=>h,fun b hb=>YB w _ b (h.bound b hb)⟩
 have an:=Wx (.box (w.heap.size,e)) (h.names base hb.self);have au:∀ id,base+1≤id→id<base+64→upd Γ base (.box (w.heap.size,e)) id=none:=fun id ae av=>by rw[QN _ _ (by omega)];exact h.names id (hb id (by omega) av)
 have ao:=hr;have ad:∀ (Γ' : Gh) (ai : List AV),Zef (w.alloc (.cells vs e)) I F w.heap.size ai vs.toList→Γ' base=some (.box (w.heap.size,e))→ZD (X3 Γ' (w.alloc (.cells vs e)) I) ai vs.toList→Vi Γ' (w.alloc (.cells vs e)) I F A base (.box ai):=
  fun Γ' ai h0 h1 h2=>⟨w.heap.size,vs,e,h1,heap_alloc_new w _,fun hi=>absurd (h.bound _ hi) (by omega),h.fresh _ (Kq _),h2,h0⟩
 rcases hv with rfl | ⟨ap,rfl⟩
 ·rw[Xn];refine h.add (Γ':=upd Γ base (.box (w.heap.size,e))) an (YB w _) (by simp) rfl rfl rfl ?_ ?_ ?_ ?_ ?_ ?_ hd
  ·intro k o' hk;simp at hk;obtain⟨rfl,rfl⟩:=hk;exact ad _ _ (by
    rcases hq with hq | ⟨x,te,u,rfl,aj⟩
    ·exact ZgI hq
    ·rw[aj];exact .inl ⟨rfl,rfl⟩) (ZL _ _ _) ao
  ·intro i j o1 o2 b hi hj _ _;simp at hi hj;omega
  ·intro k o' b hk aa;simp at hk;obtain⟨rfl,rfl⟩:=hk;rcases hq with hq | ⟨x,te,u,rfl,aj⟩
   ·have aa:=aa.box hq;rw[ZL] at aa;cases aa;exact Kq _
   ·rcases aa with aa | aa | ⟨g,aq,ak⟩
    ·rw[ZL] at aa;cases aa;exact Kq _
    ·exact aa.elim
    ·rw[ZL] at aq;cases aq;have ah:(w.alloc (.cells vs e)).cell? ⟨w.heap.size,1,none⟩=some (.slice none 0 0):=by
      have h2:(w.alloc (.cells vs e)).heap[w.heap.size]?=some (.cells vs e (0,0)):=heap_alloc_new w _;simpa using ZhJ h2 1 (.slice none 0 0) (by rw[aj];rfl)
     unfold ZkT at ak;rw[show (((w.heap.size,e):Nat×Nat).1)=w.heap.size from rfl,ah] at ak;simp[ZwH] at ak
  ·intro k hk;exact QN _ _ (fun e=>hb.self (e ▸ hk))
  ·intro id ae;rw[QN _ _ (fun e=>ae (.inr (by omega)))];exact h.names id (fun hu=>ae (.inl hu))
  ·exact⟨(w.heap.size,e),ZL _ _ _,rfl⟩
 ·rw[Xn];simp only[Q5,Kd,Kr] at am;obtain⟨Γ',h1,h2,h3,h5⟩:=ZB1 (w.alloc (.cells vs e)) I F A (base+64) slc cs vs.toList (base+1) (upd Γ base (.box (w.heap.size,e))) am.2 au ao;have ab:Γ' base=some (.box (w.heap.size,e)):=by rw[h2 base (by omega),ZL]
  refine h.add (Γ':=Γ') (fun id r hr=>h1 _ _ (an _ _ hr)) (YB w _) (by simp) rfl rfl rfl ?_ ?_ ?_ ?_ ?_ ?_ hd
  ·intro k o' hk;rcases Kg.1 hk with hk | hk
   ·cases hk;exact ad _ _ (ZgI (by rw[ZiL];exact ap)) ab h5
   ·exact(h3 k o' hk).2.1
  ·intro i j o1 o2 b hi hj aw ar;rcases Kg.1 hi with hi | hi<;>rcases Kg.1 hj with hj | hj
   ·cases hi;cases hj;rfl
   ·exact(ar.nil (h3 j o2 hj).2.2).elim
   ·exact(aw.nil (h3 i o1 hi).2.2).elim
   ·exact(ar.nil (h3 j o2 hj).2.2).elim
  ·intro k o' b hk aa;rcases Kg.1 hk with hk | hk
   ·cases hk;have aa:=aa.box (by rw[ZiL];exact ap);rw[ab] at aa;cases aa;exact Kq _
   ·exact(aa.nil (h3 k o' hk).2.2).elim
  ·intro k hk;have al:k≠base:=fun e=>hb.self (e ▸ hk);have af:k<base+1∨base+64≤k:=by
    rcases K9 k (base+1) with h' | h'
    ·exact .inl h'
    ·rcases K9 k (base+64) with ag | ag
     ·exact absurd hk (hb k (by omega) ag)
     ·exact .inr ag
   rw[h2 k af,QN _ _ al]
  ·intro id ae;have al:id≠base:=fun e=>ae (.inr (by omega));have af:id<base+1∨base+64≤id:=by
    rcases K9 id (base+1) with h' | h'
    ·exact .inl h'
    ·rcases K9 id (base+64) with ag | ag
     ·exact absurd (.inr ⟨by omega,ag⟩) ae
     ·exact .inr ag
   rw[h2 id af,QN _ _ al];exact h.names id (fun hu=>ae (.inl hu))
  ·exact⟨(w.heap.size,e),ab,rfl⟩
def RepT (Γ:Gh) (w:World) (I:Nat→Prop) (base t:Nat) (x:AV) (v:Value):Prop:=(X3 Γ w I x v∧ZiS base x=x)∨(∃ i,x=.bnil i t)∧v=.pointer none
theorem ZAP (base:Nat) (v:Value):ZiS base (UU v)=UU v:=by
 unfold UU;split<;>rfl
theorem Zzw (base:Nat) (z:Value):∀ x∈(evC z).cells,ZiS base x=x:=by
 intro x hx;have aa:∀ v:Value,x∈(UU v).cells→ZiS base x=x:=by
  intro v hx;unfold UU at hx;split at hx<;>simp only[AV.cells,D.cells,Ko,Kz,KH] at hx<;>subst hx<;>rfl
 unfold evC at hx;split at hx
 ·rename_i cs;unfold ZaK at hx;cases hd:Zgb (cs.toList.map UU) with
  | some ds=>
   rw[hd] at hx;simp only[JC,AV.cells,KX] at hx;obtain⟨y,_,rfl⟩:=hx;rfl
  | none=>
   rw[hd] at hx;simp only[JC] at hx;split at hx
   ·simp only[AV.cells,KH] at hx;subst hx;rfl
   ·simp only[AV.cells,KX] at hx;obtain⟨y,_,rfl⟩:=hx;exact ZAP base y
 ·exact aa _ hx
theorem ZAQ {v:Value} (h:UU v=.nil):v=.slice none 0 0:=by
 unfold UU at h;split at h<;>first | rfl | cases h
theorem ZtJ {z:Value} (h:(evC z).cells=[.nilp,.nil]):∃ x,z.cells.toList=[x,.slice none 0 0]:=by
 unfold evC at h;split at h
 ·rename_i cs;unfold ZaK at h;cases hd:Zgb (cs.toList.map UU) with
  | some ds=>
   rw[hd] at h;simp only[JC,AV.cells] at h
   match (D.agg ds).cells,h with
   | a :: _,h=>simp only[Ko,List.cons.injEq] at h;exact absurd h.1 (by simp)
   | [],h=>cases h
  | none=>
   rw[hd] at h;simp only[JC] at h;split at h
   ·cases h
   ·simp only[AV.cells] at h
    match hl:cs.toList,h with
    | [x,y],h=>
     simp only[Ko,Kz,List.cons.injEq,and_true] at h;exact⟨x,by rw[ZAQ h.2]⟩
    | [],h=>cases h
    | [_],h=>simp at h
    | _ :: _ :: _ :: _,h=>simp at h
 ·exfalso
  unfold UU at h;split at h<;>simp[AV.cells,D.cells] at h
theorem ZDi {Γ:Gh} {w:World} {I:Nat→Prop} {base b t te:Nat} (hb:Γ base=some (.box (b,t))) {z:Value} (ht:∀ x∈(evC z).cells,ZiS base x=x) (hr:ZD (X3 Γ w I) (evC z).cells z.cells.toList):ZD (RepT Γ w I base t) (bnT t te (evC z).cells) z.cells.toList:=by
 have aa:∀ {cs:List AV} {vs:List Value},(∀ x∈cs,ZiS base x=x)→ZD (X3 Γ w I) cs vs→ZD (RepT Γ w I base t) cs vs:=by
  intro cs
  induction cs with
  | nil=>intro vs _ h;cases vs with
   | nil=>trivial
   | cons _ _=>exact h.elim
  | cons x r ih=>intro vs ht h;cases vs with
   | nil=>exact h.elim
   | cons v vs=>exact⟨.inl ⟨h.1,ht x (by simp)⟩,ih (fun y hy=>ht y (by simp[hy])) h.2⟩
 unfold bnT;split
 ·rename_i hc;obtain⟨x,hx⟩:=ZtJ hc;rw[hc,hx] at hr;rw[hx];exact⟨.inr ⟨⟨0,rfl⟩,hr.1⟩,.inl ⟨⟨_,_,_,rfl⟩,rfl⟩,trivial⟩
 ·exact aa ht hr
theorem ZDj {Γ:Gh} {w:World} {I:Nat→Prop} {base b t:Nat} (hb:Γ base=some (.box (b,t))) {cs:List AV} {vs:List Value} (hr:ZD (RepT Γ w I base t) cs vs):ZD (X3 Γ w I) (cs.map (ZiS base)) vs:=by
 refine hr.map_left fun x v hx=>?_;rcases hx with hx | ⟨⟨i,rfl⟩,rfl⟩
 ·rw[hx.2];exact hx.1
 ·exact⟨b,hb,.inl rfl⟩
theorem ZDk (z:Value):XD (evC z).cells=true:=by
 rw[Zmv];intro te l hm;have aa:∀ v:Value,AV.bbuf te l∈(UU v).cells→False:=by
  intro v hx;unfold UU at hx;split at hx<;>simp[AV.cells,D.cells] at hx
 unfold evC at hm;split at hm
 ·rename_i cs;unfold ZaK at hm;cases hd:Zgb (cs.toList.map UU) with
  | some ds=>
   rw[hd] at hm;simp[JC,AV.cells] at hm
  | none=>
   rw[hd] at hm;simp only[JC] at hm;split at hm
   ·simp[AV.cells] at hm
   ·simp only[AV.cells,KX] at hm;obtain⟨y,_,hy⟩:=hm;unfold UU at hy;split at hy<;>cases hy
 ·exact aa _ hm
theorem ZyL {base:Nat} {cs:List AV} (h:∀ x∈cs,ZiS base x=x):cs.map (ZiS base)=cs:=by
 rw[KM h,List.map_id']
theorem ZAR (base t te:Nat) (z:Value):(XD ((bnT t te (evC z).cells).map (ZiS base))=true)∨∃ u,(bnT t te (evC z).cells).map (ZiS base)=[.bnil base t,.bbuf te []]∧z.cells.toList=[u,.slice none 0 0]:=by
 unfold bnT;split
 ·rename_i hc;obtain⟨x,hx⟩:=ZtJ hc;exact .inr ⟨x,rfl,hx⟩
 ·rw[ZyL (Zzw base z)];exact .inl (ZDk z)
theorem ZB2 (h:Sim nt F A I Γ U sl hp a w) {o:Oper} {t:TypeId} {z:Value} (ho:o.op=.alloc t) (hz:Zb5 P t=some z) {base:Nat} (hb:Xk U base) (hd:QX nt o.dst=true) {ce:Zf} {slc:List (Option Nat)} {te:Nat}
  (aa:Q5 base (base+64) ce.eff.adds=true) (hv:ZhT slc base (bnT t te (evC z).cells)=some ce):Ze4 P nt F A I Γ U sl hp a w o base ce:=by
 refine Zzv h hb hd (e:=t) (ZDj (ZL _ _ _) (ZDi (te:=te) (ZL _ _ _) (Zzw base z) ((Zmw Γ w I z).mono fun _ _ hx=>hx.mono (Wx _ (h.names base hb.self)) ⟨fun _ h=>h,fun b hb=>YB w _ b (h.bound b hb)⟩))) slc ?_ aa ?_ (.inl ?_)
 ·rcases ZAR base t te z with h1 | ⟨u,h1,h2⟩
  ·exact .inl h1
  ·exact .inr ⟨_,te,u,h1,h2⟩
 ·unfold ZhT ZqL at hv;split at hv
  ·split at hv
   ·cases hv;exact .inl rfl
   ·cases hv
  ·rename_i hn;split at hv
   ·cases hv;exact .inr ⟨by simpa using hn,rfl⟩
   ·cases hv;exact .inl rfl
 ·simp[execOp,ho,Instr.alloc,Zfo hz,newVar,newRow]
theorem op_box (h:Sim nt F A I Γ U sl hp a w) {o:Oper} {t:TypeId} {x:Operand} {y:Opd} (ho:o.op=.box t x) (hc:Z4 x=some y) {base:Nat} (hb:Xk U base) (hd:QX nt o.dst=true) {ce:Zf}
  (aa:Q5 base (base+64) ce.eff.adds=true) (hv:ZAy base (evO sl y)=some ce):Ze4 P nt F A I Γ U sl hp a w o base ce:=by
 unfold ZAy at hv;split at hv
 ·rename_i hs;simp only[Kd] at hs;obtain⟨hs,ab⟩:=hs;cases hv;refine Zzv h hb hd (e:=t) ((Rep.cells hs (h.slOK.ev hc)).mono fun _ _ hx=>hx.mono (Wx _ (h.names base hb.self)) ⟨fun _ h=>h,fun b hb=>YB w _ b (h.bound b hb)⟩) [] (.inl ab) aa (.inl rfl) (.inl ?_);simp[execOp,ho,Instr.box,newVar,newRow]
 ·cases hv
def Zn.soft:Zn→Bool
 | .row _ _ _ fz=>!fz
 | .tree _ _ _ _=>true
 | .gone=>false
 | .box _=>false
def Zn.thaw:Zn→Bool
 | .row _ _ _ fz=>!fz
 | .tree _ _ _ _=>false
 | .gone=>false
 | .box _=>false
def Zh6 (Γ:Gh) (w:World) (hp:Hp) (I:Nat→Prop) (ids:List Nat) (b:Nat):Prop:=
 I b∨∃ id∈ids,∃ o,lkp hp id=some o∧o.soft=true∧Blk Γ w id o b
def XE (Γ:Gh) (w:World) (hp:Hp) (I:Nat→Prop) (ids:List Nat) (b:Nat):Prop:=
 I b∨∃ id∈ids,∃ o,lkp hp id=some o∧o.thaw=true∧Blk Γ w id o b
theorem ZtK {a:Option Addr} {n c sz b:Nat} (h:ZC (some (.row a n c sz))=some b):∃ ad,a=some ad∧ad.block=b∧c≠0:=by
 cases a with
 | none=>simp[ZC] at h
 | some ad=>
  simp only[ZC] at h;split at h
  ·cases h
  ·cases h;exact⟨ad,rfl,rfl,by assumption⟩
theorem Sim.froze_F (h:Sim nt F A I Γ U sl hp a w) {ids:List Nat} {b:Nat} (hb:XE Γ w hp I ids b):I b∨F b:=by
 rcases hb with hb | ⟨id,aa,o,hl,_,hb⟩
 ·exact .inl hb
 ·exact .inr (Zlf (h.objs id o hl) hb)
theorem Sim.frozeL_F (h:Sim nt F A I Γ U sl hp a w) {ids:List Nat} {b:Nat} (hb:Zh6 Γ w hp I ids b):I b∨F b:=by
 rcases hb with hb | ⟨id,aa,o,hl,_,hb⟩
 ·exact .inl hb
 ·exact .inr (Zlf (h.objs id o hl) hb)
theorem Zh7 {id:Nat} {o:Zn} {t:Bool} {b:Nat} (h:Blk Γ w id (if t then V0 o else o) b):Blk Γ w id o b:=by
 cases t with
 | false=>exact h
 | true=>
  cases o with
  | box cs=>exact h
  | row sz xs ex fz=>exact h
  | gone=>exact h
  | tree sz ns xs lk=>exact h
theorem Sim.freeze (h:Sim nt F A I Γ U sl hp a w) (ids:List Nat):Sim nt F A (XE Γ w hp I ids) Γ U sl (Qr ids hp) a w:=by
 have aa:ZY I (XE Γ w hp I ids) w w:=⟨fun _ h=>.inl h,fun _ _=>rfl⟩
 refine { nt:=h.nt,dfr:=h.dfr,slots:=fun t=>(h.slots t).mono (Qo.refl Γ) aa,objs:=?_,inj:=?_,bound:=?_,fresh:=h.fresh,own:=h.own,names:=h.names,glob:=h.glob.mono aa }
 ·intro id o hl;rw[Qi] at hl;cases hl0:lkp hp id with
  | none=>rw[hl0] at hl;cases hl
  | some o0=>
   rw[hl0] at hl;simp only[Ld,Option.some.injEq] at hl;have ho:=h.objs id o0 hl0;have ab:∀ b,Blk Γ w id o0 b→(ids.contains id=false∨o0.thaw=false)→XE Γ w hp I ids b→I b:=by
    intro b hb ae af;rcases af with af | ⟨aj,ag,o',ah,ak,al⟩
    ·exact af
    ·have he:=h.inj id aj _ _ b hl0 ah hb al;subst he;rw[hl0] at ah;cases ah;rcases ae with ae | ae
     ·simp at ae;exact absurd ag ae
     ·rw[ak] at ae;cases ae
   split at hl
   ·rename_i ai;subst hl;cases o0 with
    | box cs=>exact ho.mono (Qo.refl Γ) aa fun b hb=>⟨rfl,ab b hb (.inr rfl)⟩
    | gone=>exact ho.mono (Qo.refl Γ) aa fun b hb=>⟨rfl,ab b hb (.inr rfl)⟩
    | tree sz ns xs lk=>exact ho.mono (Qo.refl Γ) aa fun b hb=>⟨rfl,ab b hb (.inr rfl)⟩
    | row sz xs ex fz=>
     simp only[V0];cases fz with
     | true=>exact ho.mono (Qo.refl Γ) aa fun b hb=>⟨rfl,ab b hb (.inr rfl)⟩
     | false=>
      obtain⟨ad,n,c,h1,h2,h3⟩:=ho;refine⟨ad,n,c,h1,h2,?_⟩;rcases h3 with h3 | ⟨g,q0,cur,e,rfl,hc,hw,h4,h5,h6,h7,h8,am,h9⟩
      ·exact .inl h3
      ·refine .inr ⟨g,q0,cur,e,rfl,hc,hw,h4,h5,h6,h7,?_,am,?_⟩
       ·simp only[Kk];exact .inr ⟨id,by simpa using ai,_,hl0,rfl,.inl (by rw[h1];simp[ZC,KE hc])⟩
       ·cases ex
        ·exact h9.mono' aa rfl
        ·simp only[Kk] at h9 ⊢;exact h9.mono' ⟨fun b hb=>⟨aa.sub b hb.1,hb.2⟩,fun _ _=>rfl⟩ rfl
   ·rename_i ai;subst hl;exact ho.mono (Qo.refl Γ) aa fun b hb=>⟨rfl,ab b hb (.inl (by simpa using ai))⟩
 ·intro i j o o' b hi hj an ao;rw[Qi] at hi hj;cases hi0:lkp hp i with
  | none=>rw[hi0] at hi;cases hi
  | some oi=>cases hj0:lkp hp j with
   | none=>rw[hj0] at hj;cases hj
   | some oj=>
    rw[hi0] at hi;rw[hj0] at hj;simp only[Ld,Option.some.injEq] at hi hj;subst hi hj;exact h.inj i j oi oj b hi0 hj0 (Zh7 an) (Zh7 ao)
 ·intro b hb;rcases hb with hb | ⟨id,ap,o,hl,_,hb⟩
  ·exact h.bound b hb
  ·exact h.blk_lt hl hb
theorem froze_nil (Γ:Gh) (w:World) (hp:Hp) (I:Nat→Prop) (b:Nat):XE Γ w hp I [] b↔I b:=by simp[XE]
theorem US.of_freeze (h:Sim nt F A I Γ U sl hp a w) (ids:List Nat) {U' : Nat→Prop} {sl' : Sl} {hp' : Hp} {a' : Act} {w' : World}
  (hp:US nt F A (XE Γ w hp I ids) Γ w U' sl' hp' a' w'):US nt F A I Γ w U' sl' hp' a' w':=by
 obtain⟨I',Γ',h1,h2,h3,h4,h5⟩:=hp;refine⟨I',Γ',h1,⟨fun b hb=>h2.sub b (.inl hb),fun b hb=>h2.blk b (.inl hb)⟩,fun b hb=>?_,h4,h5⟩;rcases h3 b hb with h6 | h6
 ·exact h.froze_F h6
 ·exact .inr h6
end
end Go.Abs
