/- Own text. -/
import Derived.Test.YtighjmleicikhaaAbsStep
set_option linter.unusedVariables false
set_option linter.unusedSimpArgs false
namespace Go.Abs
open Go
theorem QF (v:AV) (adds sets:Hp) (dels frz:List Nat) (dst:Option Nat) (sl:Sl) (hp:Hp) :
  Zb.on { eff := { val:=v,adds:=adds,sets:=sets,dels:=dels,frz:=frz },gone:=[] } dst sl hp =
   (Zk sl dst v,Zd (Zd (ZN (ZZ frz hp) dels) sets) adds):=rfl
section
variable {P:Program} {nt:Nat} {U:Nat→Prop} {F A I:Nat→Prop} {Γ:Gh} {sl:Sl} {hp:Hp} {a:Act} {w:World}
def JP (P:Program) (nt:Nat) (F A I:Nat→Prop) (Γ:Gh) (U:Nat→Prop) (sl:Sl) (hp:Hp) (a:Act) (w:World) (o:Oper) (base:Nat) (ce:Zb):Prop:=
 ∃ u w',ZgQ P o a w u w'∧Y9 nt F A I Γ w (Wl U base) (ce.on o.dst sl hp).1 (ce.on o.dst sl hp).2 (a.put o.dst u) w'
theorem Xo.opOK (h:Sim nt F A I Γ U sl hp a w) {o:Oper} {base:Nat} {ce:Zb} (hb:QB U base) (hd:Qo nt o.dst=true) (hp' : Xo P Γ I o a w ce):JP P nt F A I Γ U sl hp a w o base ce:=by
 obtain⟨u,r,h1,rfl,h2⟩:=hp';exact⟨u,w,h1,h.pure (fun id hu=>.inl hu) h2 hd⟩
theorem Zot (h:Sim nt F A I Γ U sl hp a w) {o:Oper} {x:Operand} {y:Opd} {e:Option Nat} (ho:o.op=.assign x) (hc:ZI x=some y) {base:Nat} (hb:QB U base) (hd:Qo nt o.dst=true) {ce:Zb}
  (ae:Qv base (base+64) ce.eff.adds=true) (hv:Zau base e (evO sl y)=some ce):JP P nt F A I Γ U sl hp a w o base ce:=by
 unfold Zau at hv;split at hv
 ·rename_i hy;obtain⟨s,hs,hv⟩:=Za hv;cases hv;have h1:=h.slOK.ev hc;rw[hy] at h1;obtain⟨ad,h2⟩:=h1;refine⟨a.eval x,w,.inl (by simp[execOp,ho]),?_⟩;rw[QF,h2];refine h.add (Γ':=upd Γ base (.row ad 0 0 s)) (Ye _ (h.names base hb.self)) (fun _ _=>rfl) (Kj _) rfl rfl rfl ?_ ?_ ?_ ?_ ?_ ?_ hd
  ·intro k o' hk;simp at hk;obtain⟨rfl,rfl⟩:=hk;exact⟨ad,0,0,Zw _ _ _,rfl,.inl ⟨rfl,rfl⟩⟩
  ·intro i j o1 o2 b hi hj _ _;simp at hi hj;omega
  ·intro k o' b hk ab;simp at hk;obtain⟨rfl,rfl⟩:=hk;exact(ab.nil (by rw[Zw];cases ad<;>simp[Zq])).elim
  ·intro k hk;exact Qf _ _ (fun e=>hb.self (e ▸ hk))
  ·intro id aa;rw[Qf _ _ (fun e=>aa (.inr (by omega)))];exact h.names id (fun hu=>aa (.inl hu))
  ·exact⟨ad,0,0,s,Zw _ _ _,rfl⟩
 ·exact(Zeo (.inr ho) h.slOK hc hv).opOK h hb hd
theorem ZdS:∀ (vs:List Value),JD (vs.map Vg)=false
 | []=>rfl
 | v :: vs=>by
  simp only[Km,JD,ZdS vs,Bool.or_false];cases v<;>try rfl
  ·rename_i x;cases x<;>rfl
  ·rename_i x n c;cases x<;>cases n<;>cases c<;>rfl
theorem ZeB (Γ:Gh) (w:World) (I:Nat→Prop) (z:Value):Zr (Q1 Γ w I) (evC z).cells z.cells.toList:=by
 have one:∀ z:Value,(∀ c,z≠.agg c)→(Vg z).cells=[Vg z]:=by
  intro z hz;cases z<;>try rfl
  ·rename_i x;cases x<;>rfl
  ·rename_i x n c;cases x<;>cases n<;>cases c<;>rfl
 cases z with
 | agg cs=>
  refine Rep.cells ?_ (Zna (Value.agg cs));simp only[evC,V7];cases Zag (cs.toList.map Vg)
  ·simp only[VD,ZdS,Ka,Kf];rfl
  ·rfl
 | _=>
  simp only[evC];rw[one _ (by simp)];exact⟨Zei _,trivial⟩
theorem Xr (w:World) (o:Obj):∀ k,k<w.heap.size→(w.alloc o).heap[k]?=w.heap[k]?:=fun k hk=>heap_alloc_old w o k hk
theorem Zns (h:Sim nt F A I Γ U sl hp a w) {o:Oper} {base:Nat} (hb:QB U base) (hd:Qo nt o.dst=true) {e:TypeId} {cs:List AV} {vs:Array Value} (hr:Zr (Q1 (upd Γ base (.box (w.heap.size,e))) (w.alloc (.cells vs e)) I) cs vs.toList)
  (slc:List (Option Nat)) (hq:QP cs=true∨∃ x te u,cs=[x,.bbuf te []]∧vs.toList=[u,.slice none 0 0]) {ce:Zb} (am:Qv base (base+64) ce.eff.adds=true)
  (hv:ce = { eff := { val:=.ptr base 0,adds:=[(base,.box cs)] },gone:=[] } ∨
   QP cs=true∧ce = { eff := { val:=.ptr base 0,adds:=(base,.box (mat slc cs (base+1)).1) :: (mat slc cs (base+1)).2 },gone:=[] })
  (hg:ZgQ P o a w (.pointer (some ⟨w.heap.size,0,none⟩)) (w.alloc (.cells vs e))):JP P nt F A I Γ U sl hp a w o base ce:=by
 refine⟨_,_,hg,?_⟩;have hI:ZC I I w (w.alloc (.cells vs e)):=⟨fun _ h=>h,fun b hb=>Xr w _ b (h.bound b hb)⟩
 have an:=Ye (.box (w.heap.size,e)) (h.names base hb.self);have au:∀ id,base+1≤id→id<base+64→upd Γ base (.box (w.heap.size,e)) id=none:=fun id ae av=>by rw[Qf _ _ (by omega)];exact h.names id (hb id (by omega) av)
 have ao:=hr;have ad:∀ (Γ' : Gh) (ai : List AV),Ju (w.alloc (.cells vs e)) I F w.heap.size ai vs.toList→Γ' base=some (.box (w.heap.size,e))→Zr (Q1 Γ' (w.alloc (.cells vs e)) I) ai vs.toList→XO Γ' (w.alloc (.cells vs e)) I F A base (.box ai):=
  fun Γ' ai h0 h1 h2=>⟨w.heap.size,vs,e,h1,heap_alloc_new w _,fun hi=>absurd (h.bound _ hi) (by omega),h.fresh _ (Kj _),h2,h0⟩
 rcases hv with rfl | ⟨ap,rfl⟩
 ·rw[QF];refine h.add (Γ':=upd Γ base (.box (w.heap.size,e))) an (Xr w _) (by simp) rfl rfl rfl ?_ ?_ ?_ ?_ ?_ ?_ hd
  ·intro k o' hk;simp at hk;obtain⟨rfl,rfl⟩:=hk;exact ad _ _ (by
    rcases hq with hq | ⟨x,te,u,rfl,aj⟩
    ·exact ZaM hq
    ·rw[aj];exact .inl ⟨rfl,rfl⟩) (Zw _ _ _) ao
  ·intro i j o1 o2 b hi hj _ _;simp at hi hj;omega
  ·intro k o' b hk aa;simp at hk;obtain⟨rfl,rfl⟩:=hk;rcases hq with hq | ⟨x,te,u,rfl,aj⟩
   ·have aa:=aa.box hq;rw[Zw] at aa;cases aa;exact Kj _
   ·rcases aa with aa | aa | ⟨g,aq,ak⟩
    ·rw[Zw] at aa;cases aa;exact Kj _
    ·exact aa.elim
    ·rw[Zw] at aq;cases aq;have ah:(w.alloc (.cells vs e)).cell? ⟨w.heap.size,1,none⟩=some (.slice none 0 0):=by
      have h2:(w.alloc (.cells vs e)).heap[w.heap.size]?=some (.cells vs e (0,0)):=heap_alloc_new w _;simpa using Zbe h2 1 (.slice none 0 0) (by rw[aj];rfl)
     unfold ZdH at ak;rw[show (((w.heap.size,e):Nat×Nat).1)=w.heap.size from rfl,ah] at ak;simp[Zlc] at ak
  ·intro k hk;exact Qf _ _ (fun e=>hb.self (e ▸ hk))
  ·intro id ae;rw[Qf _ _ (fun e=>ae (.inr (by omega)))];exact h.names id (fun hu=>ae (.inl hu))
  ·exact⟨(w.heap.size,e),Zw _ _ _,rfl⟩
 ·rw[QF];simp only[Qv,Kb,Kk] at am;obtain⟨Γ',h1,h2,h3,h5⟩:=Zpy (w.alloc (.cells vs e)) I F A (base+64) slc cs vs.toList (base+1) (upd Γ base (.box (w.heap.size,e))) am.2 au ao;have ab:Γ' base=some (.box (w.heap.size,e)):=by rw[h2 base (by omega),Zw]
  refine h.add (Γ':=Γ') (fun id r hr=>h1 _ _ (an _ _ hr)) (Xr w _) (by simp) rfl rfl rfl ?_ ?_ ?_ ?_ ?_ ?_ hd
  ·intro k o' hk;rcases Ke.1 hk with hk | hk
   ·cases hk;exact ad _ _ (ZaM (by rw[Zb8];exact ap)) ab h5
   ·exact(h3 k o' hk).2.1
  ·intro i j o1 o2 b hi hj aw ar;rcases Ke.1 hi with hi | hi<;>rcases Ke.1 hj with hj | hj
   ·cases hi;cases hj;rfl
   ·exact(ar.nil (h3 j o2 hj).2.2).elim
   ·exact(aw.nil (h3 i o1 hi).2.2).elim
   ·exact(ar.nil (h3 j o2 hj).2.2).elim
  ·intro k o' b hk aa;rcases Ke.1 hk with hk | hk
   ·cases hk;have aa:=aa.box (by rw[Zb8];exact ap);rw[ab] at aa;cases aa;exact Kj _
   ·exact(aa.nil (h3 k o' hk).2.2).elim
  ·intro k hk;have al:k≠base:=fun e=>hb.self (e ▸ hk);have af:k<base+1∨base+64≤k:=by
    rcases KN k (base+1) with h' | h'
    ·exact .inl h'
    ·rcases KN k (base+64) with ag | ag
     ·exact absurd hk (hb k (by omega) ag)
     ·exact .inr ag
   rw[h2 k af,Qf _ _ al]
  ·intro id ae;have al:id≠base:=fun e=>ae (.inr (by omega));have af:id<base+1∨base+64≤id:=by
    rcases KN id (base+1) with h' | h'
    ·exact .inl h'
    ·rcases KN id (base+64) with ag | ag
     ·exact absurd (.inr ⟨by omega,ag⟩) ae
     ·exact .inr ag
   rw[h2 id af,Qf _ _ al];exact h.names id (fun hu=>ae (.inl hu))
  ·exact⟨(w.heap.size,e),ab,rfl⟩
def RepT (Γ:Gh) (w:World) (I:Nat→Prop) (base t:Nat) (x:AV) (v:Value):Prop:=(Q1 Γ w I x v∧Zcj base x=x)∨(∃ i,x=.bnil i t)∧v=.pointer none
theorem Zou (base:Nat) (v:Value):Zcj base (Vg v)=Vg v:=by
 unfold Vg;split<;>rfl
theorem Znt (base:Nat) (z:Value):∀ x∈(evC z).cells,Zcj base x=x:=by
 intro x hx;have aa:∀ v:Value,x∈(Vg v).cells→Zcj base x=x:=by
  intro v hx;unfold Vg at hx;split at hx<;>simp only[AV.cells,D.cells,Km,Ku,KI] at hx<;>subst hx<;>rfl
 unfold evC at hx;split at hx
 ·rename_i cs;unfold V7 at hx;cases hd:Zag (cs.toList.map Vg) with
  | some ds=>
   rw[hd] at hx;simp only[VD,AV.cells,KU] at hx;obtain⟨y,_,rfl⟩:=hx;rfl
  | none=>
   rw[hd] at hx;simp only[VD] at hx;split at hx
   ·simp only[AV.cells,KI] at hx;subst hx;rfl
   ·simp only[AV.cells,KU] at hx;obtain⟨y,_,rfl⟩:=hx;exact Zou base y
 ·exact aa _ hx
theorem Zov {v:Value} (h:Vg v=.nil):v=.slice none 0 0:=by
 unfold Vg at h;split at h<;>first | rfl | cases h
theorem Zi2 {z:Value} (h:(evC z).cells=[.nilp,.nil]):∃ x,z.cells.toList=[x,.slice none 0 0]:=by
 unfold evC at h;split at h
 ·rename_i cs;unfold V7 at h;cases hd:Zag (cs.toList.map Vg) with
  | some ds=>
   rw[hd] at h;simp only[VD,AV.cells] at h
   match (D.agg ds).cells,h with
   | a :: _,h=>simp only[Km,List.cons.injEq] at h;exact absurd h.1 (by simp)
   | [],h=>cases h
  | none=>
   rw[hd] at h;simp only[VD] at h;split at h
   ·cases h
   ·simp only[AV.cells] at h
    match hl:cs.toList,h with
    | [x,y],h=>
     simp only[Km,Ku,List.cons.injEq,and_true] at h;exact⟨x,by rw[Zov h.2]⟩
    | [],h=>cases h
    | [_],h=>simp at h
    | _ :: _ :: _ :: _,h=>simp at h
 ·exfalso
  unfold Vg at h;split at h<;>simp[AV.cells,D.cells] at h
theorem ZqH {Γ:Gh} {w:World} {I:Nat→Prop} {base b t te:Nat} (hb:Γ base=some (.box (b,t))) {z:Value} (ht:∀ x∈(evC z).cells,Zcj base x=x) (hr:Zr (Q1 Γ w I) (evC z).cells z.cells.toList):Zr (RepT Γ w I base t) (bnT t te (evC z).cells) z.cells.toList:=by
 have aa:∀ {cs:List AV} {vs:List Value},(∀ x∈cs,Zcj base x=x)→Zr (Q1 Γ w I) cs vs→Zr (RepT Γ w I base t) cs vs:=by
  intro cs
  induction cs with
  | nil=>intro vs _ h;cases vs with
   | nil=>trivial
   | cons _ _=>exact h.elim
  | cons x r ih=>intro vs ht h;cases vs with
   | nil=>exact h.elim
   | cons v vs=>exact⟨.inl ⟨h.1,ht x (by simp)⟩,ih (fun y hy=>ht y (by simp[hy])) h.2⟩
 unfold bnT;split
 ·rename_i hc;obtain⟨x,hx⟩:=Zi2 hc;rw[hc,hx] at hr;rw[hx];exact⟨.inr ⟨⟨0,rfl⟩,hr.1⟩,.inl ⟨⟨_,_,_,rfl⟩,rfl⟩,trivial⟩
 ·exact aa ht hr
theorem ZqI {Γ:Gh} {w:World} {I:Nat→Prop} {base b t:Nat} (hb:Γ base=some (.box (b,t))) {cs:List AV} {vs:List Value} (hr:Zr (RepT Γ w I base t) cs vs):Zr (Q1 Γ w I) (cs.map (Zcj base)) vs:=by
 refine hr.map_left fun x v hx=>?_;rcases hx with hx | ⟨⟨i,rfl⟩,rfl⟩
 ·rw[hx.2];exact hx.1
 ·exact⟨b,hb,.inl rfl⟩
theorem ZqJ (z:Value):QP (evC z).cells=true:=by
 rw[ZeA];intro te l hm;have aa:∀ v:Value,AV.bbuf te l∈(Vg v).cells→False:=by
  intro v hx;unfold Vg at hx;split at hx<;>simp[AV.cells,D.cells] at hx
 unfold evC at hm;split at hm
 ·rename_i cs;unfold V7 at hm;cases hd:Zag (cs.toList.map Vg) with
  | some ds=>
   rw[hd] at hm;simp[VD,AV.cells] at hm
  | none=>
   rw[hd] at hm;simp only[VD] at hm;split at hm
   ·simp[AV.cells] at hm
   ·simp only[AV.cells,KU] at hm;obtain⟨y,_,hy⟩:=hm;unfold Vg at hy;split at hy<;>cases hy
 ·exact aa _ hm
theorem ZmI {base:Nat} {cs:List AV} (h:∀ x∈cs,Zcj base x=x):cs.map (Zcj base)=cs:=by
 rw[Ky h,List.map_id']
theorem Zow (base t te:Nat) (z:Value):(QP ((bnT t te (evC z).cells).map (Zcj base))=true)∨∃ u,(bnT t te (evC z).cells).map (Zcj base)=[.bnil base t,.bbuf te []]∧z.cells.toList=[u,.slice none 0 0]:=by
 unfold bnT;split
 ·rename_i hc;obtain⟨x,hx⟩:=Zi2 hc;exact .inr ⟨x,rfl,hx⟩
 ·rw[ZmI (Znt base z)];exact .inl (ZqJ z)
theorem Zpz (h:Sim nt F A I Γ U sl hp a w) {o:Oper} {t:TypeId} {z:Value} (ho:o.op=.alloc t) (hz:W8 P t=some z) {base:Nat} (hb:QB U base) (hd:Qo nt o.dst=true) {ce:Zb} {slc:List (Option Nat)} {te:Nat}
  (aa:Qv base (base+64) ce.eff.adds=true) (hv:Zbn slc base (bnT t te (evC z).cells)=some ce):JP P nt F A I Γ U sl hp a w o base ce:=by
 refine Zns h hb hd (e:=t) (ZqI (Zw _ _ _) (ZqH (te:=te) (Zw _ _ _) (Znt base z) ((ZeB Γ w I z).mono fun _ _ hx=>hx.mono (Ye _ (h.names base hb.self)) ⟨fun _ h=>h,fun b hb=>Xr w _ b (h.bound b hb)⟩))) slc ?_ aa ?_ (.inl ?_)
 ·rcases Zow base t te z with h1 | ⟨u,h1,h2⟩
  ·exact .inl h1
  ·exact .inr ⟨_,te,u,h1,h2⟩
 ·unfold Zbn ZgC at hv;split at hv
  ·split at hv
   ·cases hv;exact .inl rfl
   ·cases hv
  ·rename_i hn;split at hv
   ·cases hv;exact .inr ⟨by simpa using hn,rfl⟩
   ·cases hv;exact .inl rfl
 ·simp[execOp,ho,Instr.alloc,J1 hz,newVar,newRow]
theorem op_box (h:Sim nt F A I Γ U sl hp a w) {o:Oper} {t:TypeId} {x:Operand} {y:Opd} (ho:o.op=.box t x) (hc:ZI x=some y) {base:Nat} (hb:QB U base) (hd:Qo nt o.dst=true) {ce:Zb}
  (aa:Qv base (base+64) ce.eff.adds=true) (hv:Zof base (evO sl y)=some ce):JP P nt F A I Γ U sl hp a w o base ce:=by
 unfold Zof at hv;split at hv
 ·rename_i hs;simp only[Kb] at hs;obtain⟨hs,ab⟩:=hs;cases hv;refine Zns h hb hd (e:=t) ((Rep.cells hs (h.slOK.ev hc)).mono fun _ _ hx=>hx.mono (Ye _ (h.names base hb.self)) ⟨fun _ h=>h,fun b hb=>Xr w _ b (h.bound b hb)⟩) [] (.inl ab) aa (.inl rfl) (.inl ?_);simp[execOp,ho,Instr.box,newVar,newRow]
 ·cases hv
def Zh.soft:Zh→Bool
 | .row _ _ _ fz=>!fz
 | .tree _ _ _ _=>true
 | .gone=>false
 | .box _=>false
def Zh.thaw:Zh→Bool
 | .row _ _ _ fz=>!fz
 | .tree _ _ _ _=>false
 | .gone=>false
 | .box _=>false
def Zby (Γ:Gh) (w:World) (hp:Hp) (I:Nat→Prop) (ids:List Nat) (b:Nat):Prop:=
 I b∨∃ id∈ids,∃ o,lkp hp id=some o∧o.soft=true∧Blk Γ w id o b
def QQ (Γ:Gh) (w:World) (hp:Hp) (I:Nat→Prop) (ids:List Nat) (b:Nat):Prop:=
 I b∨∃ id∈ids,∃ o,lkp hp id=some o∧o.thaw=true∧Blk Γ w id o b
theorem Zi3 {a:Option Addr} {n c sz b:Nat} (h:Zq (some (.row a n c sz))=some b):∃ ad,a=some ad∧ad.block=b∧c≠0:=by
 cases a with
 | none=>simp[Zq] at h
 | some ad=>
  simp only[Zq] at h;split at h
  ·cases h
  ·cases h;exact⟨ad,rfl,rfl,by assumption⟩
theorem Sim.froze_F (h:Sim nt F A I Γ U sl hp a w) {ids:List Nat} {b:Nat} (hb:QQ Γ w hp I ids b):I b∨F b:=by
 rcases hb with hb | ⟨id,aa,o,hl,_,hb⟩
 ·exact .inl hb
 ·exact .inr (ZdR (h.objs id o hl) hb)
theorem Sim.frozeL_F (h:Sim nt F A I Γ U sl hp a w) {ids:List Nat} {b:Nat} (hb:Zby Γ w hp I ids b):I b∨F b:=by
 rcases hb with hb | ⟨id,aa,o,hl,_,hb⟩
 ·exact .inl hb
 ·exact .inr (ZdR (h.objs id o hl) hb)
theorem Zbz {id:Nat} {o:Zh} {t:Bool} {b:Nat} (h:Blk Γ w id (if t then X0 o else o) b):Blk Γ w id o b:=by
 cases t with
 | false=>exact h
 | true=>
  cases o with
  | box cs=>exact h
  | row sz xs ex fz=>exact h
  | gone=>exact h
  | tree sz ns xs lk=>exact h
theorem Sim.freeze (h:Sim nt F A I Γ U sl hp a w) (ids:List Nat):Sim nt F A (QQ Γ w hp I ids) Γ U sl (ZZ ids hp) a w:=by
 have aa:ZC I (QQ Γ w hp I ids) w w:=⟨fun _ h=>.inl h,fun _ _=>rfl⟩
 refine { nt:=h.nt,dfr:=h.dfr,slots:=fun t=>(h.slots t).mono (ZX.refl Γ) aa,objs:=?_,inj:=?_,bound:=?_,fresh:=h.fresh,own:=h.own,names:=h.names,glob:=h.glob.mono aa }
 ·intro id o hl;rw[ZR] at hl;cases hl0:lkp hp id with
  | none=>rw[hl0] at hl;cases hl
  | some o0=>
   rw[hl0] at hl;simp only[KR,Option.some.injEq] at hl;have ho:=h.objs id o0 hl0;have ab:∀ b,Blk Γ w id o0 b→(ids.contains id=false∨o0.thaw=false)→QQ Γ w hp I ids b→I b:=by
    intro b hb ae af;rcases af with af | ⟨aj,ag,o',ah,ak,al⟩
    ·exact af
    ·have he:=h.inj id aj _ _ b hl0 ah hb al;subst he;rw[hl0] at ah;cases ah;rcases ae with ae | ae
     ·simp at ae;exact absurd ag ae
     ·rw[ak] at ae;cases ae
   split at hl
   ·rename_i ai;subst hl;cases o0 with
    | box cs=>exact ho.mono (ZX.refl Γ) aa fun b hb=>⟨rfl,ab b hb (.inr rfl)⟩
    | gone=>exact ho.mono (ZX.refl Γ) aa fun b hb=>⟨rfl,ab b hb (.inr rfl)⟩
    | tree sz ns xs lk=>exact ho.mono (ZX.refl Γ) aa fun b hb=>⟨rfl,ab b hb (.inr rfl)⟩
    | row sz xs ex fz=>
     simp only[X0];cases fz with
     | true=>exact ho.mono (ZX.refl Γ) aa fun b hb=>⟨rfl,ab b hb (.inr rfl)⟩
     | false=>
      obtain⟨ad,n,c,h1,h2,h3⟩:=ho;refine⟨ad,n,c,h1,h2,?_⟩;rcases h3 with h3 | ⟨g,q0,cur,e,rfl,hc,hw,h4,h5,h6,h7,h8,am,h9⟩
      ·exact .inl h3
      ·refine .inr ⟨g,q0,cur,e,rfl,hc,hw,h4,h5,h6,h7,?_,am,?_⟩
       ·simp only[Kh];exact .inr ⟨id,by simpa using ai,_,hl0,rfl,.inl (by rw[h1];simp[Zq,Ks hc])⟩
       ·cases ex
        ·exact h9.mono' aa rfl
        ·simp only[Kh] at h9 ⊢;exact h9.mono' ⟨fun b hb=>⟨aa.sub b hb.1,hb.2⟩,fun _ _=>rfl⟩ rfl
   ·rename_i ai;subst hl;exact ho.mono (ZX.refl Γ) aa fun b hb=>⟨rfl,ab b hb (.inl (by simpa using ai))⟩
 ·intro i j o o' b hi hj an ao;rw[ZR] at hi hj;cases hi0:lkp hp i with
  | none=>rw[hi0] at hi;cases hi
  | some oi=>cases hj0:lkp hp j with
   | none=>rw[hj0] at hj;cases hj
   | some oj=>
    rw[hi0] at hi;rw[hj0] at hj;simp only[KR,Option.some.injEq] at hi hj;subst hi hj;exact h.inj i j oi oj b hi0 hj0 (Zbz an) (Zbz ao)
 ·intro b hb;rcases hb with hb | ⟨id,ap,o,hl,_,hb⟩
  ·exact h.bound b hb
  ·exact h.blk_lt hl hb
theorem froze_nil (Γ:Gh) (w:World) (hp:Hp) (I:Nat→Prop) (b:Nat):QQ Γ w hp I [] b↔I b:=by simp[QQ]
theorem Y9.of_freeze (h:Sim nt F A I Γ U sl hp a w) (ids:List Nat) {U' : Nat→Prop} {sl' : Sl} {hp' : Hp} {a' : Act} {w' : World}
  (hp:Y9 nt F A (QQ Γ w hp I ids) Γ w U' sl' hp' a' w'):Y9 nt F A I Γ w U' sl' hp' a' w':=by
 obtain⟨I',Γ',h1,h2,h3,h4,h5⟩:=hp;refine⟨I',Γ',h1,⟨fun b hb=>h2.sub b (.inl hb),fun b hb=>h2.blk b (.inl hb)⟩,fun b hb=>?_,h4,h5⟩;rcases h3 b hb with h6 | h6
 ·exact h.froze_F h6
 ·exact .inr h6
end
end Go.Abs
