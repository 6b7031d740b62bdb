/- Own text. -/
import Derived.Test.YtefabmohhbhlfaaAbsStep
set_option linter.unusedVariables false
set_option linter.unusedSimpArgs false
namespace Go.Abs
open Go
theorem Qz (v:AV) (adds sets:Hp) (dels frz:List Nat) (dst:Option Nat) (sl:Sl) (hp:Hp) :
  Zb.on { eff := { val:=v,adds:=adds,sets:=sets,dels:=dels,frz:=frz },gone:=[] } dst sl hp =
   (Zi sl dst v,Zd (Zd (ZN (ZW frz hp) dels) sets) adds):=rfl
section
variable {P:Program} {nt:Nat} {U:Nat→Prop} {F A I:Nat→Prop} {Γ:Gh} {sl:Sl} {hp:Hp} {a:Act} {w:World}
def U6 (P:Program) (nt:Nat) (F A I:Nat→Prop) (Γ:Gh) (U:Nat→Prop) (sl:Sl) (hp:Hp) (a:Act) (w:World) (o:Oper) (base:Nat) (ce:Zb):Prop:=
 ∃ u w',Zgr P o a w u w'∧XQ nt F A I Γ w (VI U base) (ce.on o.dst sl hp).1 (ce.on o.dst sl hp).2 (a.put o.dst u) w'
theorem Q2.opOK (h:Sim nt F A I Γ U sl hp a w) {o:Oper} {base:Nat} {ce:Zb} (hb:Qw U base) (hd:Qh nt o.dst=true) (hp' : Q2 P Γ I o a w ce):U6 P nt F A I Γ U sl hp a w o base ce:=by
 obtain⟨u,r,h1,rfl,h2⟩:=hp';exact⟨u,w,h1,h.pure (fun id hu=>.inl hu) h2 hd⟩
theorem Zoe (h:Sim nt F A I Γ U sl hp a w) {o:Oper} {x:Operand} {y:Opd} {e:Option Nat} (ho:o.op=.assign x) (hc:ZI x=some y) {base:Nat} (hb:Qw U base) (hd:Qh nt o.dst=true) {ce:Zb}
  (ae:Qn base (base+64) ce.eff.adds=true) (hv:JQ base e (evO sl y)=some ce):U6 P nt F A I Γ U sl hp a w o base ce:=by
 unfold JQ at hv;split at hv
 ·rename_i hy;obtain⟨s,hs,hv⟩:=Za hv;cases hv;have h1:=h.slOK.ev hc;rw[hy] at h1;obtain⟨ad,h2⟩:=h1;refine⟨a.eval x,w,.inl (by simp[execOp,ho]),?_⟩;rw[Qz,h2];refine h.add (Γ':=upd Γ base (.row ad 0 0 s)) (XU _ (h.names base hb.self)) (fun _ _=>rfl) (Kf _) rfl rfl rfl ?_ ?_ ?_ ?_ ?_ ?_ hd
  ·intro k o' hk;simp at hk;obtain⟨rfl,rfl⟩:=hk;exact⟨ad,0,0,Zw _ _ _,rfl,.inl ⟨rfl,rfl⟩⟩
  ·intro i j o1 o2 b hi hj _ _;simp at hi hj;omega
  ·intro k o' b hk ab;simp at hk;obtain⟨rfl,rfl⟩:=hk;exact(ab.nil (by rw[Zw];cases ad<;>simp[Zo])).elim
  ·intro k hk;exact Qb _ _ (fun e=>hb.self (e ▸ hk))
  ·intro id aa;rw[Qb _ _ (fun e=>aa (.inr (by omega)))];exact h.names id (fun hu=>aa (.inl hu))
  ·exact⟨ad,0,0,s,Zw _ _ _,rfl⟩
 ·exact(ZdR (.inr ho) h.slOK hc hv).opOK h hb hd
theorem Zde:∀ (vs:List Value),UT (vs.map YO)=false
 | []=>rfl
 | v :: vs=>by
  simp only[Ko,UT,Zde vs,Bool.or_false];cases v<;>try rfl
  ·rename_i x;cases x<;>rfl
  ·rename_i x n c;cases x<;>cases n<;>cases c<;>rfl
theorem Zd5 (Γ:Gh) (w:World) (I:Nat→Prop) (z:Value):Zp (QP Γ w I) (evC z).cells z.cells.toList:=by
 have one:∀ z:Value,(∀ c,z≠.agg c)→(YO z).cells=[YO z]:=by
  intro z hz;cases z<;>try rfl
  ·rename_i x;cases x<;>rfl
  ·rename_i x n c;cases x<;>cases n<;>cases c<;>rfl
 cases z with
 | agg cs=>
  refine Rep.cells ?_ (ZmU (Value.agg cs));simp only[evC,Vs];cases UB (cs.toList.map YO)
  ·simp only[Y7,Zde,Ka,Kj];rfl
  ·rfl
 | _=>
  simp only[evC];rw[one _ (by simp)];exact⟨ZdJ _,trivial⟩
theorem Q6 (w:World) (o:Obj):∀ k,k<w.heap.size→(w.alloc o).heap[k]?=w.heap[k]?:=fun k hk=>heap_alloc_old w o k hk
theorem Znc (h:Sim nt F A I Γ U sl hp a w) {o:Oper} {base:Nat} (hb:Qw U base) (hd:Qh nt o.dst=true) {e:TypeId} {cs:List AV} {vs:Array Value} (hr:Zp (QP (upd Γ base (.box (w.heap.size,e))) (w.alloc (.cells vs e)) I) cs vs.toList)
  (slc:List (Option Nat)) (hq:QH cs=true∨∃ x te u,cs=[x,.bbuf te []]∧vs.toList=[u,.slice none 0 0]) {ce:Zb} (am:Qn base (base+64) ce.eff.adds=true)
  (hv:ce = { eff := { val:=.ptr base 0,adds:=[(base,.box cs)] },gone:=[] } ∨
   QH cs=true∧ce = { eff := { val:=.ptr base 0,adds:=(base,.box (mat slc cs (base+1)).1) :: (mat slc cs (base+1)).2 },gone:=[] })
  (hg:Zgr P o a w (.pointer (some ⟨w.heap.size,0,none⟩)) (w.alloc (.cells vs e))):U6 P nt F A I Γ U sl hp a w o base ce:=by
 refine⟨_,_,hg,?_⟩;have hI:ZB I I w (w.alloc (.cells vs e)):=⟨fun _ h=>h,fun b hb=>Q6 w _ b (h.bound b hb)⟩
 have an:=XU (.box (w.heap.size,e)) (h.names base hb.self);have au:∀ id,base+1≤id→id<base+64→upd Γ base (.box (w.heap.size,e)) id=none:=fun id ae av=>by rw[Qb _ _ (by omega)];exact h.names id (hb id (by omega) av)
 have ao:=hr;have ad:∀ (Γ' : Gh) (ai : List AV),UO (w.alloc (.cells vs e)) I F w.heap.size ai vs.toList→Γ' base=some (.box (w.heap.size,e))→Zp (QP Γ' (w.alloc (.cells vs e)) I) ai vs.toList→Xo Γ' (w.alloc (.cells vs e)) I F A base (.box ai):=
  fun Γ' ai h0 h1 h2=>⟨w.heap.size,vs,e,h1,heap_alloc_new w _,fun hi=>absurd (h.bound _ hi) (by omega),h.fresh _ (Kf _),h2,h0⟩
 rcases hv with rfl | ⟨ap,rfl⟩
 ·rw[Qz];refine h.add (Γ':=upd Γ base (.box (w.heap.size,e))) an (Q6 w _) (by simp) rfl rfl rfl ?_ ?_ ?_ ?_ ?_ ?_ hd
  ·intro k o' hk;simp at hk;obtain⟨rfl,rfl⟩:=hk;exact ad _ _ (by
    rcases hq with hq | ⟨x,te,u,rfl,aj⟩
    ·exact Zac hq
    ·rw[aj];exact .inl ⟨rfl,rfl⟩) (Zw _ _ _) ao
  ·intro i j o1 o2 b hi hj _ _;simp at hi hj;omega
  ·intro k o' b hk aa;simp at hk;obtain⟨rfl,rfl⟩:=hk;rcases hq with hq | ⟨x,te,u,rfl,aj⟩
   ·have aa:=aa.box hq;rw[Zw] at aa;cases aa;exact Kf _
   ·rcases aa with aa | aa | ⟨g,aq,ak⟩
    ·rw[Zw] at aa;cases aa;exact Kf _
    ·exact aa.elim
    ·rw[Zw] at aq;cases aq;have ah:(w.alloc (.cells vs e)).cell? ⟨w.heap.size,1,none⟩=some (.slice none 0 0):=by
      have h2:(w.alloc (.cells vs e)).heap[w.heap.size]?=some (.cells vs e (0,0)):=heap_alloc_new w _;simpa using Zay h2 1 (.slice none 0 0) (by rw[aj];rfl)
     unfold Zc1 at ak;rw[show (((w.heap.size,e):Nat×Nat).1)=w.heap.size from rfl,ah] at ak;simp[Zk6] at ak
  ·intro k hk;exact Qb _ _ (fun e=>hb.self (e ▸ hk))
  ·intro id ae;rw[Qb _ _ (fun e=>ae (.inr (by omega)))];exact h.names id (fun hu=>ae (.inl hu))
  ·exact⟨(w.heap.size,e),Zw _ _ _,rfl⟩
 ·rw[Qz];simp only[Qn,Kb,Kq] at am;obtain⟨Γ',h1,h2,h3,h5⟩:=Zpn (w.alloc (.cells vs e)) I F A (base+64) slc cs vs.toList (base+1) (upd Γ base (.box (w.heap.size,e))) am.2 au ao;have ab:Γ' base=some (.box (w.heap.size,e)):=by rw[h2 base (by omega),Zw]
  refine h.add (Γ':=Γ') (fun id r hr=>h1 _ _ (an _ _ hr)) (Q6 w _) (by simp) rfl rfl rfl ?_ ?_ ?_ ?_ ?_ ?_ hd
  ·intro k o' hk;rcases Ke.1 hk with hk | hk
   ·cases hk;exact ad _ _ (Zac (by rw[Zbt];exact ap)) ab h5
   ·exact(h3 k o' hk).2.1
  ·intro i j o1 o2 b hi hj aw ar;rcases Ke.1 hi with hi | hi<;>rcases Ke.1 hj with hj | hj
   ·cases hi;cases hj;rfl
   ·exact(ar.nil (h3 j o2 hj).2.2).elim
   ·exact(aw.nil (h3 i o1 hi).2.2).elim
   ·exact(ar.nil (h3 j o2 hj).2.2).elim
  ·intro k o' b hk aa;rcases Ke.1 hk with hk | hk
   ·cases hk;have aa:=aa.box (by rw[Zbt];exact ap);rw[ab] at aa;cases aa;exact Kf _
   ·exact(aa.nil (h3 k o' hk).2.2).elim
  ·intro k hk;have al:k≠base:=fun e=>hb.self (e ▸ hk);have af:k<base+1∨base+64≤k:=by
    rcases KO k (base+1) with h' | h'
    ·exact .inl h'
    ·rcases KO k (base+64) with ag | ag
     ·exact absurd hk (hb k (by omega) ag)
     ·exact .inr ag
   rw[h2 k af,Qb _ _ al]
  ·intro id ae;have al:id≠base:=fun e=>ae (.inr (by omega));have af:id<base+1∨base+64≤id:=by
    rcases KO id (base+1) with h' | h'
    ·exact .inl h'
    ·rcases KO id (base+64) with ag | ag
     ·exact absurd (.inr ⟨by omega,ag⟩) ae
     ·exact .inr ag
   rw[h2 id af,Qb _ _ al];exact h.names id (fun hu=>ae (.inl hu))
  ·exact⟨(w.heap.size,e),ab,rfl⟩
def RepT (Γ:Gh) (w:World) (I:Nat→Prop) (base t:Nat) (x:AV) (v:Value):Prop:=(QP Γ w I x v∧ZbE base x=x)∨(∃ i,x=.bnil i t)∧v=.pointer none
theorem Zof (base:Nat) (v:Value):ZbE base (YO v)=YO v:=by
 unfold YO;split<;>rfl
theorem Znd (base:Nat) (z:Value):∀ x∈(evC z).cells,ZbE base x=x:=by
 intro x hx;have aa:∀ v:Value,x∈(YO v).cells→ZbE base x=x:=by
  intro v hx;unfold YO at hx;split at hx<;>simp only[AV.cells,D.cells,Ko,Lk,KC] at hx<;>subst hx<;>rfl
 unfold evC at hx;split at hx
 ·rename_i cs;unfold Vs at hx;cases hd:UB (cs.toList.map YO) with
  | some ds=>
   rw[hd] at hx;simp only[Y7,AV.cells,Lc] at hx;obtain⟨y,_,rfl⟩:=hx;rfl
  | none=>
   rw[hd] at hx;simp only[Y7] at hx;split at hx
   ·simp only[AV.cells,KC] at hx;subst hx;rfl
   ·simp only[AV.cells,Lc] at hx;obtain⟨y,_,rfl⟩:=hx;exact Zof base y
 ·exact aa _ hx
theorem Zog {v:Value} (h:YO v=.nil):v=.slice none 0 0:=by
 unfold YO at h;split at h<;>first | rfl | cases h
theorem ZiX {z:Value} (h:(evC z).cells=[.nilp,.nil]):∃ x,z.cells.toList=[x,.slice none 0 0]:=by
 unfold evC at h;split at h
 ·rename_i cs;unfold Vs at h;cases hd:UB (cs.toList.map YO) with
  | some ds=>
   rw[hd] at h;simp only[Y7,AV.cells] at h
   match (D.agg ds).cells,h with
   | a :: _,h=>simp only[Ko,List.cons.injEq] at h;exact absurd h.1 (by simp)
   | [],h=>cases h
  | none=>
   rw[hd] at h;simp only[Y7] at h;split at h
   ·cases h
   ·simp only[AV.cells] at h
    match hl:cs.toList,h with
    | [x,y],h=>
     simp only[Ko,Lk,List.cons.injEq,and_true] at h;exact⟨x,by rw[Zog h.2]⟩
    | [],h=>cases h
    | [_],h=>simp at h
    | _ :: _ :: _ :: _,h=>simp at h
 ·exfalso
  unfold YO at h;split at h<;>simp[AV.cells,D.cells] at h
theorem ZqC {Γ:Gh} {w:World} {I:Nat→Prop} {base b t te:Nat} (hb:Γ base=some (.box (b,t))) {z:Value} (ht:∀ x∈(evC z).cells,ZbE base x=x) (hr:Zp (QP Γ w I) (evC z).cells z.cells.toList):Zp (RepT Γ w I base t) (bnT t te (evC z).cells) z.cells.toList:=by
 have aa:∀ {cs:List AV} {vs:List Value},(∀ x∈cs,ZbE base x=x)→Zp (QP Γ w I) cs vs→Zp (RepT Γ w I base t) cs vs:=by
  intro cs
  induction cs with
  | nil=>intro vs _ h;cases vs with
   | nil=>trivial
   | cons _ _=>exact h.elim
  | cons x r ih=>intro vs ht h;cases vs with
   | nil=>exact h.elim
   | cons v vs=>exact⟨.inl ⟨h.1,ht x (by simp)⟩,ih (fun y hy=>ht y (by simp[hy])) h.2⟩
 unfold bnT;split
 ·rename_i hc;obtain⟨x,hx⟩:=ZiX hc;rw[hc,hx] at hr;rw[hx];exact⟨.inr ⟨⟨0,rfl⟩,hr.1⟩,.inl ⟨⟨_,_,_,rfl⟩,rfl⟩,trivial⟩
 ·exact aa ht hr
theorem ZqD {Γ:Gh} {w:World} {I:Nat→Prop} {base b t:Nat} (hb:Γ base=some (.box (b,t))) {cs:List AV} {vs:List Value} (hr:Zp (RepT Γ w I base t) cs vs):Zp (QP Γ w I) (cs.map (ZbE base)) vs:=by
 refine hr.map_left fun x v hx=>?_;rcases hx with hx | ⟨⟨i,rfl⟩,rfl⟩
 ·rw[hx.2];exact hx.1
 ·exact⟨b,hb,.inl rfl⟩
theorem ZqE (z:Value):QH (evC z).cells=true:=by
 rw[Zd4];intro te l hm;have aa:∀ v:Value,AV.bbuf te l∈(YO v).cells→False:=by
  intro v hx;unfold YO at hx;split at hx<;>simp[AV.cells,D.cells] at hx
 unfold evC at hm;split at hm
 ·rename_i cs;unfold Vs at hm;cases hd:UB (cs.toList.map YO) with
  | some ds=>
   rw[hd] at hm;simp[Y7,AV.cells] at hm
  | none=>
   rw[hd] at hm;simp only[Y7] at hm;split at hm
   ·simp[AV.cells] at hm
   ·simp only[AV.cells,Lc] at hm;obtain⟨y,_,hy⟩:=hm;unfold YO at hy;split at hy<;>cases hy
 ·exact aa _ hm
theorem Zmr {base:Nat} {cs:List AV} (h:∀ x∈cs,ZbE base x=x):cs.map (ZbE base)=cs:=by
 rw[Kw h,List.map_id']
theorem Zoh (base t te:Nat) (z:Value):(QH ((bnT t te (evC z).cells).map (ZbE base))=true)∨∃ u,(bnT t te (evC z).cells).map (ZbE base)=[.bnil base t,.bbuf te []]∧z.cells.toList=[u,.slice none 0 0]:=by
 unfold bnT;split
 ·rename_i hc;obtain⟨x,hx⟩:=ZiX hc;exact .inr ⟨x,rfl,hx⟩
 ·rw[Zmr (Znd base z)];exact .inl (ZqE z)
theorem Zpo (h:Sim nt F A I Γ U sl hp a w) {o:Oper} {t:TypeId} {z:Value} (ho:o.op=.alloc t) (hz:WB P t=some z) {base:Nat} (hb:Qw U base) (hd:Qh nt o.dst=true) {ce:Zb} {slc:List (Option Nat)} {te:Nat}
  (aa:Qn base (base+64) ce.eff.adds=true) (hv:ZaI slc base (bnT t te (evC z).cells)=some ce):U6 P nt F A I Γ U sl hp a w o base ce:=by
 refine Znc h hb hd (e:=t) (ZqD (Zw _ _ _) (ZqC (te:=te) (Zw _ _ _) (Znd base z) ((Zd5 Γ w I z).mono fun _ _ hx=>hx.mono (XU _ (h.names base hb.self)) ⟨fun _ h=>h,fun b hb=>Q6 w _ b (h.bound b hb)⟩))) slc ?_ aa ?_ (.inl ?_)
 ·rcases Zoh base t te z with h1 | ⟨u,h1,h2⟩
  ·exact .inl h1
  ·exact .inr ⟨_,te,u,h1,h2⟩
 ·unfold ZaI Zgd at hv;split at hv
  ·split at hv
   ·cases hv;exact .inl rfl
   ·cases hv
  ·rename_i hn;split at hv
   ·cases hv;exact .inr ⟨by simpa using hn,rfl⟩
   ·cases hv;exact .inl rfl
 ·simp[execOp,ho,Instr.alloc,Jn hz,newVar,newRow]
theorem op_box (h:Sim nt F A I Γ U sl hp a w) {o:Oper} {t:TypeId} {x:Operand} {y:Opd} (ho:o.op=.box t x) (hc:ZI x=some y) {base:Nat} (hb:Qw U base) (hd:Qh nt o.dst=true) {ce:Zb}
  (aa:Qn base (base+64) ce.eff.adds=true) (hv:ZnZ base (evO sl y)=some ce):U6 P nt F A I Γ U sl hp a w o base ce:=by
 unfold ZnZ at hv;split at hv
 ·rename_i hs;simp only[Kb] at hs;obtain⟨hs,ab⟩:=hs;cases hv;refine Znc h hb hd (e:=t) ((Rep.cells hs (h.slOK.ev hc)).mono fun _ _ hx=>hx.mono (XU _ (h.names base hb.self)) ⟨fun _ h=>h,fun b hb=>Q6 w _ b (h.bound b hb)⟩) [] (.inl ab) aa (.inl rfl) (.inl ?_);simp[execOp,ho,Instr.box,newVar,newRow]
 ·cases hv
def Zh.soft:Zh→Bool
 | .row _ _ _ fz=>!fz
 | .tree _ _ _ _=>true
 | .gone=>false
 | .box _=>false
def Zh.thaw:Zh→Bool
 | .row _ _ _ fz=>!fz
 | .tree _ _ _ _=>false
 | .gone=>false
 | .box _=>false
def ZaU (Γ:Gh) (w:World) (hp:Hp) (I:Nat→Prop) (ids:List Nat) (b:Nat):Prop:=
 I b∨∃ id∈ids,∃ o,lkp hp id=some o∧o.soft=true∧Blk Γ w id o b
def QI (Γ:Gh) (w:World) (hp:Hp) (I:Nat→Prop) (ids:List Nat) (b:Nat):Prop:=
 I b∨∃ id∈ids,∃ o,lkp hp id=some o∧o.thaw=true∧Blk Γ w id o b
theorem ZiY {a:Option Addr} {n c sz b:Nat} (h:Zo (some (.row a n c sz))=some b):∃ ad,a=some ad∧ad.block=b∧c≠0:=by
 cases a with
 | none=>simp[Zo] at h
 | some ad=>
  simp only[Zo] at h;split at h
  ·cases h
  ·cases h;exact⟨ad,rfl,rfl,by assumption⟩
theorem Sim.froze_F (h:Sim nt F A I Γ U sl hp a w) {ids:List Nat} {b:Nat} (hb:QI Γ w hp I ids b):I b∨F b:=by
 rcases hb with hb | ⟨id,aa,o,hl,_,hb⟩
 ·exact .inl hb
 ·exact .inr (Zdd (h.objs id o hl) hb)
theorem Sim.frozeL_F (h:Sim nt F A I Γ U sl hp a w) {ids:List Nat} {b:Nat} (hb:ZaU Γ w hp I ids b):I b∨F b:=by
 rcases hb with hb | ⟨id,aa,o,hl,_,hb⟩
 ·exact .inl hb
 ·exact .inr (Zdd (h.objs id o hl) hb)
theorem ZaV {id:Nat} {o:Zh} {t:Bool} {b:Nat} (h:Blk Γ w id (if t then XD o else o) b):Blk Γ w id o b:=by
 cases t with
 | false=>exact h
 | true=>
  cases o with
  | box cs=>exact h
  | row sz xs ex fz=>exact h
  | gone=>exact h
  | tree sz ns xs lk=>exact h
theorem Sim.freeze (h:Sim nt F A I Γ U sl hp a w) (ids:List Nat):Sim nt F A (QI Γ w hp I ids) Γ U sl (ZW ids hp) a w:=by
 have aa:ZB I (QI Γ w hp I ids) w w:=⟨fun _ h=>.inl h,fun _ _=>rfl⟩
 refine { nt:=h.nt,dfr:=h.dfr,slots:=fun t=>(h.slots t).mono (ZU.refl Γ) aa,objs:=?_,inj:=?_,bound:=?_,fresh:=h.fresh,own:=h.own,names:=h.names,glob:=h.glob.mono aa }
 ·intro id o hl;rw[ZQ] at hl;cases hl0:lkp hp id with
  | none=>rw[hl0] at hl;cases hl
  | some o0=>
   rw[hl0] at hl;simp only[KK,Option.some.injEq] at hl;have ho:=h.objs id o0 hl0;have ab:∀ b,Blk Γ w id o0 b→(ids.contains id=false∨o0.thaw=false)→QI Γ w hp I ids b→I b:=by
    intro b hb ae af;rcases af with af | ⟨aj,ag,o',ah,ak,al⟩
    ·exact af
    ·have he:=h.inj id aj _ _ b hl0 ah hb al;subst he;rw[hl0] at ah;cases ah;rcases ae with ae | ae
     ·simp at ae;exact absurd ag ae
     ·rw[ak] at ae;cases ae
   split at hl
   ·rename_i ai;subst hl;cases o0 with
    | box cs=>exact ho.mono (ZU.refl Γ) aa fun b hb=>⟨rfl,ab b hb (.inr rfl)⟩
    | gone=>exact ho.mono (ZU.refl Γ) aa fun b hb=>⟨rfl,ab b hb (.inr rfl)⟩
    | tree sz ns xs lk=>exact ho.mono (ZU.refl Γ) aa fun b hb=>⟨rfl,ab b hb (.inr rfl)⟩
    | row sz xs ex fz=>
     simp only[XD];cases fz with
     | true=>exact ho.mono (ZU.refl Γ) aa fun b hb=>⟨rfl,ab b hb (.inr rfl)⟩
     | false=>
      obtain⟨ad,n,c,h1,h2,h3⟩:=ho;refine⟨ad,n,c,h1,h2,?_⟩;rcases h3 with h3 | ⟨g,q0,cur,e,rfl,hc,hw,h4,h5,h6,h7,h8,am,h9⟩
      ·exact .inl h3
      ·refine .inr ⟨g,q0,cur,e,rfl,hc,hw,h4,h5,h6,h7,?_,am,?_⟩
       ·simp only[Kl];exact .inr ⟨id,by simpa using ai,_,hl0,rfl,.inl (by rw[h1];simp[Zo,Ku hc])⟩
       ·cases ex
        ·exact h9.mono' aa rfl
        ·simp only[Kl] at h9 ⊢;exact h9.mono' ⟨fun b hb=>⟨aa.sub b hb.1,hb.2⟩,fun _ _=>rfl⟩ rfl
   ·rename_i ai;subst hl;exact ho.mono (ZU.refl Γ) aa fun b hb=>⟨rfl,ab b hb (.inl (by simpa using ai))⟩
 ·intro i j o o' b hi hj an ao;rw[ZQ] at hi hj;cases hi0:lkp hp i with
  | none=>rw[hi0] at hi;cases hi
  | some oi=>cases hj0:lkp hp j with
   | none=>rw[hj0] at hj;cases hj
   | some oj=>
    rw[hi0] at hi;rw[hj0] at hj;simp only[KK,Option.some.injEq] at hi hj;subst hi hj;exact h.inj i j oi oj b hi0 hj0 (ZaV an) (ZaV ao)
 ·intro b hb;rcases hb with hb | ⟨id,ap,o,hl,_,hb⟩
  ·exact h.bound b hb
  ·exact h.blk_lt hl hb
theorem froze_nil (Γ:Gh) (w:World) (hp:Hp) (I:Nat→Prop) (b:Nat):QI Γ w hp I [] b↔I b:=by simp[QI]
theorem XQ.of_freeze (h:Sim nt F A I Γ U sl hp a w) (ids:List Nat) {U' : Nat→Prop} {sl' : Sl} {hp' : Hp} {a' : Act} {w' : World}
  (hp:XQ nt F A (QI Γ w hp I ids) Γ w U' sl' hp' a' w'):XQ nt F A I Γ w U' sl' hp' a' w':=by
 obtain⟨I',Γ',h1,h2,h3,h4,h5⟩:=hp;refine⟨I',Γ',h1,⟨fun b hb=>h2.sub b (.inl hb),fun b hb=>h2.blk b (.inl hb)⟩,fun b hb=>?_,h4,h5⟩;rcases h3 b hb with h6 | h6
 ·exact h.froze_F h6
 ·exact .inr h6
end
end Go.Abs
