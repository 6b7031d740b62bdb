/- Own text. -/
import Derived.Test.YtefabmohhbhlfaaAbsStep
set_option linter.unusedVariables false
set_option linter.unusedSimpArgs false
namespace Go.Abs
open Go
theorem QO (v:AV) (adds sets:Hp) (dels frz:List Nat) (dst:Option Nat) (sl:Sl) (hp:Hp) :
  Zb.on { eff := { val:=v,adds:=adds,sets:=sets,dels:=dels,frz:=frz },gone:=[] } dst sl hp =
   (Zk sl dst v,Zd (Zd (ZU (Z8 frz hp) dels) sets) adds):=rfl
section
variable {P:Program} {nt:Nat} {U:Nat→Prop} {F A I:Nat→Prop} {Γ:Gh} {sl:Sl} {hp:Hp} {a:Act} {w:World}
def ZaP (P:Program) (nt:Nat) (F A I:Nat→Prop) (Γ:Gh) (U:Nat→Prop) (sl:Sl) (hp:Hp) (a:Act) (w:World) (o:Oper) (base:Nat) (ce:Zb):Prop:=
 ∃ u w',ZjC P o a w u w'∧YB nt F A I Γ w (W3 U base) (ce.on o.dst sl hp).1 (ce.on o.dst sl hp).2 (a.put o.dst u) w'
theorem Xx.opOK (h:Sim nt F A I Γ U sl hp a w) {o:Oper} {base:Nat} {ce:Zb} (hb:QJ U base) (hd:Qv nt o.dst=true) (hp' : Xx P Γ I o a w ce):ZaP P nt F A I Γ U sl hp a w o base ce:=by
 obtain⟨u,r,h1,rfl,h2⟩:=hp';exact⟨u,w,h1,h.pure (fun id hu=>.inl hu) h2 hd⟩
theorem ZrK (h:Sim nt F A I Γ U sl hp a w) {o:Oper} {x:Operand} {y:Opd} {e:Option Nat} (ho:o.op=.assign x) (hc:ZO x=some y) {base:Nat} (hb:QJ U base) (hd:Qv nt o.dst=true) {ce:Zb}
  (ae:QA base (base+64) ce.eff.adds=true) (hv:ZbI base e (evO sl y)=some ce):ZaP P nt F A I Γ U sl hp a w o base ce:=by
 unfold ZbI at hv;split at hv
 ·rename_i hy;obtain⟨s,hs,hv⟩:=Za hv;cases hv;have h1:=h.slOK.ev hc;rw[hy] at h1;obtain⟨ad,h2⟩:=h1;refine⟨a.eval x,w,.inl (by simp[execOp,ho]),?_⟩;rw[QO,h2];refine h.add (Γ':=upd Γ base (.row ad 0 0 s)) (YL _ (h.names base hb.self)) (fun _ _=>rfl) (Kh _) rfl rfl rfl ?_ ?_ ?_ ?_ ?_ ?_ hd
  ·intro k o' hk;simp at hk;obtain⟨rfl,rfl⟩:=hk;exact⟨ad,0,0,Zz _ _ _,rfl,.inl ⟨rfl,rfl⟩⟩
  ·intro i j o1 o2 b hi hj _ _;simp at hi hj;omega
  ·intro k o' b hk ab;simp at hk;obtain⟨rfl,rfl⟩:=hk;exact(ab.nil (by rw[Zz];cases ad<;>simp[Zq])).elim
  ·intro k hk;exact Qn _ _ (fun e=>hb.self (e ▸ hk))
  ·intro id aa;rw[Qn _ _ (fun e=>aa (.inr (by omega)))];exact h.names id (fun hu=>aa (.inl hu))
  ·exact⟨ad,0,0,s,Zz _ _ _,rfl⟩
 ·exact(Zgf (.inr ho) h.slOK hc hv).opOK h hb hd
theorem ZfA:∀ (vs:List Value),ZaD (vs.map VM)=false
 | []=>rfl
 | v :: vs=>by
  simp only[Kn,ZaD,ZfA vs,Bool.or_false];cases v<;>try rfl
  ·rename_i x;cases x<;>rfl
  ·rename_i x n c;cases x<;>cases n<;>cases c<;>rfl
theorem Zgt (Γ:Gh) (w:World) (I:Nat→Prop) (z:Value):Zr (Xd Γ w I) (evC z).cells z.cells.toList:=by
 have one:∀ z:Value,(∀ c,z≠.agg c)→(VM z).cells=[VM z]:=by
  intro z hz;cases z<;>try rfl
  ·rename_i x;cases x<;>rfl
  ·rename_i x n c;cases x<;>cases n<;>cases c<;>rfl
 cases z with
 | agg cs=>
  refine Rep.cells ?_ (Zqg (Value.agg cs));simp only[evC,WO];cases J6 (cs.toList.map VM)
  ·simp only[We,ZfA,Ka,Kf];rfl
  ·rfl
 | _=>
  simp only[evC];rw[one _ (by simp)];exact⟨Zf8 _,trivial⟩
theorem XB (w:World) (o:Obj):∀ k,k<w.heap.size→(w.alloc o).heap[k]?=w.heap[k]?:=fun k hk=>heap_alloc_old w o k hk
theorem Zqx (h:Sim nt F A I Γ U sl hp a w) {o:Oper} {base:Nat} (hb:QJ U base) (hd:Qv nt o.dst=true) {e:TypeId} {cs:List AV} {vs:Array Value} (hr:Zr (Xd (upd Γ base (.box (w.heap.size,e))) (w.alloc (.cells vs e)) I) cs vs.toList)
  (slc:List (Option Nat)) (hq:QP cs=true∨∃ x te u,cs=[x,.bbuf te []]∧vs.toList=[u,.slice none 0 0]) {ce:Zb} (am:QA base (base+64) ce.eff.adds=true)
  (hv:ce = { eff := { val:=.ptr base 0,adds:=[(base,.box cs)] },gone:=[] } ∨
   QP cs=true∧ce = { eff := { val:=.ptr base 0,adds:=(base,.box (mat slc cs (base+1)).1) :: (mat slc cs (base+1)).2 },gone:=[] })
  (hg:ZjC P o a w (.pointer (some ⟨w.heap.size,0,none⟩)) (w.alloc (.cells vs e))):ZaP P nt F A I Γ U sl hp a w o base ce:=by
 refine⟨_,_,hg,?_⟩;have hI:ZF I I w (w.alloc (.cells vs e)):=⟨fun _ h=>h,fun b hb=>XB w _ b (h.bound b hb)⟩
 have an:=YL (.box (w.heap.size,e)) (h.names base hb.self);have au:∀ id,base+1≤id→id<base+64→upd Γ base (.box (w.heap.size,e)) id=none:=fun id ae av=>by rw[Qn _ _ (by omega)];exact h.names id (hb id (by omega) av)
 have ao:=hr;have ad:∀ (Γ' : Gh) (ai : List AV),Zal (w.alloc (.cells vs e)) I F w.heap.size ai vs.toList→Γ' base=some (.box (w.heap.size,e))→Zr (Xd Γ' (w.alloc (.cells vs e)) I) ai vs.toList→XZ Γ' (w.alloc (.cells vs e)) I F A base (.box ai):=
  fun Γ' ai h0 h1 h2=>⟨w.heap.size,vs,e,h1,heap_alloc_new w _,fun hi=>absurd (h.bound _ hi) (by omega),h.fresh _ (Kh _),h2,h0⟩
 rcases hv with rfl | ⟨ap,rfl⟩
 ·rw[QO];refine h.add (Γ':=upd Γ base (.box (w.heap.size,e))) an (XB w _) (by simp) rfl rfl rfl ?_ ?_ ?_ ?_ ?_ ?_ hd
  ·intro k o' hk;simp at hk;obtain⟨rfl,rfl⟩:=hk;exact ad _ _ (by
    rcases hq with hq | ⟨x,te,u,rfl,aj⟩
    ·exact Zb4 hq
    ·rw[aj];exact .inl ⟨rfl,rfl⟩) (Zz _ _ _) ao
  ·intro i j o1 o2 b hi hj _ _;simp at hi hj;omega
  ·intro k o' b hk aa;simp at hk;obtain⟨rfl,rfl⟩:=hk;rcases hq with hq | ⟨x,te,u,rfl,aj⟩
   ·have aa:=aa.box hq;rw[Zz] at aa;cases aa;exact Kh _
   ·rcases aa with aa | aa | ⟨g,aq,ak⟩
    ·rw[Zz] at aa;cases aa;exact Kh _
    ·exact aa.elim
    ·rw[Zz] at aq;cases aq;have ah:(w.alloc (.cells vs e)).cell? ⟨w.heap.size,1,none⟩=some (.slice none 0 0):=by
      have h2:(w.alloc (.cells vs e)).heap[w.heap.size]?=some (.cells vs e (0,0)):=heap_alloc_new w _;simpa using Zcw h2 1 (.slice none 0 0) (by rw[aj];rfl)
     unfold Zfn at ak;rw[show (((w.heap.size,e):Nat×Nat).1)=w.heap.size from rfl,ah] at ak;simp[Zn5] at ak
  ·intro k hk;exact Qn _ _ (fun e=>hb.self (e ▸ hk))
  ·intro id ae;rw[Qn _ _ (fun e=>ae (.inr (by omega)))];exact h.names id (fun hu=>ae (.inl hu))
  ·exact⟨(w.heap.size,e),Zz _ _ _,rfl⟩
 ·rw[QO];simp only[QA,Kb,Kj] at am;obtain⟨Γ',h1,h2,h3,h5⟩:=Ztb (w.alloc (.cells vs e)) I F A (base+64) slc cs vs.toList (base+1) (upd Γ base (.box (w.heap.size,e))) am.2 au ao;have ab:Γ' base=some (.box (w.heap.size,e)):=by rw[h2 base (by omega),Zz]
  refine h.add (Γ':=Γ') (fun id r hr=>h1 _ _ (an _ _ hr)) (XB w _) (by simp) rfl rfl rfl ?_ ?_ ?_ ?_ ?_ ?_ hd
  ·intro k o' hk;rcases Ke.1 hk with hk | hk
   ·cases hk;exact ad _ _ (Zb4 (by rw[Zdr];exact ap)) ab h5
   ·exact(h3 k o' hk).2.1
  ·intro i j o1 o2 b hi hj aw ar;rcases Ke.1 hi with hi | hi<;>rcases Ke.1 hj with hj | hj
   ·cases hi;cases hj;rfl
   ·exact(ar.nil (h3 j o2 hj).2.2).elim
   ·exact(aw.nil (h3 i o1 hi).2.2).elim
   ·exact(ar.nil (h3 j o2 hj).2.2).elim
  ·intro k o' b hk aa;rcases Ke.1 hk with hk | hk
   ·cases hk;have aa:=aa.box (by rw[Zdr];exact ap);rw[ab] at aa;cases aa;exact Kh _
   ·exact(aa.nil (h3 k o' hk).2.2).elim
  ·intro k hk;have al:k≠base:=fun e=>hb.self (e ▸ hk);have af:k<base+1∨base+64≤k:=by
    rcases KX k (base+1) with h' | h'
    ·exact .inl h'
    ·rcases KX k (base+64) with ag | ag
     ·exact absurd hk (hb k (by omega) ag)
     ·exact .inr ag
   rw[h2 k af,Qn _ _ al]
  ·intro id ae;have al:id≠base:=fun e=>ae (.inr (by omega));have af:id<base+1∨base+64≤id:=by
    rcases KX id (base+1) with h' | h'
    ·exact .inl h'
    ·rcases KX id (base+64) with ag | ag
     ·exact absurd (.inr ⟨by omega,ag⟩) ae
     ·exact .inr ag
   rw[h2 id af,Qn _ _ al];exact h.names id (fun hu=>ae (.inl hu))
  ·exact⟨(w.heap.size,e),ab,rfl⟩
def RepT (Γ:Gh) (w:World) (I:Nat→Prop) (base t:Nat) (x:AV) (v:Value):Prop:=(Xd Γ w I x v∧ZcE base x=x)∨(∃ i,x=.bnil i t)∧v=.pointer none
theorem ZrL (base:Nat) (v:Value):ZcE base (VM v)=VM v:=by
 unfold VM;split<;>rfl
theorem Zqy (base:Nat) (z:Value):∀ x∈(evC z).cells,ZcE base x=x:=by
 intro x hx;have aa:∀ v:Value,x∈(VM v).cells→ZcE base x=x:=by
  intro v hx;unfold VM at hx;split at hx<;>simp only[AV.cells,D.cells,Kn,KB,KA] at hx<;>subst hx<;>rfl
 unfold evC at hx;split at hx
 ·rename_i cs;unfold WO at hx;cases hd:J6 (cs.toList.map VM) with
  | some ds=>
   rw[hd] at hx;simp only[We,AV.cells,KQ] at hx;obtain⟨y,_,rfl⟩:=hx;rfl
  | none=>
   rw[hd] at hx;simp only[We] at hx;split at hx
   ·simp only[AV.cells,KA] at hx;subst hx;rfl
   ·simp only[AV.cells,KQ] at hx;obtain⟨y,_,rfl⟩:=hx;exact ZrL base y
 ·exact aa _ hx
theorem ZrM {v:Value} (h:VM v=.nil):v=.slice none 0 0:=by
 unfold VM at h;split at h<;>first | rfl | cases h
theorem ZlC {z:Value} (h:(evC z).cells=[.nilp,.nil]):∃ x,z.cells.toList=[x,.slice none 0 0]:=by
 unfold evC at h;split at h
 ·rename_i cs;unfold WO at h;cases hd:J6 (cs.toList.map VM) with
  | some ds=>
   rw[hd] at h;simp only[We,AV.cells] at h
   match (D.agg ds).cells,h with
   | a :: _,h=>simp only[Kn,List.cons.injEq] at h;exact absurd h.1 (by simp)
   | [],h=>cases h
  | none=>
   rw[hd] at h;simp only[We] at h;split at h
   ·cases h
   ·simp only[AV.cells] at h
    match hl:cs.toList,h with
    | [x,y],h=>
     simp only[Kn,KB,List.cons.injEq,and_true] at h;exact⟨x,by rw[ZrM h.2]⟩
    | [],h=>cases h
    | [_],h=>simp at h
    | _ :: _ :: _ :: _,h=>simp at h
 ·exfalso
  unfold VM at h;split at h<;>simp[AV.cells,D.cells] at h
theorem Zuw {Γ:Gh} {w:World} {I:Nat→Prop} {base b t te:Nat} (hb:Γ base=some (.box (b,t))) {z:Value} (ht:∀ x∈(evC z).cells,ZcE base x=x) (hr:Zr (Xd Γ w I) (evC z).cells z.cells.toList):Zr (RepT Γ w I base t) (bnT t te (evC z).cells) z.cells.toList:=by
 have aa:∀ {cs:List AV} {vs:List Value},(∀ x∈cs,ZcE base x=x)→Zr (Xd Γ w I) cs vs→Zr (RepT Γ w I base t) cs vs:=by
  intro cs
  induction cs with
  | nil=>intro vs _ h;cases vs with
   | nil=>trivial
   | cons _ _=>exact h.elim
  | cons x r ih=>intro vs ht h;cases vs with
   | nil=>exact h.elim
   | cons v vs=>exact⟨.inl ⟨h.1,ht x (by simp)⟩,ih (fun y hy=>ht y (by simp[hy])) h.2⟩
 unfold bnT;split
 ·rename_i hc;obtain⟨x,hx⟩:=ZlC hc;rw[hc,hx] at hr;rw[hx];exact⟨.inr ⟨⟨0,rfl⟩,hr.1⟩,.inl ⟨⟨_,_,_,rfl⟩,rfl⟩,trivial⟩
 ·exact aa ht hr
theorem Zux {Γ:Gh} {w:World} {I:Nat→Prop} {base b t:Nat} (hb:Γ base=some (.box (b,t))) {cs:List AV} {vs:List Value} (hr:Zr (RepT Γ w I base t) cs vs):Zr (Xd Γ w I) (cs.map (ZcE base)) vs:=by
 refine hr.map_left fun x v hx=>?_;rcases hx with hx | ⟨⟨i,rfl⟩,rfl⟩
 ·rw[hx.2];exact hx.1
 ·exact⟨b,hb,.inl rfl⟩
theorem Zuy (z:Value):QP (evC z).cells=true:=by
 rw[Zgs];intro te l hm;have aa:∀ v:Value,AV.bbuf te l∈(VM v).cells→False:=by
  intro v hx;unfold VM at hx;split at hx<;>simp[AV.cells,D.cells] at hx
 unfold evC at hm;split at hm
 ·rename_i cs;unfold WO at hm;cases hd:J6 (cs.toList.map VM) with
  | some ds=>
   rw[hd] at hm;simp[We,AV.cells] at hm
  | none=>
   rw[hd] at hm;simp only[We] at hm;split at hm
   ·simp[AV.cells] at hm
   ·simp only[AV.cells,KQ] at hm;obtain⟨y,_,hy⟩:=hm;unfold VM at hy;split at hy<;>cases hy
 ·exact aa _ hm
theorem ZpD {base:Nat} {cs:List AV} (h:∀ x∈cs,ZcE base x=x):cs.map (ZcE base)=cs:=by
 rw[Kx h,List.map_id']
theorem ZrN (base t te:Nat) (z:Value):(QP ((bnT t te (evC z).cells).map (ZcE base))=true)∨∃ u,(bnT t te (evC z).cells).map (ZcE base)=[.bnil base t,.bbuf te []]∧z.cells.toList=[u,.slice none 0 0]:=by
 unfold bnT;split
 ·rename_i hc;obtain⟨x,hx⟩:=ZlC hc;exact .inr ⟨x,rfl,hx⟩
 ·rw[ZpD (Zqy base z)];exact .inl (Zuy z)
theorem Ztc (h:Sim nt F A I Γ U sl hp a w) {o:Oper} {t:TypeId} {z:Value} (ho:o.op=.alloc t) (hz:UT P t=some z) {base:Nat} (hb:QJ U base) (hd:Qv nt o.dst=true) {ce:Zb} {slc:List (Option Nat)} {te:Nat}
  (aa:QA base (base+64) ce.eff.adds=true) (hv:ZcF slc base (bnT t te (evC z).cells)=some ce):ZaP P nt F A I Γ U sl hp a w o base ce:=by
 refine Zqx h hb hd (e:=t) (Zux (Zz _ _ _) (Zuw (te:=te) (Zz _ _ _) (Zqy base z) ((Zgt Γ w I z).mono fun _ _ hx=>hx.mono (YL _ (h.names base hb.self)) ⟨fun _ h=>h,fun b hb=>XB w _ b (h.bound b hb)⟩))) slc ?_ aa ?_ (.inl ?_)
 ·rcases ZrN base t te z with h1 | ⟨u,h1,h2⟩
  ·exact .inl h1
  ·exact .inr ⟨_,te,u,h1,h2⟩
 ·unfold ZcF Zjp at hv;split at hv
  ·split at hv
   ·cases hv;exact .inl rfl
   ·cases hv
  ·rename_i hn;split at hv
   ·cases hv;exact .inr ⟨by simpa using hn,rfl⟩
   ·cases hv;exact .inl rfl
 ·simp[execOp,ho,Instr.alloc,Za5 hz,newVar,newRow]
theorem op_box (h:Sim nt F A I Γ U sl hp a w) {o:Oper} {t:TypeId} {x:Operand} {y:Opd} (ho:o.op=.box t x) (hc:ZO x=some y) {base:Nat} (hb:QJ U base) (hd:Qv nt o.dst=true) {ce:Zb}
  (aa:QA base (base+64) ce.eff.adds=true) (hv:Zrw base (evO sl y)=some ce):ZaP P nt F A I Γ U sl hp a w o base ce:=by
 unfold Zrw at hv;split at hv
 ·rename_i hs;simp only[Kb] at hs;obtain⟨hs,ab⟩:=hs;cases hv;refine Zqx h hb hd (e:=t) ((Rep.cells hs (h.slOK.ev hc)).mono fun _ _ hx=>hx.mono (YL _ (h.names base hb.self)) ⟨fun _ h=>h,fun b hb=>XB w _ b (h.bound b hb)⟩) [] (.inl ab) aa (.inl rfl) (.inl ?_);simp[execOp,ho,Instr.box,newVar,newRow]
 ·cases hv
def Zg.soft:Zg→Bool
 | .row _ _ _ fz=>!fz
 | .tree _ _ _ _=>true
 | .gone=>false
 | .box _=>false
def Zg.thaw:Zg→Bool
 | .row _ _ _ fz=>!fz
 | .tree _ _ _ _=>false
 | .gone=>false
 | .box _=>false
def ZcQ (Γ:Gh) (w:World) (hp:Hp) (I:Nat→Prop) (ids:List Nat) (b:Nat):Prop:=
 I b∨∃ id∈ids,∃ o,lkp hp id=some o∧o.soft=true∧Blk Γ w id o b
def Q2 (Γ:Gh) (w:World) (hp:Hp) (I:Nat→Prop) (ids:List Nat) (b:Nat):Prop:=
 I b∨∃ id∈ids,∃ o,lkp hp id=some o∧o.thaw=true∧Blk Γ w id o b
theorem ZlD {a:Option Addr} {n c sz b:Nat} (h:Zq (some (.row a n c sz))=some b):∃ ad,a=some ad∧ad.block=b∧c≠0:=by
 cases a with
 | none=>simp[Zq] at h
 | some ad=>
  simp only[Zq] at h;split at h
  ·cases h
  ·cases h;exact⟨ad,rfl,rfl,by assumption⟩
theorem Sim.froze_F (h:Sim nt F A I Γ U sl hp a w) {ids:List Nat} {b:Nat} (hb:Q2 Γ w hp I ids b):I b∨F b:=by
 rcases hb with hb | ⟨id,aa,o,hl,_,hb⟩
 ·exact .inl hb
 ·exact .inr (Zfz (h.objs id o hl) hb)
theorem Sim.frozeL_F (h:Sim nt F A I Γ U sl hp a w) {ids:List Nat} {b:Nat} (hb:ZcQ Γ w hp I ids b):I b∨F b:=by
 rcases hb with hb | ⟨id,aa,o,hl,_,hb⟩
 ·exact .inl hb
 ·exact .inr (Zfz (h.objs id o hl) hb)
theorem ZcR {id:Nat} {o:Zg} {t:Bool} {b:Nat} (h:Blk Γ w id (if t then Yl o else o) b):Blk Γ w id o b:=by
 cases t with
 | false=>exact h
 | true=>
  cases o with
  | box cs=>exact h
  | row sz xs ex fz=>exact h
  | gone=>exact h
  | tree sz ns xs lk=>exact h
theorem Sim.freeze (h:Sim nt F A I Γ U sl hp a w) (ids:List Nat):Sim nt F A (Q2 Γ w hp I ids) Γ U sl (Z8 ids hp) a w:=by
 have aa:ZF I (Q2 Γ w hp I ids) w w:=⟨fun _ h=>.inl h,fun _ _=>rfl⟩
 refine { nt:=h.nt,dfr:=h.dfr,slots:=fun t=>(h.slots t).mono (Z6.refl Γ) aa,objs:=?_,inj:=?_,bound:=?_,fresh:=h.fresh,own:=h.own,names:=h.names,glob:=h.glob.mono aa }
 ·intro id o hl;rw[ZX] at hl;cases hl0:lkp hp id with
  | none=>rw[hl0] at hl;cases hl
  | some o0=>
   rw[hl0] at hl;simp only[KU,Option.some.injEq] at hl;have ho:=h.objs id o0 hl0;have ab:∀ b,Blk Γ w id o0 b→(ids.contains id=false∨o0.thaw=false)→Q2 Γ w hp I ids b→I b:=by
    intro b hb ae af;rcases af with af | ⟨aj,ag,o',ah,ak,al⟩
    ·exact af
    ·have he:=h.inj id aj _ _ b hl0 ah hb al;subst he;rw[hl0] at ah;cases ah;rcases ae with ae | ae
     ·simp at ae;exact absurd ag ae
     ·rw[ak] at ae;cases ae
   split at hl
   ·rename_i ai;subst hl;cases o0 with
    | box cs=>exact ho.mono (Z6.refl Γ) aa fun b hb=>⟨rfl,ab b hb (.inr rfl)⟩
    | gone=>exact ho.mono (Z6.refl Γ) aa fun b hb=>⟨rfl,ab b hb (.inr rfl)⟩
    | tree sz ns xs lk=>exact ho.mono (Z6.refl Γ) aa fun b hb=>⟨rfl,ab b hb (.inr rfl)⟩
    | row sz xs ex fz=>
     simp only[Yl];cases fz with
     | true=>exact ho.mono (Z6.refl Γ) aa fun b hb=>⟨rfl,ab b hb (.inr rfl)⟩
     | false=>
      obtain⟨ad,n,c,h1,h2,h3⟩:=ho;refine⟨ad,n,c,h1,h2,?_⟩;rcases h3 with h3 | ⟨g,q0,cur,e,rfl,hc,hw,h4,h5,h6,h7,h8,am,h9⟩
      ·exact .inl h3
      ·refine .inr ⟨g,q0,cur,e,rfl,hc,hw,h4,h5,h6,h7,?_,am,?_⟩
       ·simp only[Kg];exact .inr ⟨id,by simpa using ai,_,hl0,rfl,.inl (by rw[h1];simp[Zq,Ky hc])⟩
       ·cases ex
        ·exact h9.mono' aa rfl
        ·simp only[Kg] at h9 ⊢;exact h9.mono' ⟨fun b hb=>⟨aa.sub b hb.1,hb.2⟩,fun _ _=>rfl⟩ rfl
   ·rename_i ai;subst hl;exact ho.mono (Z6.refl Γ) aa fun b hb=>⟨rfl,ab b hb (.inl (by simpa using ai))⟩
 ·intro i j o o' b hi hj an ao;rw[ZX] at hi hj;cases hi0:lkp hp i with
  | none=>rw[hi0] at hi;cases hi
  | some oi=>cases hj0:lkp hp j with
   | none=>rw[hj0] at hj;cases hj
   | some oj=>
    rw[hi0] at hi;rw[hj0] at hj;simp only[KU,Option.some.injEq] at hi hj;subst hi hj;exact h.inj i j oi oj b hi0 hj0 (ZcR an) (ZcR ao)
 ·intro b hb;rcases hb with hb | ⟨id,ap,o,hl,_,hb⟩
  ·exact h.bound b hb
  ·exact h.blk_lt hl hb
theorem froze_nil (Γ:Gh) (w:World) (hp:Hp) (I:Nat→Prop) (b:Nat):Q2 Γ w hp I [] b↔I b:=by simp[Q2]
theorem YB.of_freeze (h:Sim nt F A I Γ U sl hp a w) (ids:List Nat) {U' : Nat→Prop} {sl' : Sl} {hp' : Hp} {a' : Act} {w' : World}
  (hp:YB nt F A (Q2 Γ w hp I ids) Γ w U' sl' hp' a' w'):YB nt F A I Γ w U' sl' hp' a' w':=by
 obtain⟨I',Γ',h1,h2,h3,h4,h5⟩:=hp;refine⟨I',Γ',h1,⟨fun b hb=>h2.sub b (.inl hb),fun b hb=>h2.blk b (.inl hb)⟩,fun b hb=>?_,h4,h5⟩;rcases h3 b hb with h6 | h6
 ·exact h.froze_F h6
 ·exact .inr h6
end
end Go.Abs
