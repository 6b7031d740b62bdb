/- Own text. -/
import Derived.Test.YtdhgppkldoopaaaGreatAbsStep
set_option linter.unusedVariables false
set_option linter.unusedSimpArgs false
namespace Go.Abs
open Go
theorem QY (v:AV) (adds sets:Hp) (dels frz:List Nat) (dst:Option Nat) (sl:Sl) (hp:Hp) :
  Ze.on { eff := { val:=v,adds:=adds,sets:=sets,dels:=dels,frz:=frz },gone:=[] } dst sl hp =
   (Zp sl dst v,Zh (Zh (Qc (Qi frz hp) dels) sets) adds):=rfl
section
variable {P:Program} {nt:Nat} {U:Nat→Prop} {F A I:Nat→Prop} {Γ:Gh} {sl:Sl} {hp:Hp} {a:Act} {w:World}
def Zdh (P:Program) (nt:Nat) (F A I:Nat→Prop) (Γ:Gh) (U:Nat→Prop) (sl:Sl) (hp:Hp) (a:Act) (w:World) (o:Oper) (base:Nat) (ce:Ze):Prop:=
 ∃ u w',ZpI P o a w u w'∧WK nt F A I Γ w (JC U base) (ce.on o.dst sl hp).1 (ce.on o.dst sl hp).2 (a.put o.dst u) w'
theorem X3.opOK (h:Sim nt F A I Γ U sl hp a w) {o:Oper} {base:Nat} {ce:Ze} (hb:QZ U base) (hd:QM nt o.dst=true) (hp' : X3 P Γ I o a w ce):Zdh P nt F A I Γ U sl hp a w o base ce:=by
 obtain⟨u,r,h1,rfl,h2⟩:=hp';exact⟨u,w,h1,h.pure (fun id hu=>.inl hu) h2 hd⟩
theorem ZxG (h:Sim nt F A I Γ U sl hp a w) {o:Oper} {x:Operand} {y:Opd} {e:Option Nat} (ho:o.op=.assign x) (hc:ZW x=some y) {base:Nat} (hb:QZ U base) (hd:QM nt o.dst=true) {ce:Ze}
  (ae:QP base (base+64) ce.eff.adds=true) (hv:ZeL base e (evO sl y)=some ce):Zdh P nt F A I Γ U sl hp a w o base ce:=by
 unfold ZeL at hv;split at hv
 ·rename_i hy;obtain⟨s,hs,hv⟩:=Za hv;cases hv;have h1:=h.slOK.ev hc;rw[hy] at h1;obtain⟨ad,h2⟩:=h1;refine⟨a.eval x,w,.inl (by simp[execOp,ho]),?_⟩;rw[QY,h2];refine h.add (Γ':=upd Γ base (.row ad 0 0 s)) (Vt _ (h.names base hb.self)) (fun _ _=>rfl) (Kk _) rfl rfl rfl ?_ ?_ ?_ ?_ ?_ ?_ hd
  ·intro k o' hk;simp at hk;obtain⟨rfl,rfl⟩:=hk;exact⟨ad,0,0,ZJ _ _ _,rfl,.inl ⟨rfl,rfl⟩⟩
  ·intro i j o1 o2 b hi hj _ _;simp at hi hj;omega
  ·intro k o' b hk ab;simp at hk;obtain⟨rfl,rfl⟩:=hk;exact(ab.nil (by rw[ZJ];cases ad<;>simp[ZA])).elim
  ·intro k hk;exact QA _ _ (fun e=>hb.self (e ▸ hk))
  ·intro id aa;rw[QA _ _ (fun e=>aa (.inr (by omega)))];exact h.names id (fun hu=>aa (.inl hu))
  ·exact⟨ad,0,0,s,ZJ _ _ _,rfl⟩
 ·exact(ZlZ (.inr ho) h.slOK hc hv).opOK h hb hd
theorem Zk9:∀ (vs:List Value),Zc4 (vs.map WD)=false
 | []=>rfl
 | v :: vs=>by
  simp only[Kp,Zc4,Zk9 vs,Bool.or_false];cases v<;>try rfl
  ·rename_i x;cases x<;>rfl
  ·rename_i x n c;cases x<;>cases n<;>cases c<;>rfl
theorem Zmb (Γ:Gh) (w:World) (I:Nat→Prop) (z:Value):Zy (Xx Γ w I) (evC z).cells z.cells.toList:=by
 have one:∀ z:Value,(∀ c,z≠.agg c)→(WD z).cells=[WD z]:=by
  intro z hz;cases z<;>try rfl
  ·rename_i x;cases x<;>rfl
  ·rename_i x n c;cases x<;>cases n<;>cases c<;>rfl
 cases z with
 | agg cs=>
  refine Rep.cells ?_ (Zwq (Value.agg cs));simp only[evC,Jh];cases Zex (cs.toList.map WD)
  ·simp only[W7,Zk9,Kc,Ko];rfl
  ·rfl
 | _=>
  simp only[evC];rw[one _ (by simp)];exact⟨ZlP _,trivial⟩
theorem X4 (w:World) (o:Obj):∀ k,k<w.heap.size→(w.alloc o).heap[k]?=w.heap[k]?:=fun k hk=>heap_alloc_old w o k hk
theorem ZwD (h:Sim nt F A I Γ U sl hp a w) {o:Oper} {base:Nat} (hb:QZ U base) (hd:QM nt o.dst=true) {e:TypeId} {cs:List AV} {vs:Array Value} (hr:Zy (Xx (upd Γ base (.box (w.heap.size,e))) (w.alloc (.cells vs e)) I) cs vs.toList)
  (slc:List (Option Nat)) (hq:XA cs=true∨∃ x te u,cs=[x,.bbuf te []]∧vs.toList=[u,.slice none 0 0]) {ce:Ze} (am:QP base (base+64) ce.eff.adds=true)
  (hv:ce = { eff := { val:=.ptr base 0,adds:=[(base,.box cs)] },gone:=[] } ∨
   XA cs=true∧ce = { eff := { val:=.ptr base 0,adds:=(base,.box (mat slc cs (base+1)).1) :: (mat slc cs (base+1)).2 },gone:=[] })
  (hg:ZpI P o a w (.pointer (some ⟨w.heap.size,0,none⟩)) (w.alloc (.cells vs e))):Zdh P nt F A I Γ U sl hp a w o base ce:=by
 refine⟨_,_,hg,?_⟩;have hI:ZS I I w (w.alloc (.cells vs e)):=⟨fun _ h=>h,fun b hb=>X4 w _ b (h.bound b hb)⟩
 have an:=Vt (.box (w.heap.size,e)) (h.names base hb.self);have au:∀ id,base+1≤id→id<base+64→upd Γ base (.box (w.heap.size,e)) id=none:=fun id ae av=>by rw[QA _ _ (by omega)];exact h.names id (hb id (by omega) av)
 have ao:=hr;have ad:∀ (Γ' : Gh) (ai : List AV),Zcy (w.alloc (.cells vs e)) I F w.heap.size ai vs.toList→Γ' base=some (.box (w.heap.size,e))→Zy (Xx Γ' (w.alloc (.cells vs e)) I) ai vs.toList→Yz Γ' (w.alloc (.cells vs e)) I F A base (.box ai):=
  fun Γ' ai h0 h1 h2=>⟨w.heap.size,vs,e,h1,heap_alloc_new w _,fun hi=>absurd (h.bound _ hi) (by omega),h.fresh _ (Kk _),h2,h0⟩
 rcases hv with rfl | ⟨ap,rfl⟩
 ·rw[QY];refine h.add (Γ':=upd Γ base (.box (w.heap.size,e))) an (X4 w _) (by simp) rfl rfl rfl ?_ ?_ ?_ ?_ ?_ ?_ hd
  ·intro k o' hk;simp at hk;obtain⟨rfl,rfl⟩:=hk;exact ad _ _ (by
    rcases hq with hq | ⟨x,te,u,rfl,aj⟩
    ·exact Ze4 hq
    ·rw[aj];exact .inl ⟨rfl,rfl⟩) (ZJ _ _ _) ao
  ·intro i j o1 o2 b hi hj _ _;simp at hi hj;omega
  ·intro k o' b hk aa;simp at hk;obtain⟨rfl,rfl⟩:=hk;rcases hq with hq | ⟨x,te,u,rfl,aj⟩
   ·have aa:=aa.box hq;rw[ZJ] at aa;cases aa;exact Kk _
   ·rcases aa with aa | aa | ⟨g,aq,ak⟩
    ·rw[ZJ] at aa;cases aa;exact Kk _
    ·exact aa.elim
    ·rw[ZJ] at aq;cases aq;have ah:(w.alloc (.cells vs e)).cell? ⟨w.heap.size,1,none⟩=some (.slice none 0 0):=by
      have h2:(w.alloc (.cells vs e)).heap[w.heap.size]?=some (.cells vs e (0,0)):=heap_alloc_new w _;simpa using ZgH h2 1 (.slice none 0 0) (by rw[aj];rfl)
     unfold ZkY at ak;rw[show (((w.heap.size,e):Nat×Nat).1)=w.heap.size from rfl,ah] at ak;simp[Zuw] at ak
  ·intro k hk;exact QA _ _ (fun e=>hb.self (e ▸ hk))
  ·intro id ae;rw[QA _ _ (fun e=>ae (.inr (by omega)))];exact h.names id (fun hu=>ae (.inl hu))
  ·exact⟨(w.heap.size,e),ZJ _ _ _,rfl⟩
 ·rw[QY];simp only[QP,Kd,Ku] at am;obtain⟨Γ',h1,h2,h3,h5⟩:=Zzd (w.alloc (.cells vs e)) I F A (base+64) slc cs vs.toList (base+1) (upd Γ base (.box (w.heap.size,e))) am.2 au ao;have ab:Γ' base=some (.box (w.heap.size,e)):=by rw[h2 base (by omega),ZJ]
  refine h.add (Γ':=Γ') (fun id r hr=>h1 _ _ (an _ _ hr)) (X4 w _) (by simp) rfl rfl rfl ?_ ?_ ?_ ?_ ?_ ?_ hd
  ·intro k o' hk;rcases Kf.1 hk with hk | hk
   ·cases hk;exact ad _ _ (Ze4 (by rw[ZhC];exact ap)) ab h5
   ·exact(h3 k o' hk).2.1
  ·intro i j o1 o2 b hi hj aw ar;rcases Kf.1 hi with hi | hi<;>rcases Kf.1 hj with hj | hj
   ·cases hi;cases hj;rfl
   ·exact(ar.nil (h3 j o2 hj).2.2).elim
   ·exact(aw.nil (h3 i o1 hi).2.2).elim
   ·exact(ar.nil (h3 j o2 hj).2.2).elim
  ·intro k o' b hk aa;rcases Kf.1 hk with hk | hk
   ·cases hk;have aa:=aa.box (by rw[ZhC];exact ap);rw[ab] at aa;cases aa;exact Kk _
   ·exact(aa.nil (h3 k o' hk).2.2).elim
  ·intro k hk;have al:k≠base:=fun e=>hb.self (e ▸ hk);have af:k<base+1∨base+64≤k:=by
    rcases KN k (base+1) with h' | h'
    ·exact .inl h'
    ·rcases KN k (base+64) with ag | ag
     ·exact absurd hk (hb k (by omega) ag)
     ·exact .inr ag
   rw[h2 k af,QA _ _ al]
  ·intro id ae;have al:id≠base:=fun e=>ae (.inr (by omega));have af:id<base+1∨base+64≤id:=by
    rcases KN id (base+1) with h' | h'
    ·exact .inl h'
    ·rcases KN id (base+64) with ag | ag
     ·exact absurd (.inr ⟨by omega,ag⟩) ae
     ·exact .inr ag
   rw[h2 id af,QA _ _ al];exact h.names id (fun hu=>ae (.inl hu))
  ·exact⟨(w.heap.size,e),ab,rfl⟩
def RepT (Γ:Gh) (w:World) (I:Nat→Prop) (base t:Nat) (x:AV) (v:Value):Prop:=(Xx Γ w I x v∧Zjr base x=x)∨(∃ i,x=.bnil i t)∧v=.pointer none
theorem ZxH (base:Nat) (v:Value):Zjr base (WD v)=WD v:=by
 unfold WD;split<;>rfl
theorem ZwE (base:Nat) (z:Value):∀ x∈(evC z).cells,Zjr base x=x:=by
 intro x hx;have aa:∀ v:Value,x∈(WD v).cells→Zjr base x=x:=by
  intro v hx;unfold WD at hx;split at hx<;>simp only[AV.cells,D.cells,Kp,KX,KL] at hx<;>subst hx<;>rfl
 unfold evC at hx;split at hx
 ·rename_i cs;unfold Jh at hx;cases hd:Zex (cs.toList.map WD) with
  | some ds=>
   rw[hd] at hx;simp only[W7,AV.cells,Lk] at hx;obtain⟨y,_,rfl⟩:=hx;rfl
  | none=>
   rw[hd] at hx;simp only[W7] at hx;split at hx
   ·simp only[AV.cells,KL] at hx;subst hx;rfl
   ·simp only[AV.cells,Lk] at hx;obtain⟨y,_,rfl⟩:=hx;exact ZxH base y
 ·exact aa _ hx
theorem ZxI {v:Value} (h:WD v=.nil):v=.slice none 0 0:=by
 unfold WD at h;split at h<;>first | rfl | cases h
theorem ZrK {z:Value} (h:(evC z).cells=[.nilp,.nil]):∃ x,z.cells.toList=[x,.slice none 0 0]:=by
 unfold evC at h;split at h
 ·rename_i cs;unfold Jh at h;cases hd:Zex (cs.toList.map WD) with
  | some ds=>
   rw[hd] at h;simp only[W7,AV.cells] at h
   match (D.agg ds).cells,h with
   | a :: _,h=>simp only[Kp,List.cons.injEq] at h;exact absurd h.1 (by simp)
   | [],h=>cases h
  | none=>
   rw[hd] at h;simp only[W7] at h;split at h
   ·cases h
   ·simp only[AV.cells] at h
    match hl:cs.toList,h with
    | [x,y],h=>
     simp only[Kp,KX,List.cons.injEq,and_true] at h;exact⟨x,by rw[ZxI h.2]⟩
    | [],h=>cases h
    | [_],h=>simp at h
    | _ :: _ :: _ :: _,h=>simp at h
 ·exfalso
  unfold WD at h;split at h<;>simp[AV.cells,D.cells] at h
theorem ZAp {Γ:Gh} {w:World} {I:Nat→Prop} {base b t te:Nat} (hb:Γ base=some (.box (b,t))) {z:Value} (ht:∀ x∈(evC z).cells,Zjr base x=x) (hr:Zy (Xx Γ w I) (evC z).cells z.cells.toList):Zy (RepT Γ w I base t) (bnT t te (evC z).cells) z.cells.toList:=by
 have aa:∀ {cs:List AV} {vs:List Value},(∀ x∈cs,Zjr base x=x)→Zy (Xx Γ w I) cs vs→Zy (RepT Γ w I base t) cs vs:=by
  intro cs
  induction cs with
  | nil=>intro vs _ h;cases vs with
   | nil=>trivial
   | cons _ _=>exact h.elim
  | cons x r ih=>intro vs ht h;cases vs with
   | nil=>exact h.elim
   | cons v vs=>exact⟨.inl ⟨h.1,ht x (by simp)⟩,ih (fun y hy=>ht y (by simp[hy])) h.2⟩
 unfold bnT;split
 ·rename_i hc;obtain⟨x,hx⟩:=ZrK hc;rw[hc,hx] at hr;rw[hx];exact⟨.inr ⟨⟨0,rfl⟩,hr.1⟩,.inl ⟨⟨_,_,_,rfl⟩,rfl⟩,trivial⟩
 ·exact aa ht hr
theorem ZAq {Γ:Gh} {w:World} {I:Nat→Prop} {base b t:Nat} (hb:Γ base=some (.box (b,t))) {cs:List AV} {vs:List Value} (hr:Zy (RepT Γ w I base t) cs vs):Zy (Xx Γ w I) (cs.map (Zjr base)) vs:=by
 refine hr.map_left fun x v hx=>?_;rcases hx with hx | ⟨⟨i,rfl⟩,rfl⟩
 ·rw[hx.2];exact hx.1
 ·exact⟨b,hb,.inl rfl⟩
theorem ZAr (z:Value):XA (evC z).cells=true:=by
 rw[Zma];intro te l hm;have aa:∀ v:Value,AV.bbuf te l∈(WD v).cells→False:=by
  intro v hx;unfold WD at hx;split at hx<;>simp[AV.cells,D.cells] at hx
 unfold evC at hm;split at hm
 ·rename_i cs;unfold Jh at hm;cases hd:Zex (cs.toList.map WD) with
  | some ds=>
   rw[hd] at hm;simp[W7,AV.cells] at hm
  | none=>
   rw[hd] at hm;simp only[W7] at hm;split at hm
   ·simp[AV.cells] at hm
   ·simp only[AV.cells,Lk] at hm;obtain⟨y,_,hy⟩:=hm;unfold WD at hy;split at hy<;>cases hy
 ·exact aa _ hm
theorem Zv0 {base:Nat} {cs:List AV} (h:∀ x∈cs,Zjr base x=x):cs.map (Zjr base)=cs:=by
 rw[KH h,List.map_id']
theorem ZxJ (base t te:Nat) (z:Value):(XA ((bnT t te (evC z).cells).map (Zjr base))=true)∨∃ u,(bnT t te (evC z).cells).map (Zjr base)=[.bnil base t,.bbuf te []]∧z.cells.toList=[u,.slice none 0 0]:=by
 unfold bnT;split
 ·rename_i hc;obtain⟨x,hx⟩:=ZrK hc;exact .inr ⟨x,rfl,hx⟩
 ·rw[Zv0 (ZwE base z)];exact .inl (ZAr z)
theorem Zze (h:Sim nt F A I Γ U sl hp a w) {o:Oper} {t:TypeId} {z:Value} (ho:o.op=.alloc t) (hz:ZaA P t=some z) {base:Nat} (hb:QZ U base) (hd:QM nt o.dst=true) {ce:Ze} {slc:List (Option Nat)} {te:Nat}
  (aa:QP base (base+64) ce.eff.adds=true) (hv:ZgS slc base (bnT t te (evC z).cells)=some ce):Zdh P nt F A I Γ U sl hp a w o base ce:=by
 refine ZwD h hb hd (e:=t) (ZAq (ZJ _ _ _) (ZAp (te:=te) (ZJ _ _ _) (ZwE base z) ((Zmb Γ w I z).mono fun _ _ hx=>hx.mono (Vt _ (h.names base hb.self)) ⟨fun _ h=>h,fun b hb=>X4 w _ b (h.bound b hb)⟩))) slc ?_ aa ?_ (.inl ?_)
 ·rcases ZxJ base t te z with h1 | ⟨u,h1,h2⟩
  ·exact .inl h1
  ·exact .inr ⟨_,te,u,h1,h2⟩
 ·unfold ZgS Zpt at hv;split at hv
  ·split at hv
   ·cases hv;exact .inl rfl
   ·cases hv
  ·rename_i hn;split at hv
   ·cases hv;exact .inr ⟨by simpa using hn,rfl⟩
   ·cases hv;exact .inl rfl
 ·simp[execOp,ho,Instr.alloc,ZdF hz,newVar,newRow]
theorem op_box (h:Sim nt F A I Γ U sl hp a w) {o:Oper} {t:TypeId} {x:Operand} {y:Opd} (ho:o.op=.box t x) (hc:ZW x=some y) {base:Nat} (hb:QZ U base) (hd:QM nt o.dst=true) {ce:Ze}
  (aa:QP base (base+64) ce.eff.adds=true) (hv:Zxq base (evO sl y)=some ce):Zdh P nt F A I Γ U sl hp a w o base ce:=by
 unfold Zxq at hv;split at hv
 ·rename_i hs;simp only[Kd] at hs;obtain⟨hs,ab⟩:=hs;cases hv;refine ZwD h hb hd (e:=t) ((Rep.cells hs (h.slOK.ev hc)).mono fun _ _ hx=>hx.mono (Vt _ (h.names base hb.self)) ⟨fun _ h=>h,fun b hb=>X4 w _ b (h.bound b hb)⟩) [] (.inl ab) aa (.inl rfl) (.inl ?_);simp[execOp,ho,Instr.box,newVar,newRow]
 ·cases hv
def Zn.soft:Zn→Bool
 | .row _ _ _ fz=>!fz
 | .tree _ _ _ _=>true
 | .gone=>false
 | .box _=>false
def Zn.thaw:Zn→Bool
 | .row _ _ _ fz=>!fz
 | .tree _ _ _ _=>false
 | .gone=>false
 | .box _=>false
def Zg5 (Γ:Gh) (w:World) (hp:Hp) (I:Nat→Prop) (ids:List Nat) (b:Nat):Prop:=
 I b∨∃ id∈ids,∃ o,lkp hp id=some o∧o.soft=true∧Blk Γ w id o b
def Xg (Γ:Gh) (w:World) (hp:Hp) (I:Nat→Prop) (ids:List Nat) (b:Nat):Prop:=
 I b∨∃ id∈ids,∃ o,lkp hp id=some o∧o.thaw=true∧Blk Γ w id o b
theorem ZrL {a:Option Addr} {n c sz b:Nat} (h:ZA (some (.row a n c sz))=some b):∃ ad,a=some ad∧ad.block=b∧c≠0:=by
 cases a with
 | none=>simp[ZA] at h
 | some ad=>
  simp only[ZA] at h;split at h
  ·cases h
  ·cases h;exact⟨ad,rfl,rfl,by assumption⟩
theorem Sim.froze_F (h:Sim nt F A I Γ U sl hp a w) {ids:List Nat} {b:Nat} (hb:Xg Γ w hp I ids b):I b∨F b:=by
 rcases hb with hb | ⟨id,aa,o,hl,_,hb⟩
 ·exact .inl hb
 ·exact .inr (Zk8 (h.objs id o hl) hb)
theorem Sim.frozeL_F (h:Sim nt F A I Γ U sl hp a w) {ids:List Nat} {b:Nat} (hb:Zg5 Γ w hp I ids b):I b∨F b:=by
 rcases hb with hb | ⟨id,aa,o,hl,_,hb⟩
 ·exact .inl hb
 ·exact .inr (Zk8 (h.objs id o hl) hb)
theorem Zg6 {id:Nat} {o:Zn} {t:Bool} {b:Nat} (h:Blk Γ w id (if t then Y4 o else o) b):Blk Γ w id o b:=by
 cases t with
 | false=>exact h
 | true=>
  cases o with
  | box cs=>exact h
  | row sz xs ex fz=>exact h
  | gone=>exact h
  | tree sz ns xs lk=>exact h
theorem Sim.freeze (h:Sim nt F A I Γ U sl hp a w) (ids:List Nat):Sim nt F A (Xg Γ w hp I ids) Γ U sl (Qi ids hp) a w:=by
 have aa:ZS I (Xg Γ w hp I ids) w w:=⟨fun _ h=>.inl h,fun _ _=>rfl⟩
 refine { nt:=h.nt,dfr:=h.dfr,slots:=fun t=>(h.slots t).mono (Qg.refl Γ) aa,objs:=?_,inj:=?_,bound:=?_,fresh:=h.fresh,own:=h.own,names:=h.names,glob:=h.glob.mono aa }
 ·intro id o hl;rw[Qb] at hl;cases hl0:lkp hp id with
  | none=>rw[hl0] at hl;cases hl
  | some o0=>
   rw[hl0] at hl;simp only[KV,Option.some.injEq] at hl;have ho:=h.objs id o0 hl0;have ab:∀ b,Blk Γ w id o0 b→(ids.contains id=false∨o0.thaw=false)→Xg Γ w hp I ids b→I b:=by
    intro b hb ae af;rcases af with af | ⟨aj,ag,o',ah,ak,al⟩
    ·exact af
    ·have he:=h.inj id aj _ _ b hl0 ah hb al;subst he;rw[hl0] at ah;cases ah;rcases ae with ae | ae
     ·simp at ae;exact absurd ag ae
     ·rw[ak] at ae;cases ae
   split at hl
   ·rename_i ai;subst hl;cases o0 with
    | box cs=>exact ho.mono (Qg.refl Γ) aa fun b hb=>⟨rfl,ab b hb (.inr rfl)⟩
    | gone=>exact ho.mono (Qg.refl Γ) aa fun b hb=>⟨rfl,ab b hb (.inr rfl)⟩
    | tree sz ns xs lk=>exact ho.mono (Qg.refl Γ) aa fun b hb=>⟨rfl,ab b hb (.inr rfl)⟩
    | row sz xs ex fz=>
     simp only[Y4];cases fz with
     | true=>exact ho.mono (Qg.refl Γ) aa fun b hb=>⟨rfl,ab b hb (.inr rfl)⟩
     | false=>
      obtain⟨ad,n,c,h1,h2,h3⟩:=ho;refine⟨ad,n,c,h1,h2,?_⟩;rcases h3 with h3 | ⟨g,cur,e,rfl,hc,hw,h4,h5,h6,h7,h8,am,h9⟩
      ·exact .inl h3
      ·refine .inr ⟨g,cur,e,rfl,hc,hw,h4,h5,h6,h7,?_,am,?_⟩
       ·simp only[Kn];exact .inr ⟨id,by simpa using ai,_,hl0,rfl,.inl (by rw[h1];simp[ZA,Ky hc])⟩
       ·cases ex
        ·exact h9.mono' aa rfl
        ·simp only[Kn] at h9 ⊢;exact h9.mono' ⟨fun b hb=>⟨aa.sub b hb.1,hb.2⟩,fun _ _=>rfl⟩ rfl
   ·rename_i ai;subst hl;exact ho.mono (Qg.refl Γ) aa fun b hb=>⟨rfl,ab b hb (.inl (by simpa using ai))⟩
 ·intro i j o o' b hi hj an ao;rw[Qb] at hi hj;cases hi0:lkp hp i with
  | none=>rw[hi0] at hi;cases hi
  | some oi=>cases hj0:lkp hp j with
   | none=>rw[hj0] at hj;cases hj
   | some oj=>
    rw[hi0] at hi;rw[hj0] at hj;simp only[KV,Option.some.injEq] at hi hj;subst hi hj;exact h.inj i j oi oj b hi0 hj0 (Zg6 an) (Zg6 ao)
 ·intro b hb;rcases hb with hb | ⟨id,ap,o,hl,_,hb⟩
  ·exact h.bound b hb
  ·exact h.blk_lt hl hb
theorem froze_nil (Γ:Gh) (w:World) (hp:Hp) (I:Nat→Prop) (b:Nat):Xg Γ w hp I [] b↔I b:=by simp[Xg]
theorem WK.of_freeze (h:Sim nt F A I Γ U sl hp a w) (ids:List Nat) {U' : Nat→Prop} {sl' : Sl} {hp' : Hp} {a' : Act} {w' : World}
  (hp:WK nt F A (Xg Γ w hp I ids) Γ w U' sl' hp' a' w'):WK nt F A I Γ w U' sl' hp' a' w':=by
 obtain⟨I',Γ',h1,h2,h3,h4,h5⟩:=hp;refine⟨I',Γ',h1,⟨fun b hb=>h2.sub b (.inl hb),fun b hb=>h2.blk b (.inl hb)⟩,fun b hb=>?_,h4,h5⟩;rcases h3 b hb with h6 | h6
 ·exact h.froze_F h6
 ·exact .inr h6
end
end Go.Abs
