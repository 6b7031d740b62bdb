import Derived.Test.YtfnegoimdljanaaGreatDoorAbsStep
set_option linter.unusedSimpArgs false
set_option linter.unusedVariables false
namespace Go.Abs
open Go
theorem Xj (v:AV) (adds sets:Hp) (dels frz:List Nat) (dst:Option Nat) (sl:Sl) (hp:Hp) :
  Ze.on { eff := { val:=v,adds:=adds,sets:=sets,dels:=dels,frz:=frz },gone:=[] } dst sl hp =
   (Zs sl dst v,Zi (Zi (Z6 (Qm frz hp) dels) sets) adds):=rfl
section
variable {P:Program} {nt:Nat} {U:Nat→Prop} {F A I:Nat→Prop} {Γ:Gh} {sl:Sl} {hp:Hp} {a:Act} {w:World}
def Zdz (P:Program) (nt:Nat) (F A I:Nat→Prop) (Γ:Gh) (U:Nat→Prop) (sl:Sl) (hp:Hp) (a:Act) (w:World) (o:Oper) (base:Nat) (ce:Ze):Prop:=
 ∃ u w',Zqi P o a w u w'∧Vi nt F A I Γ w (UE U base) (ce.on o.dst sl hp).1 (ce.on o.dst sl hp).2 (a.put o.dst u) w'
theorem X7.opOK (h:Sim nt F A I Γ U sl hp a w) {o:Oper} {base:Nat} {ce:Ze} (hb:Xa U base) (hd:QP nt o.dst=true) (hp' : X7 P Γ I o a w ce):Zdz P nt F A I Γ U sl hp a w o base ce:=by
 obtain⟨u,r,h1,rfl,h2⟩:=hp';exact⟨u,w,h1,h.pure (fun id hu=>.inl hu) h2 hd⟩
theorem Zz5 (h:Sim nt F A I Γ U sl hp a w) {o:Oper} {x:Operand} {y:Opd} {e:Option Nat} (ho:o.op=.assign x) (hc:ZW x=some y) {base:Nat} (hb:Xa U base) (hd:QP nt o.dst=true) {ce:Ze}
  (ae:QX base (base+64) ce.eff.adds=true) (hv:ZeW base e (evO sl y)=some ce):Zdz P nt F A I Γ U sl hp a w o base ce:=by
 unfold ZeW at hv;split at hv
 ·rename_i hy;obtain⟨s,hs,hv⟩:=Za hv;cases hv;have h1:=h.slOK.ev hc;rw[hy] at h1;obtain⟨ad,h2⟩:=h1;refine⟨a.eval x,w,.inl (by simp[execOp,ho]),?_⟩;rw[Xj,h2];refine h.add (Γ':=upd Γ base (.row ad 0 0 s)) (Vt _ (h.names base hb.self)) (fun _ _=>rfl) (Kp _) rfl rfl rfl ?_ ?_ ?_ ?_ ?_ ?_ hd
  ·intro k o' hk;simp at hk;obtain⟨rfl,rfl⟩:=hk;exact⟨ad,0,0,ZJ _ _ _,rfl,.inl ⟨rfl,rfl⟩⟩
  ·intro i j o1 o2 b hi hj _ _;simp at hi hj;omega
  ·intro k o' b hk ab;simp at hk;obtain⟨rfl,rfl⟩:=hk;exact(ab.nil (by rw[ZJ];cases ad<;>simp[Zz])).elim
  ·intro k hk;exact QI _ _ (fun e=>hb.self (e ▸ hk))
  ·intro id aa;rw[QI _ _ (fun e=>aa (.inr o_))];exact h.names id (fun hu=>aa (.inl hu))
  ·exact⟨ad,0,0,s,ZJ _ _ _,rfl⟩
 ·exact(Zmu (.inr ho) h.slOK hc hv).opOK h hb hd
theorem ZkY:∀ (vs:List Value),Zdp (vs.map Wz)=false
 | []=>rfl
 | v :: vs=>by
  simp only[Kk,Zdp,ZkY vs,Bool.or_false];cases v<;>try rfl
  ·rename_i x;cases x<;>rfl
  ·rename_i x n c;cases x<;>cases n<;>cases c<;>rfl
theorem Zmx (Γ:Gh) (w:World) (I:Nat→Prop) (z:Value):Zy (Xw Γ w I) (evC z).cells z.cells.toList:=by
 have one:∀ z:Value,(∀ c,z≠.agg c)→(Wz z).cells=[Wz z]:=by
  intro z hz;cases z<;>try rfl
  ·rename_i x;cases x<;>rfl
  ·rename_i x n c;cases x<;>cases n<;>cases c<;>rfl
 cases z with
 | agg cs=>
  refine Rep.cells ?_ (ZyF (Value.agg cs));simp only[evC,UG];cases ZeP (cs.toList.map Wz)
  ·simp only[W1,ZkY,Ka,Km];rfl
  ·rfl
 | _=>
  simp only[evC];rw[one _ (by simp)];exact⟨Zmf _,trivial⟩
theorem X8 (w:World) (o:Obj):∀ k,k<w.heap.size→(w.alloc o).heap[k]?=w.heap[k]?:=fun k hk=>heap_alloc_old w o k hk
theorem ZyS (h:Sim nt F A I Γ U sl hp a w) {o:Oper} {base:Nat} (hb:Xa U base) (hd:QP nt o.dst=true) {e:TypeId} {cs:List AV} {vs:Array Value} (hr:Zy (Xw (upd Γ base (.box (w.heap.size,e))) (w.alloc (.cells vs e)) I) cs vs.toList)
  (slc:List (Option Nat)) (hq:XK cs=true∨∃ x te u,cs=[x,.bbuf te []]∧vs.toList=[u,.slice none 0 0]) {ce:Ze} (am:QX base (base+64) ce.eff.adds=true)
  (hv:ce = { eff := { val:=.ptr base 0,adds:=[(base,.box cs)] },gone:=[] } ∨
   XK cs=true∧ce = { eff := { val:=.ptr base 0,adds:=(base,.box (mat slc cs (base+1)).1) :: (mat slc cs (base+1)).2 },gone:=[] })
  (hg:Zqi P o a w (.pointer (some ⟨w.heap.size,0,none⟩)) (w.alloc (.cells vs e))):Zdz P nt F A I Γ U sl hp a w o base ce:=by
 refine⟨_,_,hg,?_⟩;have hI:ZO I I w (w.alloc (.cells vs e)):=⟨fun _ h=>h,fun b hb=>X8 w _ b (h.bound b hb)⟩
 have an:=Vt (.box (w.heap.size,e)) (h.names base hb.self);have au:∀ id,base+1≤id→id<base+64→upd Γ base (.box (w.heap.size,e)) id=none:=fun id ae av=>by rw[QI _ _ o_];exact h.names id (hb id o_ av)
 have ao:=hr;have ad:∀ (Γ' : Gh) (ai : List AV),ZaT (w.alloc (.cells vs e)) I F w.heap.size ai vs.toList→Γ' base=some (.box (w.heap.size,e))→Zy (Xw Γ' (w.alloc (.cells vs e)) I) ai vs.toList→YF Γ' (w.alloc (.cells vs e)) I F A base (.box ai):=
  fun Γ' ai h0 h1 h2=>⟨w.heap.size,vs,e,h1,heap_alloc_new w _,fun hi=>absurd (h.bound _ hi) o_,h.fresh _ (Kp _),h2,h0⟩
 rcases hv with rfl | ⟨ap,rfl⟩
 ·rw[Xj];refine h.add (Γ':=upd Γ base (.box (w.heap.size,e))) an (X8 w _) (by simp) rfl rfl rfl ?_ ?_ ?_ ?_ ?_ ?_ hd
  ·intro k o' hk;simp at hk;obtain⟨rfl,rfl⟩:=hk;exact ad _ _ (by
    rcases hq with hq | ⟨x,te,u,rfl,aj⟩
    ·exact JM hq
    ·rw[aj];exact .inl ⟨rfl,rfl⟩) (ZJ _ _ _) ao
  ·intro i j o1 o2 b hi hj _ _;simp at hi hj;omega
  ·intro k o' b hk aa;simp at hk;obtain⟨rfl,rfl⟩:=hk;rcases hq with hq | ⟨x,te,u,rfl,aj⟩
   ·have aa:=aa.box hq;rw[ZJ] at aa;cases aa;exact Kp _
   ·rcases aa with aa | aa | ⟨g,aq,ak⟩
    ·rw[ZJ] at aa;cases aa;exact Kp _
    ·exact aa.elim
    ·rw[ZJ] at aq;cases aq;have ah:(w.alloc (.cells vs e)).cell? ⟨w.heap.size,1,none⟩=some (.slice none 0 0):=by
      have h2:(w.alloc (.cells vs e)).heap[w.heap.size]?=some (.cells vs e (0,0)):=heap_alloc_new w _;simpa using ZgG h2 1 (.slice none 0 0) (by rw[aj];rfl)
     unfold Zku at ak;rw[show (((w.heap.size,e):Nat×Nat).1)=w.heap.size from rfl,ah] at ak;simp[Zvz] at ak
  ·intro k hk;exact QI _ _ (fun e=>hb.self (e ▸ hk))
  ·intro id ae;rw[QI _ _ (fun e=>ae (.inr o_))];exact h.names id (fun hu=>ae (.inl hu))
  ·exact⟨(w.heap.size,e),ZJ _ _ _,rfl⟩
 ·rw[Xj];simp only[QX,Kf,Ko] at am;obtain⟨Γ',h1,h2,h3,h5⟩:=ZBp (w.alloc (.cells vs e)) I F A (base+64) slc cs vs.toList (base+1) (upd Γ base (.box (w.heap.size,e))) am.2 au ao;have ab:Γ' base=some (.box (w.heap.size,e)):=by rw[h2 base o_,ZJ]
  refine h.add (Γ':=Γ') (fun id r hr=>h1 _ _ (an _ _ hr)) (X8 w _) (by simp) rfl rfl rfl ?_ ?_ ?_ ?_ ?_ ?_ hd
  ·intro k o' hk;rcases Kd.1 hk with hk | hk
   ·cases hk;exact ad _ _ (JM (by rw[Zil];exact ap)) ab h5
   ·exact(h3 k o' hk).2.1
  ·intro i j o1 o2 b hi hj aw ar;rcases Kd.1 hi with hi | hi<;>rcases Kd.1 hj with hj | hj
   ·cases hi;cases hj;rfl
   ·exact(ar.nil (h3 j o2 hj).2.2).elim
   ·exact(aw.nil (h3 i o1 hi).2.2).elim
   ·exact(ar.nil (h3 j o2 hj).2.2).elim
  ·intro k o' b hk aa;rcases Kd.1 hk with hk | hk
   ·cases hk;have aa:=aa.box (by rw[Zil];exact ap);rw[ab] at aa;cases aa;exact Kp _
   ·exact(aa.nil (h3 k o' hk).2.2).elim
  ·intro k hk;have al:k≠base:=fun e=>hb.self (e ▸ hk);have af:k<base+1∨base+64≤k:=by
    rcases K7 k (base+1) with h' | h'
    ·exact .inl h'
    ·rcases K7 k (base+64) with ag | ag
     ·exact absurd hk (hb k o_ ag)
     ·exact .inr ag
   rw[h2 k af,QI _ _ al]
  ·intro id ae;have al:id≠base:=fun e=>ae (.inr o_);have af:id<base+1∨base+64≤id:=by
    rcases K7 id (base+1) with h' | h'
    ·exact .inl h'
    ·rcases K7 id (base+64) with ag | ag
     ·exact absurd (.inr ⟨o_,ag⟩) ae
     ·exact .inr ag
   rw[h2 id af,QI _ _ al];exact h.names id (fun hu=>ae (.inl hu))
  ·exact⟨(w.heap.size,e),ab,rfl⟩
def RepT (Γ:Gh) (w:World) (I:Nat→Prop) (base t:Nat) (x:AV) (v:Value):Prop:=(Xw Γ w I x v∧ZjI base x=x)∨(∃ i,x=.bnil i t)∧v=.pointer none
theorem Zz6 (base:Nat) (v:Value):ZjI base (Wz v)=Wz v:=by
 unfold Wz;split<;>rfl
theorem ZyT (base:Nat) (z:Value):∀ x∈(evC z).cells,ZjI base x=x:=by
 intro x hx;have aa:∀ v:Value,x∈(Wz v).cells→ZjI base x=x:=by
  intro v hx;unfold Wz at hx;split at hx<;>simp only[AV.cells,D.cells,Kk,Kt,KG] at hx<;>subst hx<;>rfl
 unfold evC at hx;split at hx
 ·rename_i cs;unfold UG at hx;cases hd:ZeP (cs.toList.map Wz) with
  | some ds=>
   rw[hd] at hx;simp only[W1,AV.cells,Lk] at hx;obtain⟨y,_,rfl⟩:=hx;rfl
  | none=>
   rw[hd] at hx;simp only[W1] at hx;split at hx
   ·simp only[AV.cells,KG] at hx;subst hx;rfl
   ·simp only[AV.cells,Lk] at hx;obtain⟨y,_,rfl⟩:=hx;exact Zz6 base y
 ·exact aa _ hx
theorem Zz7 {v:Value} (h:Wz v=.nil):v=.slice none 0 0:=by
 unfold Wz at h;split at h<;>first | rfl | cases h
theorem Zs2 {z:Value} (h:(evC z).cells=[.nilp,.nil]):∃ x,z.cells.toList=[x,.slice none 0 0]:=by
 unfold evC at h;split at h
 ·rename_i cs;unfold UG at h;cases hd:ZeP (cs.toList.map Wz) with
  | some ds=>
   rw[hd] at h;simp only[W1,AV.cells] at h
   match (D.agg ds).cells,h with
   | a :: _,h=>simp only[Kk,List.cons.injEq] at h;exact absurd h.1 (by simp)
   | [],h=>cases h
  | none=>
   rw[hd] at h;simp only[W1] at h;split at h
   ·cases h
   ·simp only[AV.cells] at h
    match hl:cs.toList,h with
    | [x,y],h=>
     simp only[Kk,Kt,List.cons.injEq,and_true] at h;exact⟨x,by rw[Zz7 h.2]⟩
    | [],h=>cases h
    | [_],h=>simp at h
    | _ :: _ :: _ :: _,h=>simp at h
 ·exfalso
  unfold Wz at h;split at h<;>simp[AV.cells,D.cells] at h
theorem ZCN {Γ:Gh} {w:World} {I:Nat→Prop} {base b t te:Nat} (hb:Γ base=some (.box (b,t))) {z:Value} (ht:∀ x∈(evC z).cells,ZjI base x=x) (hr:Zy (Xw Γ w I) (evC z).cells z.cells.toList):Zy (RepT Γ w I base t) (bnT t te (evC z).cells) z.cells.toList:=by
 have aa:∀ {cs:List AV} {vs:List Value},(∀ x∈cs,ZjI base x=x)→Zy (Xw Γ w I) cs vs→Zy (RepT Γ w I base t) cs vs:=by
  intro cs
  induction cs with
  | nil=>intro vs _ h;cases vs with
   | nil=>trivial
   | cons _ _=>exact h.elim
  | cons x r ih=>intro vs ht h;cases vs with
   | nil=>exact h.elim
   | cons v vs=>exact⟨.inl ⟨h.1,ht x (by simp)⟩,ih (fun y hy=>ht y (by simp[hy])) h.2⟩
 unfold bnT;split
 ·rename_i hc;obtain⟨x,hx⟩:=Zs2 hc;rw[hc,hx] at hr;rw[hx];exact⟨.inr ⟨⟨0,rfl⟩,hr.1⟩,.inl ⟨⟨_,_,_,rfl⟩,rfl⟩,trivial⟩
 ·exact aa ht hr
theorem ZCO {Γ:Gh} {w:World} {I:Nat→Prop} {base b t:Nat} (hb:Γ base=some (.box (b,t))) {cs:List AV} {vs:List Value} (hr:Zy (RepT Γ w I base t) cs vs):Zy (Xw Γ w I) (cs.map (ZjI base)) vs:=by
 refine hr.map_left fun x v hx=>?_;rcases hx with hx | ⟨⟨i,rfl⟩,rfl⟩
 ·rw[hx.2];exact hx.1
 ·exact⟨b,hb,.inl rfl⟩
theorem ZCP (z:Value):XK (evC z).cells=true:=by
 rw[Zmv];intro te l hm;have aa:∀ v:Value,AV.bbuf te l∈(Wz v).cells→False:=by
  intro v hx;unfold Wz at hx;split at hx<;>simp[AV.cells,D.cells] at hx
 unfold evC at hm;split at hm
 ·rename_i cs;unfold UG at hm;cases hd:ZeP (cs.toList.map Wz) with
  | some ds=>
   rw[hd] at hm;simp[W1,AV.cells] at hm
  | none=>
   rw[hd] at hm;simp only[W1] at hm;split at hm
   ·simp[AV.cells] at hm
   ·simp only[AV.cells,Lk] at hm;obtain⟨y,_,hy⟩:=hm;unfold Wz at hy;split at hy<;>cases hy
 ·exact aa _ hm
theorem ZxK {base:Nat} {cs:List AV} (h:∀ x∈cs,ZjI base x=x):cs.map (ZjI base)=cs:=by
 rw[KV h,List.map_id']
theorem Zz8 (base t te:Nat) (z:Value):(XK ((bnT t te (evC z).cells).map (ZjI base))=true)∨∃ u,(bnT t te (evC z).cells).map (ZjI base)=[.bnil base t,.bbuf te []]∧z.cells.toList=[u,.slice none 0 0]:=by
 unfold bnT;split
 ·rename_i hc;obtain⟨x,hx⟩:=Zs2 hc;exact .inr ⟨x,rfl,hx⟩
 ·rw[ZxK (ZyT base z)];exact .inl (ZCP z)
theorem ZBt (h:Sim nt F A I Γ U sl hp a w) {o:Oper} {t:TypeId} {z:Value} (ho:o.op=.alloc t) (hz:Zan P t=some z) {base:Nat} (hb:Xa U base) (hd:QP nt o.dst=true) {ce:Ze} {slc:List (Option Nat)} {te:Nat}
  (aa:QX base (base+64) ce.eff.adds=true) (hv:ZgP slc base (bnT t te (evC z).cells)=some ce):Zdz P nt F A I Γ U sl hp a w o base ce:=by
 refine ZyS h hb hd (e:=t) (ZCO (ZJ _ _ _) (ZCN (te:=te) (ZJ _ _ _) (ZyT base z) ((Zmx Γ w I z).mono fun _ _ hx=>hx.mono (Vt _ (h.names base hb.self)) ⟨fun _ h=>h,fun b hb=>X8 w _ b (h.bound b hb)⟩))) slc ?_ aa ?_ (.inl ?_)
 ·rcases Zz8 base t te z with h1 | ⟨u,h1,h2⟩
  ·exact .inl h1
  ·exact .inr ⟨_,te,u,h1,h2⟩
 ·unfold ZgP ZpR at hv;split at hv
  ·split at hv
   ·cases hv;exact .inl rfl
   ·cases hv
  ·rename_i hn;split at hv
   ·cases hv;exact .inr ⟨by simpa using hn,rfl⟩
   ·cases hv;exact .inl rfl
 ·simp[execOp,ho,Instr.alloc,Zej hz,newVar,newRow]
theorem op_box (h:Sim nt F A I Γ U sl hp a w) {o:Oper} {t:TypeId} {x:Operand} {y:Opd} (ho:o.op=.box t x) (hc:ZW x=some y) {base:Nat} (hb:Xa U base) (hd:QP nt o.dst=true) {ce:Ze}
  (aa:QX base (base+64) ce.eff.adds=true) (hv:ZzQ base (evO sl y)=some ce):Zdz P nt F A I Γ U sl hp a w o base ce:=by
 unfold ZzQ at hv;split at hv
 ·rename_i hs;simp only[Kf] at hs;obtain⟨hs,ab⟩:=hs;cases hv;refine ZyS h hb hd (e:=t) ((Rep.cells hs (h.slOK.ev hc)).mono fun _ _ hx=>hx.mono (Vt _ (h.names base hb.self)) ⟨fun _ h=>h,fun b hb=>X8 w _ b (h.bound b hb)⟩) [] (.inl ab) aa (.inl rfl) (.inl ?_);simp[execOp,ho,Instr.box,newVar,newRow]
 ·cases hv
def Zk.soft:Zk→Bool
 | .row _ _ _ fz=>!fz
 | .tree _ _ _ _=>true
 | .gone=>false
 | .box _=>false
def Zk.thaw:Zk→Bool
 | .row _ _ _ fz=>!fz
 | .tree _ _ _ _=>false
 | .gone=>false
 | .box _=>false
def Zg2 (Γ:Gh) (w:World) (hp:Hp) (I:Nat→Prop) (ids:List Nat) (b:Nat):Prop:=
 I b∨∃ id∈ids,∃ o,lkp hp id=some o∧o.soft=true∧Blk Γ w id o b
def Xu (Γ:Gh) (w:World) (hp:Hp) (I:Nat→Prop) (ids:List Nat) (b:Nat):Prop:=
 I b∨∃ id∈ids,∃ o,lkp hp id=some o∧o.thaw=true∧Blk Γ w id o b
theorem Zs3 {a:Option Addr} {n c sz b:Nat} (h:Zz (some (.row a n c sz))=some b):∃ ad,a=some ad∧ad.block=b∧c≠0:=by
 cases a with
 | none=>simp[Zz] at h
 | some ad=>
  simp only[Zz] at h;split at h
  ·cases h
  ·cases h;exact⟨ad,rfl,rfl,by assumption⟩
theorem Sim.froze_F (h:Sim nt F A I Γ U sl hp a w) {ids:List Nat} {b:Nat} (hb:Xu Γ w hp I ids b):I b∨F b:=by
 rcases hb with hb | ⟨id,aa,o,hl,_,hb⟩
 ·exact .inl hb
 ·exact .inr (ZkU (h.objs id o hl) hb)
theorem Sim.frozeL_F (h:Sim nt F A I Γ U sl hp a w) {ids:List Nat} {b:Nat} (hb:Zg2 Γ w hp I ids b):I b∨F b:=by
 rcases hb with hb | ⟨id,aa,o,hl,_,hb⟩
 ·exact .inl hb
 ·exact .inr (ZkU (h.objs id o hl) hb)
theorem Zg3 {id:Nat} {o:Zk} {t:Bool} {b:Nat} (h:Blk Γ w id (if t then Y5 o else o) b):Blk Γ w id o b:=by
 cases t with
 | false=>exact h
 | true=>
  cases o with
  | box cs=>exact h
  | row sz xs ex fz=>exact h
  | gone=>exact h
  | tree sz ns xs lk=>exact h
theorem Sim.freeze (h:Sim nt F A I Γ U sl hp a w) (ids:List Nat):Sim nt F A (Xu Γ w hp I ids) Γ U sl (Qm ids hp) a w:=by
 have aa:ZO I (Xu Γ w hp I ids) w w:=⟨fun _ h=>.inl h,fun _ _=>rfl⟩
 refine { nt:=h.nt,dfr:=h.dfr,slots:=fun t=>(h.slots t).mono (Qa.refl Γ) aa,objs:=?_,inj:=?_,bound:=?_,fresh:=h.fresh,own:=h.own,names:=h.names,glob:=h.glob.mono aa }
 ·intro id o hl;rw[Qc] at hl;cases hl0:lkp hp id with
  | none=>rw[hl0] at hl;cases hl
  | some o0=>
   rw[hl0] at hl;simp only[K4,Option.some.injEq] at hl;have ho:=h.objs id o0 hl0;have ab:∀ b,Blk Γ w id o0 b→(ids.contains id=false∨o0.thaw=false)→Xu Γ w hp I ids b→I b:=by
    intro b hb ae af;rcases af with af | ⟨aj,ag,o',ah,ak,al⟩
    ·exact af
    ·have he:=h.inj id aj _ _ b hl0 ah hb al;subst he;rw[hl0] at ah;cases ah;rcases ae with ae | ae
     ·simp at ae;exact absurd ag ae
     ·rw[ak] at ae;cases ae
   split at hl
   ·rename_i ai;subst hl;cases o0 with
    | box cs=>exact ho.mono (Qa.refl Γ) aa fun b hb=>⟨rfl,ab b hb (.inr rfl)⟩
    | gone=>exact ho.mono (Qa.refl Γ) aa fun b hb=>⟨rfl,ab b hb (.inr rfl)⟩
    | tree sz ns xs lk=>exact ho.mono (Qa.refl Γ) aa fun b hb=>⟨rfl,ab b hb (.inr rfl)⟩
    | row sz xs ex fz=>
     simp only[Y5];cases fz with
     | true=>exact ho.mono (Qa.refl Γ) aa fun b hb=>⟨rfl,ab b hb (.inr rfl)⟩
     | false=>
      obtain⟨ad,n,c,h1,h2,h3⟩:=ho;refine⟨ad,n,c,h1,h2,?_⟩;rcases h3 with h3 | ⟨g,q0,cur,e,rfl,hc,hw,h4,h5,h6,h7,h8,am,h9⟩
      ·exact .inl h3
      ·refine .inr ⟨g,q0,cur,e,rfl,hc,hw,h4,h5,h6,h7,?_,am,?_⟩
       ·simp only[Kl];exact .inr ⟨id,by simpa using ai,_,hl0,rfl,.inl (by rw[h1];simp[Zz,KE hc])⟩
       ·cases ex
        ·exact h9.mono' aa rfl
        ·simp only[Kl] at h9 ⊢;exact h9.mono' ⟨fun b hb=>⟨aa.sub b hb.1,hb.2⟩,fun _ _=>rfl⟩ rfl
   ·rename_i ai;subst hl;exact ho.mono (Qa.refl Γ) aa fun b hb=>⟨rfl,ab b hb (.inl (by simpa using ai))⟩
 ·intro i j o o' b hi hj an ao;rw[Qc] at hi hj;cases hi0:lkp hp i with
  | none=>rw[hi0] at hi;cases hi
  | some oi=>cases hj0:lkp hp j with
   | none=>rw[hj0] at hj;cases hj
   | some oj=>
    rw[hi0] at hi;rw[hj0] at hj;simp only[K4,Option.some.injEq] at hi hj;subst hi hj;exact h.inj i j oi oj b hi0 hj0 (Zg3 an) (Zg3 ao)
 ·intro b hb;rcases hb with hb | ⟨id,ap,o,hl,_,hb⟩
  ·exact h.bound b hb
  ·exact h.blk_lt hl hb
theorem Vi.of_freeze (h:Sim nt F A I Γ U sl hp a w) (ids:List Nat) {U' : Nat→Prop} {sl' : Sl} {hp' : Hp} {a' : Act} {w' : World}
  (hp:Vi nt F A (Xu Γ w hp I ids) Γ w U' sl' hp' a' w'):Vi nt F A I Γ w U' sl' hp' a' w':=by
 obtain⟨I',Γ',h1,h2,h3,h4,h5⟩:=hp;refine⟨I',Γ',h1,⟨fun b hb=>h2.sub b (.inl hb),fun b hb=>h2.blk b (.inl hb)⟩,fun b hb=>?_,h4,h5⟩;rcases h3 b hb with h6 | h6
 ·exact h.froze_F h6
 ·exact .inr h6
end
end Go.Abs
namespace Go.Abs
open Go
def Z0 (w:World) (S:Nat→Prop) (sz:Nat) (xs:List D) (cs:List (List Value)):Prop:=Zy (fun d c=>c.length=sz∧ZP w S d c) xs cs
section
variable {w:World} {S:Nat→Prop} {sz:Nat}
theorem X9 {b:Nat}:∀ {xs:List D} {cs:List (List Value)} {o:Nat},Z0 w S sz xs cs→Qv w b o cs.flatten→Wj w S b sz xs o
 | [],[],_,_,_=>by simp[Wj]
 | [],_ :: _,_,h,_=>h.elim
 | _ :: _,[],_,h,_=>h.elim
 | x :: xs,c :: cs,o,h,hat=>by
  simp only[Lc] at hat;simp only[Wj];refine⟨⟨c,h.1.1,?_,h.1.2⟩,X9 h.2 ?_⟩
  ·have:=hat.take c.length;simpa using this
  ·have:=hat.drop c.length;simpa [h.1.1] using this
theorem XB {b:Nat}:∀ {xs:List D} {o:Nat},Wj w S b sz xs o→∃ cs,Z0 w S sz xs cs∧Qv w b o cs.flatten
 | [],o,_=>⟨[],trivial,fun j u hu=>by simp at hu⟩
 | x :: xs,o,h=>by
  simp only[Wj] at h;obtain⟨⟨c,h1,h2,h3⟩,h4⟩:=h;obtain⟨cs,h5,h6⟩:=XB h4;refine⟨c :: cs,⟨⟨h1,h3⟩,h5⟩,fun j u hu=>?_⟩;simp only[Lc,Kam] at hu;split at hu
  ·exact h2 j u hu
  ·have:=h6 _ u hu;have he:o+sz+(j-c.length)=o+j:=o_
   rw[← he];exact this
theorem Z0.length_flatten:∀ {xs:List D} {cs:List (List Value)},Z0 w S sz xs cs→cs.flatten.length=xs.length*sz
 | [],[],_=>by simp
 | [],_ :: _,h=>h.elim
 | _ :: _,[],h=>h.elim
 | x :: xs,c :: cs,h=>by
  simp only[Lc,Kr,Kn,Z0.length_flatten (xs:=xs) h.2,h.1.1,KR];omega
theorem Z0.append {xs ys:List D} {cs ds:List (List Value)} (h:Z0 w S sz xs cs) (k:Z0 w S sz ys ds):Z0 w S sz (xs++ys) (cs++ds):=Zy.append h k
theorem Z0.mono {w' : World} {S' : Nat→Prop} (hk:ZO S S' w w') {xs:List D} {cs:List (List Value)} (h:Z0 w S sz xs cs):Z0 w' S' sz xs cs:=
 Zy.mono (fun _ _ h=>⟨h.1,h.2.mono hk⟩) h
theorem ZjQ {w' : World} {S' : Nat→Prop}:∀ {ds:List D} {vs:List Value},Ju D.plain ds=true→Q4 w S ds vs→Q4 w' S' ds vs
 | [],_,_,h=>by simpa [Q4] using h
 | d :: ds,vs,hp,h=>by
  simp only[Ju,Kf] at hp;simp only[Q4] at h ⊢;obtain⟨v,r,h1,h2,h3,h4⟩:=h;exact⟨v,r,h1,h2,Zei hp.1 h3,ZjQ hp.2 h4⟩
theorem Zqo {w' : World} {S' : Nat→Prop} {d:D} {vs:List Value} (hf:d.flat=true) (h:ZP w S d vs):ZP w' S' d vs:=by
 cases d with
 | agg cs=>simp only[ZP] at h ⊢;exact ZjQ hf h
 | sl xs=>simp[D.flat,D.cells,Ju,D.plain] at hf
 | _=>exact Zei rfl h
theorem Zs4 {w' : World} {S' : Nat→Prop} {d:D} {v:Value} (hf:d.flat=true) (h:Xo w S d v):Xo w' S' d v:=by
 cases d with
 | agg cs=>obtain⟨vs,h1,h2⟩:=h;exact⟨vs,h1,ZjQ hf h2⟩
 | sl xs=>simp[D.flat,D.cells,Ju,D.plain] at hf
 | _=>simp only[Xo] at h ⊢;exact Zei rfl h
end
section
variable {P:Program} {nt:Nat} {U:Nat→Prop} {F A I:Nat→Prop} {Γ:Gh} {sl:Sl} {hp:Hp} {a:Act} {w:World}
theorem Sim.sub (h:Sim nt F A I Γ U sl hp a w) {hp' : Hp} (hs:∀ id o,lkp hp' id=some o→lkp hp id=some o):Sim nt F A I Γ U sl hp' a w:=
 { h with objs:=fun id o hl=>h.objs id o (hs id o hl),inj:=fun i j o o' b hi hj=>h.inj i j o o' b (hs _ _ hi) (hs _ _ hj) }
theorem ZuC (h:Sim nt F A I Γ U sl hp a w) {dst:Option Nat} {base:Nat} (hb:Xa U base) (hd:QP nt dst=true) {w' : World}
  (af:∀ k,k<w.heap.size→w'.heap[k]?=w.heap[k]?) (aj:w.heap.size≤w'.heap.size) (ak:w'.os=w.os) (aa:w'.tape=w.tape) (ag:w'.output=w.output)
  {n c s:Nat} {e:TypeId} {cur:Array Value} {xs:List D} {ex:Bool} (ab:w'.heap[w.heap.size]?=some (.cells cur e (0,0))) (hn:n=xs.length) (al:n≤c) (am:c≤maxLen) (an:cur.size=c*s) (h0:0<s)
  (ah:Wj w' (if ex then fun b=>I b∧A b else I) w.heap.size s xs 0) :
  Vi nt F A I Γ w (UE U base) (Zs sl dst (.own base)) (Zi hp [(base,.row s xs ex false)]) (a.put dst (.slice (some ⟨w.heap.size,0,none⟩) n c)) w':=by
 refine h.add (Γ':=upd Γ base (.row (some ⟨w.heap.size,0,none⟩) n c s)) (Vt _ (h.names base hb.self)) af aj ak aa ag ?_ ?_ ?_ ?_ ?_ ?_ hd
 ·intro k o' hk;simp at hk;obtain⟨rfl,rfl⟩:=hk;refine⟨_,n,c,ZJ _ _ _,hn,?_⟩;by_cases hc:c=0
  ·exact .inl ⟨o_,hc⟩
  ·exact .inr ⟨w.heap.size,0,cur,e,rfl,o_,ab,al,am,⟨o_,fun _=>rfl⟩,h0,by simp;exact fun hi=>absurd (h.bound _ hi) o_,h.fresh _ (Kp _),ah⟩
 ·intro i j o1 o2 b hi hj _ _;simp at hi hj;omega
 ·intro k o' b hk ae;simp at hk;obtain⟨rfl,rfl⟩:=hk;have ae:=ae.row;rw[ZJ] at ae;obtain⟨ad,h1,h2,h3⟩:=Zs3 ae;cases h1;rw[← h2];exact Kp _
 ·intro k hk;exact QI _ _ (fun e=>hb.self (e ▸ hk))
 ·intro id ai;rw[QI _ _ (fun e=>ai (.inr o_))];exact h.names id (fun hu=>ai (.inl hu))
 ·exact⟨_,n,c,s,ZJ _ _ _,rfl⟩
theorem Zs5 {S:Nat→Prop} {v:Value} {d:D} (h:Zkw v=some d):d.one=true∧ZP w S d [v]:=by
 unfold Zkw at h;split at h
 ·cases h;exact⟨rfl,by simp[ZP]⟩
 ·cases h;exact⟨rfl,by simp[ZP]⟩
 ·cases h;exact⟨rfl,_,rfl,rfl⟩
 ·cases h;exact⟨rfl,none,0,rfl,Kp _,.inl rfl⟩
 ·cases h
theorem Zqp {S:Nat→Prop}:∀ {vs:List Value} {ds:List D},QF Zkw vs=some ds→Q4 w S ds vs
 | [],ds,h=>by simp only[QF] at h;cases h;simp[Q4]
 | v :: vs,ds,h=>by
  simp only[QF] at h;obtain⟨d,h1,h⟩:=Za h;obtain⟨aa,h2,h⟩:=Za h;cases h;obtain⟨h3,h4⟩:=Zs5 (w:=w) (S:=S) h1;exact⟨v,vs,rfl,h3,h4,Zqp h2⟩
theorem ZoX {S:Nat→Prop} {z:Value} {d:D} (h:evD z=some d):ZP w S d z.cells.toList:=by
 cases z with
 | agg cs=>
  simp only[evD] at h;obtain⟨ds,h1,h⟩:=Za h;cases h;exact Zqp h1
 | _=>simp only[evD] at h;exact(Zs5 h).2
theorem JN (z:Array Value):∀ n,(madeCells z (n*z.size)).toList=(List.replicate n z.toList).flatten:=by
 intro n;refine LD fun i=>?_;have hz:(z.size=0→n*z.size=0):=fun h=>by simp[h]
 by_cases hi:i<n*z.size
 ·have aa:0<z.size:=by
   rcases Ly z.size with h | h
   ·rw[h] at hi;simp at hi
   ·exact h
  have h1:(madeCells z (n*z.size)).toList[i]?=some z[i % z.size]!:=by
   simp[madeCells,hi]
  rw[h1];clear h1
  induction n generalizing i with
  | zero=>simp at hi
  | succ n ih=>
   rw[LU,Lc,Kam];split
   ·rename_i h2;simp at h2;rw[Nat.mod_eq_of_lt h2];simp[h2]
   ·rename_i h2;simp at h2;have h3:i-z.size<n*z.size:=by rw[KR] at hi;omega
    have:=ih (i-z.size) (fun h=>by simp[h]) h3;have hl:z.toList.length=z.size:=by simp
    rw[hl,← this,Nat.mod_eq_sub_mod h2]
 ·rw[KZ,KZ]
  ·rw[List.length_flatten];simp;omega
  ·simp[madeCells];omega
theorem JO {S:Nat→Prop} {sz:Nat} {d:D} {c:List Value} (hl:c.length=sz) (h:ZP w S d c):∀ n,Z0 w S sz (List.replicate n d) (List.replicate n c)
 | 0=>trivial
 | n+1=>⟨⟨hl,h⟩,JO hl h n⟩
theorem Vj {b:Nat} {cur:Array Value} {e:TypeId} {fr:Nat×Nat} (h:w.heap[b]?=some (.cells cur e fr)) {xs ys:List Value} (hl:cur.toList=xs++ys):Qv w b 0 xs:=fun j u hu=>by
 refine ZgG h j u ?_;rw[hl,KI (Kc.1 hu).1];exact hu
theorem ZCQ (h:Sim nt F A I Γ U sl hp a w) {o:Oper} {t e:TypeId} {l c:Operand} {l' c' : Opd} {z:Value} {d:D} (ho:o.op=.makeSlice t l c) (he:X4 P t=some e) (hl:ZW l=some l') (hc:ZW c=some c')
  (hz:Zan P e=some z) (ak:evD z=some d) (al:WC P e=true) {base:Nat} (hb:Xa U base) (hd:QP nt o.dst=true) {ce:Ze} {n m:Int} (hn:idx (evO sl l')=some n) (hm:idx (evO sl c')=some m)
  (hv:ZsS base (P.cellsOf e) (P.bytesOf e) d n m=some ce):Zdz P nt F A I Γ U sl hp a w o base ce:=by
 obtain⟨i,z',hi,ag,ah,af,aa,ab⟩:=YX al;obtain⟨i',ai,ad⟩:=ZeN hz;rw[hi] at ai;cases ai;rw[ag] at ad;cases ad;obtain⟨k1,e1⟩:=VF hn (h.slOK.ev hl);obtain⟨k2,e2⟩:=VF hm (h.slOK.ev hc);unfold ZsS at hv;split at hv
 ·rename_i ae;obtain⟨c1,c2,c3,c4,c5⟩:=ae;cases hv;rw[aa] at c5 ⊢;rw[ab] at c3;have hr:=run_make (P:=P) w t e i z (QV he) hi ag k1 k2 n m c1 c2 (by have h2:=c3;rw[Int.mul_comm] at h2;simp only[ZL] at h2;omega) (by simp only[ZL] at c4;omega);refine⟨.slice (some ⟨w.heap.size,0,none⟩) n.toNat m.toNat,w.alloc (.cells (madeCells z.cells (m.toNat*i.size)) e),.inl (by simp[execOp,ho,e1,e2,hr]),?_⟩;rw[Xj];have aj : (w.alloc (.cells (madeCells z.cells (m.toNat*i.size)) e)).heap[w.heap.size]?=some (.cells (madeCells z.cells (m.toNat*i.size)) e (0,0)):=heap_alloc_new w _;refine ZuC h hb hd (X8 w _) (by simp) rfl rfl rfl aj (by simp) o_ (by simp only[ZL] at c4;simp only[maxLen];omega) (size_madeCells _ _) af ?_
  have am:Z0 (w.alloc (.cells (madeCells z.cells (m.toNat*i.size)) e)) (fun b=>I b∧A b) i.size (List.replicate n.toNat d) (List.replicate n.toNat z.cells.toList):=
   JO (by simp[ah]) (ZoX ak) n.toNat
  refine X9 am ?_;refine Vj aj (ys:=(List.replicate (m.toNat-n.toNat) z.cells.toList).flatten) ?_;rw[← ah,JN,← Lv,List.replicate_append_replicate];congr 2
  omega
 ·cases hv
def Zmy:List Value→Nat→List Value→List Value
 | vs,_,[]=>vs
 | vs,off,u :: r=>Zmy (vs.set off u) (off+1) r
theorem Zs6 (off:Nat):∀ (l:List Value) (k:Nat) (vs:Array Value),
  (List.foldl (fun cs (x:Value×Nat)=>cs.setIfInBounds (off+x.2) x.1) vs (l.zipIdx k)).toList=Zmy vs.toList (off+k) l
 | [],k,vs=>by simp[Zmy]
 | u :: l,k,vs=>by
  simp only[List.zipIdx_cons,List.foldl_cons,Zmy];rw[Zs6 off l (k+1)];simp[KS]
theorem ZyU {R:AV→Value→Prop}:∀ {xs:List AV} {us:List Value} {cs:List AV} {vs:List Value} (off:Nat),Zy R xs us→Zy R cs vs→Zy R (ZzP cs off xs) (Zmy vs off us)
 | [],[],_,_,_,_,h=>h
 | [],_ :: _,_,_,_,h,_=>h.elim
 | _ :: _,[],_,_,_,h,_=>h.elim
 | x :: xs,u :: us,cs,vs,off,h,hr=>by
  simp only[ZzP,Zmy];exact ZyU (off+1) h.2 (hr.set off h.1)
theorem Zs7 (off:Nat) (u vs:Array Value):(u.zipIdx.foldl (fun cs (x:Value×Nat)=>cs.setIfInBounds (off+x.2) x.1) vs).toList=Zmy vs.toList off u.toList:=by
 have:=Zs6 off u.toList 0 vs;rw[← Array.foldl_toList,Array.toList_zipIdx];simpa using this
theorem Zqq {place:Nat→Option (Nat×Nat)} {pl:Nat→Option (Nat×Nat)} (ae:∀ i p,pl i=some p→place i=some p) (hs:Za2 Γ w I sl a) :
  ∀ {ps:List (Nat×Operand)} {qs:List (Nat×Nat×Opd)} {cells r:List AV} {vs:Array Value},QF (ZvO pl) ps=some qs→Zy (Xw Γ w I) cells vs.toList→ZnB cells (evP sl qs)=some r →
   ∃ aa,Instr.fill place vs (ps.map fun x=>(x.1,a.eval x.2))=some aa∧Zy (Xw Γ w I) r aa.toList
 | [],qs,cells,r,vs,hq,hr,hf=>by
  simp only[QF] at hq;cases hq;simp only[evP,ZnB] at hf;cases hf;exact⟨vs,rfl,hr⟩
 | p :: ps,qs,cells,r,vs,hq,hr,hf=>by
  simp only[QF] at hq;obtain⟨q,h1,hq⟩:=Za hq;obtain⟨ah,h2,hq⟩:=Za hq;cases hq;unfold ZvO at h1;obtain⟨pp,h3,h1⟩:=Za h1;obtain⟨x,h4,h1⟩:=Za h1;cases h1;simp only[evP,ZnB] at hf;split at hf
  ·rename_i hc;obtain⟨ab,ad,ai⟩:=hc;have af:=Rep.cells ab (hs.ev h4);have ag:(a.eval p.2).cells.size=pp.2:=by rw[← ad,af.length];simp
   have aj:cells.length=vs.size:=by rw[hr.length];simp
   obtain⟨aa,h5,h6⟩:=Zqq ae hs (vs:=(a.eval p.2).cells.zipIdx.foldl (fun cs (x:Value×Nat)=>cs.setIfInBounds (pp.1+x.2) x.1) vs) h2 (by rw[Zs7];exact ZyU _ af hr) hf;refine⟨aa,?_,h6⟩;simp only[Kk,Instr.fill,ae _ _ h3];have c1:¬((a.eval p.2).cells.size≠pp.2):=by simp[ag]
   have c2:¬(pp.1+(a.eval p.2).cells.size>vs.size):=o_
   simp only[c1,c2,decide_false,Bool.or_self,Ka,Km];exact h5
  ·cases hf
end
end Go.Abs
namespace Go.Abs
open Go
section
variable {P:Program} {nt:Nat} {U:Nat→Prop} {F A I:Nat→Prop} {Γ:Gh} {sl:Sl} {hp:Hp} {a:Act} {w:World}
theorem ZnM:∀ (fs:List Field) (w:World),(∀ f∈fs,(P.info? f.type).isSome=true) →
  (fs.mapM (m:=Sem) fun f=>do pure (f.offset,← sizeOf f.type)).run P w=.ok (fs.map fun f=>(f.offset,P.cellsOf f.type)) w
 | [],w,_=>by simp
 | f :: fs,w,h=>by
  obtain⟨i,hi⟩:=K9.1 (h f (by simp));have ih:=ZnM fs w fun g hg=>h g (by simp[hg]);simp only[List.mapM_cons,Sem.run_bind,QW hi,Result.andThen_ok,Sem.run_pure,ih,Kk]
theorem Zz9 {t:TypeId} {z:Value} (hz:Zan P t=some z) (hf:ZkH P t=true) (hs:Za2 Γ w I sl a) {ps:Array (Nat×Operand)} {qs:List (Nat×Nat×Opd)}
  (hq:QF (ZvO (ZeY P t (ZjJ P t))) ps.toList=some qs) {cs:List AV} (hv:ZnB (evC z).cells (evP sl qs)=some cs) :
  ∃ vs,(Instr.build t (ps.map fun x=>(x.1,a.eval x.2))).run P w=.ok (.agg vs) w∧Zy (Xw Γ w I) cs vs.toList:=by
 unfold ZkH at hf;split at hf
 ·rename_i fs hu;have ha:ZjJ P t=none:=by simp[ZjJ,hu]
  have aa:∀ i p,ZeY P t (ZjJ P t) i=some p→(fs.map fun f=>(f.offset,P.cellsOf f.type))[i]?=some p:=by
   intro i p hp';rw[ha] at hp';simp only[ZeY] at hp';obtain⟨q,h1,h2⟩:=Za hp';cases h2;obtain⟨ad,x,h3,h4,h5,h6,_⟩:=ZgF h1;rw[hu] at h3;cases h3;simp[h4,h5,h6]
  obtain⟨vs,h1,h2⟩:=Zqq (place:=fun i=>(fs.map fun f=>(f.offset,P.cellsOf f.type))[i]?) aa hs hq (Zmx Γ w I z) hv;refine⟨vs,?_,h2⟩;have hm:(fs.mapM (m:=Sem) fun f=>do pure (f.offset,← sizeOf f.type)).run P w=.ok (fs.map fun f=>(f.offset,P.cellsOf f.type)) w:=by
   rw[Array.mapM_eq_mapM_toList,Sem.run_map,ZnM fs.toList w (fun f hm=>KW.1 hf f hm)];simp;apply Array.ext';simp
  have ab : Instr.fill (fun i=>(fs.map fun f=>(f.offset,P.cellsOf f.type))[i]?) z.cells (ps.map fun x=>(x.1,a.eval x.2)).toList=some vs:=by simpa using h1
  simp only[Instr.build,Sem.run_bind,Zej hz,Result.andThen_ok,run_underlying hu,hm,ab];rfl
 ·rename_i n e hu;have ha:ZjJ P t=some (n,e):=by simp[ZjJ,hu]
  obtain⟨i,hi⟩:=K9.1 hf;have aa:∀ j p,ZeY P t (ZjJ P t) j=some p→(fun j=>some (j*P.cellsOf e,P.cellsOf e)) j=some p:=by
   intro j p hp';rw[ha] at hp';simpa [ZeY] using hp'
  obtain⟨vs,h1,h2⟩:=Zqq aa hs hq (Zmx Γ w I z) hv;refine⟨vs,?_,h2⟩;have ab : Instr.fill (fun j=>some (j*P.cellsOf e,P.cellsOf e)) z.cells (ps.map fun x=>(x.1,a.eval x.2)).toList=some vs:=by simpa using h1
  simp only[Instr.build,Sem.run_bind,Zej hz,Result.andThen_ok,run_underlying hu,QW hi,ab];rfl
 ·cases hf
theorem ZxL {o:Oper} {t:TypeId} {ps:Array (Nat×Operand)} {z:Value} {qs:List (Nat×Nat×Opd)} (ho:o.op=.build t ps) (hz:Zan P t=some z) (hf:ZkH P t=true) (hs:Za2 Γ w I sl a)
  (hq:QF (ZvO (ZeY P t (ZjJ P t))) ps.toList=some qs) {ce:Ze} (hv:ZpS (evC z).cells (evP sl qs)=some ce):X7 P Γ I o a w ce:=by
 unfold ZpS at hv;obtain⟨cs,h1,h2⟩:=Za hv;obtain⟨vs,h3,h4⟩:=Zz9 hz hf hs hq h1;exact⟨.agg vs,_,.inl (by simp only[execOp,ho];simp[h3]),Qr h2,Zib h4⟩
theorem ZAa {x:AV} {v:Value} (ha:x.atom=true) (h:Rep Γ w I x v):Yw Γ w I x v:=by
 cases x<;>first | exact h | (simp[AV.atom] at ha;done) | skip
 rename_i d;exact⟨ha,(Xo.one ha).1 (Qi.1 h)⟩
theorem Zqr:∀ {xs:List AV} {vs:List Value},Zie xs=true→Zy (Rep Γ w I) xs vs→Zy (Yw Γ w I) xs vs
 | [],[],_,_=>trivial
 | [],_ :: _,_,h=>h.elim
 | _ :: _,[],_,h=>h.elim
 | x :: xs,v :: vs,ha,h=>by
  simp only[Zie,Kf] at ha;exact⟨ZAa ha.1 h.1,Zqr ha.2 h.2⟩
theorem ZCR {o:Oper} {f:FuncId} {fs cs:Array Operand} {ys:List Opd} (ho:o.op=.makeFunc (.func f) fs cs) (he:fs.toList.isEmpty=true) (hs:Za2 Γ w I sl a) (hc:QF ZW cs.toList=some ys) {ce:Ze}
  (hv:VO (cloV f (evL sl ys))=some ce):X7 P Γ I o a w ce:=by
 obtain⟨r,h1,h2⟩:=opt1_some hv;unfold cloV at h1;split at h1
 ·rename_i ha;cases h1;have aa:fs = #[]:=by simpa using he
  refine⟨.func (.func f) #[] (cs.map a.eval),_,.inl (by simp[execOp,ho,Instr.makeFunc,aa]),h2,⟨_,rfl,?_⟩⟩;have:=Zqr ha (hs.evL hc);simpa using this
 ·cases h1
def ZaW (Γ:Gh) (w:World) (I A:Nat→Prop) (hp:Hp) (ids:List Nat) (cl:Bool) (Q:(Nat→Prop)→Prop):Prop:=
 ∀ I' : Nat→Prop,(∀ b,I b→I' b)→(∀ id∈ids,∀ sz xs ex b,lkp hp id=some (.row sz xs ex false)→Zz (Γ id)=some b→I' b)→Q I'∧(cl=true→Q fun b=>I' b∧A b)
theorem JP {I' : Nat→Prop} (h:∀ b,I b→I' b):ZO I I' w w:=⟨h,fun _ _=>rfl⟩
theorem ZAb (h:JF Γ w I F A hp) (aa:∀ b,F b→A b) {id:Nat} {q:List D×Bool} (he:Zky (lkp hp id)=some q) :
  ∃ a n c sz,Γ id=some (.row a n c sz)∧ZaW Γ w I A hp [id] q.2 fun S=>ZP w S (.sl q.1) [.slice a n c]:=by
 unfold Zky at he;split at he
 ·rename_i sz xs ex fz hl;cases he;obtain⟨ad,n,c,h1,h2,h3⟩:=h id _ hl;refine⟨ad,n,c,sz,h1,fun I' hI hf=>?_⟩;rcases h3 with h3 | ⟨g,q0,cur,e,rfl,hc,hw,h4,h5,h6,h7,h8,ab,h9⟩
  ·have hx:xs=[]:=Ks o_;subst hx;have:∀ S,ZP w S (.sl []) [.slice ad n c]:=fun S=>⟨ad,c,by rw[h2],by simp,.inl rfl⟩
   exact⟨this _,fun _=>this _⟩
  ·have hg:I' g:=by
    cases fz
    ·exact hf id (by simp) sz xs ex g hl (by rw[h1];simp[Zz,KE hc])
    ·exact hI g (by simpa using h8)
   refine⟨⟨_,c,by rw[h2],(show xs.length≤c by omega),.inr ⟨g,q0,sz,rfl,hg,h7,?_⟩⟩,fun ae=>?_⟩
   ·cases ex
    ·exact h9.mono' (JP hI) rfl
    ·exact h9.mono' ⟨fun b hb=>hI b hb.1,fun _ _=>rfl⟩ rfl
   ·obtain rfl:ex=true:=ae;refine⟨_,c,by rw[h2],(show xs.length≤c by omega),.inr ⟨g,q0,sz,rfl,⟨hg,aa g ab⟩,h7,?_⟩⟩;simp only[Kl] at h9;exact h9.mono' ⟨fun b hb=>⟨hI b hb.1,hb.2⟩,fun _ _=>rfl⟩ rfl
 ·cases he
theorem Zv2 (h:JF Γ w I F A hp) (aa:∀ b,F b→A b) {x:AV} {v:Value} (hx:Rep Γ w I x v) {q:D×Bool×List Nat} (hg:ZaV hp x=some q) :
  ZaW Γ w I A hp q.2.2 q.2.1 fun S=>Xo w S q.1 v:=by
 unfold ZaV at hg;split at hg
 ·cases hg;have h1:=Qi.1 hx;exact fun I' hI _=>⟨h1.mono (JP hI),fun ab=>Zs4 ab h1⟩
 ·cases hg;obtain⟨ad,rfl⟩:=hx;have:∀ S,Xo w S (.sl []) (.slice ad 0 0):=fun S=>⟨ad,0,rfl,by simp,.inl rfl⟩
  exact fun I' hI _=>⟨this _,fun _=>this _⟩
 ·obtain⟨qq,h1,hg⟩:=Za hg;cases hg;obtain⟨ad,n,c,sz,h2,h3⟩:=ZAb h aa h1;obtain⟨ae,n',c',af,h4,rfl⟩:=hx;rw[h2] at h4;cases h4;exact h3
 ·cases hg
theorem ZaW.more {ids aa : List Nat} {cl ad : Bool} {Q:(Nat→Prop)→Prop} (h:ZaW Γ w I A hp ids cl Q) (hi:∀ id∈ids,id∈aa) (hc:ad=true→cl=true):ZaW Γ w I A hp aa ad Q:=
 fun I' hI hf=>⟨(h I' hI fun id ab=>hf id (hi id ab)).1,fun ae=>(h I' hI fun id ab=>hf id (hi id ab)).2 (hc ae)⟩
theorem ZaW.and {ids:List Nat} {cl:Bool} {Q R S:(Nat→Prop)→Prop} (h:ZaW Γ w I A hp ids cl Q) (k:ZaW Γ w I A hp ids cl R) (hs:∀ I',Q I'→R I'→S I'):ZaW Γ w I A hp ids cl S:=
 fun I' hI hf=>⟨hs _ (h I' hI hf).1 (k I' hI hf).1,fun aa=>hs _ ((h I' hI hf).2 aa) ((k I' hI hf).2 aa)⟩
theorem Zqs (h:JF Γ w I F A hp) (ab:∀ b,F b→A b):∀ {xs:List AV} {vs:List Value},Zy (Yw Γ w I) xs vs→∀ {q:List D×Bool×List Nat},VG hp xs=some q →
  ZaW Γ w I A hp q.2.2 q.2.1 fun S=>Q4 w S q.1 vs
 | [],[],_,q,hg=>by
  simp only[VG] at hg;cases hg;exact fun I' hI hf=>⟨by simp[Q4],fun _=>by simp[Q4]⟩
 | [],_ :: _,h,_,_=>h.elim
 | _ :: _,[],h,_,_=>h.elim
 | x :: xs,v :: vs,hr,q,hg=>by
  simp only[VG] at hg;obtain⟨q1,h1,hg⟩:=Za hg;obtain⟨q2,h2,hg⟩:=Za hg;split at hg
  ·rename_i hc;cases hg;simp only[Kf] at hc;have e1:=Zv2 h ab hr.1.rep2.rep h1;have e2:=Zqs h ab hr.2 h2;refine ZaW.and (e1.more (by simp;exact fun id aa=>.inl aa) (by simp;exact fun h _=>h)) (e2.more (by simp;exact fun id aa=>.inr aa) (by simp)) fun I' hq hr=>?_;exact⟨v,vs,rfl,hc.1,(Xo.one hc.1).1 hq,hr⟩
  ·cases hg
theorem ZCS (h:JF Γ w I F A hp) (aa:∀ b,F b→A b) {x:AV} {v:Value} (hx:Rep Γ w I x v) {q:D×Bool×List Nat} (hg:give hp x=some q) :
  ZaW Γ w I A hp q.2.2 q.2.1 fun S=>Xo w S q.1 v:=by
 unfold give at hg;split at hg
 ·obtain⟨p,h1,hg⟩:=Za hg;cases hg;obtain⟨vs,rfl,h2⟩:=hx;have:=Zqs h aa h2 h1;exact fun I' hI hf=>⟨⟨vs,rfl,(this I' hI hf).1⟩,fun ab=>⟨vs,rfl,(this I' hI hf).2 ab⟩⟩
 ·exact Zv2 h aa hx hg
theorem Zqt (h:JF Γ w I F A hp) (ab:∀ b,F b→A b):∀ {xs:List AV} {vs:List Value},Zy (Rep Γ w I) xs vs→∀ {q:List D×Bool×List Nat},Wk hp xs=some q →
  ZaW Γ w I A hp q.2.2 q.2.1 fun S=>Zy (Xo w S) q.1 vs
 | [],[],_,q,hg=>by
  simp only[Wk] at hg;cases hg;exact fun I' hI hf=>⟨trivial,fun _=>trivial⟩
 | [],_ :: _,h,_,_=>h.elim
 | _ :: _,[],h,_,_=>h.elim
 | x :: xs,v :: vs,hr,q,hg=>by
  simp only[Wk] at hg;obtain⟨q1,h1,hg⟩:=Za hg;obtain⟨q2,h2,hg⟩:=Za hg;split at hg
  ·cases hg;have e1:=ZCS h ab hr.1 h1;have e2:=Zqt h ab hr.2 h2;exact ZaW.and (e1.more (by simp;exact fun id aa=>.inl aa) (by simp;exact fun h _=>h)) (e2.more (by simp;exact fun id aa=>.inr aa) (by simp)) fun I' hq hr=>⟨hq,hr⟩
  ·cases hg
theorem ZaW.froze {ids:List Nat} {cl:Bool} {Q:(Nat→Prop)→Prop} (h:ZaW Γ w I A hp ids cl Q) (hq:∀ S S' : Nat→Prop,(∀ b,S b→S' b)→Q S→Q S') :
  Q (if cl then fun b=>Xu Γ w hp I ids b∧A b else Xu Γ w hp I ids):=by
 have:=h (Xu Γ w hp I ids) (fun b hb=>.inl hb) fun id aa sz xs ex b hl hb=>.inr ⟨id,aa,_,hl,rfl,.inl hb⟩;cases cl
 ·exact this.1
 ·exact this.2 rfl
theorem ZnN:∀ (us vs:List Value) (off:Nat),(Zmy vs off us).length=vs.length
 | [],_,_=>rfl
 | u :: us,vs,off=>by simp[Zmy,ZnN us]
theorem Zv3:∀ (us vs:List Value) (off i:Nat),off+us.length≤vs.length→(Zmy vs off us)[i]?=if off≤i∧i<off+us.length then us[i-off]? else vs[i]?
 | [],vs,off,i,_=>by
  simp only[Zmy,KL,Kae];rw[Ke o_]
 | u :: us,vs,off,i,h=>by
  simp only[Kn] at h;simp only[Zmy];rw[Zv3 us _ _ i (by simp;omega)];simp only[Kn];by_cases h1:i=off
  ·subst h1;rw[Ke o_,Kj o_];have:i<vs.length:=o_
   simp[this]
  ·by_cases h2:off+1≤i∧i<off+1+us.length
   ·rw[Kj h2,Kj o_];have:i-off=(i-(off+1))+1:=o_
    rw[this];simp
   ·rw[Ke h2,Ke o_];rw[Ll o_]
theorem Zqu (sz:Nat):∀ (ps:List Value) (k:Nat) (vs:Array Value),(∀ v∈ps,v.cells.size=sz)→(k+ps.length)*sz≤vs.size →
  ∃ aa,Instr.fill (fun i=>some (i*sz,sz)) vs ((ps.zipIdx k).map fun x=>(x.2,x.1))=some aa∧aa.size=vs.size ∧
   (∀ i,i<k*sz→aa[i]?=vs[i]?)∧(∀ i,(k+ps.length)*sz≤i→aa[i]?=vs[i]?) ∧
   ∀ j u,((ps.map fun v=>v.cells.toList).flatten)[j]?=some u→aa[k*sz+j]?=some u
 | [],k,vs,_,_=>⟨vs,rfl,rfl,fun _ _=>rfl,fun _ _=>rfl,fun j u hu=>by simp at hu⟩
 | p :: ps,k,vs,hsz,hle=>by
  have hp:=hsz p (by simp);simp only[Kn] at hle;have ag:(k+1)*sz≤vs.size:=Ku (KM _ o_) hle;have af:(k+1)*sz=k*sz+sz:=by rw[KR];omega
  have ab:(p.cells.zipIdx.foldl (fun cs (x:Value×Nat)=>cs.setIfInBounds (k*sz+x.2) x.1) vs).toList=Zmy vs.toList (k*sz) p.cells.toList:=Zs7 _ _ _;have ae:∀ i,(p.cells.zipIdx.foldl (fun cs (x:Value×Nat)=>cs.setIfInBounds (k*sz+x.2) x.1) vs)[i]?=if k*sz≤i∧i<k*sz+sz then p.cells[i-k*sz]? else vs[i]?:=by
   intro i;rw[← LJ,ab,Zv3 _ _ _ _ (by simp[hp];omega)];simp[hp]
  have ad:(p.cells.zipIdx.foldl (fun cs (x:Value×Nat)=>cs.setIfInBounds (k*sz+x.2) x.1) vs).size=vs.size:=by
   rw[← K5,ab,ZnN];simp
  obtain⟨aa,h1,h2,h3,h4,h5⟩:=Zqu sz ps (k+1) (p.cells.zipIdx.foldl (fun cs (x:Value×Nat)=>cs.setIfInBounds (k*sz+x.2) x.1) vs) (fun v hv=>hsz v (by simp[hv])) (by rw[ad];rw[show k+1+ps.length=k+(ps.length+1) by omega];exact hle);refine⟨aa,?_,by rw[h2,ad],?_,?_,?_⟩
  ·simp only[List.zipIdx_cons,Kk,Instr.fill];have c1:¬(p.cells.size≠sz):=by simp[hp]
   have c2:¬(k*sz+p.cells.size>vs.size):=by rw[hp];omega
   simp only[c1,c2,decide_false,Bool.or_self,Ka,Km];exact h1
  ·intro i hi;rw[h3 i o_,ae,Ke o_]
  ·intro i hi;simp only[Kn] at hi;have:(k+1+ps.length)*sz≤i:=by rw[show k+1+ps.length=k+(ps.length+1) by omega];exact hi
   have h6:(k+1)*sz≤i:=Ku (KM _ o_) this;rw[h4 i this,ae,Ke o_]
  ·intro j u hu;simp only[Kk,Lc,Kam,K5,hp] at hu;split at hu
   ·rename_i hj;have h6:aa[k*sz+j]?=(p.cells.zipIdx.foldl (fun cs (x:Value×Nat)=>cs.setIfInBounds (k*sz+x.2) x.1) vs)[k*sz+j]?:=h3 _ o_;rw[h6,ae,Kj o_];have:k*sz+j-k*sz=j:=o_
    rw[this];simpa using hu
   ·rename_i hj;have:=h5 (j-sz) u hu;rw[af] at this;have he:k*sz+sz+(j-sz)=k*sz+j:=o_
    rw[← he];exact this
end
end Go.Abs
namespace Go.Abs
open Go
section
variable {P:Program} {nt:Nat} {U:Nat→Prop} {F A I:Nat→Prop} {Γ:Gh} {sl:Sl} {hp:Hp} {a:Act} {w:World}
theorem Zeq {S:Nat→Prop} {sz:Nat}:∀ {ds:List D} {vs:List Value},(ds.all fun d=>d.cells.length==sz)=true→Zy (Xo w S) ds vs→Z0 w S sz ds (vs.map fun v=>v.cells.toList)
 | [],[],_,_=>trivial
 | [],_ :: _,_,h=>h.elim
 | _ :: _,[],_,h=>h.elim
 | d :: ds,v :: vs,hl,h=>by
  simp only[LC,Kf,beq_iff_eq] at hl;refine⟨⟨?_,h.1.cells⟩,Zeq hl.2 h.2⟩;rw[← hl.1,h.1.cells.length]
theorem ZkZ {ps:List (Nat×Operand)} {n:Nat} (h:ps.map (·.1)=List.range n):ps.map (fun x=>(x.1,a.eval x.2))=((ps.map fun x=>a.eval x.2).zipIdx 0).map fun x=>(x.2,x.1):=by
 refine LD fun i=>?_;have hi:(ps.map (·.1))[i]?=(List.range n)[i]?:=by rw[h]
 simp only[Ld,List.getElem?_zipIdx] at hi ⊢;cases hp:ps[i]? with
 | none=>simp
 | some p=>
  rw[hp] at hi;simp only[K4] at hi;have hn:i<n:=by
   rcases K7 i n with h1 | h1
   ·exact h1
   ·rw[KZ (by simpa using h1)] at hi;cases hi
  rw[List.getElem?_range hn] at hi;cases hi;simp
theorem ZnO {o:Oper} {t e:TypeId} {n:Nat} {ps:Array (Nat×Operand)} (ho:o.op=.buildSlice t n ps) (he:X4 P t=some e)
  (af:ps.toList.map (·.1)=List.range n) (ah:n*P.cellsOf e≤16777216) (ai:WC P e=true) (aj:∀ v∈ps.toList.map (fun x=>a.eval x.2),v.cells.size=P.cellsOf e) :
  ∃ cells:Array Value,(execOp a.eval o).run P w=.ok (.value (.slice (some ⟨w.heap.size,0,none⟩) n n)) (w.alloc (.cells cells e))∧cells.size=n*P.cellsOf e ∧
   ∀ (j:Nat) (u:Value),((ps.toList.map fun x=>a.eval x.2).map fun v=>v.cells.toList).flatten[j]?=some u→cells[j]?=some u:=by
 obtain⟨i,z,hi,hz,am,ak,ad,ae⟩:=YX ai;have al : Zan P e=some z:=by simp[Zan,hi,hz]
 have hn:n=ps.toList.length:=by have:=congrArg List.length af;simpa using this.symm
 have aa:(ps.map fun x=>(x.1,a.eval x.2)).toList=((ps.toList.map fun x=>a.eval x.2).zipIdx 0).map fun x=>(x.2,x.1):=by
  rw[Array.toList_map];exact ZkZ af
 obtain⟨cells,h1,h2,_,_,h3⟩:=Zqu (P.cellsOf e) (ps.toList.map fun x=>a.eval x.2) 0 ((Array.range (n*P.cellsOf e)).map (z.cells[· % z.cells.size]!)) aj (by simp[hn]);refine⟨cells,?_,by simpa using h2,fun j u hu=>by simpa using h3 j u hu⟩;have an:n*P.cellsOf e=0→(Array.range (n*P.cellsOf e)).map (fun x:Nat=>(#[]:Array Value)[x % 0]!)=(Array.range (n*P.cellsOf e)).map (z.cells[· % z.cells.size]!):=fun h0=>by rw[h0];simp
 rw[← aa] at h1;have ab : ¬(n*P.cellsOf e>16777216):=o_
 by_cases h0:n*P.cellsOf e=0
 ·have ag:Array.range 0 = #[]:=rfl;rw[h0,ag] at h1;simp at h1;simp[execOp,ho,Instr.buildSlice,run_underlying (QV he),QW hi,h0];rw[ag];simp[h1,newRow]
 ·simp[execOp,ho,Instr.buildSlice,run_underlying (QV he),QW hi,ab,h0,Zej al];simp at h1;simp[h1,newRow]
theorem ZxM (h:Sim nt F A I Γ U sl hp a w) {o:Oper} {t e:TypeId} {n:Nat} {ps:Array (Nat×Operand)} {ys:List Opd} (ho:o.op=.buildSlice t n ps) (he:X4 P t=some e)
  (ap:QF (fun q:Nat×Operand=>ZW q.2) ps.toList=some ys) (ag:ps.toList.map (·.1)=List.range n) (ah:n*P.cellsOf e≤16777216) (al:WC P e=true) {base:Nat} (hb:Xa U base) (hd:QP nt o.dst=true)
  {ce:Ze} (hv:buildSl hp base (P.cellsOf e) (evL sl ys)=some ce):Zdz P nt F A I Γ U sl hp a w o base ce:=by
 obtain⟨i,z,hi,hz,a2,aq,ai,aj⟩:=YX al;have a3 : Zan P e=some z:=by simp[Zan,hi,hz]
 have hn:n=ps.toList.length:=by have:=congrArg List.length ag;simpa using this.symm
 have hr:∀ {ps:List (Nat×Operand)} {ys:List Opd},QF (fun q:Nat×Operand=>ZW q.2) ps=some ys→Zy (Rep Γ w I) (evL sl ys) (ps.map fun x=>a.eval x.2):=by
  intro ps
  induction ps with
  | nil=>intro ys hy;simp only[QF] at hy;cases hy;exact trivial
  | cons p ps ih=>
   intro ys hy;simp only[QF] at hy;obtain⟨y,h1,hy⟩:=Za hy;obtain⟨a4,h2,hy⟩:=Za hy;cases hy;exact⟨h.slOK.ev h1,ih h2⟩
 have aa:=hr ap;have am:(ps.map fun x=>(x.1,a.eval x.2)).toList=((ps.toList.map fun x=>a.eval x.2).zipIdx 0).map fun x=>(x.2,x.1):=by
  rw[Array.toList_map];exact ZkZ ag
 have run:=fun af=>ZnO (w:=w) (a:=a) ho he ag ah al af;cases af:evL sl ys with
 | nil=>
  rw[af] at hv aa;simp only[buildSl] at hv;have ar:=Qr hv;subst ar;have ad:ps.toList.map (fun x=>a.eval x.2)=[]:=Ks aa.length.symm;have au:n=0:=by rw[hn];have:=congrArg List.length ad;simpa using this
  obtain⟨cells,h1,h2,_⟩:=run (by rw[ad];simp);subst au;refine⟨_,_,.inl h1,?_⟩;show Vi nt F A I Γ w (UE U base) (Zs sl o.dst .nil) (Zi hp []) _ _;exact h.add (Γ':=Γ) (Qa.refl Γ) (X8 w _) (by simp) rfl rfl rfl (fun k o hk=>by simp at hk) (fun i j o o' b hi=>by simp at hi) (fun k o b hk=>by simp at hk)
   (fun _ _=>rfl) (fun id av=>h.names id (fun hu=>av (.inl hu))) ⟨_,rfl⟩ hd
 | cons v vs=>
  rw[af] at hv aa;simp only[buildSl] at hv;obtain⟨q,h1,hv⟩:=Za hv;unfold ZzR at hv;split at hv
  ·rename_i ae;cases hv;have aw:=Zqt h.hpOK h.own aa h1;have an:=h.freeze q.2.2;have ab:=aw.froze (fun S S' hs hq=>hq.mono fun d v ax=>ax.mono ⟨hs,fun _ _=>rfl⟩);have ay:=Zeq ae ab;obtain⟨cells,h2,h3,h4⟩:=run (by
    intro u hu;obtain⟨j,hj⟩:=LA hu;obtain⟨d,az,a0⟩:=ab.get' j u hj;have:=KW.1 ae d (Kb az);simp only[beq_iff_eq] at this;have h5:=a0.cells.length;simp at h5;omega)
   refine⟨_,_,.inl h2,Vi.of_freeze h q.2.2 ?_⟩;rw[Xj];have a1:n=q.1.length:=by rw[ab.length,hn];simp
   have ao : (w.alloc (.cells cells e)).heap[w.heap.size]?=some (.cells cells e (0,0)):=heap_alloc_new w _;refine ZuC an hb hd (X8 w _) (by simp) rfl rfl rfl ao a1 (Kp _) ?_ h3 o_ ?_
   ·have:n≤n*P.cellsOf e:=Nat.le_mul_of_pos_right _ o_;simp only[maxLen];omega
   ·have hk:ZO (if q.2.1 then fun b=>Xu Γ w hp I q.2.2 b∧A b else Xu Γ w hp I q.2.2) (if q.2.1 then fun b=>Xu Γ w hp I q.2.2 b∧A b else Xu Γ w hp I q.2.2) w (w.alloc (.cells cells e)):=by
     refine⟨fun _ h=>h,fun b ak=>X8 w _ b (an.bound b ?_)⟩;cases hq:q.2.1<;>simp[hq] at ak
     ·exact ak
     ·exact ak.1
    refine X9 (ay.mono hk) ?_;intro j u hu;rw[cell_of_row _ _ _ _ _ _ ao];simpa using h4 j u hu
  ·cases hv
theorem Sim.turn (h:Sim nt F A I Γ U sl hp a w) {base:Nat} (hb:Xa U base) {id:Nat} {o0 o1:Zk} (hl:lkp hp id=some o0) {g:Nat} (hg:Zgq (Γ id) o0=some g) (ao:¬I g) (ap:F g) {cur:Array Value}
  {adds:Hp} {Γ' : Gh} (hk:Qa Γ Γ') (ad:∀ k,U k→Γ' k=Γ k) (af:∀ k o,(k,o)∈adds→base≤k∧YF Γ' (w.setRow g cur) I F A k o∧Zz (Γ' k)=none)
  (ag:∀ id,¬UE U base id→Γ' id=none) (aq:YF Γ' (w.setRow g cur) I F A id o1) {v:AV} {u:Value} {dst:Option Nat} (ai:Rep Γ' (w.setRow g cur) I v u) (aj:QP nt dst=true) (ar:∀ b,Zf7 Γ' (w.setRow g cur) id o1 b→Zf7 Γ w id o0 b:=by exact fun _ h=>False.elim h) (hbuf:∀ b,Buf Γ' (w.setRow g cur) id o1 b→Buf Γ w id o0 b:=by exact fun _ h=>False.elim h) :
  Vi nt F A I Γ w (UE U base) (Zs sl dst v) (Zi (Zi hp [(id,o1)]) adds) (a.put dst u) (w.setRow g cur):=by
 have ae:∀ k,k≠g→(w.setRow g cur).heap[k]?=w.heap[k]?:=fun k hk=>setRow_other w g k cur hk;have aa:ZO I I w (w.setRow g cur):=⟨fun _ h=>h,fun b au=>ae b fun e=>ao (e ▸ au)⟩
 have ak:(w.setRow g cur).heap.size=w.heap.size:=size_setRow w g cur;have ah:∀ id o,lkp hp id=some o→Γ' id=Γ id:=fun id o hl=>ad id (h.id_in hl);refine⟨I,Γ',hk,aa,fun _ h=>.inl h,⟨rfl,rfl,rfl,by rw[ak];exact Kp _,fun k _ av=>ae k fun e=>av (e ▸ ap)⟩,?_⟩;have am:∀ i o,lkp (Zi (Zi hp [(id,o1)]) adds) i=some o→(i,o)∈adds∨(i=id∧o=o1)∨(i≠id∧lkp hp i=some o):=by
  intro i o hi;rcases JL adds _ i o hi with hm | hm
  ·exact .inl hm
  ·simp only[Zi,Qg] at hm;split at hm
   ·rename_i e;cases hm;exact .inr (.inl ⟨e.symm,rfl⟩)
   ·rename_i e;exact .inr (.inr ⟨fun e'=>e e'.symm,hm⟩)
 refine h.next hk aa ?_ ?_ (fun b hI=>by rw[ak];exact h.bound b hI) (by rw[ak];exact Kp _) ag ai aj
 ·intro i o hi;rcases am i o hi with hm | ⟨rfl,rfl⟩ | ⟨al,hm⟩
  ·exact(af i o hm).2.1
  ·exact aq
  ·exact(h.objs i o hm).mono hk aa fun b aw=>⟨ae b fun e=>al (h.inj i id o o0 g hm hl (e ▸ aw) (.inl hg)),fun h=>h⟩
 ·intro i j o o' b hi hj ab ax;have an:∀ i o,lkp (Zi (Zi hp [(id,o1)]) adds) i=some o→Blk Γ' (w.setRow g cur) i o b→∃ o',lkp hp i=some o'∧Blk Γ w i o' b:=by
   intro i o hi ab;rcases am i o hi with hm | ⟨rfl,rfl⟩ | ⟨al,hm⟩
   ·exact(ab.nil (af i o hm).2.2).elim
   ·refine⟨o0,hl,?_⟩;rcases ab with ab | ab | ab
    ·have h1:=Zik ab;rw[ah _ _ hl,Zik hg] at h1;cases h1;exact .inl hg
    ·exact .inr (.inl (ar b ab))
    ·exact .inr (.inr (hbuf b ab))
   ·exact⟨o,hm,ab.back (h.objs _ _ hm) (ah _ _ hm) fun g' ay=>ae g' fun e=>al (h.inj i id o o0 g hm hl (e ▸ ay) (.inl hg))⟩
  obtain⟨o2,h1,h2⟩:=an i o hi ab;obtain⟨o3,h3,h4⟩:=an j o' hj ax;exact h.inj i j o2 o3 b h1 h3 h2 h4
theorem Zs8 {x:AV} {v:Value} (hs:x.solid=true) (h:Xw Γ w I x v):v.oneCell'=true:=by
 cases x with
 | d d=>
  obtain⟨h1,h2⟩:d.one=true∧ZP w I d [v]:=h;cases d<;>simp only[ZP] at h2
  ·simp at h2;subst h2;rfl
  ·simp at h2;subst h2;rfl
  ·obtain⟨t,h3,_⟩:=h2;simp at h3;subst h3;rfl
  ·obtain⟨t,c,h3,_⟩:=h2;simp at h3;subst h3;rfl
  ·simp[D.one] at h1
 | nil=>obtain⟨ad,rfl⟩:=h;rfl
 | nilp=>obtain rfl:=h;rfl
 | nili=>obtain rfl:=h;rfl
 | ptr id off=>obtain⟨b,h1,rfl⟩:=h;rfl
 | prow id sz i off=>obtain⟨b,o,n,c,h1,h2,rfl⟩:=h;rfl
 | pim cs=>obtain⟨b,o,vs,rfl,_⟩:=h;rfl
 | own id=>obtain⟨ad,n,c,sz,h1,rfl⟩:=h;rfl
 | ownv id off n=>obtain⟨a0,m,c,sz,ad,h1,h2,h3,rfl,_⟩:=h;rfl
 | bnil id e=>obtain⟨b,h1,h2⟩:=h;rcases h2 with rfl | rfl<;>rfl
 | bbuf a b=>cases hs
 | agg cs=>exact h.elim
 | tup vs=>cases hs
 | clo f cs=>obtain⟨us,rfl,_⟩:=h;rfl
 | junk=>cases hs
theorem Zfd:∀ {xs:List AV} {vs:List Value},XA xs=true→Zy (Xw Γ w I) xs vs→∀ v∈vs,v.oneCell'=true
 | [],[],_,_,v,hv=>by simp at hv
 | [],_ :: _,_,h,_,_=>h.elim
 | _ :: _,[],_,h,_,_=>h.elim
 | x :: xs,u :: vs,hs,h,v,hv=>by
  simp only[XA,Kf] at hs;rcases Kd.1 hv with rfl | hv
  ·exact Zs8 hs.1 h.1
  ·exact Zfd hs.2 h.2 v hv
theorem Zg4 {x:AV} (h:XA x.cells=true):x.solid=true:=by
 cases x<;>first | rfl | simp[AV.cells,XA,AV.solid] at h
theorem ZuD {t:TypeId} {i:TypeInfo} (hi:P.info? t=some i) {v:Value} (aa:v.cells.size=P.cellsOf t) {b o:Nat} {cur:Array Value} {e:TypeId} (hw:w.heap[b]?=some (.cells cur e (0,0)))
  (ab:o+v.cells.size≤cur.size) (h1:∀ u∈v.cells.toList,u.oneCell'=true) :
  (storeVar t ⟨b,o,none⟩ v).run P w=.ok () (w.setRow b (Zw cur.toList o v.cells.toList).toArray):=by
 have ad:=run_storeCells_at P b o e v.cells.toList 0 cur w hw (by simpa using ab) h1;simp only[storeVar,Sem.run_bind,QW hi,Result.andThen_ok];rw[Ke (by simp[aa])];rw[ad];simp[Zw]
theorem ZjR {α β:Type} {R:α→β→Prop} {cs xs:List α} {vs us:List β} (h:Zy R cs vs) (k:Zy R xs us) (off:Nat):Zy R (Zw cs off xs) (Zw vs off us):=by
 unfold Zw;rw[k.length];exact((h.take off).append k).append (h.drop _)
theorem Vu {α:Type} (cs xs:List α) (off:Nat) (h:off+xs.length≤cs.length):(Zw cs off xs).length=cs.length:=by
 simp[Zw];omega
theorem Qs {α:Type} (cs xs:List α) (off i:Nat) (h:off+xs.length≤cs.length):(Zw cs off xs)[i]?=if off≤i∧i<off+xs.length then xs[i-off]? else cs[i]?:=by
 unfold Zw;by_cases h1:i<off
 ·rw[Ke o_,Le,KI (by simp;omega),List.getElem?_take_of_lt h1]
 ·by_cases h2:i<off+xs.length
  ·rw[Kj o_,Le,KF (by simp;omega),KI (by simp;omega)];congr 1;simp;omega
  ·rw[Ke o_,Le,KF (by simp;omega),KF (by simp;omega),Lo];congr 1;simp;omega
end
end Go.Abs
namespace Go.Abs
open Go
section
variable {P:Program} {nt:Nat} {U:Nat→Prop} {F A I:Nat→Prop} {Γ:Gh} {sl:Sl} {hp:Hp} {a:Act} {w:World}
theorem Sim.turnT (h:Sim nt F A I Γ U sl hp a w) {base:Nat} {id:Nat} {dels:List Nat} (a6:id∉dels) {o0 o1:Zk} (hl:lkp hp id=some o0) {g:Nat} (hg:Zgq (Γ id) o0=some g) (ap:¬I g) (aq:F g) {cur:Array Value}
  (ar:YF Γ (w.setRow g cur) I F A id o1) {v:AV} {u:Value} {dst:Option Nat} (ad:Rep Γ (w.setRow g cur) I v u) (ae:QP nt dst=true)
  (au:∀ b,Blk Γ (w.setRow g cur) id o1 b→∃ k∈id :: dels,∃ o,lkp hp k=some o∧Blk Γ w k o b) :
  Vi nt F A I Γ w (UE U base) (Zs sl dst v) (Zi (Z6 hp dels) [(id,o1)]) (a.put dst u) (w.setRow g cur):=by
 have ab:∀ k,k≠g→(w.setRow g cur).heap[k]?=w.heap[k]?:=fun k hk=>setRow_other w g k cur hk;have aa:ZO I I w (w.setRow g cur):=⟨fun _ h=>h,fun b av=>ab b fun e=>ap (e ▸ av)⟩
 have af:(w.setRow g cur).heap.size=w.heap.size:=size_setRow w g cur;refine⟨I,Γ,Qa.refl Γ,aa,fun _ h=>.inl h,⟨rfl,rfl,rfl,by rw[af];exact Kp _,fun k _ aw=>ab k fun e=>aw (e ▸ aq)⟩,?_⟩;have ag:∀ i o,lkp (Zi (Z6 hp dels) [(id,o1)]) i=some o→(i=id∧o=o1)∨(i≠id∧i∉dels∧lkp hp i=some o):=by
  intro i o hi;simp only[Zi,Qg] at hi;split at hi
  ·rename_i e;cases hi;exact .inl ⟨e.symm,rfl⟩
  ·rename_i e;obtain⟨h1,h2⟩:=V4 _ _ _ _ hi;exact .inr ⟨fun e'=>e e'.symm,h2,h1⟩
 have ah:∀ i o b,i≠id→lkp hp i=some o→Blk Γ (w.setRow g cur) i o b→Blk Γ w i o b:=fun i o b h1 h3 h4=>
  h4.back (h.objs i o h3) rfl fun g' ax=>ab g' fun e=>h1 (h.inj i id o o0 g h3 hl (e ▸ ax) (.inl hg))
 refine h.next (Qa.refl Γ) aa ?_ ?_ (fun b hI=>by rw[af];exact h.bound b hI) (by rw[af];exact Kp _) (fun k ay=>h.names k (fun hu=>ay (.inl hu))) ad ae
 ·intro i o hi;rcases ag i o hi with ⟨rfl,rfl⟩ | ⟨az,a0,hm⟩
  ·exact ar
  ·exact(h.objs i o hm).mono (Qa.refl Γ) aa fun b a1=>⟨ab b fun e=>az (h.inj i id o o0 g hm hl (e ▸ a1) (.inl hg)),fun h=>h⟩
 ·have am:∀ j o' b,j≠id→j∉dels→lkp hp j=some o'→Blk Γ (w.setRow g cur) j o' b→Blk Γ (w.setRow g cur) id o1 b→False:=by
   intro j o' b h1 h2 h3 h4 h5;obtain⟨k,hk,ok,a2,a3⟩:=au b h5;have:=h.inj j k o' ok b h3 a2 (ah j o' b h1 h3 h4) a3;subst this;rcases Kd.1 hk with hk | hk
   ·exact h1 hk
   ·exact h2 hk
  intro i j o o' b hi hj ai aj;rcases ag i o hi with ⟨rfl,rfl⟩ | ⟨an,a4,ak⟩<;>rcases ag j o' hj with ⟨rfl,rfl⟩ | ⟨ao,a5,al⟩
  ·rfl
  ·exact(am j o' b ao a5 al aj ai).elim
  ·exact(am i o b an a4 ak ai aj).elim
  ·exact h.inj i j o o' b ak al (ah i o b an ak ai) (ah j o' b ao al aj)
theorem Zs9 {S:Nat→Prop} {ns:Nat} {d:D} {v:Value} (hp:d.plain=true) (h:ZP w S d [v]):Qq w ns [] d v:=by
 cases d with
 | sl ys=>cases hp
 | agg cs=>cases hp
 | int k n=>simp[ZP] at h;subst h;simp[Qq]
 | bool b=>simp[ZP] at h;subst h;simp[Qq]
 | str s=>simp only[ZP] at h;obtain⟨t,e,ht⟩:=h;cases e;simp only[Qq];exact⟨⟨t,rfl,ht⟩,trivial⟩
theorem Zta {S:Nat→Prop} {ns:Nat}:∀ {ds:List D} {vs:List Value},Ju D.plain ds=true→Q4 w S ds vs→Qd w ns [] ds vs
 | [],vs,_,h=>by simp only[Q4] at h;subst h;simp[Qd]
 | d :: ds,vs,hp,h=>by
  simp only[Ju,Kf] at hp;simp only[Q4] at h;obtain⟨v,r,rfl,_,h2,h3⟩:=h;simp only[Qd];exact⟨v,r,[],[],rfl,rfl,Zs9 hp.1 h2,Zta hp.2 h3⟩
theorem ZBu {S:Nat→Prop} {ns:Nat} {x:D} {vs:List Value} (hf:x.flat=true) (h:ZP w S x vs):Xn w ns [] x vs:=by
 cases x with
 | sl ys=>simp[D.flat,D.cells,Ju,D.plain] at hf
 | agg cs=>simp only[Xn];exact Zta hf (by simpa only[ZP] using h)
 | int k n=>simp only[ZP] at h;simp only[Xn];exact⟨h,trivial⟩
 | bool b=>simp only[ZP] at h;simp only[Xn];exact⟨h,trivial⟩
 | str s=>simp only[ZP] at h;simp only[Xn];obtain⟨t,h,ht⟩:=h;exact⟨⟨t,h,ht⟩,trivial⟩
theorem Zmz {S:Nat→Prop} {ns g sz:Nat}:∀ {xs:List D} {o:Nat},Ju D.flat xs=true→Wj w S g sz xs o→ZY w ns [] g sz xs o
 | [],o,_,_=>by simp[ZY]
 | x :: xs,o,hf,h=>by
  simp only[Ju,Kf] at hf;simp only[Wj] at h;obtain⟨⟨vs,h1,h2,h3⟩,h4⟩:=h;simp only[ZY];exact⟨vs,[],[],rfl,h1,h2,ZBu hf.1 h3,Zmz hf.2 h4⟩
theorem Zk0 (h:Sim nt F A I Γ U sl hp a w) {ns:Nat}:∀ {cs:List AV} {vs:List Value} {q:List D×List Nat},Zy (Yw Γ w I) cs vs→VH hp ns cs=some q →
  ∃ B,Qd w ns B q.1 vs∧B.Nodup∧(∀ b∈B,¬I b∧F b)∧∀ b∈B,∃ id∈q.2,∃ o,lkp hp id=some o∧Blk Γ w id o b
 | [],[],q,_,hq=>by
  simp only[VH] at hq;cases hq;exact⟨[],by simp[Qd],Lw,fun b hb=>by simp at hb,fun b hb=>by simp at hb⟩
 | [],_ :: _,_,h,_=>h.elim
 | _ :: _,[],_,h,_=>h.elim
 | x :: cs,v :: vs,q,hr,hq=>by
  simp only[VH] at hq;obtain⟨q1,h1,hq⟩:=Za hq;obtain⟨q2,h2,hq⟩:=Za hq;split at hq
  ·rename_i hc;cases hq;obtain⟨B2,k1,k2,k3,k4⟩:=Zk0 h hr.2 h2;have aj:∃ B1,Qq w ns B1 q1.1 v∧B1.Nodup∧(∀ b∈B1,¬I b∧F b)∧∀ b∈B1,∃ id∈q1.2,∃ o,lkp hp id=some o∧Blk Γ w id o b:=by
    have hv:=hr.1;unfold ZgJ at h1;split at h1
    ·rename_i y;split at h1
     ·rename_i hy;cases h1;exact⟨[],Zs9 hy hv.2,Lw,fun b hb=>by simp at hb,fun b hb=>by simp at hb⟩
     ·cases h1
    ·cases h1;obtain⟨ad,rfl⟩:=hv;exact⟨[],by simp only[Qq];exact⟨ad,0,rfl,Kp _,.inl ⟨rfl,trivial⟩⟩,Lw,fun b hb=>by simp at hb,fun b hb=>by simp at hb⟩
    ·rename_i id;obtain⟨ad,n,c,aq,hg,rfl⟩:=hv;unfold Zig at h1;split at h1
     ·rename_i sz ys hl;split at h1
      ·rename_i aa;obtain⟨rfl,ak⟩:=aa;cases h1;obtain⟨al,n',c',ae,ab⟩:=h.objs id _ hl;rw[hg] at ae;cases ae;obtain⟨rfl,ab⟩:=ab;rcases ab with ab | ⟨g,q0,cur,e,rfl,p1,p2,p3,p4,p5,p6,p7,p8,p9⟩
       ·exact⟨[],by simp only[Qq];exact⟨ad,c,rfl,o_,.inl ⟨ab.2,trivial⟩⟩,Lw,fun b hb=>by simp at hb,fun b hb=>by simp at hb⟩
       ·obtain⟨p5,h0⟩:=p5;obtain rfl:=h0 rfl;rw[K8] at p5;refine⟨[g],by simp only[Qq];exact⟨_,c,rfl,p3,.inr ⟨g,cur,e,[],rfl,p1,p2,p4,p5,p6,rfl,Zmz ak p9⟩⟩,by simp,fun b hb=>?_,fun b hb=>?_⟩
        ·simp at hb;subst hb;exact⟨by simpa using p7,p8⟩
        ·simp at hb;subst hb;exact⟨id,by simp,_,hl,.inl (by rw[hg];simp[Zz,KE p1])⟩
      ·cases h1
     ·rename_i sz n' ys hl;split at h1
      ·rename_i aa;obtain⟨rfl,rfl⟩:=aa;cases h1;obtain⟨al,m,c',ae,ab,_⟩:=h.objs id _ hl;rw[hg] at ae;cases ae;obtain⟨rfl,ab⟩:=ab;rcases ab with ab | ⟨g,cur,e,B,rfl,p1,p2,p3,p4,p5,p6,p7,p8,p9⟩
       ·exact⟨[],by simp only[Qq];exact⟨ad,c,rfl,o_,.inl ⟨ab.2.1,trivial⟩⟩,Lw,fun b hb=>by simp at hb,fun b hb=>by simp at hb⟩
       ·have ai:Zz (Γ id)=some g:=by rw[hg];simp[Zz,KE p1]
        refine⟨g :: B,by simp only[Qq];exact⟨_,c,rfl,p3,.inr ⟨g,cur,e,B,rfl,p1,p2,p4,p5,p6,rfl,p7⟩⟩,p8,p9,fun b hb=>?_⟩;rcases Kd.1 hb with rfl | hb
        ·exact⟨id,by simp,_,hl,.inl ai⟩
        ·exact⟨id,by simp,_,hl,.inr (.inl ⟨g,B,ai,p7,hb⟩)⟩
      ·cases h1
     ·cases h1
    ·cases h1
   obtain⟨B1,j1,j2,j3,j4⟩:=aj;refine⟨B1++B2,by simp only[Qd];exact⟨v,vs,B1,B2,rfl,rfl,j1,k1⟩,LQ.2 ⟨j2,k2,fun b hb b' am e=>?_⟩,fun b hb=>?_,fun b hb=>?_⟩
   ·subst e;obtain⟨id,af,o,hl,an⟩:=j4 b hb;obtain⟨ao,ag,o',ap,ah⟩:=k4 b am;have:=h.inj id ao o o' b hl ap an ah;subst this;simp only[K0] at hc;have:(q1.2.any q2.2.contains)=true:=LM.2 ⟨id,af,by simpa using ag⟩;rw[this] at hc;cases hc
   ·rcases Kh.1 hb with hb | hb
    ·exact j3 b hb
    ·exact k3 b hb
   ·rcases Kh.1 hb with hb | hb
    ·obtain⟨id,af,hh⟩:=j4 b hb;exact⟨id,by simp[af],hh⟩
    ·obtain⟨id,af,hh⟩:=k4 b hb;exact⟨id,by simp[af],hh⟩
  ·cases hq
theorem Zio {g sz ns j off:Nat} {xs cs ds:List D} {us:List Value} {B Bq:List Nat} {cur:Array Value} {e:TypeId} (hw:w.heap[g]?=some (.cells cur e (0,0))) (hE:ZY w ns B g sz xs 0) (hx:xs[j]?=some (.agg cs)) (an:cs.length=sz)
  (ah:off+us.length≤sz) (hq:Qd w ns Bq ds us) (ai:g∉B) (aj:g∉Bq) (ao:j*sz+sz≤cur.size) :
  ∃ B' BM vm,ZY (w.setRow g (Zw cur.toList (j*sz+off) us).toArray) ns B' g sz (xs.set j (.agg (Zw cs off ds))) 0∧(∀ x,List.count x B'+List.count x BM=List.count x B+List.count x Bq) ∧
   Qd w ns BM ((cs.drop off).take us.length) vm∧Qv w g (j*sz+off) vm:=by
 generalize ag : w.setRow g (Zw cur.toList (j*sz+off) us).toArray=w';have ab:∀ k,k≠g→w'.heap[k]?=w.heap[k]?:=fun k hk=>by rw[← ag];exact setRow_other w g k _ hk
 have ae:w'.heap[g]?=some (.cells (Zw cur.toList (j*sz+off) us).toArray e (0,0)):=by rw[← ag];exact setRow_heap w g cur _ e _ hw
 have ad:∀ p,w'.cell? ⟨g,p,none⟩=(Zw cur.toList (j*sz+off) us)[p]?:=fun p=>by rw[cell_of_row _ _ _ _ _ _ ae];simp
 have aa:∀ p,w.cell? ⟨g,p,none⟩=cur.toList[p]?:=fun p=>by rw[cell_of_row _ _ _ _ _ _ hw];simp
 obtain⟨vs,B1,Bn,B2,rfl,v1,v2,v3,put⟩:=hE.at hx;have ak:=hq.length;have v4:=v3.cells;simp only[D.cells] at v4;have e1:cs=cs.take off++((cs.drop off).take us.length++(cs.drop off).drop us.length):=by rw[LK us.length (cs.drop off),LK off cs]
 rw[e1] at v4;obtain⟨BA,ap,rfl,w1,w2⟩:=v4.split;obtain⟨BM,BC,rfl,w3,w4⟩:=w2.split;have t1:(cs.take off).length=off:=by simp;omega
 have t2:((cs.drop off).take us.length).length=us.length:=by simp;omega
 rw[t1] at w1 w4;rw[t2] at w4;have af:∀ b,b∈B1++(BA++(BM++BC))++B2→b≠g:=fun b hb e=>ai (e ▸ hb);have k1:Qd w' ns BA (cs.take off) (vs.take off):=w1.mono fun b hb=>ab b (af b (by simp[hb]));have k2:Qd w' ns Bq ds us:=hq.mono fun b hb=>ab b fun e=>aj (e ▸ hb);have k3:Qd w' ns BC ((cs.drop off).drop us.length) ((vs.drop off).drop us.length):=w4.mono fun b hb=>ab b (af b (by simp[hb]));have k4:=(k1.append k2).append k3;have e2:cs.take off++ds++(cs.drop off).drop us.length=Zw cs off ds:=by simp[Zw,Kaz,ak]
 have e3:vs.take off++us++(vs.drop off).drop us.length=Zw vs off us:=by simp[Zw,Kaz]
 rw[e2,e3] at k4;refine⟨B1++(BA++Bq++BC)++B2,BM,_,put w' _ (.agg (Zw cs off ds)) (Zw vs off us) (fun b hb=>ab b (af b ?_)) (fun p v hp hv=>?_) ?_ (fun p u hu=>?_) (ZpG k4),fun x=>?_,w3,fun p u hu=>?_⟩
 ·rcases Kh.1 hb with hb | hb<;>simp[hb]
 ·rw[ad,Qs _ _ _ _ (by simp;omega),Ke o_,← aa];exact hv
 ·rw[Vu];exact v1;omega
 ·rw[Qs _ _ _ _ o_] at hu;rw[ad,Qs _ _ _ _ (by simp;omega)];split at hu
  ·rename_i al;rw[Kj o_];have:0+j*sz+p-(j*sz+off)=p-off:=o_
   rw[this];exact hu
  ·rename_i al;rw[Ke o_,← aa];exact v2 p u hu
 ·simp only[List.count_append];omega
 ·rw[t1] at hu;have am : vs[off+p]?=some u:=by
   rw[Lp] at hu;split at hu
   ·rwa [Lo] at hu
   ·cases hu
  have:=v2 (off+p) u am
  rwa [K8,← KS] at this
theorem Zqv {α:Type} (cs us:List α) (q p:Nat) (v:α) (h:q+us.length≤cs.length):Zw (cs.set p v) q us=if q≤p∧p<q+us.length then Zw cs q us else (Zw cs q us).set p v:=by
 refine LD fun k=>?_;rw[Qs _ _ _ _ (by simpa using h)];split
 ·rename_i hk;split
  ·rw[Qs _ _ _ _ h,Kj hk]
  ·rename_i hp;rw[Ll (fun e:p=k=>hp (by rw[e];exact hk)),Qs _ _ _ _ h,Kj hk]
 ·rename_i hk;split
  ·rename_i hp;rw[Ll (fun e:p=k=>hk (by rw[← e];exact hp)),Qs _ _ _ _ h,Ke hk]
  ·by_cases e:p=k
   ·subst e;simp only[LR,Kl,Vu _ _ _ h]
   ·rw[Ll e,Ll e,Qs _ _ _ _ h,Ke hk]
theorem ZuE {xs:List D} {i j c:Nat} {x' : D} {ys:List D} (h:UQ xs i c=some ys) (hx:i=j→∀ x,xs[i]?=some x→x'.cells[c]?=x.cells[c]?):UQ (xs.set j x') i c=some ys:=by
 unfold UQ at h ⊢;obtain⟨x,h1,h2⟩:=Za h;by_cases e:i=j
 ·subst e;have:=hx rfl x h1;rw[LF (Kc.1 h1).1,Zg,this];exact h2
 ·rw[Ll (fun e'=>e e'.symm),h1,Zg];exact h2
theorem ZxN {a:Option Addr} {g sz ns j off:Nat} {xs cs ds:List D} {us:List Value} {B Bq:List Nat} {cur:Array Value} {e:TypeId} {lk:Option (Option Nat×Nat×Nat)} (ha:a=some ⟨g,0,none⟩) (hw:w.heap[g]?=some (.cells cur e (0,0)))
  (hE:ZY (Up w g (Y4 sz lk)) ns B g sz xs 0) (hL:Yj Γ w a sz ns xs lk) (hx:xs[j]?=some (.agg cs)) (ae:cs.length=sz)
  (ab:off+us.length≤sz) (hq:Qd w ns Bq ds us) (af:g∉B) (ad:g∉Bq) (ag:j*sz+sz≤cur.size) :
  (∃ B',ZY (Up (w.setRow g (Zw cur.toList (j*sz+off) us).toArray) g (Y4 sz (UN j off us.length lk))) ns B' g sz (xs.set j (.agg (Zw cs off ds))) 0∧∀ x,List.count x B'≤List.count x B+List.count x Bq) ∧
  Yj Γ (w.setRow g (Zw cur.toList (j*sz+off) us).toArray) a sz ns (xs.set j (.agg (Zw cs off ds))) (UN j off us.length lk):=by
 have aj:=hq.length;cases lk with
 | none=>
  obtain⟨B',BM,_,h1,h2,_⟩:=Zio hw hE hx ae ab hq af ad ag;exact⟨⟨B',h1,fun x=>by have:=h2 x;omega⟩,trivial⟩
 | some r=>
  obtain⟨nm,i',c⟩:=r;obtain⟨l1,l2,l3,l4⟩:=hL;simp only[Y4] at hE;rw[Zic hw] at hE;have ai:=setRow_heap w g cur (cur.setIfInBounds (i' * sz+c) (.slice none 0 0)) e (0,0) hw;obtain⟨B',BM,_,h1,h2,_⟩:=Zio ai hE hx ae ab (hq.mono fun b hb=>setRow_other w g b _ fun e=>ad (e ▸ hb)) af ad (by simpa using ag);have h2:∀ x,List.count x B'≤List.count x B+List.count x Bq:=fun x=>by have:=h2 x;omega
  rw[setRow_setRow,Kal,Zqv _ _ _ _ _ (by simp;omega)] at h1;have aa:=setRow_heap w g cur (Zw cur.toList (j*sz+off) us).toArray e (0,0) hw;by_cases hc:j=i'∧off≤c∧c<off+us.length
  ·have hs:UN j off us.length (some (nm,i',c))=none:=by simp only[UN];rw[Kj hc]
   rw[hs];obtain⟨rfl,ak,hc2⟩:=hc;rw[Kj o_] at h1;exact⟨⟨B',h1,h2⟩,trivial⟩
  ·have hs:UN j off us.length (some (nm,i',c))=some (nm,i',c):=by simp only[UN];rw[Ke hc]
   rw[hs];have hp:¬(j*sz+off≤i' * sz+c∧i' * sz+c<j*sz+off+us.length):=fun hp=>hc (by
    obtain⟨k,hk⟩:∃ k,i' * sz+c=j*sz+(off+k)∧k<us.length:=⟨i' * sz+c-(j*sz+off),o_,o_⟩
    obtain⟨e1,e2⟩:=ZyG l2 (show off+k<sz by omega) hk.1;exact⟨e1.symm,o_,o_⟩)
   rw[Ke hp] at h1;refine⟨?_,by simpa using l1,l2,ZuE l3 fun e x ah=>?_,fun k hk=>?_⟩
   ·simp only[Y4];rw[Zic aa,setRow_setRow];have:(Zw cur.toList (j*sz+off) us).toArray.setIfInBounds (i' * sz+c) (.slice none 0 0)=((Zw cur.toList (j*sz+off) us).set (i' * sz+c) (.slice none 0 0)).toArray:=by simp
    rw[this];exact⟨B',h1,h2⟩
   ·subst e;rw[hx] at ah;cases ah;simp only[D.cells];rw[Qs _ _ _ _ o_,Ke (fun hh=>hc ⟨rfl,o_⟩)]
   ·obtain⟨g',a',n',c',h5,h6,h7⟩:=l4 k hk;rw[ha] at h5;cases h5;refine⟨g,a',n',c',ha,h6,?_⟩;rw[cell_of_row _ _ _ _ _ _ hw] at h7;rw[cell_of_row _ _ _ _ _ _ aa];have:(Zw cur.toList (j*sz+off) us).toArray[i' * sz+c]?=cur[i' * sz+c]?:=by
     rw[Kag,Qs _ _ _ _ (by simp;omega),Ke hp];simp
    rw[this];exact h7
theorem Zg5 {ns:Nat}:∀ {xs:List AV} {q:List D×List Nat},VH hp ns xs=some q→XA xs=true
 | [],q,h=>rfl
 | x :: xs,q,h=>by
  simp only[VH] at h;obtain⟨q1,h1,h⟩:=Za h;obtain⟨q2,h2,h⟩:=Za h;simp only[XA,Zg5 h2,L6];cases x<;>first | rfl | cases h1
theorem Ztb {ns:Nat}:∀ {xs:List AV} {q:List D×List Nat},VH hp ns xs=some q→q.1.length=xs.length
 | [],q,h=>by simp only[VH] at h;cases h;rfl
 | x :: xs,q,h=>by
  simp only[VH] at h;obtain⟨q1,h1,h⟩:=Za h;obtain⟨q2,h2,h⟩:=Za h;split at h
  ·cases h;simp[Ztb h2]
  ·cases h
theorem Ztc {ns:Nat}:∀ {xs:List AV} {vs:List Value} {q:List D×List Nat},VH hp ns xs=some q→Zy (Xw Γ w I) xs vs→Zy (Yw Γ w I) xs vs
 | [],[],q,h,hr=>trivial
 | [],_ :: _,q,h,hr=>hr.elim
 | _ :: _,[],q,h,hr=>hr.elim
 | x :: xs,v :: vs,q,h,hr=>by
  simp only[VH] at h;obtain⟨q1,h1,h⟩:=Za h;obtain⟨q2,h2,h⟩:=Za h;refine⟨?_,Ztc h2 hr.2⟩;cases x<;>first | exact hr.1 | cases h1
end
end Go.Abs
