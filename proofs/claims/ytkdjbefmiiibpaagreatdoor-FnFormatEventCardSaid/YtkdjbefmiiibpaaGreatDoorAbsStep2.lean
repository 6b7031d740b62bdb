/- The abstract semantics and the model: new variables and rows,freezing. Own text. -/
import Derived.Test.YtkdjbefmiiibpaaGreatDoorAbsStep
set_option linter.unusedVariables false
set_option linter.unusedSimpArgs false
namespace Go.Abs
open Go
theorem XR (v:AV) (adds sets:Hp) (dels frz:List Nat) (dst:Option Nat) (sl:Sl) (hp:Hp) :
  Zb.on { eff := { val:=v,adds:=adds,sets:=sets,dels:=dels,frz:=frz },gone:=[] } dst sl hp =
   (Zs sl dst v,Zf (Zf (Qz (Qq frz hp) dels) sets) adds):=rfl
section
variable {P:Program} {nt:Nat} {U:Nat→Prop} {F A I:Nat→Prop} {Γ:Gh} {sl:Sl} {hp:Hp} {a:Act} {w:World}
def ZdJ (P:Program) (nt:Nat) (F A I:Nat→Prop) (Γ:Gh) (U:Nat→Prop) (sl:Sl) (hp:Hp) (a:Act) (w:World) (o:Oper) (base:Nat) (ce:Zb):Prop:=
 ∃ u w',ZmG P o a w u w'∧US nt F A I Γ w (J1 U base) (ce.on o.dst sl hp).1 (ce.on o.dst sl hp).2 (a.put o.dst u) w'
theorem YG.opOK (h:Sim nt F A I Γ U sl hp a w) {o:Oper} {base:Nat} {ce:Zb} (hb:XH U base) (hd:Xj nt o.dst=true) (hp' : YG P Γ I o a w ce):ZdJ P nt F A I Γ U sl hp a w o base ce:=by
 obtain⟨u,r,h1,rfl,h2⟩:=hp'
 exact⟨u,w,h1,h.pure (fun id hu=>.inl hu) h2 hd⟩
theorem Zwn (h:Sim nt F A I Γ U sl hp a w) {o:Oper} {x:Operand} {y:Opd} {e:Option Nat} (ho:o.op=.assign x) (hc:Z8 x=some y) {base:Nat} (hb:XH U base) (hd:Xj nt o.dst=true) {ce:Zb}
  (hok:Q7 base (base+64) ce.eff.adds=true) (hv:ZcB base e (evO sl y)=some ce):ZdJ P nt F A I Γ U sl hp a w o base ce:=by
 unfold ZcB at hv
 split at hv
 ·rename_i hy
  obtain⟨s,hs,hv⟩:=Za hv
  cases hv
  have h1:=h.slOK.ev hc
  rw[hy] at h1
  obtain⟨ad,h2⟩:=h1
  refine⟨a.eval x,w,.inl (by simp[execOp,ho]),?_⟩
  rw[XR,h2]
  refine h.add (Γ':=upd Γ base (.row ad 0 0 s)) (Vx _ (h.names base hb.self)) (fun _ _=>rfl) (Nat.le_refl _) rfl rfl rfl ?_ ?_ ?_ ?_ ?_ ?_ hd
  ·intro k o' hk
   simp at hk
   obtain⟨rfl,rfl⟩:=hk
   exact⟨ad,0,0,ZM _ _ _,rfl,.inl ⟨rfl,rfl⟩⟩
  ·intro i j o1 o2 b hi hj _ _
   simp at hi hj
   omega
  ·intro k o' b hk hbb
   simp at hk
   obtain⟨rfl,rfl⟩:=hk
   exact(hbb.nil (by rw[ZM];cases ad<;>simp[ZE])).elim
  ·intro k hk;exact Qr _ _ (fun e=>hb.self (e ▸ hk))
  ·intro id hid;rw[Qr _ _ (fun e=>hid (.inr (by omega)))];exact h.names id (fun hu=>hid (.inl hu))
  ·exact⟨ad,0,0,s,ZM _ _ _,rfl⟩
 ·exact(Zjf (.inr ho) h.slOK hc hv).opOK h hb hd
theorem Zis:∀ (vs:List Value),Zd1 (vs.map Us)=false
 | []=>rfl
 | v :: vs=>by
  simp only[List.map_cons,Zd1,Zis vs,Bool.or_false]
  cases v<;>try rfl
  ·rename_i x;cases x<;>rfl
  ·rename_i x n c;cases x<;>cases n<;>cases c<;>rfl
theorem Zjr (Γ:Gh) (w:World) (I:Nat→Prop) (z:Value):Zu (X4 Γ w I) (evC z).cells z.cells.toList:=by
 have one:∀ z:Value,(∀ c,z≠.agg c)→(Us z).cells=[Us z]:=by
  intro z hz
  cases z<;>try rfl
  ·rename_i x;cases x<;>rfl
  ·rename_i x n c;cases x<;>cases n<;>cases c<;>rfl
 cases z with
 | agg cs=>
  refine Rep.cells ?_ (ZuO (Value.agg cs))
  simp only[evC,JR]
  cases Zd0 (cs.toList.map Us)
  ·simp only[UX,Zis,Bool.false_eq_true,if_false];rfl
  ·rfl
 | _=>
  simp only[evC]
  rw[one _ (by simp)]
  exact⟨Zi6 _,trivial⟩
theorem Vd (w:World) (o:Obj):∀ k,k<w.heap.size→(w.alloc o).heap[k]?=w.heap[k]?:=fun k hk=>heap_alloc_old w o k hk
theorem ZuZ (h:Sim nt F A I Γ U sl hp a w) {o:Oper} {base:Nat} (hb:XH U base) (hd:Xj nt o.dst=true) {e:TypeId} {cs:List AV} {vs:Array Value} (hr:Zu (X4 (upd Γ base (.box (w.heap.size,e))) (w.alloc (.cells vs e)) I) cs vs.toList)
  (slc:List (Option Nat)) (hq:X7 cs=true∨∃ x te u,cs=[x,.bbuf te []]∧vs.toList=[u,.slice none 0 0]) {ce:Zb} (hok:Q7 base (base+64) ce.eff.adds=true)
  (hv:ce = { eff := { val:=.ptr base 0,adds:=[(base,.box cs)] },gone:=[] } ∨
   X7 cs=true∧ce = { eff := { val:=.ptr base 0,adds:=(base,.box (mat slc cs (base+1)).1) :: (mat slc cs (base+1)).2 },gone:=[] })
  (hg:ZmG P o a w (.pointer (some ⟨w.heap.size,0,none⟩)) (w.alloc (.cells vs e))):ZdJ P nt F A I Γ U sl hp a w o base ce:=by
 refine⟨_,_,hg,?_⟩
 have hI:ZX I I w (w.alloc (.cells vs e)):=⟨fun _ h=>h,fun b hb=>Vd w _ b (h.bound b hb)⟩
 have hk0:=Vx (.box (w.heap.size,e)) (h.names base hb.self)
 have hn1:∀ id,base+1≤id→id<base+64→upd Γ base (.box (w.heap.size,e)) id=none:=fun id hid hlt=>by rw[Qr _ _ (by omega)];exact h.names id (hb id (by omega) hlt)
 have hr1:=hr
 have boxOK:∀ (Γ' : Gh) (cs' : List AV),Zbm (w.alloc (.cells vs e)) I F w.heap.size cs' vs.toList→Γ' base=some (.box (w.heap.size,e))→Zu (X4 Γ' (w.alloc (.cells vs e)) I) cs' vs.toList→V2 Γ' (w.alloc (.cells vs e)) I F A base (.box cs'):=
  fun Γ' cs' h0 h1 h2=>⟨w.heap.size,vs,e,h1,heap_alloc_new w _,fun hi=>absurd (h.bound _ hi) (by omega),h.fresh _ (Nat.le_refl _),h2,h0⟩
 rcases hv with rfl | ⟨hnb,rfl⟩
 ·rw[XR]
  refine h.add (Γ':=upd Γ base (.box (w.heap.size,e))) hk0 (Vd w _) (by simp) rfl rfl rfl ?_ ?_ ?_ ?_ ?_ ?_ hd
  ·intro k o' hk
   simp at hk
   obtain⟨rfl,rfl⟩:=hk
   exact boxOK _ _ (by
    rcases hq with hq | ⟨x,te,u,rfl,hvs⟩
    ·exact Zav hq
    ·rw[hvs];exact .inl ⟨rfl,rfl⟩) (ZM _ _ _) hr1
  ·intro i j o1 o2 b hi hj _ _
   simp at hi hj
   omega
  ·intro k o' b hk hbb
   simp at hk
   obtain⟨rfl,rfl⟩:=hk
   rcases hq with hq | ⟨x,te,u,rfl,hvs⟩
   ·have hbb:=hbb.box hq
    rw[ZM] at hbb
    cases hbb;exact Nat.le_refl _
   ·rcases hbb with hbb | hbb | ⟨g,hg1,hg2⟩
    ·rw[ZM] at hbb
     cases hbb;exact Nat.le_refl _
    ·exact hbb.elim
    ·rw[ZM] at hg1
     cases hg1
     have hcell:(w.alloc (.cells vs e)).cell? ⟨w.heap.size,1,none⟩=some (.slice none 0 0):=by
      have h2:(w.alloc (.cells vs e)).heap[w.heap.size]?=some (.cells vs e (0,0)):=heap_alloc_new w _
      simpa using Zfi h2 1 (.slice none 0 0) (by rw[hvs];rfl)
     unfold Y0 at hg2
     rw[show (((w.heap.size,e):Nat×Nat).1)=w.heap.size from rfl,hcell] at hg2
     simp[YJ] at hg2
  ·intro k hk;exact Qr _ _ (fun e=>hb.self (e ▸ hk))
  ·intro id hid;rw[Qr _ _ (fun e=>hid (.inr (by omega)))];exact h.names id (fun hu=>hid (.inl hu))
  ·exact⟨(w.heap.size,e),ZM _ _ _,rfl⟩
 ·rw[XR]
  simp only[Q7,Bool.and_eq_true,decide_eq_true_eq] at hok
  obtain⟨Γ',h1,h2,h3,h5⟩:=Zyc (w.alloc (.cells vs e)) I F A (base+64) slc cs vs.toList (base+1) (upd Γ base (.box (w.heap.size,e))) hok.2 hn1 hr1
  have hbase:Γ' base=some (.box (w.heap.size,e)):=by rw[h2 base (by omega),ZM]
  refine h.add (Γ':=Γ') (fun id r hr=>h1 _ _ (hk0 _ _ hr)) (Vd w _) (by simp) rfl rfl rfl ?_ ?_ ?_ ?_ ?_ ?_ hd
  ·intro k o' hk
   rcases List.mem_cons.1 hk with hk | hk
   ·cases hk;exact boxOK _ _ (Zav (by rw[Zf7];exact hnb)) hbase h5
   ·exact(h3 k o' hk).2.1
  ·intro i j o1 o2 b hi hj hbi hbj
   rcases List.mem_cons.1 hi with hi | hi<;>rcases List.mem_cons.1 hj with hj | hj
   ·cases hi;cases hj;rfl
   ·exact(hbj.nil (h3 j o2 hj).2.2).elim
   ·exact(hbi.nil (h3 i o1 hi).2.2).elim
   ·exact(hbj.nil (h3 j o2 hj).2.2).elim
  ·intro k o' b hk hbb
   rcases List.mem_cons.1 hk with hk | hk
   ·cases hk;have hbb:=hbb.box (by rw[Zf7];exact hnb);rw[hbase] at hbb;cases hbb;exact Nat.le_refl _
   ·exact(hbb.nil (h3 k o' hk).2.2).elim
  ·intro k hk
   have hne:k≠base:=fun e=>hb.self (e ▸ hk)
   have hout:k<base+1∨base+64≤k:=by
    rcases Nat.lt_or_ge k (base+1) with h' | h'
    ·exact .inl h'
    ·rcases Nat.lt_or_ge k (base+64) with h'' | h''
     ·exact absurd hk (hb k (by omega) h'')
     ·exact .inr h''
   rw[h2 k hout,Qr _ _ hne]
  ·intro id hid
   have hne:id≠base:=fun e=>hid (.inr (by omega))
   have hout:id<base+1∨base+64≤id:=by
    rcases Nat.lt_or_ge id (base+1) with h' | h'
    ·exact .inl h'
    ·rcases Nat.lt_or_ge id (base+64) with h'' | h''
     ·exact absurd (.inr ⟨by omega,h''⟩) hid
     ·exact .inr h''
   rw[h2 id hout,Qr _ _ hne]
   exact h.names id (fun hu=>hid (.inl hu))
  ·exact⟨(w.heap.size,e),hbase,rfl⟩
def RepT (Γ:Gh) (w:World) (I:Nat→Prop) (base t:Nat) (x:AV) (v:Value):Prop:=(X4 Γ w I x v∧Zg5 base x=x)∨(∃ i,x=.bnil i t)∧v=.pointer none
theorem Zwo (base:Nat) (v:Value):Zg5 base (Us v)=Us v:=by
 unfold Us
 split<;>rfl
theorem Zu0 (base:Nat) (z:Value):∀ x∈(evC z).cells,Zg5 base x=x:=by
 intro x hx
 have hat:∀ v:Value,x∈(Us v).cells→Zg5 base x=x:=by
  intro v hx
  unfold Us at hx
  split at hx<;>simp only[AV.cells,D.cells,List.map_cons,List.map_nil,List.mem_singleton] at hx<;>subst hx<;>rfl
 unfold evC at hx
 split at hx
 ·rename_i cs
  unfold JR at hx
  cases hd:Zd0 (cs.toList.map Us) with
  | some ds=>
   rw[hd] at hx
   simp only[UX,AV.cells,List.mem_map] at hx
   obtain⟨y,_,rfl⟩:=hx
   rfl
  | none=>
   rw[hd] at hx
   simp only[UX] at hx
   split at hx
   ·simp only[AV.cells,List.mem_singleton] at hx;subst hx;rfl
   ·simp only[AV.cells,List.mem_map] at hx
    obtain⟨y,_,rfl⟩:=hx
    exact Zwo base y
 ·exact hat _ hx
theorem Zwp {v:Value} (h:Us v=.nil):v=.slice none 0 0:=by
 unfold Us at h
 split at h<;>first | rfl | cases h
theorem Zpf {z:Value} (h:(evC z).cells=[.nilp,.nil]):∃ x,z.cells.toList=[x,.slice none 0 0]:=by
 unfold evC at h
 split at h
 ·rename_i cs
  unfold JR at h
  cases hd:Zd0 (cs.toList.map Us) with
  | some ds=>
   rw[hd] at h
   simp only[UX,AV.cells] at h
   match (D.agg ds).cells,h with
   | a :: _,h=>simp only[List.map_cons,List.cons.injEq] at h;exact absurd h.1 (by simp)
   | [],h=>cases h
  | none=>
   rw[hd] at h
   simp only[UX] at h
   split at h
   ·cases h
   ·simp only[AV.cells] at h
    match hl:cs.toList,h with
    | [x,y],h=>
     simp only[List.map_cons,List.map_nil,List.cons.injEq,and_true] at h
     exact⟨x,by rw[Zwp h.2]⟩
    | [],h=>cases h
    | [_],h=>simp at h
    | _ :: _ :: _ :: _,h=>simp at h
 ·exfalso
  unfold Us at h
  split at h<;>simp[AV.cells,D.cells] at h
theorem ZAD {Γ:Gh} {w:World} {I:Nat→Prop} {base b t te:Nat} (hb:Γ base=some (.box (b,t))) {z:Value} (ht:∀ x∈(evC z).cells,Zg5 base x=x) (hr:Zu (X4 Γ w I) (evC z).cells z.cells.toList):Zu (RepT Γ w I base t) (bnT t te (evC z).cells) z.cells.toList:=by
 have key:∀ {cs:List AV} {vs:List Value},(∀ x∈cs,Zg5 base x=x)→Zu (X4 Γ w I) cs vs→Zu (RepT Γ w I base t) cs vs:=by
  intro cs
  induction cs with
  | nil=>intro vs _ h;cases vs with
   | nil=>trivial
   | cons _ _=>exact h.elim
  | cons x r ih=>intro vs ht h;cases vs with
   | nil=>exact h.elim
   | cons v vs=>exact⟨.inl ⟨h.1,ht x (by simp)⟩,ih (fun y hy=>ht y (by simp[hy])) h.2⟩
 unfold bnT
 split
 ·rename_i hc
  obtain⟨x,hx⟩:=Zpf hc
  rw[hc,hx] at hr
  rw[hx]
  exact⟨.inr ⟨⟨0,rfl⟩,hr.1⟩,.inl ⟨⟨_,_,_,rfl⟩,rfl⟩,trivial⟩
 ·exact key ht hr
theorem ZAE {Γ:Gh} {w:World} {I:Nat→Prop} {base b t:Nat} (hb:Γ base=some (.box (b,t))) {cs:List AV} {vs:List Value} (hr:Zu (RepT Γ w I base t) cs vs):Zu (X4 Γ w I) (cs.map (Zg5 base)) vs:=by
 refine hr.map_left fun x v hx=>?_
 rcases hx with hx | ⟨⟨i,rfl⟩,rfl⟩
 ·rw[hx.2];exact hx.1
 ·exact⟨b,hb,.inl rfl⟩
theorem ZAF (z:Value):X7 (evC z).cells=true:=by
 rw[Zjq]
 intro te l hm
 have hat:∀ v:Value,AV.bbuf te l∈(Us v).cells→False:=by
  intro v hx
  unfold Us at hx
  split at hx<;>simp[AV.cells,D.cells] at hx
 unfold evC at hm
 split at hm
 ·rename_i cs
  unfold JR at hm
  cases hd:Zd0 (cs.toList.map Us) with
  | some ds=>
   rw[hd] at hm
   simp[UX,AV.cells] at hm
  | none=>
   rw[hd] at hm
   simp only[UX] at hm
   split at hm
   ·simp[AV.cells] at hm
   ·simp only[AV.cells,List.mem_map] at hm
    obtain⟨y,_,hy⟩:=hm
    unfold Us at hy
    split at hy<;>cases hy
 ·exact hat _ hm
theorem Zuf {base:Nat} {cs:List AV} (h:∀ x∈cs,Zg5 base x=x):cs.map (Zg5 base)=cs:=by
 rw[List.map_congr_left h,List.map_id']
theorem Zwq (base t te:Nat) (z:Value):(X7 ((bnT t te (evC z).cells).map (Zg5 base))=true)∨∃ u,(bnT t te (evC z).cells).map (Zg5 base)=[.bnil base t,.bbuf te []]∧z.cells.toList=[u,.slice none 0 0]:=by
 unfold bnT
 split
 ·rename_i hc
  obtain⟨x,hx⟩:=Zpf hc
  exact .inr ⟨x,rfl,hx⟩
 ·rw[Zuf (Zu0 base z)]
  exact .inl (ZAF z)
theorem Zyd (h:Sim nt F A I Γ U sl hp a w) {o:Oper} {t:TypeId} {z:Value} (ho:o.op=.alloc t) (hz:Zbl P t=some z) {base:Nat} (hb:XH U base) (hd:Xj nt o.dst=true) {ce:Zb} {slc:List (Option Nat)} {te:Nat}
  (hok:Q7 base (base+64) ce.eff.adds=true) (hv:Zee slc base (bnT t te (evC z).cells)=some ce):ZdJ P nt F A I Γ U sl hp a w o base ce:=by
 refine ZuZ h hb hd (e:=t) (ZAE (ZM _ _ _) (ZAD (te:=te) (ZM _ _ _) (Zu0 base z) ((Zjr Γ w I z).mono fun _ _ hx=>hx.mono (Vx _ (h.names base hb.self)) ⟨fun _ h=>h,fun b hb=>Vd w _ b (h.bound b hb)⟩))) slc ?_ hok ?_ (.inl ?_)
 ·rcases Zwq base t te z with h1 | ⟨u,h1,h2⟩
  ·exact .inl h1
  ·exact .inr ⟨_,te,u,h1,h2⟩
 ·unfold Zee Zi9 at hv
  split at hv
  ·split at hv
   ·cases hv;exact .inl rfl
   ·cases hv
  ·rename_i hn
   split at hv
   ·cases hv;exact .inr ⟨by simpa using hn,rfl⟩
   ·cases hv;exact .inl rfl
 ·simp[execOp,ho,Instr.alloc,Zdr hz,newVar,newRow]
theorem op_box (h:Sim nt F A I Γ U sl hp a w) {o:Oper} {t:TypeId} {x:Operand} {y:Opd} (ho:o.op=.box t x) (hc:Z8 x=some y) {base:Nat} (hb:XH U base) (hd:Xj nt o.dst=true) {ce:Zb}
  (hok:Q7 base (base+64) ce.eff.adds=true) (hv:ZtM base (evO sl y)=some ce):ZdJ P nt F A I Γ U sl hp a w o base ce:=by
 unfold ZtM at hv
 split at hv
 ·rename_i hs
  simp only[Bool.and_eq_true] at hs
  obtain⟨hs,hnb⟩:=hs
  cases hv
  refine ZuZ h hb hd (e:=t) ((Rep.cells hs (h.slOK.ev hc)).mono fun _ _ hx=>hx.mono (Vx _ (h.names base hb.self)) ⟨fun _ h=>h,fun b hb=>Vd w _ b (h.bound b hb)⟩) [] (.inl hnb) hok (.inl rfl) (.inl ?_)
  simp[execOp,ho,Instr.box,newVar,newRow]
 ·cases hv
def Zl.soft:Zl→Bool
 | .row _ _ _ fz=>!fz
 | .deep _ _ _ _=>true
 | .box _=>false
def Zl.thaw:Zl→Bool
 | .row _ _ _ fz=>!fz
 | .deep _ _ _ _=>false
 | .box _=>false
def Zfz (Γ:Gh) (w:World) (hp:Hp) (I:Nat→Prop) (ids:List Nat) (b:Nat):Prop:=
 I b∨∃ id∈ids,∃ o,lkp hp id=some o∧o.soft=true∧Blk Γ w id o b
def XS (Γ:Gh) (w:World) (hp:Hp) (I:Nat→Prop) (ids:List Nat) (b:Nat):Prop:=
 I b∨∃ id∈ids,∃ o,lkp hp id=some o∧o.thaw=true∧Blk Γ w id o b
theorem Zpg {a:Option Addr} {n c sz b:Nat} (h:ZE (some (.row a n c sz))=some b):∃ ad,a=some ad∧ad.block=b∧c≠0:=by
 cases a with
 | none=>simp[ZE] at h
 | some ad=>
  simp only[ZE] at h
  split at h
  ·cases h
  ·cases h;exact⟨ad,rfl,rfl,by assumption⟩
theorem Sim.froze_F (h:Sim nt F A I Γ U sl hp a w) {ids:List Nat} {b:Nat} (hb:XS Γ w hp I ids b):I b∨F b:=by
 rcases hb with hb | ⟨id,hid,o,hl,_,hb⟩
 ·exact .inl hb
 ·exact .inr (ZgI (h.objs id o hl) hb)
theorem Sim.frozeL_F (h:Sim nt F A I Γ U sl hp a w) {ids:List Nat} {b:Nat} (hb:Zfz Γ w hp I ids b):I b∨F b:=by
 rcases hb with hb | ⟨id,hid,o,hl,_,hb⟩
 ·exact .inl hb
 ·exact .inr (ZgI (h.objs id o hl) hb)
theorem ZfA {id:Nat} {o:Zl} {t:Bool} {b:Nat} (h:Blk Γ w id (if t then VR o else o) b):Blk Γ w id o b:=by
 cases t with
 | false=>exact h
 | true=>
  cases o with
  | box cs=>exact h
  | row sz xs ex fz=>exact h
  | deep sz ns xs lk=>exact h
theorem Sim.freeze (h:Sim nt F A I Γ U sl hp a w) (ids:List Nat):Sim nt F A (XS Γ w hp I ids) Γ U sl (Qq ids hp) a w:=by
 have hkeep:ZX I (XS Γ w hp I ids) w w:=⟨fun _ h=>.inl h,fun _ _=>rfl⟩
 refine { nt:=h.nt,dfr:=h.dfr,slots:=fun t=>(h.slots t).mono (Xh.refl Γ) hkeep,objs:=?_,inj:=?_,bound:=?_,fresh:=h.fresh,own:=h.own,names:=h.names,glob:=h.glob.mono hkeep }
 ·intro id o hl
  rw[Qi] at hl
  cases hl0:lkp hp id with
  | none=>rw[hl0] at hl;cases hl
  | some o0=>
   rw[hl0] at hl
   simp only[Option.map_some,Option.some.injEq] at hl
   have ho:=h.objs id o0 hl0
   have notI:∀ b,Blk Γ w id o0 b→(ids.contains id=false∨o0.thaw=false)→XS Γ w hp I ids b→I b:=by
    intro b hb hor hfr
    rcases hfr with hfr | ⟨id',hid',o',hl',hs',hb'⟩
    ·exact hfr
    ·have he:=h.inj id id' _ _ b hl0 hl' hb hb'
     subst he
     rw[hl0] at hl'
     cases hl'
     rcases hor with hor | hor
     ·simp at hor;exact absurd hid' hor
     ·rw[hs'] at hor;cases hor
   split at hl
   ·rename_i hin
    subst hl
    cases o0 with
    | box cs=>exact ho.mono (Xh.refl Γ) hkeep fun b hb=>⟨rfl,notI b hb (.inr rfl)⟩
    | deep sz ns xs lk=>exact ho.mono (Xh.refl Γ) hkeep fun b hb=>⟨rfl,notI b hb (.inr rfl)⟩
    | row sz xs ex fz=>
     simp only[VR]
     cases fz with
     | true=>exact ho.mono (Xh.refl Γ) hkeep fun b hb=>⟨rfl,notI b hb (.inr rfl)⟩
     | false=>
      obtain⟨ad,n,c,h1,h2,h3⟩:=ho
      refine⟨ad,n,c,h1,h2,?_⟩
      rcases h3 with h3 | ⟨g,cur,e,rfl,hc,hw,h4,h5,h6,h7,h8,hFg,h9⟩
      ·exact .inl h3
      ·refine .inr ⟨g,cur,e,rfl,hc,hw,h4,h5,h6,h7,?_,hFg,?_⟩
       ·simp only[if_true]
        exact .inr ⟨id,by simpa using hin,_,hl0,rfl,.inl (by rw[h1];simp[ZE,Nat.ne_of_gt hc])⟩
       ·cases ex
        ·exact h9.mono' hkeep rfl
        ·simp only[if_true] at h9 ⊢
         exact h9.mono' ⟨fun b hb=>⟨hkeep.sub b hb.1,hb.2⟩,fun _ _=>rfl⟩ rfl
   ·rename_i hin
    subst hl
    exact ho.mono (Xh.refl Γ) hkeep fun b hb=>⟨rfl,notI b hb (.inl (by simpa using hin))⟩
 ·intro i j o o' b hi hj hbi hbj
  rw[Qi] at hi hj
  cases hi0:lkp hp i with
  | none=>rw[hi0] at hi;cases hi
  | some oi=>cases hj0:lkp hp j with
   | none=>rw[hj0] at hj;cases hj
   | some oj=>
    rw[hi0] at hi;rw[hj0] at hj
    simp only[Option.map_some,Option.some.injEq] at hi hj
    subst hi hj
    exact h.inj i j oi oj b hi0 hj0 (ZfA hbi) (ZfA hbj)
 ·intro b hb
  rcases hb with hb | ⟨id,hid,o,hl,_,hb⟩
  ·exact h.bound b hb
  ·exact h.blk_lt hl hb
theorem froze_nil (Γ:Gh) (w:World) (hp:Hp) (I:Nat→Prop) (b:Nat):XS Γ w hp I [] b↔I b:=by simp[XS]
theorem US.of_freeze (h:Sim nt F A I Γ U sl hp a w) (ids:List Nat) {U' : Nat→Prop} {sl' : Sl} {hp' : Hp} {a' : Act} {w' : World}
  (hp:US nt F A (XS Γ w hp I ids) Γ w U' sl' hp' a' w'):US nt F A I Γ w U' sl' hp' a' w':=by
 obtain⟨I',Γ',h1,h2,h3,h4,h5⟩:=hp
 refine⟨I',Γ',h1,⟨fun b hb=>h2.sub b (.inl hb),fun b hb=>h2.blk b (.inl hb)⟩,fun b hb=>?_,h4,h5⟩
 rcases h3 b hb with h6 | h6
 ·exact h.froze_F h6
 ·exact .inr h6
end
end Go.Abs
