/- The abstract semantics and the model: new variables and rows,freezing. Own text. -/
import Derived.Test.YtkdjbefmiiibpaaGreatDoorAbsStep
set_option linter.unusedVariables false
set_option linter.unusedSimpArgs false
namespace Go.Abs
open Go
theorem Yl (v:AV) (adds sets:Hp) (dels frz:List Nat) (dst:Option Nat) (sl:Sl) (hp:Hp) :
  Zc.on { eff := { val:=v,adds:=adds,sets:=sets,dels:=dels,frz:=frz },gone:=[] } dst sl hp =
   (Zw sl dst v,Zg (Zg (QH (Qu frz hp) dels) sets) adds):=rfl
section
variable {P:Program} {nt:Nat} {U:Nat→Prop} {F A I:Nat→Prop} {Γ:Gh} {sl:Sl} {hp:Hp} {a:Act} {w:World}
def ZgL (P:Program) (nt:Nat) (F A I:Nat→Prop) (Γ:Gh) (U:Nat→Prop) (sl:Sl) (hp:Hp) (a:Act) (w:World) (o:Oper) (base:Nat) (ce:Zc):Prop:=
 ∃ u w',Zpw P o a w u w'∧JX nt F A I Γ w (Za3 U base) (ce.on o.dst sl hp).1 (ce.on o.dst sl hp).2 (a.put o.dst u) w'
theorem Vk.opOK (h:Sim nt F A I Γ U sl hp a w) {o:Oper} {base:Nat} {ce:Zc} (hb:Yd U base) (hd:XI nt o.dst=true) (hp' : Vk P Γ I o a w ce):ZgL P nt F A I Γ U sl hp a w o base ce:=by
 obtain⟨u,r,h1,rfl,h2⟩:=hp'
 exact⟨u,w,h1,h.pure (fun id hu=>.inl hu) h2 hd⟩
theorem Zzx (h:Sim nt F A I Γ U sl hp a w) {o:Oper} {x:Operand} {y:Opd} {e:Option Nat} (ho:o.op=.assign x) (hc:Qd x=some y) {base:Nat} (hb:Yd U base) (hd:XI nt o.dst=true) {ce:Zc}
  (hok:Xl base (base+64) ce.eff.adds=true) (hv:Zff base e (evO sl y)=some ce):ZgL P nt F A I Γ U sl hp a w o base ce:=by
 unfold Zff at hv
 split at hv
 ·rename_i hy
  obtain⟨s,hs,hv⟩:=Za hv
  cases hv
  have h1:=h.slOK.ev hc
  rw[hy] at h1
  obtain⟨ad,h2⟩:=h1
  refine⟨a.eval x,w,.inl (by simp[execOp,ho]),?_⟩
  rw[Yl,h2]
  refine h.add (Γ':=upd Γ base (.row ad 0 0 s)) (Wq _ (h.names base hb.self)) (fun _ _=>rfl) (Nat.le_refl _) rfl rfl rfl ?_ ?_ ?_ ?_ ?_ ?_ hd
  ·intro k o' hk
   simp at hk
   obtain⟨rfl,rfl⟩:=hk
   exact⟨ad,0,0,ZR _ _ _,rfl,.inl ⟨rfl,rfl⟩⟩
  ·intro i j o1 o2 b hi hj _ _
   simp at hi hj
   omega
  ·intro k o' b hk hbb
   simp at hk
   obtain⟨rfl,rfl⟩:=hk
   exact(hbb.nil (by rw[ZR];cases ad<;>simp[ZG])).elim
  ·intro k hk;exact Qv _ _ (fun e=>hb.self (e ▸ hk))
  ·intro id hid;rw[Qv _ _ (fun e=>hid (.inr (by omega)))];exact h.names id (fun hu=>hid (.inl hu))
  ·exact⟨ad,0,0,s,ZR _ _ _,rfl⟩
 ·exact(ZmJ (.inr ho) h.slOK hc hv).opOK h hb hd
theorem ZlO:∀ (vs:List Value),Zg6 (vs.map JE)=false
 | []=>rfl
 | v :: vs=>by
  simp only[List.map_cons,Zg6,ZlO vs,Bool.or_false]
  cases v<;>try rfl
  ·rename_i x;cases x<;>rfl
  ·rename_i x n c;cases x<;>cases n<;>cases c<;>rfl
theorem ZmX (Γ:Gh) (w:World) (I:Nat→Prop) (z:Value):Zz (YA Γ w I) (evC z).cells z.cells.toList:=by
 have one:∀ z:Value,(∀ c,z≠.agg c)→(JE z).cells=[JE z]:=by
  intro z hz
  cases z<;>try rfl
  ·rename_i x;cases x<;>rfl
  ·rename_i x n c;cases x<;>cases n<;>cases c<;>rfl
 cases z with
 | agg cs=>
  refine Rep.cells ?_ (Zx0 (Value.agg cs))
  simp only[evC,ZaT]
  cases Zg5 (cs.toList.map JE)
  ·simp only[Zac,ZlO,Bool.false_eq_true,if_false];rfl
  ·rfl
 | _=>
  simp only[evC]
  rw[one _ (by simp)]
  exact⟨Zmy _,trivial⟩
theorem V2 (w:World) (o:Obj):∀ k,k<w.heap.size→(w.alloc o).heap[k]?=w.heap[k]?:=fun k hk=>heap_alloc_old w o k hk
theorem Zyc (h:Sim nt F A I Γ U sl hp a w) {o:Oper} {base:Nat} (hb:Yd U base) (hd:XI nt o.dst=true) {e:TypeId} {cs:List AV} {vs:Array Value} (hr:Zz (YA (upd Γ base (.box (w.heap.size,e))) (w.alloc (.cells vs e)) I) cs vs.toList)
  (slc:List (Option Nat)) (hq:YM cs=true∨∃ x te u,cs=[x,.bbuf te []]∧vs.toList=[u,.slice none 0 0]) {ce:Zc} (hok:Xl base (base+64) ce.eff.adds=true)
  (hv:ce = { eff := { val:=.ptr base 0,adds:=[(base,.box cs)] },gone:=[] } ∨
   YM cs=true∧ce = { eff := { val:=.ptr base 0,adds:=(base,.box (mat slc cs (base+1)).1) :: (mat slc cs (base+1)).2 },gone:=[] })
  (hg:Zpw P o a w (.pointer (some ⟨w.heap.size,0,none⟩)) (w.alloc (.cells vs e))):ZgL P nt F A I Γ U sl hp a w o base ce:=by
 refine⟨_,_,hg,?_⟩
 have hI:Z3 I I w (w.alloc (.cells vs e)):=⟨fun _ h=>h,fun b hb=>V2 w _ b (h.bound b hb)⟩
 have hk0:=Wq (.box (w.heap.size,e)) (h.names base hb.self)
 have hn1:∀ id,base+1≤id→id<base+64→upd Γ base (.box (w.heap.size,e)) id=none:=fun id hid hlt=>by rw[Qv _ _ (by omega)];exact h.names id (hb id (by omega) hlt)
 have hr1:=hr
 have boxOK:∀ (Γ' : Gh) (cs' : List AV),Zdp (w.alloc (.cells vs e)) I F w.heap.size cs' vs.toList→Γ' base=some (.box (w.heap.size,e))→Zz (YA Γ' (w.alloc (.cells vs e)) I) cs' vs.toList→W1 Γ' (w.alloc (.cells vs e)) I F A base (.box cs'):=
  fun Γ' cs' h0 h1 h2=>⟨w.heap.size,vs,e,h1,heap_alloc_new w _,fun hi=>absurd (h.bound _ hi) (by omega),h.fresh _ (Nat.le_refl _),h2,h0⟩
 rcases hv with rfl | ⟨hnb,rfl⟩
 ·rw[Yl]
  refine h.add (Γ':=upd Γ base (.box (w.heap.size,e))) hk0 (V2 w _) (by simp) rfl rfl rfl ?_ ?_ ?_ ?_ ?_ ?_ hd
  ·intro k o' hk
   simp at hk
   obtain⟨rfl,rfl⟩:=hk
   exact boxOK _ _ (by
    rcases hq with hq | ⟨x,te,u,rfl,hvs⟩
    ·exact ZbP hq
    ·rw[hvs];exact .inl ⟨rfl,rfl⟩) (ZR _ _ _) hr1
  ·intro i j o1 o2 b hi hj _ _
   simp at hi hj
   omega
  ·intro k o' b hk hbb
   simp at hk
   obtain⟨rfl,rfl⟩:=hk
   rcases hq with hq | ⟨x,te,u,rfl,hvs⟩
   ·have hbb:=hbb.box hq
    rw[ZR] at hbb
    cases hbb;exact Nat.le_refl _
   ·rcases hbb with hbb | hbb | ⟨g,hg1,hg2⟩
    ·rw[ZR] at hbb
     cases hbb;exact Nat.le_refl _
    ·exact hbb.elim
    ·rw[ZR] at hg1
     cases hg1
     have hcell:(w.alloc (.cells vs e)).cell? ⟨w.heap.size,1,none⟩=some (.slice none 0 0):=by
      have h2:(w.alloc (.cells vs e)).heap[w.heap.size]?=some (.cells vs e (0,0)):=heap_alloc_new w _
      simpa using Zix h2 1 (.slice none 0 0) (by rw[hvs];rfl)
     unfold VN at hg2
     rw[show (((w.heap.size,e):Nat×Nat).1)=w.heap.size from rfl,hcell] at hg2
     simp[VC] at hg2
  ·intro k hk;exact Qv _ _ (fun e=>hb.self (e ▸ hk))
  ·intro id hid;rw[Qv _ _ (fun e=>hid (.inr (by omega)))];exact h.names id (fun hu=>hid (.inl hu))
  ·exact⟨(w.heap.size,e),ZR _ _ _,rfl⟩
 ·rw[Yl]
  simp only[Xl,Bool.and_eq_true,decide_eq_true_eq] at hok
  obtain⟨Γ',h1,h2,h3,h5⟩:=ZBa (w.alloc (.cells vs e)) I F A (base+64) slc cs vs.toList (base+1) (upd Γ base (.box (w.heap.size,e))) hok.2 hn1 hr1
  have hbase:Γ' base=some (.box (w.heap.size,e)):=by rw[h2 base (by omega),ZR]
  refine h.add (Γ':=Γ') (fun id r hr=>h1 _ _ (hk0 _ _ hr)) (V2 w _) (by simp) rfl rfl rfl ?_ ?_ ?_ ?_ ?_ ?_ hd
  ·intro k o' hk
   rcases List.mem_cons.1 hk with hk | hk
   ·cases hk;exact boxOK _ _ (ZbP (by rw[ZjK];exact hnb)) hbase h5
   ·exact(h3 k o' hk).2.1
  ·intro i j o1 o2 b hi hj hbi hbj
   rcases List.mem_cons.1 hi with hi | hi<;>rcases List.mem_cons.1 hj with hj | hj
   ·cases hi;cases hj;rfl
   ·exact(hbj.nil (h3 j o2 hj).2.2).elim
   ·exact(hbi.nil (h3 i o1 hi).2.2).elim
   ·exact(hbj.nil (h3 j o2 hj).2.2).elim
  ·intro k o' b hk hbb
   rcases List.mem_cons.1 hk with hk | hk
   ·cases hk;have hbb:=hbb.box (by rw[ZjK];exact hnb);rw[hbase] at hbb;cases hbb;exact Nat.le_refl _
   ·exact(hbb.nil (h3 k o' hk).2.2).elim
  ·intro k hk
   have hne:k≠base:=fun e=>hb.self (e ▸ hk)
   have hout:k<base+1∨base+64≤k:=by
    rcases Nat.lt_or_ge k (base+1) with h' | h'
    ·exact .inl h'
    ·rcases Nat.lt_or_ge k (base+64) with h'' | h''
     ·exact absurd hk (hb k (by omega) h'')
     ·exact .inr h''
   rw[h2 k hout,Qv _ _ hne]
  ·intro id hid
   have hne:id≠base:=fun e=>hid (.inr (by omega))
   have hout:id<base+1∨base+64≤id:=by
    rcases Nat.lt_or_ge id (base+1) with h' | h'
    ·exact .inl h'
    ·rcases Nat.lt_or_ge id (base+64) with h'' | h''
     ·exact absurd (.inr ⟨by omega,h''⟩) hid
     ·exact .inr h''
   rw[h2 id hout,Qv _ _ hne]
   exact h.names id (fun hu=>hid (.inl hu))
  ·exact⟨(w.heap.size,e),hbase,rfl⟩
def RepT (Γ:Gh) (w:World) (I:Nat→Prop) (base t:Nat) (x:AV) (v:Value):Prop:=(YA Γ w I x v∧ZkB base x=x)∨(∃ i,x=.bnil i t)∧v=.pointer none
theorem Zzy (base:Nat) (v:Value):ZkB base (JE v)=JE v:=by
 unfold JE
 split<;>rfl
theorem Zyd (base:Nat) (z:Value):∀ x∈(evC z).cells,ZkB base x=x:=by
 intro x hx
 have hat:∀ v:Value,x∈(JE v).cells→ZkB base x=x:=by
  intro v hx
  unfold JE at hx
  split at hx<;>simp only[AV.cells,D.cells,List.map_cons,List.map_nil,List.mem_singleton] at hx<;>subst hx<;>rfl
 unfold evC at hx
 split at hx
 ·rename_i cs
  unfold ZaT at hx
  cases hd:Zg5 (cs.toList.map JE) with
  | some ds=>
   rw[hd] at hx
   simp only[Zac,AV.cells,List.mem_map] at hx
   obtain⟨y,_,rfl⟩:=hx
   rfl
  | none=>
   rw[hd] at hx
   simp only[Zac] at hx
   split at hx
   ·simp only[AV.cells,List.mem_singleton] at hx;subst hx;rfl
   ·simp only[AV.cells,List.mem_map] at hx
    obtain⟨y,_,rfl⟩:=hx
    exact Zzy base y
 ·exact hat _ hx
theorem Zzz {v:Value} (h:JE v=.nil):v=.slice none 0 0:=by
 unfold JE at h
 split at h<;>first | rfl | cases h
theorem Zsh {z:Value} (h:(evC z).cells=[.nilp,.nil]):∃ x,z.cells.toList=[x,.slice none 0 0]:=by
 unfold evC at h
 split at h
 ·rename_i cs
  unfold ZaT at h
  cases hd:Zg5 (cs.toList.map JE) with
  | some ds=>
   rw[hd] at h
   simp only[Zac,AV.cells] at h
   match (D.agg ds).cells,h with
   | a :: _,h=>simp only[List.map_cons,List.cons.injEq] at h;exact absurd h.1 (by simp)
   | [],h=>cases h
  | none=>
   rw[hd] at h
   simp only[Zac] at h
   split at h
   ·cases h
   ·simp only[AV.cells] at h
    match hl:cs.toList,h with
    | [x,y],h=>
     simp only[List.map_cons,List.map_nil,List.cons.injEq,and_true] at h
     exact⟨x,by rw[Zzz h.2]⟩
    | [],h=>cases h
    | [_],h=>simp at h
    | _ :: _ :: _ :: _,h=>simp at h
 ·exfalso
  unfold JE at h
  split at h<;>simp[AV.cells,D.cells] at h
theorem ZC9 {Γ:Gh} {w:World} {I:Nat→Prop} {base b t te:Nat} (hb:Γ base=some (.box (b,t))) {z:Value} (ht:∀ x∈(evC z).cells,ZkB base x=x) (hr:Zz (YA Γ w I) (evC z).cells z.cells.toList):Zz (RepT Γ w I base t) (bnT t te (evC z).cells) z.cells.toList:=by
 have key:∀ {cs:List AV} {vs:List Value},(∀ x∈cs,ZkB base x=x)→Zz (YA Γ w I) cs vs→Zz (RepT Γ w I base t) cs vs:=by
  intro cs
  induction cs with
  | nil=>intro vs _ h;cases vs with
   | nil=>trivial
   | cons _ _=>exact h.elim
  | cons x r ih=>intro vs ht h;cases vs with
   | nil=>exact h.elim
   | cons v vs=>exact⟨.inl ⟨h.1,ht x (by simp)⟩,ih (fun y hy=>ht y (by simp[hy])) h.2⟩
 unfold bnT
 split
 ·rename_i hc
  obtain⟨x,hx⟩:=Zsh hc
  rw[hc,hx] at hr
  rw[hx]
  exact⟨.inr ⟨⟨0,rfl⟩,hr.1⟩,.inl ⟨⟨_,_,_,rfl⟩,rfl⟩,trivial⟩
 ·exact key ht hr
theorem ZDa {Γ:Gh} {w:World} {I:Nat→Prop} {base b t:Nat} (hb:Γ base=some (.box (b,t))) {cs:List AV} {vs:List Value} (hr:Zz (RepT Γ w I base t) cs vs):Zz (YA Γ w I) (cs.map (ZkB base)) vs:=by
 refine hr.map_left fun x v hx=>?_
 rcases hx with hx | ⟨⟨i,rfl⟩,rfl⟩
 ·rw[hx.2];exact hx.1
 ·exact⟨b,hb,.inl rfl⟩
theorem ZDb (z:Value):YM (evC z).cells=true:=by
 rw[ZmW]
 intro te l hm
 have hat:∀ v:Value,AV.bbuf te l∈(JE v).cells→False:=by
  intro v hx
  unfold JE at hx
  split at hx<;>simp[AV.cells,D.cells] at hx
 unfold evC at hm
 split at hm
 ·rename_i cs
  unfold ZaT at hm
  cases hd:Zg5 (cs.toList.map JE) with
  | some ds=>
   rw[hd] at hm
   simp[Zac,AV.cells] at hm
  | none=>
   rw[hd] at hm
   simp only[Zac] at hm
   split at hm
   ·simp[AV.cells] at hm
   ·simp only[AV.cells,List.mem_map] at hm
    obtain⟨y,_,hy⟩:=hm
    unfold JE at hy
    split at hy<;>cases hy
 ·exact hat _ hm
theorem Zw6 {base:Nat} {cs:List AV} (h:∀ x∈cs,ZkB base x=x):cs.map (ZkB base)=cs:=by
 rw[List.map_congr_left h,List.map_id']
theorem ZzA (base t te:Nat) (z:Value):(YM ((bnT t te (evC z).cells).map (ZkB base))=true)∨∃ u,(bnT t te (evC z).cells).map (ZkB base)=[.bnil base t,.bbuf te []]∧z.cells.toList=[u,.slice none 0 0]:=by
 unfold bnT
 split
 ·rename_i hc
  obtain⟨x,hx⟩:=Zsh hc
  exact .inr ⟨x,rfl,hx⟩
 ·rw[Zw6 (Zyd base z)]
  exact .inl (ZDb z)
theorem ZBb (h:Sim nt F A I Γ U sl hp a w) {o:Oper} {t:TypeId} {z:Value} (ho:o.op=.alloc t) (hz:Zdo P t=some z) {base:Nat} (hb:Yd U base) (hd:XI nt o.dst=true) {ce:Zc} {slc:List (Option Nat)} {te:Nat}
  (hok:Xl base (base+64) ce.eff.adds=true) (hv:Zhl slc base (bnT t te (evC z).cells)=some ce):ZgL P nt F A I Γ U sl hp a w o base ce:=by
 refine Zyc h hb hd (e:=t) (ZDa (ZR _ _ _) (ZC9 (te:=te) (ZR _ _ _) (Zyd base z) ((ZmX Γ w I z).mono fun _ _ hx=>hx.mono (Wq _ (h.names base hb.self)) ⟨fun _ h=>h,fun b hb=>V2 w _ b (h.bound b hb)⟩))) slc ?_ hok ?_ (.inl ?_)
 ·rcases ZzA base t te z with h1 | ⟨u,h1,h2⟩
  ·exact .inl h1
  ·exact .inr ⟨_,te,u,h1,h2⟩
 ·unfold Zhl ZmD at hv
  split at hv
  ·split at hv
   ·cases hv;exact .inl rfl
   ·cases hv
  ·rename_i hn
   split at hv
   ·cases hv;exact .inr ⟨by simpa using hn,rfl⟩
   ·cases hv;exact .inl rfl
 ·simp[execOp,ho,Instr.alloc,Zgt hz,newVar,newRow]
theorem op_box (h:Sim nt F A I Γ U sl hp a w) {o:Oper} {t:TypeId} {x:Operand} {y:Opd} (ho:o.op=.box t x) (hc:Qd x=some y) {base:Nat} (hb:Yd U base) (hd:XI nt o.dst=true) {ce:Zc}
  (hok:Xl base (base+64) ce.eff.adds=true) (hv:Zwz base (evO sl y)=some ce):ZgL P nt F A I Γ U sl hp a w o base ce:=by
 unfold Zwz at hv
 split at hv
 ·rename_i hs
  simp only[Bool.and_eq_true] at hs
  obtain⟨hs,hnb⟩:=hs
  cases hv
  refine Zyc h hb hd (e:=t) ((Rep.cells hs (h.slOK.ev hc)).mono fun _ _ hx=>hx.mono (Wq _ (h.names base hb.self)) ⟨fun _ h=>h,fun b hb=>V2 w _ b (h.bound b hb)⟩) [] (.inl hnb) hok (.inl rfl) (.inl ?_)
  simp[execOp,ho,Instr.box,newVar,newRow]
 ·cases hv
def Zo.soft:Zo→Bool
 | .row _ _ _ fz=>!fz
 | .deep _ _ _ _=>true
 | .box _=>false
def Zo.thaw:Zo→Bool
 | .row _ _ _ fz=>!fz
 | .deep _ _ _ _=>false
 | .box _=>false
def ZiP (Γ:Gh) (w:World) (hp:Hp) (I:Nat→Prop) (ids:List Nat) (b:Nat):Prop:=
 I b∨∃ id∈ids,∃ o,lkp hp id=some o∧o.soft=true∧Blk Γ w id o b
def Yp (Γ:Gh) (w:World) (hp:Hp) (I:Nat→Prop) (ids:List Nat) (b:Nat):Prop:=
 I b∨∃ id∈ids,∃ o,lkp hp id=some o∧o.thaw=true∧Blk Γ w id o b
theorem Zsi {a:Option Addr} {n c sz b:Nat} (h:ZG (some (.row a n c sz))=some b):∃ ad,a=some ad∧ad.block=b∧c≠0:=by
 cases a with
 | none=>simp[ZG] at h
 | some ad=>
  simp only[ZG] at h
  split at h
  ·cases h
  ·cases h;exact⟨ad,rfl,rfl,by assumption⟩
theorem Sim.froze_F (h:Sim nt F A I Γ U sl hp a w) {ids:List Nat} {b:Nat} (hb:Yp Γ w hp I ids b):I b∨F b:=by
 rcases hb with hb | ⟨id,hid,o,hl,_,hb⟩
 ·exact .inl hb
 ·exact .inr (Zkf (h.objs id o hl) hb)
theorem Sim.frozeL_F (h:Sim nt F A I Γ U sl hp a w) {ids:List Nat} {b:Nat} (hb:ZiP Γ w hp I ids b):I b∨F b:=by
 rcases hb with hb | ⟨id,hid,o,hl,_,hb⟩
 ·exact .inl hb
 ·exact .inr (Zkf (h.objs id o hl) hb)
theorem ZiQ {id:Nat} {o:Zo} {t:Bool} {b:Nat} (h:Blk Γ w id (if t then WK o else o) b):Blk Γ w id o b:=by
 cases t with
 | false=>exact h
 | true=>
  cases o with
  | box cs=>exact h
  | row sz xs ex fz=>exact h
  | deep sz ns xs lk=>exact h
theorem Sim.freeze (h:Sim nt F A I Γ U sl hp a w) (ids:List Nat):Sim nt F A (Yp Γ w hp I ids) Γ U sl (Qu ids hp) a w:=by
 have hkeep:Z3 I (Yp Γ w hp I ids) w w:=⟨fun _ h=>.inl h,fun _ _=>rfl⟩
 refine { nt:=h.nt,dfr:=h.dfr,slots:=fun t=>(h.slots t).mono (XA.refl Γ) hkeep,objs:=?_,inj:=?_,bound:=?_,fresh:=h.fresh,own:=h.own,names:=h.names,glob:=h.glob.mono hkeep }
 ·intro id o hl
  rw[Qm] at hl
  cases hl0:lkp hp id with
  | none=>rw[hl0] at hl;cases hl
  | some o0=>
   rw[hl0] at hl
   simp only[Option.map_some,Option.some.injEq] at hl
   have ho:=h.objs id o0 hl0
   have notI:∀ b,Blk Γ w id o0 b→(ids.contains id=false∨o0.thaw=false)→Yp Γ w hp I ids b→I b:=by
    intro b hb hor hfr
    rcases hfr with hfr | ⟨id',hid',o',hl',hs',hb'⟩
    ·exact hfr
    ·have he:=h.inj id id' _ _ b hl0 hl' hb hb'
     subst he
     rw[hl0] at hl'
     cases hl'
     rcases hor with hor | hor
     ·simp at hor;exact absurd hid' hor
     ·rw[hs'] at hor;cases hor
   split at hl
   ·rename_i hin
    subst hl
    cases o0 with
    | box cs=>exact ho.mono (XA.refl Γ) hkeep fun b hb=>⟨rfl,notI b hb (.inr rfl)⟩
    | deep sz ns xs lk=>exact ho.mono (XA.refl Γ) hkeep fun b hb=>⟨rfl,notI b hb (.inr rfl)⟩
    | row sz xs ex fz=>
     simp only[WK]
     cases fz with
     | true=>exact ho.mono (XA.refl Γ) hkeep fun b hb=>⟨rfl,notI b hb (.inr rfl)⟩
     | false=>
      obtain⟨ad,n,c,h1,h2,h3⟩:=ho
      refine⟨ad,n,c,h1,h2,?_⟩
      rcases h3 with h3 | ⟨g,cur,e,rfl,hc,hw,h4,h5,h6,h7,h8,hFg,h9⟩
      ·exact .inl h3
      ·refine .inr ⟨g,cur,e,rfl,hc,hw,h4,h5,h6,h7,?_,hFg,?_⟩
       ·simp only[if_true]
        exact .inr ⟨id,by simpa using hin,_,hl0,rfl,.inl (by rw[h1];simp[ZG,Nat.ne_of_gt hc])⟩
       ·cases ex
        ·exact h9.mono' hkeep rfl
        ·simp only[if_true] at h9 ⊢
         exact h9.mono' ⟨fun b hb=>⟨hkeep.sub b hb.1,hb.2⟩,fun _ _=>rfl⟩ rfl
   ·rename_i hin
    subst hl
    exact ho.mono (XA.refl Γ) hkeep fun b hb=>⟨rfl,notI b hb (.inl (by simpa using hin))⟩
 ·intro i j o o' b hi hj hbi hbj
  rw[Qm] at hi hj
  cases hi0:lkp hp i with
  | none=>rw[hi0] at hi;cases hi
  | some oi=>cases hj0:lkp hp j with
   | none=>rw[hj0] at hj;cases hj
   | some oj=>
    rw[hi0] at hi;rw[hj0] at hj
    simp only[Option.map_some,Option.some.injEq] at hi hj
    subst hi hj
    exact h.inj i j oi oj b hi0 hj0 (ZiQ hbi) (ZiQ hbj)
 ·intro b hb
  rcases hb with hb | ⟨id,hid,o,hl,_,hb⟩
  ·exact h.bound b hb
  ·exact h.blk_lt hl hb
theorem froze_nil (Γ:Gh) (w:World) (hp:Hp) (I:Nat→Prop) (b:Nat):Yp Γ w hp I [] b↔I b:=by simp[Yp]
theorem JX.of_freeze (h:Sim nt F A I Γ U sl hp a w) (ids:List Nat) {U' : Nat→Prop} {sl' : Sl} {hp' : Hp} {a' : Act} {w' : World}
  (hp:JX nt F A (Yp Γ w hp I ids) Γ w U' sl' hp' a' w'):JX nt F A I Γ w U' sl' hp' a' w':=by
 obtain⟨I',Γ',h1,h2,h3,h4,h5⟩:=hp
 refine⟨I',Γ',h1,⟨fun b hb=>h2.sub b (.inl hb),fun b hb=>h2.blk b (.inl hb)⟩,fun b hb=>?_,h4,h5⟩
 rcases h3 b hb with h6 | h6
 ·exact h.froze_F h6
 ·exact .inr h6
end
end Go.Abs
