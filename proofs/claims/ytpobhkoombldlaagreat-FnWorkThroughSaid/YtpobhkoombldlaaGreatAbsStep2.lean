/- The abstract semantics and the model: new variables and rows,freezing. Own text. -/
import Derived.Test.YtpobhkoombldlaaGreatAbsStep
set_option linter.unusedVariables false
set_option linter.unusedSimpArgs false
namespace Go.Abs
open Go
theorem Yg (v:AV) (adds sets:Hp) (dels frz:List Nat) (dst:Option Nat) (sl:Sl) (hp:Hp) :
  Zf.on { eff := { val:=v,adds:=adds,sets:=sets,dels:=dels,frz:=frz },gone:=[] } dst sl hp =
   (Zw sl dst v,Zi (Zi (Qv (Ql frz hp) dels) sets) adds):=rfl
section
variable {P:Program} {nt:Nat} {U:Nat→Prop} {F A I:Nat→Prop} {Γ:Gh} {sl:Sl} {hp:Hp} {a:Act} {w:World}
def Zfz (P:Program) (nt:Nat) (F A I:Nat→Prop) (Γ:Gh) (U:Nat→Prop) (sl:Sl) (hp:Hp) (a:Act) (w:World) (o:Oper) (base:Nat) (ce:Zf):Prop:=
 ∃ u w',ZpS P o a w u w'∧JZ nt F A I Γ w (Za2 U base) (ce.on o.dst sl hp).1 (ce.on o.dst sl hp).2 (a.put o.dst u) w'
theorem Y2.opOK (h:Sim nt F A I Γ U sl hp a w) {o:Oper} {base:Nat} {ce:Zf} (hb:X8 U base) (hd:XA nt o.dst=true) (hp' : Y2 P Γ I o a w ce):Zfz P nt F A I Γ U sl hp a w o base ce:=by
 obtain⟨u,r,h1,rfl,h2⟩:=hp'
 exact⟨u,w,h1,h.pure (fun id hu=>.inl hu) h2 hd⟩
theorem Zzf (h:Sim nt F A I Γ U sl hp a w) {o:Oper} {x:Operand} {y:Opd} {e:Option Nat} (ho:o.op=.assign x) (hc:Qb x=some y) {base:Nat} (hb:X8 U base) (hd:XA nt o.dst=true) {ce:Zf}
  (hok:Q8 base (base+64) ce.eff.adds=true) (hv:Zew base e (evO sl y)=some ce):Zfz P nt F A I Γ U sl hp a w o base ce:=by
 unfold Zew at hv
 split at hv
 ·rename_i hy
  obtain⟨s,hs,hv⟩:=Za hv
  cases hv
  have h1:=h.slOK.ev hc
  rw[hy] at h1
  obtain⟨ad,h2⟩:=h1
  refine⟨a.eval x,w,.inl (by simp[execOp,ho]),?_⟩
  rw[Yg,h2]
  refine h.add (Γ':=upd Γ base (.row ad 0 0 s)) (Jk _ (h.names base hb.self)) (fun _ _=>rfl) (Nat.le_refl _) rfl rfl rfl ?_ ?_ ?_ ?_ ?_ ?_ hd
  ·intro k o' hk
   simp at hk
   obtain⟨rfl,rfl⟩:=hk
   exact⟨ad,0,0,ZW _ _ _,rfl,.inl ⟨rfl,rfl⟩⟩
  ·intro i j o1 o2 b hi hj _ _
   simp at hi hj
   omega
  ·intro k o' b hk hbb
   simp at hk
   obtain⟨rfl,rfl⟩:=hk
   exact(hbb.nil (by rw[ZW];cases ad<;>simp[ZL])).elim
  ·intro k hk;exact Qm _ _ (fun e=>hb.self (e ▸ hk))
  ·intro id hid;rw[Qm _ _ (fun e=>hid (.inr (by omega)))];exact h.names id (fun hu=>hid (.inl hu))
  ·exact⟨ad,0,0,s,ZW _ _ _,rfl⟩
 ·exact(ZmV (.inr ho) h.slOK hc hv).opOK h hb hd
theorem ZlN:∀ (vs:List Value),Zf0 (vs.map Znu)=false
 | []=>rfl
 | v :: vs=>by
  simp only[List.map_cons,Zf0,ZlN vs,Bool.or_false]
  cases v<;>try rfl
  ·rename_i x;cases x<;>rfl
  ·rename_i x n c;cases x<;>cases n<;>cases c<;>rfl
theorem Zm6 (Γ:Gh) (w:World) (I:Nat→Prop) (z:Value):ZB (Vm Γ w I) (evC z).cells z.cells.toList:=by
 have one:∀ z:Value,(∀ c,z≠.agg c)→(Znu z).cells=[Znu z]:=by
  intro z hz
  cases z<;>try rfl
  ·rename_i x;cases x<;>rfl
  ·rename_i x n c;cases x<;>cases n<;>cases c<;>rfl
 cases z with
 | agg cs=>
  refine Rep.cells ?_ (Zx8 (Value.agg cs))
  simp only[evC,Zc9]
  cases Zjl (cs.toList.map Znu)
  ·simp only[ZiQ,ZlN,Bool.false_eq_true,if_false];rfl
  ·rfl
 | _=>
  simp only[evC]
  rw[one _ (by simp)]
  exact⟨ZmK _,trivial⟩
theorem UJ (w:World) (o:Obj):∀ k,k<w.heap.size→(w.alloc o).heap[k]?=w.heap[k]?:=fun k hk=>heap_alloc_old w o k hk
theorem Zyj (h:Sim nt F A I Γ U sl hp a w) {o:Oper} {base:Nat} (hb:X8 U base) (hd:XA nt o.dst=true) {e:TypeId} {cs:List AV} {vs:Array Value} (hr:ZB (Vm Γ w I) cs vs.toList)
  (slc:List (Option Nat)) {ce:Zf} (hok:Q8 base (base+64) ce.eff.adds=true)
  (hv:ce = { eff := { val:=.ptr base 0,adds:=[(base,.box cs)] },gone:=[] } ∨
   ce = { eff := { val:=.ptr base 0,adds:=(base,.box (mat slc cs (base+1)).1) :: (mat slc cs (base+1)).2 },gone:=[] })
  (hg:ZpS P o a w (.pointer (some ⟨w.heap.size,0,none⟩)) (w.alloc (.cells vs e))):Zfz P nt F A I Γ U sl hp a w o base ce:=by
 refine⟨_,_,hg,?_⟩
 have hI:ZY I I w (w.alloc (.cells vs e)):=⟨fun _ h=>h,fun b hb=>UJ w _ b (h.bound b hb)⟩
 have hk0:=Jk (.box w.heap.size) (h.names base hb.self)
 have hn1:∀ id,base+1≤id→id<base+64→upd Γ base (.box w.heap.size) id=none:=fun id hid hlt=>by rw[Qm _ _ (by omega)];exact h.names id (hb id (by omega) hlt)
 have hr1:ZB (Vm (upd Γ base (.box w.heap.size)) (w.alloc (.cells vs e)) I) cs vs.toList:=hr.mono fun _ _ h=>h.mono hk0 hI
 have boxOK:∀ (Γ' : Gh) (cs' : List AV),Γ' base=some (.box w.heap.size)→ZB (Vm Γ' (w.alloc (.cells vs e)) I) cs' vs.toList→UB Γ' (w.alloc (.cells vs e)) I F A base (.box cs'):=
  fun Γ' cs' h1 h2=>⟨w.heap.size,vs,e,h1,heap_alloc_new w _,fun hi=>absurd (h.bound _ hi) (by omega),h.fresh _ (Nat.le_refl _),h2⟩
 rcases hv with rfl | rfl
 ·rw[Yg]
  refine h.add (Γ':=upd Γ base (.box w.heap.size)) hk0 (UJ w _) (by simp) rfl rfl rfl ?_ ?_ ?_ ?_ ?_ ?_ hd
  ·intro k o' hk
   simp at hk
   obtain⟨rfl,rfl⟩:=hk
   exact boxOK _ _ (ZW _ _ _) hr1
  ·intro i j o1 o2 b hi hj _ _
   simp at hi hj
   omega
  ·intro k o' b hk hbb
   simp at hk
   obtain⟨rfl,rfl⟩:=hk
   have hbb:=hbb.box
   rw[ZW] at hbb
   cases hbb;exact Nat.le_refl _
  ·intro k hk;exact Qm _ _ (fun e=>hb.self (e ▸ hk))
  ·intro id hid;rw[Qm _ _ (fun e=>hid (.inr (by omega)))];exact h.names id (fun hu=>hid (.inl hu))
  ·exact⟨w.heap.size,ZW _ _ _,rfl⟩
 ·rw[Yg]
  simp only[Q8,Bool.and_eq_true,decide_eq_true_eq] at hok
  obtain⟨Γ',h1,h2,h3,h5⟩:=ZAp (w.alloc (.cells vs e)) I F A (base+64) slc cs vs.toList (base+1) (upd Γ base (.box w.heap.size)) hok.2 hn1 hr1
  have hbase:Γ' base=some (.box w.heap.size):=by rw[h2 base (by omega),ZW]
  refine h.add (Γ':=Γ') (fun id r hr=>h1 _ _ (hk0 _ _ hr)) (UJ w _) (by simp) rfl rfl rfl ?_ ?_ ?_ ?_ ?_ ?_ hd
  ·intro k o' hk
   rcases List.mem_cons.1 hk with hk | hk
   ·cases hk;exact boxOK _ _ hbase h5
   ·exact(h3 k o' hk).2.1
  ·intro i j o1 o2 b hi hj hbi hbj
   rcases List.mem_cons.1 hi with hi | hi<;>rcases List.mem_cons.1 hj with hj | hj
   ·cases hi;cases hj;rfl
   ·exact(hbj.nil (h3 j o2 hj).2.2).elim
   ·exact(hbi.nil (h3 i o1 hi).2.2).elim
   ·exact(hbj.nil (h3 j o2 hj).2.2).elim
  ·intro k o' b hk hbb
   rcases List.mem_cons.1 hk with hk | hk
   ·cases hk;have hbb:=hbb.box;rw[hbase] at hbb;cases hbb;exact Nat.le_refl _
   ·exact(hbb.nil (h3 k o' hk).2.2).elim
  ·intro k hk
   have hne:k≠base:=fun e=>hb.self (e ▸ hk)
   have hout:k<base+1∨base+64≤k:=by
    rcases Nat.lt_or_ge k (base+1) with h' | h'
    ·exact .inl h'
    ·rcases Nat.lt_or_ge k (base+64) with h'' | h''
     ·exact absurd hk (hb k (by omega) h'')
     ·exact .inr h''
   rw[h2 k hout,Qm _ _ hne]
  ·intro id hid
   have hne:id≠base:=fun e=>hid (.inr (by omega))
   have hout:id<base+1∨base+64≤id:=by
    rcases Nat.lt_or_ge id (base+1) with h' | h'
    ·exact .inl h'
    ·rcases Nat.lt_or_ge id (base+64) with h'' | h''
     ·exact absurd (.inr ⟨by omega,h''⟩) hid
     ·exact .inr h''
   rw[h2 id hout,Qm _ _ hne]
   exact h.names id (fun hu=>hid (.inl hu))
  ·exact⟨w.heap.size,hbase,rfl⟩
theorem ZAq (h:Sim nt F A I Γ U sl hp a w) {o:Oper} {t:TypeId} {z:Value} (ho:o.op=.alloc t) (hz:Zdf P t=some z) {base:Nat} (hb:X8 U base) (hd:XA nt o.dst=true) {ce:Zf} {slc:List (Option Nat)}
  (hok:Q8 base (base+64) ce.eff.adds=true) (hv:Zgd slc base (evC z).cells=some ce):Zfz P nt F A I Γ U sl hp a w o base ce:=by
 refine Zyj h hb hd (e:=t) (Zm6 Γ w I z) slc hok ?_ (.inl ?_)
 ·unfold Zgd at hv
  split at hv
  ·cases hv;exact .inr rfl
  ·cases hv;exact .inl rfl
 ·simp[execOp,ho,Instr.alloc,Zfh hz,newVar,newRow]
theorem op_box (h:Sim nt F A I Γ U sl hp a w) {o:Oper} {t:TypeId} {x:Operand} {y:Opd} (ho:o.op=.box t x) (hc:Qb x=some y) {base:Nat} (hb:X8 U base) (hd:XA nt o.dst=true) {ce:Zf}
  (hok:Q8 base (base+64) ce.eff.adds=true) (hv:Zw3 base (evO sl y)=some ce):Zfz P nt F A I Γ U sl hp a w o base ce:=by
 unfold Zw3 at hv
 split at hv
 ·rename_i hs
  cases hv
  refine Zyj h hb hd (e:=t) (Rep.cells hs (h.slOK.ev hc)) [] hok (.inl rfl) (.inl ?_)
  simp[execOp,ho,Instr.box,newVar,newRow]
 ·cases hv
def Zt.soft:Zt→Bool
 | .row _ _ _ fz=>!fz
 | .deep _ _ _ _=>true
 | .box _=>false
def Zt.thaw:Zt→Bool
 | .row _ _ _ fz=>!fz
 | .deep _ _ _ _=>false
 | .box _=>false
def ZhN (Γ:Gh) (w:World) (hp:Hp) (I:Nat→Prop) (ids:List Nat) (b:Nat):Prop:=
 I b∨∃ id∈ids,∃ o,lkp hp id=some o∧o.soft=true∧Blk Γ w id o b
def Yj (Γ:Gh) (w:World) (hp:Hp) (I:Nat→Prop) (ids:List Nat) (b:Nat):Prop:=
 I b∨∃ id∈ids,∃ o,lkp hp id=some o∧o.thaw=true∧Blk Γ w id o b
theorem ZsZ {a:Option Addr} {n c sz b:Nat} (h:ZL (some (.row a n c sz))=some b):∃ ad,a=some ad∧ad.block=b∧c≠0:=by
 cases a with
 | none=>simp[ZL] at h
 | some ad=>
  simp only[ZL] at h
  split at h
  ·cases h
  ·cases h;exact⟨ad,rfl,rfl,by assumption⟩
theorem Sim.froze_F (h:Sim nt F A I Γ U sl hp a w) {ids:List Nat} {b:Nat} (hb:Yj Γ w hp I ids b):I b∨F b:=by
 rcases hb with hb | ⟨id,hid,o,hl,_,hb⟩
 ·exact .inl hb
 ·exact .inr (ZjB (h.objs id o hl) hb)
theorem Sim.frozeL_F (h:Sim nt F A I Γ U sl hp a w) {ids:List Nat} {b:Nat} (hb:ZhN Γ w hp I ids b):I b∨F b:=by
 rcases hb with hb | ⟨id,hid,o,hl,_,hb⟩
 ·exact .inl hb
 ·exact .inr (ZjB (h.objs id o hl) hb)
theorem ZhO {id:Nat} {o:Zt} {t:Bool} {b:Nat} (h:Blk Γ w id (if t then WM o else o) b):Blk Γ w id o b:=by
 cases t with
 | false=>exact h
 | true=>
  cases o with
  | box cs=>exact h
  | row sz xs ex fz=>exact h
  | deep sz ns xs lk=>exact h
theorem Sim.freeze (h:Sim nt F A I Γ U sl hp a w) (ids:List Nat):Sim nt F A (Yj Γ w hp I ids) Γ U sl (Ql ids hp) a w:=by
 have hkeep:ZY I (Yj Γ w hp I ids) w w:=⟨fun _ h=>.inl h,fun _ _=>rfl⟩
 refine { nt:=h.nt,dfr:=h.dfr,slots:=fun t=>(h.slots t).mono (Xt.refl Γ) hkeep,objs:=?_,inj:=?_,bound:=?_,fresh:=h.fresh,own:=h.own,names:=h.names,glob:=h.glob.mono hkeep }
 ·intro id o hl
  rw[Qj] at hl
  cases hl0:lkp hp id with
  | none=>rw[hl0] at hl;cases hl
  | some o0=>
   rw[hl0] at hl
   simp only[Option.map_some,Option.some.injEq] at hl
   have ho:=h.objs id o0 hl0
   have notI:∀ b,Blk Γ w id o0 b→(ids.contains id=false∨o0.thaw=false)→Yj Γ w hp I ids b→I b:=by
    intro b hb hor hfr
    rcases hfr with hfr | ⟨id',hid',o',hl',hs',hb'⟩
    ·exact hfr
    ·have he:=h.inj id id' _ _ b hl0 hl' hb hb'
     subst he
     rw[hl0] at hl'
     cases hl'
     rcases hor with hor | hor
     ·simp at hor;exact absurd hid' hor
     ·rw[hs'] at hor;cases hor
   split at hl
   ·rename_i hin
    subst hl
    cases o0 with
    | box cs=>exact ho.mono (Xt.refl Γ) hkeep fun b hb=>⟨rfl,notI b hb (.inr rfl)⟩
    | deep sz ns xs lk=>exact ho.mono (Xt.refl Γ) hkeep fun b hb=>⟨rfl,notI b hb (.inr rfl)⟩
    | row sz xs ex fz=>
     simp only[WM]
     cases fz with
     | true=>exact ho.mono (Xt.refl Γ) hkeep fun b hb=>⟨rfl,notI b hb (.inr rfl)⟩
     | false=>
      obtain⟨ad,n,c,h1,h2,h3⟩:=ho
      refine⟨ad,n,c,h1,h2,?_⟩
      rcases h3 with h3 | ⟨g,cur,e,rfl,hc,hw,h4,h5,h6,h7,h8,hFg,h9⟩
      ·exact .inl h3
      ·refine .inr ⟨g,cur,e,rfl,hc,hw,h4,h5,h6,h7,?_,hFg,?_⟩
       ·simp only[if_true]
        exact .inr ⟨id,by simpa using hin,_,hl0,rfl,.inl (by rw[h1];simp[ZL,Nat.ne_of_gt hc])⟩
       ·cases ex
        ·exact h9.mono' hkeep rfl
        ·simp only[if_true] at h9 ⊢
         exact h9.mono' ⟨fun b hb=>⟨hkeep.sub b hb.1,hb.2⟩,fun _ _=>rfl⟩ rfl
   ·rename_i hin
    subst hl
    exact ho.mono (Xt.refl Γ) hkeep fun b hb=>⟨rfl,notI b hb (.inl (by simpa using hin))⟩
 ·intro i j o o' b hi hj hbi hbj
  rw[Qj] at hi hj
  cases hi0:lkp hp i with
  | none=>rw[hi0] at hi;cases hi
  | some oi=>cases hj0:lkp hp j with
   | none=>rw[hj0] at hj;cases hj
   | some oj=>
    rw[hi0] at hi;rw[hj0] at hj
    simp only[Option.map_some,Option.some.injEq] at hi hj
    subst hi hj
    exact h.inj i j oi oj b hi0 hj0 (ZhO hbi) (ZhO hbj)
 ·intro b hb
  rcases hb with hb | ⟨id,hid,o,hl,_,hb⟩
  ·exact h.bound b hb
  ·exact h.blk_lt hl hb
theorem froze_nil (Γ:Gh) (w:World) (hp:Hp) (I:Nat→Prop) (b:Nat):Yj Γ w hp I [] b↔I b:=by simp[Yj]
theorem JZ.of_freeze (h:Sim nt F A I Γ U sl hp a w) (ids:List Nat) {U' : Nat→Prop} {sl' : Sl} {hp' : Hp} {a' : Act} {w' : World}
  (hp:JZ nt F A (Yj Γ w hp I ids) Γ w U' sl' hp' a' w'):JZ nt F A I Γ w U' sl' hp' a' w':=by
 obtain⟨I',Γ',h1,h2,h3,h4,h5⟩:=hp
 refine⟨I',Γ',h1,⟨fun b hb=>h2.sub b (.inl hb),fun b hb=>h2.blk b (.inl hb)⟩,fun b hb=>?_,h4,h5⟩
 rcases h3 b hb with h6 | h6
 ·exact h.froze_F h6
 ·exact .inr h6
end
end Go.Abs
