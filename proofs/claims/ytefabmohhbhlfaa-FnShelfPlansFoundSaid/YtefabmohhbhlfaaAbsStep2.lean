/- Own text. -/
import Derived.Test.YtefabmohhbhlfaaAbsStep
set_option linter.unusedVariables false
set_option linter.unusedSimpArgs false
namespace Go.Abs
open Go
theorem QB (v:AV) (adds sets:Hp) (dels frz:List Nat) (dst:Option Nat) (sl:Sl) (hp:Hp) :
  Zb.on { eff := { val:=v,adds:=adds,sets:=sets,dels:=dels,frz:=frz },gone:=[] } dst sl hp =
   (Zi sl dst v,Zd (Zd (ZP (Z2 frz hp) dels) sets) adds):=rfl
section
variable {P:Program} {nt:Nat} {U:Nat→Prop} {F A I:Nat→Prop} {Γ:Gh} {sl:Sl} {hp:Hp} {a:Act} {w:World}
def JJ (P:Program) (nt:Nat) (F A I:Nat→Prop) (Γ:Gh) (U:Nat→Prop) (sl:Sl) (hp:Hp) (a:Act) (w:World) (o:Oper) (base:Nat) (ce:Zb):Prop:=
 ∃ u w',Zhh P o a w u w'∧X9 nt F A I Γ w (Wb U base) (ce.on o.dst sl hp).1 (ce.on o.dst sl hp).2 (a.put o.dst u) w'
theorem Q9.opOK (h:Sim nt F A I Γ U sl hp a w) {o:Oper} {base:Nat} {ce:Zb} (hb:Qx U base) (hd:Qm nt o.dst=true) (hp' : Q9 P Γ I o a w ce):JJ P nt F A I Γ U sl hp a w o base ce:=by
 obtain⟨u,r,h1,rfl,h2⟩:=hp';exact⟨u,w,h1,h.pure (fun id hu=>.inl hu) h2 hd⟩
theorem ZpS (h:Sim nt F A I Γ U sl hp a w) {o:Oper} {x:Operand} {y:Opd} {e:Option Nat} (ho:o.op=.assign x) (hc:ZJ x=some y) {base:Nat} (hb:Qx U base) (hd:Qm nt o.dst=true) {ce:Zb}
  (ae:Qr base (base+64) ce.eff.adds=true) (hv:Zar base e (evO sl y)=some ce):JJ P nt F A I Γ U sl hp a w o base ce:=by
 unfold Zar at hv;split at hv
 ·rename_i hy;obtain⟨s,hs,hv⟩:=Za hv;cases hv;have h1:=h.slOK.ev hc;rw[hy] at h1;obtain⟨ad,h2⟩:=h1;refine⟨a.eval x,w,.inl (by simp[execOp,ho]),?_⟩;rw[QB,h2];refine h.add (Γ':=upd Γ base (.row ad 0 0 s)) (Yd _ (h.names base hb.self)) (fun _ _=>rfl) (Kh _) rfl rfl rfl ?_ ?_ ?_ ?_ ?_ ?_ hd
  ·intro k o' hk;simp at hk;obtain⟨rfl,rfl⟩:=hk;exact⟨ad,0,0,Zw _ _ _,rfl,.inl ⟨rfl,rfl⟩⟩
  ·intro i j o1 o2 b hi hj _ _;simp at hi hj;omega
  ·intro k o' b hk ab;simp at hk;obtain⟨rfl,rfl⟩:=hk;exact(ab.nil (by rw[Zw];cases ad<;>simp[Zp])).elim
  ·intro k hk;exact Qg _ _ (fun e=>hb.self (e ▸ hk))
  ·intro id aa;rw[Qg _ _ (fun e=>aa (.inr (by omega)))];exact h.names id (fun hu=>aa (.inl hu))
  ·exact⟨ad,0,0,s,Zw _ _ _,rfl⟩
 ·exact(Zez (.inr ho) h.slOK hc hv).opOK h hb hd
theorem ZdL:∀ (vs:List Value),Jy (vs.map Vb)=false
 | []=>rfl
 | v :: vs=>by
  simp only[Kq,Jy,ZdL vs,Bool.or_false];cases v<;>try rfl
  ·rename_i x;cases x<;>rfl
  ·rename_i x n c;cases x<;>cases n<;>cases c<;>rfl
theorem ZeN (Γ:Gh) (w:World) (I:Nat→Prop) (z:Value):Zq (QT Γ w I) (evC z).cells z.cells.toList:=by
 have one:∀ z:Value,(∀ c,z≠.agg c)→(Vb z).cells=[Vb z]:=by
  intro z hz;cases z<;>try rfl
  ·rename_i x;cases x<;>rfl
  ·rename_i x n c;cases x<;>cases n<;>cases c<;>rfl
 cases z with
 | agg cs=>
  refine Rep.cells ?_ (Zot (Value.agg cs));simp only[evC,VT];cases Zad (cs.toList.map Vb)
  ·simp only[Vw,ZdL,Ka,Ki];rfl
  ·rfl
 | _=>
  simp only[evC];rw[one _ (by simp)];exact⟨Zep _,trivial⟩
theorem Xd (w:World) (o:Obj):∀ k,k<w.heap.size→(w.alloc o).heap[k]?=w.heap[k]?:=fun k hk=>heap_alloc_old w o k hk
theorem ZoL (h:Sim nt F A I Γ U sl hp a w) {o:Oper} {base:Nat} (hb:Qx U base) (hd:Qm nt o.dst=true) {e:TypeId} {cs:List AV} {vs:Array Value} (hr:Zq (QT (upd Γ base (.box (w.heap.size,e))) (w.alloc (.cells vs e)) I) cs vs.toList)
  (slc:List (Option Nat)) (hq:QU cs=true∨∃ x te u,cs=[x,.bbuf te []]∧vs.toList=[u,.slice none 0 0]) {ce:Zb} (am:Qr base (base+64) ce.eff.adds=true)
  (hv:ce = { eff := { val:=.ptr base 0,adds:=[(base,.box cs)] },gone:=[] } ∨
   QU cs=true∧ce = { eff := { val:=.ptr base 0,adds:=(base,.box (mat slc cs (base+1)).1) :: (mat slc cs (base+1)).2 },gone:=[] })
  (hg:Zhh P o a w (.pointer (some ⟨w.heap.size,0,none⟩)) (w.alloc (.cells vs e))):JJ P nt F A I Γ U sl hp a w o base ce:=by
 refine⟨_,_,hg,?_⟩;have hI:ZB I I w (w.alloc (.cells vs e)):=⟨fun _ h=>h,fun b hb=>Xd w _ b (h.bound b hb)⟩
 have an:=Yd (.box (w.heap.size,e)) (h.names base hb.self);have au:∀ id,base+1≤id→id<base+64→upd Γ base (.box (w.heap.size,e)) id=none:=fun id ae av=>by rw[Qg _ _ (by omega)];exact h.names id (hb id (by omega) av)
 have ao:=hr;have ad:∀ (Γ' : Gh) (ai : List AV),Jq (w.alloc (.cells vs e)) I F w.heap.size ai vs.toList→Γ' base=some (.box (w.heap.size,e))→Zq (QT Γ' (w.alloc (.cells vs e)) I) ai vs.toList→XF Γ' (w.alloc (.cells vs e)) I F A base (.box ai):=
  fun Γ' ai h0 h1 h2=>⟨w.heap.size,vs,e,h1,heap_alloc_new w _,fun hi=>absurd (h.bound _ hi) (by omega),h.fresh _ (Kh _),h2,h0⟩
 rcases hv with rfl | ⟨ap,rfl⟩
 ·rw[QB];refine h.add (Γ':=upd Γ base (.box (w.heap.size,e))) an (Xd w _) (by simp) rfl rfl rfl ?_ ?_ ?_ ?_ ?_ ?_ hd
  ·intro k o' hk;simp at hk;obtain⟨rfl,rfl⟩:=hk;exact ad _ _ (by
    rcases hq with hq | ⟨x,te,u,rfl,aj⟩
    ·exact ZaM hq
    ·rw[aj];exact .inl ⟨rfl,rfl⟩) (Zw _ _ _) ao
  ·intro i j o1 o2 b hi hj _ _;simp at hi hj;omega
  ·intro k o' b hk aa;simp at hk;obtain⟨rfl,rfl⟩:=hk;rcases hq with hq | ⟨x,te,u,rfl,aj⟩
   ·have aa:=aa.box hq;rw[Zw] at aa;cases aa;exact Kh _
   ·rcases aa with aa | aa | ⟨g,aq,ak⟩
    ·rw[Zw] at aa;cases aa;exact Kh _
    ·exact aa.elim
    ·rw[Zw] at aq;cases aq;have ah:(w.alloc (.cells vs e)).cell? ⟨w.heap.size,1,none⟩=some (.slice none 0 0):=by
      have h2:(w.alloc (.cells vs e)).heap[w.heap.size]?=some (.cells vs e (0,0)):=heap_alloc_new w _;simpa using Zbe h2 1 (.slice none 0 0) (by rw[aj];rfl)
     unfold Zdy at ak;rw[show (((w.heap.size,e):Nat×Nat).1)=w.heap.size from rfl,ah] at ak;simp[Zmf] at ak
  ·intro k hk;exact Qg _ _ (fun e=>hb.self (e ▸ hk))
  ·intro id ae;rw[Qg _ _ (fun e=>ae (.inr (by omega)))];exact h.names id (fun hu=>ae (.inl hu))
  ·exact⟨(w.heap.size,e),Zw _ _ _,rfl⟩
 ·rw[QB];simp only[Qr,Kb,Kl] at am;obtain⟨Γ',h1,h2,h3,h5⟩:=Zq0 (w.alloc (.cells vs e)) I F A (base+64) slc cs vs.toList (base+1) (upd Γ base (.box (w.heap.size,e))) am.2 au ao;have ab:Γ' base=some (.box (w.heap.size,e)):=by rw[h2 base (by omega),Zw]
  refine h.add (Γ':=Γ') (fun id r hr=>h1 _ _ (an _ _ hr)) (Xd w _) (by simp) rfl rfl rfl ?_ ?_ ?_ ?_ ?_ ?_ hd
  ·intro k o' hk;rcases Kf.1 hk with hk | hk
   ·cases hk;exact ad _ _ (ZaM (by rw[Zb7];exact ap)) ab h5
   ·exact(h3 k o' hk).2.1
  ·intro i j o1 o2 b hi hj aw ar;rcases Kf.1 hi with hi | hi<;>rcases Kf.1 hj with hj | hj
   ·cases hi;cases hj;rfl
   ·exact(ar.nil (h3 j o2 hj).2.2).elim
   ·exact(aw.nil (h3 i o1 hi).2.2).elim
   ·exact(ar.nil (h3 j o2 hj).2.2).elim
  ·intro k o' b hk aa;rcases Kf.1 hk with hk | hk
   ·cases hk;have aa:=aa.box (by rw[Zb7];exact ap);rw[ab] at aa;cases aa;exact Kh _
   ·exact(aa.nil (h3 k o' hk).2.2).elim
  ·intro k hk;have al:k≠base:=fun e=>hb.self (e ▸ hk);have af:k<base+1∨base+64≤k:=by
    rcases KZ k (base+1) with h' | h'
    ·exact .inl h'
    ·rcases KZ k (base+64) with ag | ag
     ·exact absurd hk (hb k (by omega) ag)
     ·exact .inr ag
   rw[h2 k af,Qg _ _ al]
  ·intro id ae;have al:id≠base:=fun e=>ae (.inr (by omega));have af:id<base+1∨base+64≤id:=by
    rcases KZ id (base+1) with h' | h'
    ·exact .inl h'
    ·rcases KZ id (base+64) with ag | ag
     ·exact absurd (.inr ⟨by omega,ag⟩) ae
     ·exact .inr ag
   rw[h2 id af,Qg _ _ al];exact h.names id (fun hu=>ae (.inl hu))
  ·exact⟨(w.heap.size,e),ab,rfl⟩
def RepT (Γ:Gh) (w:World) (I:Nat→Prop) (base t:Nat) (x:AV) (v:Value):Prop:=(QT Γ w I x v∧ZcM base x=x)∨(∃ i,x=.bnil i t)∧v=.pointer none
theorem ZpT (base:Nat) (v:Value):ZcM base (Vb v)=Vb v:=by
 unfold Vb;split<;>rfl
theorem ZoM (base:Nat) (z:Value):∀ x∈(evC z).cells,ZcM base x=x:=by
 intro x hx;have aa:∀ v:Value,x∈(Vb v).cells→ZcM base x=x:=by
  intro v hx;unfold Vb at hx;split at hx<;>simp only[AV.cells,D.cells,Kq,Lv,Kv] at hx<;>subst hx<;>rfl
 unfold evC at hx;split at hx
 ·rename_i cs;unfold VT at hx;cases hd:Zad (cs.toList.map Vb) with
  | some ds=>
   rw[hd] at hx;simp only[Vw,AV.cells,KV] at hx;obtain⟨y,_,rfl⟩:=hx;rfl
  | none=>
   rw[hd] at hx;simp only[Vw] at hx;split at hx
   ·simp only[AV.cells,Kv] at hx;subst hx;rfl
   ·simp only[AV.cells,KV] at hx;obtain⟨y,_,rfl⟩:=hx;exact ZpT base y
 ·exact aa _ hx
theorem ZpU {v:Value} (h:Vb v=.nil):v=.slice none 0 0:=by
 unfold Vb at h;split at h<;>first | rfl | cases h
theorem ZjU {z:Value} (h:(evC z).cells=[.nilp,.nil]):∃ x,z.cells.toList=[x,.slice none 0 0]:=by
 unfold evC at h;split at h
 ·rename_i cs;unfold VT at h;cases hd:Zad (cs.toList.map Vb) with
  | some ds=>
   rw[hd] at h;simp only[Vw,AV.cells] at h
   match (D.agg ds).cells,h with
   | a :: _,h=>simp only[Kq,List.cons.injEq] at h;exact absurd h.1 (by simp)
   | [],h=>cases h
  | none=>
   rw[hd] at h;simp only[Vw] at h;split at h
   ·cases h
   ·simp only[AV.cells] at h
    match hl:cs.toList,h with
    | [x,y],h=>
     simp only[Kq,Lv,List.cons.injEq,and_true] at h;exact⟨x,by rw[ZpU h.2]⟩
    | [],h=>cases h
    | [_],h=>simp at h
    | _ :: _ :: _ :: _,h=>simp at h
 ·exfalso
  unfold Vb at h;split at h<;>simp[AV.cells,D.cells] at h
theorem Zr8 {Γ:Gh} {w:World} {I:Nat→Prop} {base b t te:Nat} (hb:Γ base=some (.box (b,t))) {z:Value} (ht:∀ x∈(evC z).cells,ZcM base x=x) (hr:Zq (QT Γ w I) (evC z).cells z.cells.toList):Zq (RepT Γ w I base t) (bnT t te (evC z).cells) z.cells.toList:=by
 have aa:∀ {cs:List AV} {vs:List Value},(∀ x∈cs,ZcM base x=x)→Zq (QT Γ w I) cs vs→Zq (RepT Γ w I base t) cs vs:=by
  intro cs
  induction cs with
  | nil=>intro vs _ h;cases vs with
   | nil=>trivial
   | cons _ _=>exact h.elim
  | cons x r ih=>intro vs ht h;cases vs with
   | nil=>exact h.elim
   | cons v vs=>exact⟨.inl ⟨h.1,ht x (by simp)⟩,ih (fun y hy=>ht y (by simp[hy])) h.2⟩
 unfold bnT;split
 ·rename_i hc;obtain⟨x,hx⟩:=ZjU hc;rw[hc,hx] at hr;rw[hx];exact⟨.inr ⟨⟨0,rfl⟩,hr.1⟩,.inl ⟨⟨_,_,_,rfl⟩,rfl⟩,trivial⟩
 ·exact aa ht hr
theorem Zr9 {Γ:Gh} {w:World} {I:Nat→Prop} {base b t:Nat} (hb:Γ base=some (.box (b,t))) {cs:List AV} {vs:List Value} (hr:Zq (RepT Γ w I base t) cs vs):Zq (QT Γ w I) (cs.map (ZcM base)) vs:=by
 refine hr.map_left fun x v hx=>?_;rcases hx with hx | ⟨⟨i,rfl⟩,rfl⟩
 ·rw[hx.2];exact hx.1
 ·exact⟨b,hb,.inl rfl⟩
theorem Zsa (z:Value):QU (evC z).cells=true:=by
 rw[ZeM];intro te l hm;have aa:∀ v:Value,AV.bbuf te l∈(Vb v).cells→False:=by
  intro v hx;unfold Vb at hx;split at hx<;>simp[AV.cells,D.cells] at hx
 unfold evC at hm;split at hm
 ·rename_i cs;unfold VT at hm;cases hd:Zad (cs.toList.map Vb) with
  | some ds=>
   rw[hd] at hm;simp[Vw,AV.cells] at hm
  | none=>
   rw[hd] at hm;simp only[Vw] at hm;split at hm
   ·simp[AV.cells] at hm
   ·simp only[AV.cells,KV] at hm;obtain⟨y,_,hy⟩:=hm;unfold Vb at hy;split at hy<;>cases hy
 ·exact aa _ hm
theorem ZnO {base:Nat} {cs:List AV} (h:∀ x∈cs,ZcM base x=x):cs.map (ZcM base)=cs:=by
 rw[KJ h,List.map_id']
theorem ZpV (base t te:Nat) (z:Value):(QU ((bnT t te (evC z).cells).map (ZcM base))=true)∨∃ u,(bnT t te (evC z).cells).map (ZcM base)=[.bnil base t,.bbuf te []]∧z.cells.toList=[u,.slice none 0 0]:=by
 unfold bnT;split
 ·rename_i hc;obtain⟨x,hx⟩:=ZjU hc;exact .inr ⟨x,rfl,hx⟩
 ·rw[ZnO (ZoM base z)];exact .inl (Zsa z)
theorem Zq1 (h:Sim nt F A I Γ U sl hp a w) {o:Oper} {t:TypeId} {z:Value} (ho:o.op=.alloc t) (hz:W2 P t=some z) {base:Nat} (hb:Qx U base) (hd:Qm nt o.dst=true) {ce:Zb} {slc:List (Option Nat)} {te:Nat}
  (aa:Qr base (base+64) ce.eff.adds=true) (hv:Zbm slc base (bnT t te (evC z).cells)=some ce):JJ P nt F A I Γ U sl hp a w o base ce:=by
 refine ZoL h hb hd (e:=t) (Zr9 (Zw _ _ _) (Zr8 (te:=te) (Zw _ _ _) (ZoM base z) ((ZeN Γ w I z).mono fun _ _ hx=>hx.mono (Yd _ (h.names base hb.self)) ⟨fun _ h=>h,fun b hb=>Xd w _ b (h.bound b hb)⟩))) slc ?_ aa ?_ (.inl ?_)
 ·rcases ZpV base t te z with h1 | ⟨u,h1,h2⟩
  ·exact .inl h1
  ·exact .inr ⟨_,te,u,h1,h2⟩
 ·unfold Zbm Zg3 at hv;split at hv
  ·split at hv
   ·cases hv;exact .inl rfl
   ·cases hv
  ·rename_i hn;split at hv
   ·cases hv;exact .inr ⟨by simpa using hn,rfl⟩
   ·cases hv;exact .inl rfl
 ·simp[execOp,ho,Instr.alloc,JX hz,newVar,newRow]
theorem op_box (h:Sim nt F A I Γ U sl hp a w) {o:Oper} {t:TypeId} {x:Operand} {y:Opd} (ho:o.op=.box t x) (hc:ZJ x=some y) {base:Nat} (hb:Qx U base) (hd:Qm nt o.dst=true) {ce:Zb}
  (aa:Qr base (base+64) ce.eff.adds=true) (hv:ZpC base (evO sl y)=some ce):JJ P nt F A I Γ U sl hp a w o base ce:=by
 unfold ZpC at hv;split at hv
 ·rename_i hs;simp only[Kb] at hs;obtain⟨hs,ab⟩:=hs;cases hv;refine ZoL h hb hd (e:=t) ((Rep.cells hs (h.slOK.ev hc)).mono fun _ _ hx=>hx.mono (Yd _ (h.names base hb.self)) ⟨fun _ h=>h,fun b hb=>Xd w _ b (h.bound b hb)⟩) [] (.inl ab) aa (.inl rfl) (.inl ?_);simp[execOp,ho,Instr.box,newVar,newRow]
 ·cases hv
def Zh.soft:Zh→Bool
 | .row _ _ _ fz=>!fz
 | .tree _ _ _ _=>true
 | .gone=>false
 | .box _=>false
def Zh.thaw:Zh→Bool
 | .row _ _ _ fz=>!fz
 | .tree _ _ _ _=>false
 | .gone=>false
 | .box _=>false
def Zbx (Γ:Gh) (w:World) (hp:Hp) (I:Nat→Prop) (ids:List Nat) (b:Nat):Prop:=
 I b∨∃ id∈ids,∃ o,lkp hp id=some o∧o.soft=true∧Blk Γ w id o b
def QK (Γ:Gh) (w:World) (hp:Hp) (I:Nat→Prop) (ids:List Nat) (b:Nat):Prop:=
 I b∨∃ id∈ids,∃ o,lkp hp id=some o∧o.thaw=true∧Blk Γ w id o b
theorem ZjV {a:Option Addr} {n c sz b:Nat} (h:Zp (some (.row a n c sz))=some b):∃ ad,a=some ad∧ad.block=b∧c≠0:=by
 cases a with
 | none=>simp[Zp] at h
 | some ad=>
  simp only[Zp] at h;split at h
  ·cases h
  ·cases h;exact⟨ad,rfl,rfl,by assumption⟩
theorem Sim.froze_F (h:Sim nt F A I Γ U sl hp a w) {ids:List Nat} {b:Nat} (hb:QK Γ w hp I ids b):I b∨F b:=by
 rcases hb with hb | ⟨id,aa,o,hl,_,hb⟩
 ·exact .inl hb
 ·exact .inr (ZdK (h.objs id o hl) hb)
theorem Sim.frozeL_F (h:Sim nt F A I Γ U sl hp a w) {ids:List Nat} {b:Nat} (hb:Zbx Γ w hp I ids b):I b∨F b:=by
 rcases hb with hb | ⟨id,aa,o,hl,_,hb⟩
 ·exact .inl hb
 ·exact .inr (ZdK (h.objs id o hl) hb)
theorem Zby {id:Nat} {o:Zh} {t:Bool} {b:Nat} (h:Blk Γ w id (if t then XW o else o) b):Blk Γ w id o b:=by
 cases t with
 | false=>exact h
 | true=>
  cases o with
  | box cs=>exact h
  | row sz xs ex fz=>exact h
  | gone=>exact h
  | tree sz ns xs lk=>exact h
theorem Sim.freeze (h:Sim nt F A I Γ U sl hp a w) (ids:List Nat):Sim nt F A (QK Γ w hp I ids) Γ U sl (Z2 ids hp) a w:=by
 have aa:ZB I (QK Γ w hp I ids) w w:=⟨fun _ h=>.inl h,fun _ _=>rfl⟩
 refine { nt:=h.nt,dfr:=h.dfr,slots:=fun t=>(h.slots t).mono (ZY.refl Γ) aa,objs:=?_,inj:=?_,bound:=?_,fresh:=h.fresh,own:=h.own,names:=h.names,glob:=h.glob.mono aa }
 ·intro id o hl;rw[ZU] at hl;cases hl0:lkp hp id with
  | none=>rw[hl0] at hl;cases hl
  | some o0=>
   rw[hl0] at hl;simp only[KW,Option.some.injEq] at hl;have ho:=h.objs id o0 hl0;have ab:∀ b,Blk Γ w id o0 b→(ids.contains id=false∨o0.thaw=false)→QK Γ w hp I ids b→I b:=by
    intro b hb ae af;rcases af with af | ⟨aj,ag,o',ah,ak,al⟩
    ·exact af
    ·have he:=h.inj id aj _ _ b hl0 ah hb al;subst he;rw[hl0] at ah;cases ah;rcases ae with ae | ae
     ·simp at ae;exact absurd ag ae
     ·rw[ak] at ae;cases ae
   split at hl
   ·rename_i ai;subst hl;cases o0 with
    | box cs=>exact ho.mono (ZY.refl Γ) aa fun b hb=>⟨rfl,ab b hb (.inr rfl)⟩
    | gone=>exact ho.mono (ZY.refl Γ) aa fun b hb=>⟨rfl,ab b hb (.inr rfl)⟩
    | tree sz ns xs lk=>exact ho.mono (ZY.refl Γ) aa fun b hb=>⟨rfl,ab b hb (.inr rfl)⟩
    | row sz xs ex fz=>
     simp only[XW];cases fz with
     | true=>exact ho.mono (ZY.refl Γ) aa fun b hb=>⟨rfl,ab b hb (.inr rfl)⟩
     | false=>
      obtain⟨ad,n,c,h1,h2,h3⟩:=ho;refine⟨ad,n,c,h1,h2,?_⟩;rcases h3 with h3 | ⟨g,q0,cur,e,rfl,hc,hw,h4,h5,h6,h7,h8,am,h9⟩
      ·exact .inl h3
      ·refine .inr ⟨g,q0,cur,e,rfl,hc,hw,h4,h5,h6,h7,?_,am,?_⟩
       ·simp only[Kk];exact .inr ⟨id,by simpa using ai,_,hl0,rfl,.inl (by rw[h1];simp[Zp,Ku hc])⟩
       ·cases ex
        ·exact h9.mono' aa rfl
        ·simp only[Kk] at h9 ⊢;exact h9.mono' ⟨fun b hb=>⟨aa.sub b hb.1,hb.2⟩,fun _ _=>rfl⟩ rfl
   ·rename_i ai;subst hl;exact ho.mono (ZY.refl Γ) aa fun b hb=>⟨rfl,ab b hb (.inl (by simpa using ai))⟩
 ·intro i j o o' b hi hj an ao;rw[ZU] at hi hj;cases hi0:lkp hp i with
  | none=>rw[hi0] at hi;cases hi
  | some oi=>cases hj0:lkp hp j with
   | none=>rw[hj0] at hj;cases hj
   | some oj=>
    rw[hi0] at hi;rw[hj0] at hj;simp only[KW,Option.some.injEq] at hi hj;subst hi hj;exact h.inj i j oi oj b hi0 hj0 (Zby an) (Zby ao)
 ·intro b hb;rcases hb with hb | ⟨id,ap,o,hl,_,hb⟩
  ·exact h.bound b hb
  ·exact h.blk_lt hl hb
theorem froze_nil (Γ:Gh) (w:World) (hp:Hp) (I:Nat→Prop) (b:Nat):QK Γ w hp I [] b↔I b:=by simp[QK]
theorem X9.of_freeze (h:Sim nt F A I Γ U sl hp a w) (ids:List Nat) {U' : Nat→Prop} {sl' : Sl} {hp' : Hp} {a' : Act} {w' : World}
  (hp:X9 nt F A (QK Γ w hp I ids) Γ w U' sl' hp' a' w'):X9 nt F A I Γ w U' sl' hp' a' w':=by
 obtain⟨I',Γ',h1,h2,h3,h4,h5⟩:=hp;refine⟨I',Γ',h1,⟨fun b hb=>h2.sub b (.inl hb),fun b hb=>h2.blk b (.inl hb)⟩,fun b hb=>?_,h4,h5⟩;rcases h3 b hb with h6 | h6
 ·exact h.froze_F h6
 ·exact .inr h6
end
end Go.Abs
