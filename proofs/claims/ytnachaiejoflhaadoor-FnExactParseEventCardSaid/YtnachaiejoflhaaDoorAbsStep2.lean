/- Own text. -/
import Derived.Test.YtnachaiejoflhaaDoorAbsStep
set_option linter.unusedVariables false
set_option linter.unusedSimpArgs false
namespace Go.Abs
open Go
theorem QN (v:AV) (adds sets:Hp) (dels frz:List Nat) (dst:Option Nat) (sl:Sl) (hp:Hp) :
  Zb.on { eff := { val:=v,adds:=adds,sets:=sets,dels:=dels,frz:=frz },gone:=[] } dst sl hp =
   (Zi sl dst v,Zd (Zd (ZV (Z0 frz hp) dels) sets) adds):=rfl
section
variable {P:Program} {nt:Nat} {U:Nat→Prop} {F A I:Nat→Prop} {Γ:Gh} {sl:Sl} {hp:Hp} {a:Act} {w:World}
def Zak (P:Program) (nt:Nat) (F A I:Nat→Prop) (Γ:Gh) (U:Nat→Prop) (sl:Sl) (hp:Hp) (a:Act) (w:World) (o:Oper) (base:Nat) (ce:Zb):Prop:=
 ∃ u w',Zir P o a w u w'∧Vm nt F A I Γ w (Wr U base) (ce.on o.dst sl hp).1 (ce.on o.dst sl hp).2 (a.put o.dst u) w'
theorem Xy.opOK (h:Sim nt F A I Γ U sl hp a w) {o:Oper} {base:Nat} {ce:Zb} (hb:QO U base) (hd:Qz nt o.dst=true) (hp' : Xy P Γ I o a w ce):Zak P nt F A I Γ U sl hp a w o base ce:=by
 obtain⟨u,r,h1,rfl,h2⟩:=hp';exact⟨u,w,h1,h.pure (fun id hu=>.inl hu) h2 hd⟩
theorem Zqq (h:Sim nt F A I Γ U sl hp a w) {o:Oper} {x:Operand} {y:Opd} {e:Option Nat} (ho:o.op=.assign x) (hc:ZJ x=some y) {base:Nat} (hb:QO U base) (hd:Qz nt o.dst=true) {ce:Zb}
  (ae:QD base (base+64) ce.eff.adds=true) (hv:ZaM base e (evO sl y)=some ce):Zak P nt F A I Γ U sl hp a w o base ce:=by
 unfold ZaM at hv;split at hv
 ·rename_i hy;obtain⟨s,hs,hv⟩:=Za hv;cases hv;have h1:=h.slOK.ev hc;rw[hy] at h1;obtain⟨ad,h2⟩:=h1;refine⟨a.eval x,w,.inl (by simp[execOp,ho]),?_⟩;rw[QN,h2];refine h.add (Γ':=upd Γ base (.row ad 0 0 s)) (Ys _ (h.names base hb.self)) (fun _ _=>rfl) (Kg _) rfl rfl rfl ?_ ?_ ?_ ?_ ?_ ?_ hd
  ·intro k o' hk;simp at hk;obtain⟨rfl,rfl⟩:=hk;exact⟨ad,0,0,Zt _ _ _,rfl,.inl ⟨rfl,rfl⟩⟩
  ·intro i j o1 o2 b hi hj _ _;simp at hi hj;omega
  ·intro k o' b hk ab;simp at hk;obtain⟨rfl,rfl⟩:=hk;exact(ab.nil (by rw[Zt];cases ad<;>simp[Zp])).elim
  ·intro k hk;exact Qm _ _ (fun e=>hb.self (e ▸ hk))
  ·intro id aa;rw[Qm _ _ (fun e=>aa (.inr (by omega)))];exact h.names id (fun hu=>aa (.inl hu))
  ·exact⟨ad,0,0,s,Zt _ _ _,rfl⟩
 ·exact(Zfj (.inr ho) h.slOK hc hv).opOK h hb hd
theorem ZeB:∀ (vs:List Value),JG (vs.map Vg)=false
 | []=>rfl
 | v :: vs=>by
  simp only[Kl,JG,ZeB vs,Bool.or_false];cases v<;>try rfl
  ·rename_i x;cases x<;>rfl
  ·rename_i x n c;cases x<;>cases n<;>cases c<;>rfl
theorem Zfw (Γ:Gh) (w:World) (I:Nat→Prop) (z:Value):Zm (Q3 Γ w I) (evC z).cells z.cells.toList:=by
 have one:∀ z:Value,(∀ c,z≠.agg c)→(Vg z).cells=[Vg z]:=by
  intro z hz;cases z<;>try rfl
  ·rename_i x;cases x<;>rfl
  ·rename_i x n c;cases x<;>cases n<;>cases c<;>rfl
 cases z with
 | agg cs=>
  refine Rep.cells ?_ (ZoZ (Value.agg cs));simp only[evC,Wa];cases Zay (cs.toList.map Vg)
  ·simp only[VA,ZeB,Ka,Km];rfl
  ·rfl
 | _=>
  simp only[evC];rw[one _ (by simp)];exact⟨Zfa _,trivial⟩
theorem XA (w:World) (o:Obj):∀ k,k<w.heap.size→(w.alloc o).heap[k]?=w.heap[k]?:=fun k hk=>heap_alloc_old w o k hk
theorem Zpf (h:Sim nt F A I Γ U sl hp a w) {o:Oper} {base:Nat} (hb:QO U base) (hd:Qz nt o.dst=true) {e:TypeId} {cs:List AV} {vs:Array Value} (hr:Zm (Q3 (upd Γ base (.box (w.heap.size,e))) (w.alloc (.cells vs e)) I) cs vs.toList)
  (slc:List (Option Nat)) (hq:Xa cs=true∨∃ x te u,cs=[x,.bbuf te []]∧vs.toList=[u,.slice none 0 0]) {ce:Zb} (am:QD base (base+64) ce.eff.adds=true)
  (hv:ce = { eff := { val:=.ptr base 0,adds:=[(base,.box cs)] },gone:=[] } ∨
   Xa cs=true∧ce = { eff := { val:=.ptr base 0,adds:=(base,.box (mat slc cs (base+1)).1) :: (mat slc cs (base+1)).2 },gone:=[] })
  (hg:Zir P o a w (.pointer (some ⟨w.heap.size,0,none⟩)) (w.alloc (.cells vs e))):Zak P nt F A I Γ U sl hp a w o base ce:=by
 refine⟨_,_,hg,?_⟩;have hI:ZF I I w (w.alloc (.cells vs e)):=⟨fun _ h=>h,fun b hb=>XA w _ b (h.bound b hb)⟩
 have an:=Ys (.box (w.heap.size,e)) (h.names base hb.self);have au:∀ id,base+1≤id→id<base+64→upd Γ base (.box (w.heap.size,e)) id=none:=fun id ae av=>by rw[Qm _ _ (by omega)];exact h.names id (hb id (by omega) av)
 have ao:=hr;have ad:∀ (Γ' : Gh) (ai : List AV),Uj (w.alloc (.cells vs e)) I F w.heap.size ai vs.toList→Γ' base=some (.box (w.heap.size,e))→Zm (Q3 Γ' (w.alloc (.cells vs e)) I) ai vs.toList→XW Γ' (w.alloc (.cells vs e)) I F A base (.box ai):=
  fun Γ' ai h0 h1 h2=>⟨w.heap.size,vs,e,h1,heap_alloc_new w _,fun hi=>absurd (h.bound _ hi) (by omega),h.fresh _ (Kg _),h2,h0⟩
 rcases hv with rfl | ⟨ap,rfl⟩
 ·rw[QN];refine h.add (Γ':=upd Γ base (.box (w.heap.size,e))) an (XA w _) (by simp) rfl rfl rfl ?_ ?_ ?_ ?_ ?_ ?_ hd
  ·intro k o' hk;simp at hk;obtain⟨rfl,rfl⟩:=hk;exact ad _ _ (by
    rcases hq with hq | ⟨x,te,u,rfl,aj⟩
    ·exact WI hq
    ·rw[aj];exact .inl ⟨rfl,rfl⟩) (Zt _ _ _) ao
  ·intro i j o1 o2 b hi hj _ _;simp at hi hj;omega
  ·intro k o' b hk aa;simp at hk;obtain⟨rfl,rfl⟩:=hk;rcases hq with hq | ⟨x,te,u,rfl,aj⟩
   ·have aa:=aa.box hq;rw[Zt] at aa;cases aa;exact Kg _
   ·rcases aa with aa | aa | ⟨g,aq,ak⟩
    ·rw[Zt] at aa;cases aa;exact Kg _
    ·exact aa.elim
    ·rw[Zt] at aq;cases aq;have ah:(w.alloc (.cells vs e)).cell? ⟨w.heap.size,1,none⟩=some (.slice none 0 0):=by
      have h2:(w.alloc (.cells vs e)).heap[w.heap.size]?=some (.cells vs e (0,0)):=heap_alloc_new w _;simpa using ZbG h2 1 (.slice none 0 0) (by rw[aj];rfl)
     unfold Zeq at ak;rw[show (((w.heap.size,e):Nat×Nat).1)=w.heap.size from rfl,ah] at ak;simp[ZmW] at ak
  ·intro k hk;exact Qm _ _ (fun e=>hb.self (e ▸ hk))
  ·intro id ae;rw[Qm _ _ (fun e=>ae (.inr (by omega)))];exact h.names id (fun hu=>ae (.inl hu))
  ·exact⟨(w.heap.size,e),Zt _ _ _,rfl⟩
 ·rw[QN];simp only[QD,Kb,Kj] at am;obtain⟨Γ',h1,h2,h3,h5⟩:=Zr1 (w.alloc (.cells vs e)) I F A (base+64) slc cs vs.toList (base+1) (upd Γ base (.box (w.heap.size,e))) am.2 au ao;have ab:Γ' base=some (.box (w.heap.size,e)):=by rw[h2 base (by omega),Zt]
  refine h.add (Γ':=Γ') (fun id r hr=>h1 _ _ (an _ _ hr)) (XA w _) (by simp) rfl rfl rfl ?_ ?_ ?_ ?_ ?_ ?_ hd
  ·intro k o' hk;rcases Ke.1 hk with hk | hk
   ·cases hk;exact ad _ _ (WI (by rw[ZcA];exact ap)) ab h5
   ·exact(h3 k o' hk).2.1
  ·intro i j o1 o2 b hi hj aw ar;rcases Ke.1 hi with hi | hi<;>rcases Ke.1 hj with hj | hj
   ·cases hi;cases hj;rfl
   ·exact(ar.nil (h3 j o2 hj).2.2).elim
   ·exact(aw.nil (h3 i o1 hi).2.2).elim
   ·exact(ar.nil (h3 j o2 hj).2.2).elim
  ·intro k o' b hk aa;rcases Ke.1 hk with hk | hk
   ·cases hk;have aa:=aa.box (by rw[ZcA];exact ap);rw[ab] at aa;cases aa;exact Kg _
   ·exact(aa.nil (h3 k o' hk).2.2).elim
  ·intro k hk;have al:k≠base:=fun e=>hb.self (e ▸ hk);have af:k<base+1∨base+64≤k:=by
    rcases KO k (base+1) with h' | h'
    ·exact .inl h'
    ·rcases KO k (base+64) with ag | ag
     ·exact absurd hk (hb k (by omega) ag)
     ·exact .inr ag
   rw[h2 k af,Qm _ _ al]
  ·intro id ae;have al:id≠base:=fun e=>ae (.inr (by omega));have af:id<base+1∨base+64≤id:=by
    rcases KO id (base+1) with h' | h'
    ·exact .inl h'
    ·rcases KO id (base+64) with ag | ag
     ·exact absurd (.inr ⟨by omega,ag⟩) ae
     ·exact .inr ag
   rw[h2 id af,Qm _ _ al];exact h.names id (fun hu=>ae (.inl hu))
  ·exact⟨(w.heap.size,e),ab,rfl⟩
def RepT (Γ:Gh) (w:World) (I:Nat→Prop) (base t:Nat) (x:AV) (v:Value):Prop:=(Q3 Γ w I x v∧Zdv base x=x)∨(∃ i,x=.bnil i t)∧v=.pointer none
theorem Zqr (base:Nat) (v:Value):Zdv base (Vg v)=Vg v:=by
 unfold Vg;split<;>rfl
theorem Zpg (base:Nat) (z:Value):∀ x∈(evC z).cells,Zdv base x=x:=by
 intro x hx;have aa:∀ v:Value,x∈(Vg v).cells→Zdv base x=x:=by
  intro v hx;unfold Vg at hx;split at hx<;>simp only[AV.cells,D.cells,Kl,Kv,Ky] at hx<;>subst hx<;>rfl
 unfold evC at hx;split at hx
 ·rename_i cs;unfold Wa at hx;cases hd:Zay (cs.toList.map Vg) with
  | some ds=>
   rw[hd] at hx;simp only[VA,AV.cells,K8] at hx;obtain⟨y,_,rfl⟩:=hx;rfl
  | none=>
   rw[hd] at hx;simp only[VA] at hx;split at hx
   ·simp only[AV.cells,Ky] at hx;subst hx;rfl
   ·simp only[AV.cells,K8] at hx;obtain⟨y,_,rfl⟩:=hx;exact Zqr base y
 ·exact aa _ hx
theorem Zqs {v:Value} (h:Vg v=.nil):v=.slice none 0 0:=by
 unfold Vg at h;split at h<;>first | rfl | cases h
theorem Zkk {z:Value} (h:(evC z).cells=[.nilp,.nil]):∃ x,z.cells.toList=[x,.slice none 0 0]:=by
 unfold evC at h;split at h
 ·rename_i cs;unfold Wa at h;cases hd:Zay (cs.toList.map Vg) with
  | some ds=>
   rw[hd] at h;simp only[VA,AV.cells] at h
   match (D.agg ds).cells,h with
   | a :: _,h=>simp only[Kl,List.cons.injEq] at h;exact absurd h.1 (by simp)
   | [],h=>cases h
  | none=>
   rw[hd] at h;simp only[VA] at h;split at h
   ·cases h
   ·simp only[AV.cells] at h
    match hl:cs.toList,h with
    | [x,y],h=>
     simp only[Kl,Kv,List.cons.injEq,and_true] at h;exact⟨x,by rw[Zqs h.2]⟩
    | [],h=>cases h
    | [_],h=>simp at h
    | _ :: _ :: _ :: _,h=>simp at h
 ·exfalso
  unfold Vg at h;split at h<;>simp[AV.cells,D.cells] at h
theorem Zs2 {Γ:Gh} {w:World} {I:Nat→Prop} {base b t te:Nat} (hb:Γ base=some (.box (b,t))) {z:Value} (ht:∀ x∈(evC z).cells,Zdv base x=x) (hr:Zm (Q3 Γ w I) (evC z).cells z.cells.toList):Zm (RepT Γ w I base t) (bnT t te (evC z).cells) z.cells.toList:=by
 have aa:∀ {cs:List AV} {vs:List Value},(∀ x∈cs,Zdv base x=x)→Zm (Q3 Γ w I) cs vs→Zm (RepT Γ w I base t) cs vs:=by
  intro cs
  induction cs with
  | nil=>intro vs _ h;cases vs with
   | nil=>trivial
   | cons _ _=>exact h.elim
  | cons x r ih=>intro vs ht h;cases vs with
   | nil=>exact h.elim
   | cons v vs=>exact⟨.inl ⟨h.1,ht x (by simp)⟩,ih (fun y hy=>ht y (by simp[hy])) h.2⟩
 unfold bnT;split
 ·rename_i hc;obtain⟨x,hx⟩:=Zkk hc;rw[hc,hx] at hr;rw[hx];exact⟨.inr ⟨⟨0,rfl⟩,hr.1⟩,.inl ⟨⟨_,_,_,rfl⟩,rfl⟩,trivial⟩
 ·exact aa ht hr
theorem Zs3 {Γ:Gh} {w:World} {I:Nat→Prop} {base b t:Nat} (hb:Γ base=some (.box (b,t))) {cs:List AV} {vs:List Value} (hr:Zm (RepT Γ w I base t) cs vs):Zm (Q3 Γ w I) (cs.map (Zdv base)) vs:=by
 refine hr.map_left fun x v hx=>?_;rcases hx with hx | ⟨⟨i,rfl⟩,rfl⟩
 ·rw[hx.2];exact hx.1
 ·exact⟨b,hb,.inl rfl⟩
theorem Zs4 (z:Value):Xa (evC z).cells=true:=by
 rw[Zfv];intro te l hm;have aa:∀ v:Value,AV.bbuf te l∈(Vg v).cells→False:=by
  intro v hx;unfold Vg at hx;split at hx<;>simp[AV.cells,D.cells] at hx
 unfold evC at hm;split at hm
 ·rename_i cs;unfold Wa at hm;cases hd:Zay (cs.toList.map Vg) with
  | some ds=>
   rw[hd] at hm;simp[VA,AV.cells] at hm
  | none=>
   rw[hd] at hm;simp only[VA] at hm;split at hm
   ·simp[AV.cells] at hm
   ·simp only[AV.cells,K8] at hm;obtain⟨y,_,hy⟩:=hm;unfold Vg at hy;split at hy<;>cases hy
 ·exact aa _ hm
theorem Zoq {base:Nat} {cs:List AV} (h:∀ x∈cs,Zdv base x=x):cs.map (Zdv base)=cs:=by
 rw[KI h,List.map_id']
theorem Zqt (base t te:Nat) (z:Value):(Xa ((bnT t te (evC z).cells).map (Zdv base))=true)∨∃ u,(bnT t te (evC z).cells).map (Zdv base)=[.bnil base t,.bbuf te []]∧z.cells.toList=[u,.slice none 0 0]:=by
 unfold bnT;split
 ·rename_i hc;obtain⟨x,hx⟩:=Zkk hc;exact .inr ⟨x,rfl,hx⟩
 ·rw[Zoq (Zpg base z)];exact .inl (Zs4 z)
theorem Zr2 (h:Sim nt F A I Γ U sl hp a w) {o:Oper} {t:TypeId} {z:Value} (ho:o.op=.alloc t) (hz:W2 P t=some z) {base:Nat} (hb:QO U base) (hd:Qz nt o.dst=true) {ce:Zb} {slc:List (Option Nat)} {te:Nat}
  (aa:QD base (base+64) ce.eff.adds=true) (hv:ZbP slc base (bnT t te (evC z).cells)=some ce):Zak P nt F A I Γ U sl hp a w o base ce:=by
 refine Zpf h hb hd (e:=t) (Zs3 (Zt _ _ _) (Zs2 (te:=te) (Zt _ _ _) (Zpg base z) ((Zfw Γ w I z).mono fun _ _ hx=>hx.mono (Ys _ (h.names base hb.self)) ⟨fun _ h=>h,fun b hb=>XA w _ b (h.bound b hb)⟩))) slc ?_ aa ?_ (.inl ?_)
 ·rcases Zqt base t te z with h1 | ⟨u,h1,h2⟩
  ·exact .inl h1
  ·exact .inr ⟨_,te,u,h1,h2⟩
 ·unfold ZbP Zib at hv;split at hv
  ·split at hv
   ·cases hv;exact .inl rfl
   ·cases hv
  ·rename_i hn;split at hv
   ·cases hv;exact .inr ⟨by simpa using hn,rfl⟩
   ·cases hv;exact .inl rfl
 ·simp[execOp,ho,Instr.alloc,Zaa hz,newVar,newRow]
theorem op_box (h:Sim nt F A I Γ U sl hp a w) {o:Oper} {t:TypeId} {x:Operand} {y:Opd} (ho:o.op=.box t x) (hc:ZJ x=some y) {base:Nat} (hb:QO U base) (hd:Qz nt o.dst=true) {ce:Zb}
  (aa:QD base (base+64) ce.eff.adds=true) (hv:Zqa base (evO sl y)=some ce):Zak P nt F A I Γ U sl hp a w o base ce:=by
 unfold Zqa at hv;split at hv
 ·rename_i hs;simp only[Kb] at hs;obtain⟨hs,ab⟩:=hs;cases hv;refine Zpf h hb hd (e:=t) ((Rep.cells hs (h.slOK.ev hc)).mono fun _ _ hx=>hx.mono (Ys _ (h.names base hb.self)) ⟨fun _ h=>h,fun b hb=>XA w _ b (h.bound b hb)⟩) [] (.inl ab) aa (.inl rfl) (.inl ?_);simp[execOp,ho,Instr.box,newVar,newRow]
 ·cases hv
def Zf.soft:Zf→Bool
 | .row _ _ _ fz=>!fz
 | .tree _ _ _ _=>true
 | .gone=>false
 | .box _=>false
def Zf.thaw:Zf→Bool
 | .row _ _ _ fz=>!fz
 | .tree _ _ _ _=>false
 | .gone=>false
 | .box _=>false
def Zb1 (Γ:Gh) (w:World) (hp:Hp) (I:Nat→Prop) (ids:List Nat) (b:Nat):Prop:=
 I b∨∃ id∈ids,∃ o,lkp hp id=some o∧o.soft=true∧Blk Γ w id o b
def Q2 (Γ:Gh) (w:World) (hp:Hp) (I:Nat→Prop) (ids:List Nat) (b:Nat):Prop:=
 I b∨∃ id∈ids,∃ o,lkp hp id=some o∧o.thaw=true∧Blk Γ w id o b
theorem Zkl {a:Option Addr} {n c sz b:Nat} (h:Zp (some (.row a n c sz))=some b):∃ ad,a=some ad∧ad.block=b∧c≠0:=by
 cases a with
 | none=>simp[Zp] at h
 | some ad=>
  simp only[Zp] at h;split at h
  ·cases h
  ·cases h;exact⟨ad,rfl,rfl,by assumption⟩
theorem Sim.froze_F (h:Sim nt F A I Γ U sl hp a w) {ids:List Nat} {b:Nat} (hb:Q2 Γ w hp I ids b):I b∨F b:=by
 rcases hb with hb | ⟨id,aa,o,hl,_,hb⟩
 ·exact .inl hb
 ·exact .inr (ZeA (h.objs id o hl) hb)
theorem Sim.frozeL_F (h:Sim nt F A I Γ U sl hp a w) {ids:List Nat} {b:Nat} (hb:Zb1 Γ w hp I ids b):I b∨F b:=by
 rcases hb with hb | ⟨id,aa,o,hl,_,hb⟩
 ·exact .inl hb
 ·exact .inr (ZeA (h.objs id o hl) hb)
theorem Zb2 {id:Nat} {o:Zf} {t:Bool} {b:Nat} (h:Blk Γ w id (if t then Ye o else o) b):Blk Γ w id o b:=by
 cases t with
 | false=>exact h
 | true=>
  cases o with
  | box cs=>exact h
  | row sz xs ex fz=>exact h
  | gone=>exact h
  | tree sz ns xs lk=>exact h
theorem Sim.freeze (h:Sim nt F A I Γ U sl hp a w) (ids:List Nat):Sim nt F A (Q2 Γ w hp I ids) Γ U sl (Z0 ids hp) a w:=by
 have aa:ZF I (Q2 Γ w hp I ids) w w:=⟨fun _ h=>.inl h,fun _ _=>rfl⟩
 refine { nt:=h.nt,dfr:=h.dfr,slots:=fun t=>(h.slots t).mono (ZX.refl Γ) aa,objs:=?_,inj:=?_,bound:=?_,fresh:=h.fresh,own:=h.own,names:=h.names,glob:=h.glob.mono aa }
 ·intro id o hl;rw[ZU] at hl;cases hl0:lkp hp id with
  | none=>rw[hl0] at hl;cases hl
  | some o0=>
   rw[hl0] at hl;simp only[KN,Option.some.injEq] at hl;have ho:=h.objs id o0 hl0;have ab:∀ b,Blk Γ w id o0 b→(ids.contains id=false∨o0.thaw=false)→Q2 Γ w hp I ids b→I b:=by
    intro b hb ae af;rcases af with af | ⟨aj,ag,o',ah,ak,al⟩
    ·exact af
    ·have he:=h.inj id aj _ _ b hl0 ah hb al;subst he;rw[hl0] at ah;cases ah;rcases ae with ae | ae
     ·simp at ae;exact absurd ag ae
     ·rw[ak] at ae;cases ae
   split at hl
   ·rename_i ai;subst hl;cases o0 with
    | box cs=>exact ho.mono (ZX.refl Γ) aa fun b hb=>⟨rfl,ab b hb (.inr rfl)⟩
    | gone=>exact ho.mono (ZX.refl Γ) aa fun b hb=>⟨rfl,ab b hb (.inr rfl)⟩
    | tree sz ns xs lk=>exact ho.mono (ZX.refl Γ) aa fun b hb=>⟨rfl,ab b hb (.inr rfl)⟩
    | row sz xs ex fz=>
     simp only[Ye];cases fz with
     | true=>exact ho.mono (ZX.refl Γ) aa fun b hb=>⟨rfl,ab b hb (.inr rfl)⟩
     | false=>
      obtain⟨ad,n,c,h1,h2,h3⟩:=ho;refine⟨ad,n,c,h1,h2,?_⟩;rcases h3 with h3 | ⟨g,cur,e,rfl,hc,hw,h4,h5,h6,h7,h8,am,h9⟩
      ·exact .inl h3
      ·refine .inr ⟨g,cur,e,rfl,hc,hw,h4,h5,h6,h7,?_,am,?_⟩
       ·simp only[Kk];exact .inr ⟨id,by simpa using ai,_,hl0,rfl,.inl (by rw[h1];simp[Zp,Ks hc])⟩
       ·cases ex
        ·exact h9.mono' aa rfl
        ·simp only[Kk] at h9 ⊢;exact h9.mono' ⟨fun b hb=>⟨aa.sub b hb.1,hb.2⟩,fun _ _=>rfl⟩ rfl
   ·rename_i ai;subst hl;exact ho.mono (ZX.refl Γ) aa fun b hb=>⟨rfl,ab b hb (.inl (by simpa using ai))⟩
 ·intro i j o o' b hi hj an ao;rw[ZU] at hi hj;cases hi0:lkp hp i with
  | none=>rw[hi0] at hi;cases hi
  | some oi=>cases hj0:lkp hp j with
   | none=>rw[hj0] at hj;cases hj
   | some oj=>
    rw[hi0] at hi;rw[hj0] at hj;simp only[KN,Option.some.injEq] at hi hj;subst hi hj;exact h.inj i j oi oj b hi0 hj0 (Zb2 an) (Zb2 ao)
 ·intro b hb;rcases hb with hb | ⟨id,ap,o,hl,_,hb⟩
  ·exact h.bound b hb
  ·exact h.blk_lt hl hb
theorem froze_nil (Γ:Gh) (w:World) (hp:Hp) (I:Nat→Prop) (b:Nat):Q2 Γ w hp I [] b↔I b:=by simp[Q2]
theorem Vm.of_freeze (h:Sim nt F A I Γ U sl hp a w) (ids:List Nat) {U' : Nat→Prop} {sl' : Sl} {hp' : Hp} {a' : Act} {w' : World}
  (hp:Vm nt F A (Q2 Γ w hp I ids) Γ w U' sl' hp' a' w'):Vm nt F A I Γ w U' sl' hp' a' w':=by
 obtain⟨I',Γ',h1,h2,h3,h4,h5⟩:=hp;refine⟨I',Γ',h1,⟨fun b hb=>h2.sub b (.inl hb),fun b hb=>h2.blk b (.inl hb)⟩,fun b hb=>?_,h4,h5⟩;rcases h3 b hb with h6 | h6
 ·exact h.froze_F h6
 ·exact .inr h6
end
end Go.Abs
