/- Own text. -/
import Derived.Test.YtfnegoimdljanaaGreatDoorAbsStep
set_option linter.unusedVariables false
set_option linter.unusedSimpArgs false
namespace Go.Abs
open Go
theorem XC (v:AV) (adds sets:Hp) (dels frz:List Nat) (dst:Option Nat) (sl:Sl) (hp:Hp) :
  Zf.on { eff := { val:=v,adds:=adds,sets:=sets,dels:=dels,frz:=frz },gone:=[] } dst sl hp =
   (Zt sl dst v,Zi (Zi (Qc (Qq frz hp) dels) sets) adds):=rfl
section
variable {P:Program} {nt:Nat} {U:Nat→Prop} {F A I:Nat→Prop} {Γ:Gh} {sl:Sl} {hp:Hp} {a:Act} {w:World}
def Zf9 (P:Program) (nt:Nat) (F A I:Nat→Prop) (Γ:Gh) (U:Nat→Prop) (sl:Sl) (hp:Hp) (a:Act) (w:World) (o:Oper) (base:Nat) (ce:Zf):Prop:=
 ∃ u w',ZtZ P o a w u w'∧V2 nt F A I Γ w (Zai U base) (ce.on o.dst sl hp).1 (ce.on o.dst sl hp).2 (a.put o.dst u) w'
theorem YH.opOK (h:Sim nt F A I Γ U sl hp a w) {o:Oper} {base:Nat} {ce:Zf} (hb:Xy U base) (hd:Q7 nt o.dst=true) (hp' : YH P Γ I o a w ce):Zf9 P nt F A I Γ U sl hp a w o base ce:=by
 obtain⟨u,r,h1,rfl,h2⟩:=hp';exact⟨u,w,h1,h.pure (fun id hu=>.inl hu) h2 hd⟩
theorem ZEM (h:Sim nt F A I Γ U sl hp a w) {o:Oper} {x:Operand} {y:Opd} {e:Option Nat} (ho:o.op=.assign x) (hc:ZZ x=some y) {base:Nat} (hb:Xy U base) (hd:Q7 nt o.dst=true) {ce:Zf}
  (ae:Xf base (base+64) ce.eff.adds=true) (hv:ZhO base e (evO sl y)=some ce):Zf9 P nt F A I Γ U sl hp a w o base ce:=by
 unfold ZhO at hv;split at hv
 ·rename_i hy;obtain⟨s,hs,hv⟩:=Za hv;cases hv;have h1:=h.slOK.ev hc;rw[hy] at h1;obtain⟨ad,h2⟩:=h1;refine⟨a.eval x,w,.inl (by simp[execOp,ho]),?_⟩;rw[XC,h2];refine h.add (Γ':=upd Γ base (.row ad 0 0 s)) (Wg _ (h.names base hb.self)) (fun _ _=>rfl) (Kp _) rfl rfl rfl ?_ ?_ ?_ ?_ ?_ ?_ hd
  ·intro k o' hk;simp at hk;obtain⟨rfl,rfl⟩:=hk;exact⟨ad,0,0,ZJ _ _ _,rfl,.inl ⟨rfl,rfl⟩⟩
  ·intro i j o1 o2 b hi hj _ _;simp at hi hj;omega
  ·intro k o' b hk ab;simp at hk;obtain⟨rfl,rfl⟩:=hk;exact(ab.nil (by rw[ZJ];cases ad<;>simp[ZB])).elim
  ·intro k hk;exact QS _ _ (fun e=>hb.self (e ▸ hk))
  ·intro id aa;rw[QS _ _ (fun e=>aa (.inr (by omega)))];exact h.names id (fun hu=>aa (.inl hu))
  ·exact⟨ad,0,0,s,ZJ _ _ _,rfl⟩
 ·exact(ZoG (.inr ho) h.slOK hc hv).opOK h hb hd
theorem Zng:∀ (vs:List Value),ZfZ (vs.map Uv)=false
 | []=>rfl
 | v :: vs=>by
  simp only[Kk,ZfZ,Zng vs,Bool.or_false];cases v<;>try rfl
  ·rename_i x;cases x<;>rfl
  ·rename_i x n c;cases x<;>cases n<;>cases c<;>rfl
theorem ZoI (Γ:Gh) (w:World) (I:Nat→Prop) (z:Value):ZA (XS Γ w I) (evC z).cells z.cells.toList:=by
 have one:∀ z:Value,(∀ c,z≠.agg c)→(Uv z).cells=[Uv z]:=by
  intro z hz;cases z<;>try rfl
  ·rename_i x;cases x<;>rfl
  ·rename_i x n c;cases x<;>cases n<;>cases c<;>rfl
 cases z with
 | agg cs=>
  refine Rep.cells ?_ (ZDc (Value.agg cs));simp only[evC,Zaj];cases ZhH (cs.toList.map Uv)
  ·simp only[U8,Zng,Ka,Kn];rfl
  ·rfl
 | _=>
  simp only[evC];rw[one _ (by simp)];exact⟨Zor _,trivial⟩
theorem YI (w:World) (o:Obj):∀ k,k<w.heap.size→(w.alloc o).heap[k]?=w.heap[k]?:=fun k hk=>heap_alloc_old w o k hk
theorem ZDo (h:Sim nt F A I Γ U sl hp a w) {o:Oper} {base:Nat} (hb:Xy U base) (hd:Q7 nt o.dst=true) {e:TypeId} {cs:List AV} {vs:Array Value} (hr:ZA (XS (upd Γ base (.box (w.heap.size,e))) (w.alloc (.cells vs e)) I) cs vs.toList)
  (slc:List (Option Nat)) (hq:X9 cs=true∨∃ x te u,cs=[x,.bbuf te []]∧vs.toList=[u,.slice none 0 0]) {ce:Zf} (am:Xf base (base+64) ce.eff.adds=true)
  (hv:ce = { eff := { val:=.ptr base 0,adds:=[(base,.box cs)] },gone:=[] } ∨
   X9 cs=true∧ce = { eff := { val:=.ptr base 0,adds:=(base,.box (mat slc cs (base+1)).1) :: (mat slc cs (base+1)).2 },gone:=[] })
  (hg:ZtZ P o a w (.pointer (some ⟨w.heap.size,0,none⟩)) (w.alloc (.cells vs e))):Zf9 P nt F A I Γ U sl hp a w o base ce:=by
 refine⟨_,_,hg,?_⟩;have hI:ZR I I w (w.alloc (.cells vs e)):=⟨fun _ h=>h,fun b hb=>YI w _ b (h.bound b hb)⟩
 have an:=Wg (.box (w.heap.size,e)) (h.names base hb.self);have au:∀ id,base+1≤id→id<base+64→upd Γ base (.box (w.heap.size,e)) id=none:=fun id ae av=>by rw[QS _ _ (by omega)];exact h.names id (hb id (by omega) av)
 have ao:=hr;have ad:∀ (Γ' : Gh) (ai : List AV),ZcA (w.alloc (.cells vs e)) I F w.heap.size ai vs.toList→Γ' base=some (.box (w.heap.size,e))→ZA (XS Γ' (w.alloc (.cells vs e)) I) ai vs.toList→Vb Γ' (w.alloc (.cells vs e)) I F A base (.box ai):=
  fun Γ' ai h0 h1 h2=>⟨w.heap.size,vs,e,h1,heap_alloc_new w _,fun hi=>absurd (h.bound _ hi) (by omega),h.fresh _ (Kp _),h2,h0⟩
 rcases hv with rfl | ⟨ap,rfl⟩
 ·rw[XC];refine h.add (Γ':=upd Γ base (.box (w.heap.size,e))) an (YI w _) (by simp) rfl rfl rfl ?_ ?_ ?_ ?_ ?_ ?_ hd
  ·intro k o' hk;simp at hk;obtain⟨rfl,rfl⟩:=hk;exact ad _ _ (by
    rcases hq with hq | ⟨x,te,u,rfl,aj⟩
    ·exact Za3 hq
    ·rw[aj];exact .inl ⟨rfl,rfl⟩) (ZJ _ _ _) ao
  ·intro i j o1 o2 b hi hj _ _;simp at hi hj;omega
  ·intro k o' b hk aa;simp at hk;obtain⟨rfl,rfl⟩:=hk;rcases hq with hq | ⟨x,te,u,rfl,aj⟩
   ·have aa:=aa.box hq;rw[ZJ] at aa;cases aa;exact Kp _
   ·rcases aa with aa | aa | ⟨g,aq,ak⟩
    ·rw[ZJ] at aa;cases aa;exact Kp _
    ·exact aa.elim
    ·rw[ZJ] at aq;cases aq;have ah:(w.alloc (.cells vs e)).cell? ⟨w.heap.size,1,none⟩=some (.slice none 0 0):=by
      have h2:(w.alloc (.cells vs e)).heap[w.heap.size]?=some (.cells vs e (0,0)):=heap_alloc_new w _;simpa using Zjf h2 1 (.slice none 0 0) (by rw[aj];rfl)
     unfold ZmQ at ak;rw[show (((w.heap.size,e):Nat×Nat).1)=w.heap.size from rfl,ah] at ak;simp[ZAo] at ak
  ·intro k hk;exact QS _ _ (fun e=>hb.self (e ▸ hk))
  ·intro id ae;rw[QS _ _ (fun e=>ae (.inr (by omega)))];exact h.names id (fun hu=>ae (.inl hu))
  ·exact⟨(w.heap.size,e),ZJ _ _ _,rfl⟩
 ·rw[XC];simp only[Xf,Kf,Ko] at am;obtain⟨Γ',h1,h2,h3,h5⟩:=ZGi (w.alloc (.cells vs e)) I F A (base+64) slc cs vs.toList (base+1) (upd Γ base (.box (w.heap.size,e))) am.2 au ao;have ab:Γ' base=some (.box (w.heap.size,e)):=by rw[h2 base (by omega),ZJ]
  refine h.add (Γ':=Γ') (fun id r hr=>h1 _ _ (an _ _ hr)) (YI w _) (by simp) rfl rfl rfl ?_ ?_ ?_ ?_ ?_ ?_ hd
  ·intro k o' hk;rcases Ke.1 hk with hk | hk
   ·cases hk;exact ad _ _ (Za3 (by rw[Zkj];exact ap)) ab h5
   ·exact(h3 k o' hk).2.1
  ·intro i j o1 o2 b hi hj aw ar;rcases Ke.1 hi with hi | hi<;>rcases Ke.1 hj with hj | hj
   ·cases hi;cases hj;rfl
   ·exact(ar.nil (h3 j o2 hj).2.2).elim
   ·exact(aw.nil (h3 i o1 hi).2.2).elim
   ·exact(ar.nil (h3 j o2 hj).2.2).elim
  ·intro k o' b hk aa;rcases Ke.1 hk with hk | hk
   ·cases hk;have aa:=aa.box (by rw[Zkj];exact ap);rw[ab] at aa;cases aa;exact Kp _
   ·exact(aa.nil (h3 k o' hk).2.2).elim
  ·intro k hk;have al:k≠base:=fun e=>hb.self (e ▸ hk);have af:k<base+1∨base+64≤k:=by
    rcases K3 k (base+1) with h' | h'
    ·exact .inl h'
    ·rcases K3 k (base+64) with ag | ag
     ·exact absurd hk (hb k (by omega) ag)
     ·exact .inr ag
   rw[h2 k af,QS _ _ al]
  ·intro id ae;have al:id≠base:=fun e=>ae (.inr (by omega));have af:id<base+1∨base+64≤id:=by
    rcases K3 id (base+1) with h' | h'
    ·exact .inl h'
    ·rcases K3 id (base+64) with ag | ag
     ·exact absurd (.inr ⟨by omega,ag⟩) ae
     ·exact .inr ag
   rw[h2 id af,QS _ _ al];exact h.names id (fun hu=>ae (.inl hu))
  ·exact⟨(w.heap.size,e),ab,rfl⟩
def RepT (Γ:Gh) (w:World) (I:Nat→Prop) (base t:Nat) (x:AV) (v:Value):Prop:=(XS Γ w I x v∧ZlK base x=x)∨(∃ i,x=.bnil i t)∧v=.pointer none
theorem ZEN (base:Nat) (v:Value):ZlK base (Uv v)=Uv v:=by
 unfold Uv;split<;>rfl
theorem ZDp (base:Nat) (z:Value):∀ x∈(evC z).cells,ZlK base x=x:=by
 intro x hx;have aa:∀ v:Value,x∈(Uv v).cells→ZlK base x=x:=by
  intro v hx;unfold Uv at hx;split at hx<;>simp only[AV.cells,D.cells,Kk,Ks,KE] at hx<;>subst hx<;>rfl
 unfold evC at hx;split at hx
 ·rename_i cs;unfold Zaj at hx;cases hd:ZhH (cs.toList.map Uv) with
  | some ds=>
   rw[hd] at hx;simp only[U8,AV.cells,Li] at hx;obtain⟨y,_,rfl⟩:=hx;rfl
  | none=>
   rw[hd] at hx;simp only[U8] at hx;split at hx
   ·simp only[AV.cells,KE] at hx;subst hx;rfl
   ·simp only[AV.cells,Li] at hx;obtain⟨y,_,rfl⟩:=hx;exact ZEN base y
 ·exact aa _ hx
theorem ZEO {v:Value} (h:Uv v=.nil):v=.slice none 0 0:=by
 unfold Uv at h;split at h<;>first | rfl | cases h
theorem ZwQ {z:Value} (h:(evC z).cells=[.nilp,.nil]):∃ x,z.cells.toList=[x,.slice none 0 0]:=by
 unfold evC at h;split at h
 ·rename_i cs;unfold Zaj at h;cases hd:ZhH (cs.toList.map Uv) with
  | some ds=>
   rw[hd] at h;simp only[U8,AV.cells] at h
   match (D.agg ds).cells,h with
   | a :: _,h=>simp only[Kk,List.cons.injEq] at h;exact absurd h.1 (by simp)
   | [],h=>cases h
  | none=>
   rw[hd] at h;simp only[U8] at h;split at h
   ·cases h
   ·simp only[AV.cells] at h
    match hl:cs.toList,h with
    | [x,y],h=>
     simp only[Kk,Ks,List.cons.injEq,and_true] at h;exact⟨x,by rw[ZEO h.2]⟩
    | [],h=>cases h
    | [_],h=>simp at h
    | _ :: _ :: _ :: _,h=>simp at h
 ·exfalso
  unfold Uv at h;split at h<;>simp[AV.cells,D.cells] at h
theorem ZHr {Γ:Gh} {w:World} {I:Nat→Prop} {base b t te:Nat} (hb:Γ base=some (.box (b,t))) {z:Value} (ht:∀ x∈(evC z).cells,ZlK base x=x) (hr:ZA (XS Γ w I) (evC z).cells z.cells.toList):ZA (RepT Γ w I base t) (bnT t te (evC z).cells) z.cells.toList:=by
 have aa:∀ {cs:List AV} {vs:List Value},(∀ x∈cs,ZlK base x=x)→ZA (XS Γ w I) cs vs→ZA (RepT Γ w I base t) cs vs:=by
  intro cs
  induction cs with
  | nil=>intro vs _ h;cases vs with
   | nil=>trivial
   | cons _ _=>exact h.elim
  | cons x r ih=>intro vs ht h;cases vs with
   | nil=>exact h.elim
   | cons v vs=>exact⟨.inl ⟨h.1,ht x (by simp)⟩,ih (fun y hy=>ht y (by simp[hy])) h.2⟩
 unfold bnT;split
 ·rename_i hc;obtain⟨x,hx⟩:=ZwQ hc;rw[hc,hx] at hr;rw[hx];exact⟨.inr ⟨⟨0,rfl⟩,hr.1⟩,.inl ⟨⟨_,_,_,rfl⟩,rfl⟩,trivial⟩
 ·exact aa ht hr
theorem ZHs {Γ:Gh} {w:World} {I:Nat→Prop} {base b t:Nat} (hb:Γ base=some (.box (b,t))) {cs:List AV} {vs:List Value} (hr:ZA (RepT Γ w I base t) cs vs):ZA (XS Γ w I) (cs.map (ZlK base)) vs:=by
 refine hr.map_left fun x v hx=>?_;rcases hx with hx | ⟨⟨i,rfl⟩,rfl⟩
 ·rw[hx.2];exact hx.1
 ·exact⟨b,hb,.inl rfl⟩
theorem ZHt (z:Value):X9 (evC z).cells=true:=by
 rw[ZoH];intro te l hm;have aa:∀ v:Value,AV.bbuf te l∈(Uv v).cells→False:=by
  intro v hx;unfold Uv at hx;split at hx<;>simp[AV.cells,D.cells] at hx
 unfold evC at hm;split at hm
 ·rename_i cs;unfold Zaj at hm;cases hd:ZhH (cs.toList.map Uv) with
  | some ds=>
   rw[hd] at hm;simp[U8,AV.cells] at hm
  | none=>
   rw[hd] at hm;simp only[U8] at hm;split at hm
   ·simp[AV.cells] at hm
   ·simp only[AV.cells,Li] at hm;obtain⟨y,_,hy⟩:=hm;unfold Uv at hy;split at hy<;>cases hy
 ·exact aa _ hm
theorem ZCs {base:Nat} {cs:List AV} (h:∀ x∈cs,ZlK base x=x):cs.map (ZlK base)=cs:=by
 rw[K5 h,List.map_id']
theorem ZEP (base t te:Nat) (z:Value):(X9 ((bnT t te (evC z).cells).map (ZlK base))=true)∨∃ u,(bnT t te (evC z).cells).map (ZlK base)=[.bnil base t,.bbuf te []]∧z.cells.toList=[u,.slice none 0 0]:=by
 unfold bnT;split
 ·rename_i hc;obtain⟨x,hx⟩:=ZwQ hc;exact .inr ⟨x,rfl,hx⟩
 ·rw[ZCs (ZDp base z)];exact .inl (ZHt z)
theorem ZGj (h:Sim nt F A I Γ U sl hp a w) {o:Oper} {t:TypeId} {z:Value} (ho:o.op=.alloc t) (hz:Zca P t=some z) {base:Nat} (hb:Xy U base) (hd:Q7 nt o.dst=true) {ce:Zf} {slc:List (Option Nat)} {te:Nat}
  (aa:Xf base (base+64) ce.eff.adds=true) (hv:Zjo slc base (bnT t te (evC z).cells)=some ce):Zf9 P nt F A I Γ U sl hp a w o base ce:=by
 refine ZDo h hb hd (e:=t) (ZHs (ZJ _ _ _) (ZHr (te:=te) (ZJ _ _ _) (ZDp base z) ((ZoI Γ w I z).mono fun _ _ hx=>hx.mono (Wg _ (h.names base hb.self)) ⟨fun _ h=>h,fun b hb=>YI w _ b (h.bound b hb)⟩))) slc ?_ aa ?_ (.inl ?_)
 ·rcases ZEP base t te z with h1 | ⟨u,h1,h2⟩
  ·exact .inl h1
  ·exact .inr ⟨_,te,u,h1,h2⟩
 ·unfold Zjo Ztx at hv;split at hv
  ·split at hv
   ·cases hv;exact .inl rfl
   ·cases hv
  ·rename_i hn;split at hv
   ·cases hv;exact .inr ⟨by simpa using hn,rfl⟩
   ·cases hv;exact .inl rfl
 ·simp[execOp,ho,Instr.alloc,ZgC hz,newVar,newRow]
theorem op_box (h:Sim nt F A I Γ U sl hp a w) {o:Oper} {t:TypeId} {x:Operand} {y:Opd} (ho:o.op=.box t x) (hc:ZZ x=some y) {base:Nat} (hb:Xy U base) (hd:Q7 nt o.dst=true) {ce:Zf}
  (aa:Xf base (base+64) ce.eff.adds=true) (hv:ZEx base (evO sl y)=some ce):Zf9 P nt F A I Γ U sl hp a w o base ce:=by
 unfold ZEx at hv;split at hv
 ·rename_i hs;simp only[Kf] at hs;obtain⟨hs,ab⟩:=hs;cases hv;refine ZDo h hb hd (e:=t) ((Rep.cells hs (h.slOK.ev hc)).mono fun _ _ hx=>hx.mono (Wg _ (h.names base hb.self)) ⟨fun _ h=>h,fun b hb=>YI w _ b (h.bound b hb)⟩) [] (.inl ab) aa (.inl rfl) (.inl ?_);simp[execOp,ho,Instr.box,newVar,newRow]
 ·cases hv
def Zm.soft:Zm→Bool
 | .row _ _ _ fz=>!fz
 | .tree _ _ _ _=>true
 | .gone=>false
 | .box _=>false
def Zm.thaw:Zm→Bool
 | .row _ _ _ fz=>!fz
 | .tree _ _ _ _=>false
 | .gone=>false
 | .box _=>false
def Zjy (Γ:Gh) (w:World) (hp:Hp) (I:Nat→Prop) (ids:List Nat) (b:Nat):Prop:=
 I b∨∃ id∈ids,∃ o,lkp hp id=some o∧o.soft=true∧Blk Γ w id o b
def XM (Γ:Gh) (w:World) (hp:Hp) (I:Nat→Prop) (ids:List Nat) (b:Nat):Prop:=
 I b∨∃ id∈ids,∃ o,lkp hp id=some o∧o.thaw=true∧Blk Γ w id o b
theorem ZwR {a:Option Addr} {n c sz b:Nat} (h:ZB (some (.row a n c sz))=some b):∃ ad,a=some ad∧ad.block=b∧c≠0:=by
 cases a with
 | none=>simp[ZB] at h
 | some ad=>
  simp only[ZB] at h;split at h
  ·cases h
  ·cases h;exact⟨ad,rfl,rfl,by assumption⟩
theorem Sim.froze_F (h:Sim nt F A I Γ U sl hp a w) {ids:List Nat} {b:Nat} (hb:XM Γ w hp I ids b):I b∨F b:=by
 rcases hb with hb | ⟨id,aa,o,hl,_,hb⟩
 ·exact .inl hb
 ·exact .inr (Znf (h.objs id o hl) hb)
theorem Sim.frozeL_F (h:Sim nt F A I Γ U sl hp a w) {ids:List Nat} {b:Nat} (hb:Zjy Γ w hp I ids b):I b∨F b:=by
 rcases hb with hb | ⟨id,aa,o,hl,_,hb⟩
 ·exact .inl hb
 ·exact .inr (Znf (h.objs id o hl) hb)
theorem Zjz {id:Nat} {o:Zm} {t:Bool} {b:Nat} (h:Blk Γ w id (if t then VM o else o) b):Blk Γ w id o b:=by
 cases t with
 | false=>exact h
 | true=>
  cases o with
  | box cs=>exact h
  | row sz xs ex fz=>exact h
  | gone=>exact h
  | tree sz ns xs lk=>exact h
theorem Sim.freeze (h:Sim nt F A I Γ U sl hp a w) (ids:List Nat):Sim nt F A (XM Γ w hp I ids) Γ U sl (Qq ids hp) a w:=by
 have aa:ZR I (XM Γ w hp I ids) w w:=⟨fun _ h=>.inl h,fun _ _=>rfl⟩
 refine { nt:=h.nt,dfr:=h.dfr,slots:=fun t=>(h.slots t).mono (Qg.refl Γ) aa,objs:=?_,inj:=?_,bound:=?_,fresh:=h.fresh,own:=h.own,names:=h.names,glob:=h.glob.mono aa }
 ·intro id o hl;rw[Qi] at hl;cases hl0:lkp hp id with
  | none=>rw[hl0] at hl;cases hl
  | some o0=>
   rw[hl0] at hl;simp only[Lc,Option.some.injEq] at hl;have ho:=h.objs id o0 hl0;have ab:∀ b,Blk Γ w id o0 b→(ids.contains id=false∨o0.thaw=false)→XM Γ w hp I ids b→I b:=by
    intro b hb ae af;rcases af with af | ⟨aj,ag,o',ah,ak,al⟩
    ·exact af
    ·have he:=h.inj id aj _ _ b hl0 ah hb al;subst he;rw[hl0] at ah;cases ah;rcases ae with ae | ae
     ·simp at ae;exact absurd ag ae
     ·rw[ak] at ae;cases ae
   split at hl
   ·rename_i ai;subst hl;cases o0 with
    | box cs=>exact ho.mono (Qg.refl Γ) aa fun b hb=>⟨rfl,ab b hb (.inr rfl)⟩
    | gone=>exact ho.mono (Qg.refl Γ) aa fun b hb=>⟨rfl,ab b hb (.inr rfl)⟩
    | tree sz ns xs lk=>exact ho.mono (Qg.refl Γ) aa fun b hb=>⟨rfl,ab b hb (.inr rfl)⟩
    | row sz xs ex fz=>
     simp only[VM];cases fz with
     | true=>exact ho.mono (Qg.refl Γ) aa fun b hb=>⟨rfl,ab b hb (.inr rfl)⟩
     | false=>
      obtain⟨ad,n,c,h1,h2,h3⟩:=ho;refine⟨ad,n,c,h1,h2,?_⟩;rcases h3 with h3 | ⟨g,q0,cur,e,rfl,hc,hw,h4,h5,h6,h7,h8,am,h9⟩
      ·exact .inl h3
      ·refine .inr ⟨g,q0,cur,e,rfl,hc,hw,h4,h5,h6,h7,?_,am,?_⟩
       ·simp only[Km];exact .inr ⟨id,by simpa using ai,_,hl0,rfl,.inl (by rw[h1];simp[ZB,KH hc])⟩
       ·cases ex
        ·exact h9.mono' aa rfl
        ·simp only[Km] at h9 ⊢;exact h9.mono' ⟨fun b hb=>⟨aa.sub b hb.1,hb.2⟩,fun _ _=>rfl⟩ rfl
   ·rename_i ai;subst hl;exact ho.mono (Qg.refl Γ) aa fun b hb=>⟨rfl,ab b hb (.inl (by simpa using ai))⟩
 ·intro i j o o' b hi hj an ao;rw[Qi] at hi hj;cases hi0:lkp hp i with
  | none=>rw[hi0] at hi;cases hi
  | some oi=>cases hj0:lkp hp j with
   | none=>rw[hj0] at hj;cases hj
   | some oj=>
    rw[hi0] at hi;rw[hj0] at hj;simp only[Lc,Option.some.injEq] at hi hj;subst hi hj;exact h.inj i j oi oj b hi0 hj0 (Zjz an) (Zjz ao)
 ·intro b hb;rcases hb with hb | ⟨id,ap,o,hl,_,hb⟩
  ·exact h.bound b hb
  ·exact h.blk_lt hl hb
theorem V2.of_freeze (h:Sim nt F A I Γ U sl hp a w) (ids:List Nat) {U' : Nat→Prop} {sl' : Sl} {hp' : Hp} {a' : Act} {w' : World}
  (hp:V2 nt F A (XM Γ w hp I ids) Γ w U' sl' hp' a' w'):V2 nt F A I Γ w U' sl' hp' a' w':=by
 obtain⟨I',Γ',h1,h2,h3,h4,h5⟩:=hp;refine⟨I',Γ',h1,⟨fun b hb=>h2.sub b (.inl hb),fun b hb=>h2.blk b (.inl hb)⟩,fun b hb=>?_,h4,h5⟩;rcases h3 b hb with h6 | h6
 ·exact h.froze_F h6
 ·exact .inr h6
end
end Go.Abs
set_option linter.unusedVariables false
set_option linter.unusedSimpArgs false
namespace Go.Abs
open Go
def Z4 (w:World) (S:Nat→Prop) (sz:Nat) (xs:List D) (cs:List (List Value)):Prop:=ZA (fun d c=>c.length=sz∧ZQ w S d c) xs cs
section
variable {w:World} {S:Nat→Prop} {sz:Nat}
theorem YJ {b:Nat}:∀ {xs:List D} {cs:List (List Value)} {o:Nat},Z4 w S sz xs cs→QA w b o cs.flatten→Ut w S b sz xs o
 | [],[],_,_,_=>by simp[Ut]
 | [],_ :: _,_,h,_=>h.elim
 | _ :: _,[],_,h,_=>h.elim
 | x :: xs,c :: cs,o,h,hat=>by
  simp only[Lj] at hat;simp only[Ut];refine⟨⟨c,h.1.1,?_,h.1.2⟩,YJ h.2 ?_⟩
  ·have:=hat.take c.length;simpa using this
  ·have:=hat.drop c.length;simpa [h.1.1] using this
theorem X2 {b:Nat}:∀ {xs:List D} {o:Nat},Ut w S b sz xs o→∃ cs,Z4 w S sz xs cs∧QA w b o cs.flatten
 | [],o,_=>⟨[],trivial,fun j u hu=>by simp at hu⟩
 | x :: xs,o,h=>by
  simp only[Ut] at h;obtain⟨⟨c,h1,h2,h3⟩,h4⟩:=h;obtain⟨cs,h5,h6⟩:=X2 h4;refine⟨c :: cs,⟨⟨h1,h3⟩,h5⟩,fun j u hu=>?_⟩;simp only[Lj,Kaw] at hu;split at hu
  ·exact h2 j u hu
  ·have:=h6 _ u hu;have he:o+sz+(j-c.length)=o+j:=by omega
   rw[← he];exact this
theorem Z4.length_flatten:∀ {xs:List D} {cs:List (List Value)},Z4 w S sz xs cs→cs.flatten.length=xs.length*sz
 | [],[],_=>by simp
 | [],_ :: _,h=>h.elim
 | _ :: _,[],h=>h.elim
 | x :: xs,c :: cs,h=>by
  simp only[Lj,Kq,Kl,Z4.length_flatten (xs:=xs) h.2,h.1.1,KV];omega
theorem Z4.append {xs ys:List D} {cs ds:List (List Value)} (h:Z4 w S sz xs cs) (k:Z4 w S sz ys ds):Z4 w S sz (xs++ys) (cs++ds):=ZA.append h k
theorem Z4.mono {w' : World} {S' : Nat→Prop} (hk:ZR S S' w w') {xs:List D} {cs:List (List Value)} (h:Z4 w S sz xs cs):Z4 w' S' sz xs cs:=
 ZA.mono (fun _ _ h=>⟨h.1,h.2.mono hk⟩) h
theorem ZlR {w' : World} {S' : Nat→Prop}:∀ {ds:List D} {vs:List Value},ZaB D.plain ds=true→QT w S ds vs→QT w' S' ds vs
 | [],_,_,h=>by simpa [QT] using h
 | d :: ds,vs,hp,h=>by
  simp only[ZaB,Kf] at hp;simp only[QT] at h ⊢;obtain⟨v,r,h1,h2,h3,h4⟩:=h;exact⟨v,r,h1,h2,ZgB hp.1 h3,ZlR hp.2 h4⟩
theorem Zt3 {w' : World} {S' : Nat→Prop} {d:D} {vs:List Value} (hf:d.flat=true) (h:ZQ w S d vs):ZQ w' S' d vs:=by
 cases d with
 | agg cs=>simp only[ZQ] at h ⊢;exact ZlR hf h
 | sl xs=>simp[D.flat,D.cells,ZaB,D.plain] at hf
 | _=>exact ZgB rfl h
theorem ZwS {w' : World} {S' : Nat→Prop} {d:D} {v:Value} (hf:d.flat=true) (h:Xb w S d v):Xb w' S' d v:=by
 cases d with
 | agg cs=>obtain⟨vs,h1,h2⟩:=h;exact⟨vs,h1,ZlR hf h2⟩
 | sl xs=>simp[D.flat,D.cells,ZaB,D.plain] at hf
 | _=>simp only[Xb] at h ⊢;exact ZgB rfl h
end
section
variable {P:Program} {nt:Nat} {U:Nat→Prop} {F A I:Nat→Prop} {Γ:Gh} {sl:Sl} {hp:Hp} {a:Act} {w:World}
theorem Sim.sub (h:Sim nt F A I Γ U sl hp a w) {hp' : Hp} (hs:∀ id o,lkp hp' id=some o→lkp hp id=some o):Sim nt F A I Γ U sl hp' a w:=
 { h with objs:=fun id o hl=>h.objs id o (hs id o hl),inj:=fun i j o o' b hi hj=>h.inj i j o o' b (hs _ _ hi) (hs _ _ hj) }
theorem ZyF (h:Sim nt F A I Γ U sl hp a w) {dst:Option Nat} {base:Nat} (hb:Xy U base) (hd:Q7 nt dst=true) {w' : World}
  (af:∀ k,k<w.heap.size→w'.heap[k]?=w.heap[k]?) (aj:w.heap.size≤w'.heap.size) (ak:w'.os=w.os) (aa:w'.tape=w.tape) (ag:w'.output=w.output)
  {n c s:Nat} {e:TypeId} {cur:Array Value} {xs:List D} {ex:Bool} (ab:w'.heap[w.heap.size]?=some (.cells cur e (0,0))) (hn:n=xs.length) (al:n≤c) (am:c≤maxLen) (an:cur.size=c*s) (h0:0<s)
  (ah:Ut w' (if ex then fun b=>I b∧A b else I) w.heap.size s xs 0) :
  V2 nt F A I Γ w (Zai U base) (Zt sl dst (.own base)) (Zi hp [(base,.row s xs ex false)]) (a.put dst (.slice (some ⟨w.heap.size,0,none⟩) n c)) w':=by
 refine h.add (Γ':=upd Γ base (.row (some ⟨w.heap.size,0,none⟩) n c s)) (Wg _ (h.names base hb.self)) af aj ak aa ag ?_ ?_ ?_ ?_ ?_ ?_ hd
 ·intro k o' hk;simp at hk;obtain⟨rfl,rfl⟩:=hk;refine⟨_,n,c,ZJ _ _ _,hn,?_⟩;by_cases hc:c=0
  ·exact .inl ⟨by omega,hc⟩
  ·exact .inr ⟨w.heap.size,0,cur,e,rfl,by omega,ab,al,am,⟨by omega,fun _=>rfl⟩,h0,by simp;exact fun hi=>absurd (h.bound _ hi) (by omega),h.fresh _ (Kp _),ah⟩
 ·intro i j o1 o2 b hi hj _ _;simp at hi hj;omega
 ·intro k o' b hk ae;simp at hk;obtain⟨rfl,rfl⟩:=hk;have ae:=ae.row;rw[ZJ] at ae;obtain⟨ad,h1,h2,h3⟩:=ZwR ae;cases h1;rw[← h2];exact Kp _
 ·intro k hk;exact QS _ _ (fun e=>hb.self (e ▸ hk))
 ·intro id ai;rw[QS _ _ (fun e=>ai (.inr (by omega)))];exact h.names id (fun hu=>ai (.inl hu))
 ·exact⟨_,n,c,s,ZJ _ _ _,rfl⟩
theorem ZwT {S:Nat→Prop} {v:Value} {d:D} (h:ZmR v=some d):d.one=true∧ZQ w S d [v]:=by
 unfold ZmR at h;split at h
 ·cases h;exact⟨rfl,by simp[ZQ]⟩
 ·cases h;exact⟨rfl,by simp[ZQ]⟩
 ·cases h;exact⟨rfl,_,rfl,rfl⟩
 ·cases h;exact⟨rfl,none,0,rfl,Kp _,.inl rfl⟩
 ·cases h
theorem Zt4 {S:Nat→Prop}:∀ {vs:List Value} {ds:List D},QJ ZmR vs=some ds→QT w S ds vs
 | [],ds,h=>by simp only[QJ] at h;cases h;simp[QT]
 | v :: vs,ds,h=>by
  simp only[QJ] at h;obtain⟨d,h1,h⟩:=Za h;obtain⟨aa,h2,h⟩:=Za h;cases h;obtain⟨h3,h4⟩:=ZwT (w:=w) (S:=S) h1;exact⟨v,vs,rfl,h3,h4,Zt4 h2⟩
theorem ZqY {S:Nat→Prop} {z:Value} {d:D} (h:evD z=some d):ZQ w S d z.cells.toList:=by
 cases z with
 | agg cs=>
  simp only[evD] at h;obtain⟨ds,h1,h⟩:=Za h;cases h;exact Zt4 h1
 | _=>simp only[evD] at h;exact(ZwT h).2
theorem Za4 (z:Array Value):∀ n,(madeCells z (n*z.size)).toList=(List.replicate n z.toList).flatten:=by
 intro n;refine LI fun i=>?_;have hz:(z.size=0→n*z.size=0):=fun h=>by simp[h]
 by_cases hi:i<n*z.size
 ·have aa:0<z.size:=by
   rcases LB z.size with h | h
   ·rw[h] at hi;simp at hi
   ·exact h
  have h1:(madeCells z (n*z.size)).toList[i]?=some z[i % z.size]!:=by
   simp[madeCells,hi]
  rw[h1];clear h1
  induction n generalizing i with
  | zero=>simp at hi
  | succ n ih=>
   rw[LJ,Lj,Kaw];split
   ·rename_i h2;simp at h2;rw[Nat.mod_eq_of_lt h2];simp[h2]
   ·rename_i h2;simp at h2;have h3:i-z.size<n*z.size:=by rw[KV] at hi;omega
    have:=ih (i-z.size) (fun h=>by simp[h]) h3;have hl:z.toList.length=z.size:=by simp
    rw[hl,← this,Nat.mod_eq_sub_mod h2]
 ·rw[K8,K8]
  ·rw[List.length_flatten];simp;omega
  ·simp[madeCells];omega
theorem Za5 {S:Nat→Prop} {sz:Nat} {d:D} {c:List Value} (hl:c.length=sz) (h:ZQ w S d c):∀ n,Z4 w S sz (List.replicate n d) (List.replicate n c)
 | 0=>trivial
 | n+1=>⟨⟨hl,h⟩,Za5 hl h n⟩
theorem V3 {b:Nat} {cur:Array Value} {e:TypeId} {fr:Nat×Nat} (h:w.heap[b]?=some (.cells cur e fr)) {xs ys:List Value} (hl:cur.toList=xs++ys):QA w b 0 xs:=fun j u hu=>by
 refine Zjf h j u ?_;rw[hl,KM (Kb.1 hu).1];exact hu
theorem ZHu (h:Sim nt F A I Γ U sl hp a w) {o:Oper} {t e:TypeId} {l c:Operand} {l' c' : Opd} {z:Value} {d:D} (ho:o.op=.makeSlice t l c) (he:Yu P t=some e) (hl:ZZ l=some l') (hc:ZZ c=some c')
  (hz:Zca P e=some z) (ak:evD z=some d) (al:Uy P e=true) {base:Nat} (hb:Xy U base) (hd:Q7 nt o.dst=true) {ce:Zf} {n m:Int} (hn:idx (evO sl l')=some n) (hm:idx (evO sl c')=some m)
  (hv:ZwJ base (P.cellsOf e) (P.bytesOf e) d n m=some ce):Zf9 P nt F A I Γ U sl hp a w o base ce:=by
 obtain⟨i,z',hi,ag,ah,af,aa,ab⟩:=Vz al;obtain⟨i',ai,ad⟩:=ZhF hz;rw[hi] at ai;cases ai;rw[ag] at ad;cases ad;obtain⟨k1,e1⟩:=Wr hn (h.slOK.ev hl);obtain⟨k2,e2⟩:=Wr hm (h.slOK.ev hc);unfold ZwJ at hv;split at hv
 ·rename_i ae;obtain⟨c1,c2,c3,c4,c5⟩:=ae;cases hv;rw[aa] at c5 ⊢;rw[ab] at c3;have hr:=run_make (P:=P) w t e i z (Xd he) hi ag k1 k2 n m c1 c2 (by have h2:=c3;rw[Int.mul_comm] at h2;simp only[ZM] at h2;omega) (by simp only[ZM] at c4;omega);refine⟨.slice (some ⟨w.heap.size,0,none⟩) n.toNat m.toNat,w.alloc (.cells (madeCells z.cells (m.toNat*i.size)) e),.inl (by simp[execOp,ho,e1,e2,hr]),?_⟩;rw[XC];have aj : (w.alloc (.cells (madeCells z.cells (m.toNat*i.size)) e)).heap[w.heap.size]?=some (.cells (madeCells z.cells (m.toNat*i.size)) e (0,0)):=heap_alloc_new w _;refine ZyF h hb hd (YI w _) (by simp) rfl rfl rfl aj (by simp) (by omega) (by simp only[ZM] at c4;simp only[maxLen];omega) (size_madeCells _ _) af ?_
  have am:Z4 (w.alloc (.cells (madeCells z.cells (m.toNat*i.size)) e)) (fun b=>I b∧A b) i.size (List.replicate n.toNat d) (List.replicate n.toNat z.cells.toList):=
   Za5 (by simp[ah]) (ZqY ak) n.toNat
  refine YJ am ?_;refine V3 aj (ys:=(List.replicate (m.toNat-n.toNat) z.cells.toList).flatten) ?_;rw[← ah,Za4,← Ly,List.replicate_append_replicate];congr 2
  omega
 ·cases hv
def ZoJ:List Value→Nat→List Value→List Value
 | vs,_,[]=>vs
 | vs,off,u :: r=>ZoJ (vs.set off u) (off+1) r
theorem ZwU (off:Nat):∀ (l:List Value) (k:Nat) (vs:Array Value),
  (List.foldl (fun cs (x:Value×Nat)=>cs.setIfInBounds (off+x.2) x.1) vs (l.zipIdx k)).toList=ZoJ vs.toList (off+k) l
 | [],k,vs=>by simp[ZoJ]
 | u :: l,k,vs=>by
  simp only[List.zipIdx_cons,List.foldl_cons,ZoJ];rw[ZwU off l (k+1)];simp[KW]
theorem ZDq {R:AV→Value→Prop}:∀ {xs:List AV} {us:List Value} {cs:List AV} {vs:List Value} (off:Nat),ZA R xs us→ZA R cs vs→ZA R (ZEw cs off xs) (ZoJ vs off us)
 | [],[],_,_,_,_,h=>h
 | [],_ :: _,_,_,_,h,_=>h.elim
 | _ :: _,[],_,_,_,h,_=>h.elim
 | x :: xs,u :: us,cs,vs,off,h,hr=>by
  simp only[ZEw,ZoJ];exact ZDq (off+1) h.2 (hr.set off h.1)
theorem ZwV (off:Nat) (u vs:Array Value):(u.zipIdx.foldl (fun cs (x:Value×Nat)=>cs.setIfInBounds (off+x.2) x.1) vs).toList=ZoJ vs.toList off u.toList:=by
 have:=ZwU off u.toList 0 vs;rw[← Array.foldl_toList,Array.toList_zipIdx];simpa using this
theorem Zt5 {place:Nat→Option (Nat×Nat)} {pl:Nat→Option (Nat×Nat)} (ae:∀ i p,pl i=some p→place i=some p) (hs:Zdr Γ w I sl a) :
  ∀ {ps:List (Nat×Operand)} {qs:List (Nat×Nat×Opd)} {cells r:List AV} {vs:Array Value},QJ (ZAD pl) ps=some qs→ZA (XS Γ w I) cells vs.toList→Zpp cells (evP sl qs)=some r →
   ∃ aa,Instr.fill place vs (ps.map fun x=>(x.1,a.eval x.2))=some aa∧ZA (XS Γ w I) r aa.toList
 | [],qs,cells,r,vs,hq,hr,hf=>by
  simp only[QJ] at hq;cases hq;simp only[evP,Zpp] at hf;cases hf;exact⟨vs,rfl,hr⟩
 | p :: ps,qs,cells,r,vs,hq,hr,hf=>by
  simp only[QJ] at hq;obtain⟨q,h1,hq⟩:=Za hq;obtain⟨ah,h2,hq⟩:=Za hq;cases hq;unfold ZAD at h1;obtain⟨pp,h3,h1⟩:=Za h1;obtain⟨x,h4,h1⟩:=Za h1;cases h1;simp only[evP,Zpp] at hf;split at hf
  ·rename_i hc;obtain⟨ab,ad,ai⟩:=hc;have af:=Rep.cells ab (hs.ev h4);have ag:(a.eval p.2).cells.size=pp.2:=by rw[← ad,af.length];simp
   have aj:cells.length=vs.size:=by rw[hr.length];simp
   obtain⟨aa,h5,h6⟩:=Zt5 ae hs (vs:=(a.eval p.2).cells.zipIdx.foldl (fun cs (x:Value×Nat)=>cs.setIfInBounds (pp.1+x.2) x.1) vs) h2 (by rw[ZwV];exact ZDq _ af hr) hf;refine⟨aa,?_,h6⟩;simp only[Kk,Instr.fill,ae _ _ h3];have c1:¬((a.eval p.2).cells.size≠pp.2):=by simp[ag]
   have c2:¬(pp.1+(a.eval p.2).cells.size>vs.size):=by omega
   simp only[c1,c2,decide_false,Bool.or_self,Ka,Kn];exact h5
  ·cases hf
end
end Go.Abs
set_option linter.unusedVariables false
set_option linter.unusedSimpArgs false
namespace Go.Abs
open Go
section
variable {P:Program} {nt:Nat} {U:Nat→Prop} {F A I:Nat→Prop} {Γ:Gh} {sl:Sl} {hp:Hp} {a:Act} {w:World}
theorem Zpy:∀ (fs:List Field) (w:World),(∀ f∈fs,(P.info? f.type).isSome=true) →
  (fs.mapM (m:=Sem) fun f=>do pure (f.offset,← sizeOf f.type)).run P w=.ok (fs.map fun f=>(f.offset,P.cellsOf f.type)) w
 | [],w,_=>by simp
 | f :: fs,w,h=>by
  obtain⟨i,hi⟩:=Lf.1 (h f (by simp));have ih:=Zpy fs w fun g hg=>h g (by simp[hg]);simp only[List.mapM_cons,Sem.run_bind,Xe hi,Result.andThen_ok,Sem.run_pure,ih,Kk]
theorem ZEQ {t:TypeId} {z:Value} (hz:Zca P t=some z) (hf:Zm2 P t=true) (hs:Zdr Γ w I sl a) {ps:Array (Nat×Operand)} {qs:List (Nat×Nat×Opd)}
  (hq:QJ (ZAD (ZhQ P t (ZlL P t))) ps.toList=some qs) {cs:List AV} (hv:Zpp (evC z).cells (evP sl qs)=some cs) :
  ∃ vs,(Instr.build t (ps.map fun x=>(x.1,a.eval x.2))).run P w=.ok (.agg vs) w∧ZA (XS Γ w I) cs vs.toList:=by
 unfold Zm2 at hf;split at hf
 ·rename_i fs hu;have ha:ZlL P t=none:=by simp[ZlL,hu]
  have aa:∀ i p,ZhQ P t (ZlL P t) i=some p→(fs.map fun f=>(f.offset,P.cellsOf f.type))[i]?=some p:=by
   intro i p hp';rw[ha] at hp';simp only[ZhQ] at hp';obtain⟨q,h1,h2⟩:=Za hp';cases h2;obtain⟨ad,x,h3,h4,h5,h6,_⟩:=Zje h1;rw[hu] at h3;cases h3;simp[h4,h5,h6]
  obtain⟨vs,h1,h2⟩:=Zt5 (place:=fun i=>(fs.map fun f=>(f.offset,P.cellsOf f.type))[i]?) aa hs hq (ZoI Γ w I z) hv;refine⟨vs,?_,h2⟩;have hm:(fs.mapM (m:=Sem) fun f=>do pure (f.offset,← sizeOf f.type)).run P w=.ok (fs.map fun f=>(f.offset,P.cellsOf f.type)) w:=by
   rw[Array.mapM_eq_mapM_toList,Sem.run_map,Zpy fs.toList w (fun f hm=>KU.1 hf f hm)];simp;apply Array.ext';simp
  have ab : Instr.fill (fun i=>(fs.map fun f=>(f.offset,P.cellsOf f.type))[i]?) z.cells (ps.map fun x=>(x.1,a.eval x.2)).toList=some vs:=by simpa using h1
  simp only[Instr.build,Sem.run_bind,ZgC hz,Result.andThen_ok,run_underlying hu,hm,ab];rfl
 ·rename_i n e hu;have ha:ZlL P t=some (n,e):=by simp[ZlL,hu]
  obtain⟨i,hi⟩:=Lf.1 hf;have aa:∀ j p,ZhQ P t (ZlL P t) j=some p→(fun j=>some (j*P.cellsOf e,P.cellsOf e)) j=some p:=by
   intro j p hp';rw[ha] at hp';simpa [ZhQ] using hp'
  obtain⟨vs,h1,h2⟩:=Zt5 aa hs hq (ZoI Γ w I z) hv;refine⟨vs,?_,h2⟩;have ab : Instr.fill (fun j=>some (j*P.cellsOf e,P.cellsOf e)) z.cells (ps.map fun x=>(x.1,a.eval x.2)).toList=some vs:=by simpa using h1
  simp only[Instr.build,Sem.run_bind,ZgC hz,Result.andThen_ok,run_underlying hu,Xe hi,ab];rfl
 ·cases hf
theorem ZCt {o:Oper} {t:TypeId} {ps:Array (Nat×Operand)} {z:Value} {qs:List (Nat×Nat×Opd)} (ho:o.op=.build t ps) (hz:Zca P t=some z) (hf:Zm2 P t=true) (hs:Zdr Γ w I sl a)
  (hq:QJ (ZAD (ZhQ P t (ZlL P t))) ps.toList=some qs) {ce:Zf} (hv:Zty (evC z).cells (evP sl qs)=some ce):YH P Γ I o a w ce:=by
 unfold Zty at hv;obtain⟨cs,h1,h2⟩:=Za hv;obtain⟨vs,h3,h4⟩:=ZEQ hz hf hs hq h1;exact⟨.agg vs,_,.inl (by simp only[execOp,ho];simp[h3]),Qu h2,Zj9 h4⟩
theorem ZER {x:AV} {v:Value} (ha:x.atom=true) (h:Rep Γ w I x v):Y6 Γ w I x v:=by
 cases x<;>first | exact h | (simp[AV.atom] at ha;done) | skip
 rename_i d;exact⟨ha,(Xb.one ha).1 (Ql.1 h)⟩
theorem Zt6:∀ {xs:List AV} {vs:List Value},Zkc xs=true→ZA (Rep Γ w I) xs vs→ZA (Y6 Γ w I) xs vs
 | [],[],_,_=>trivial
 | [],_ :: _,_,h=>h.elim
 | _ :: _,[],_,h=>h.elim
 | x :: xs,v :: vs,ha,h=>by
  simp only[Zkc,Kf] at ha;exact⟨ZER ha.1 h.1,Zt6 ha.2 h.2⟩
theorem ZHv {o:Oper} {f:FuncId} {fs cs:Array Operand} {ys:List Opd} (ho:o.op=.makeFunc (.func f) fs cs) (he:fs.toList.isEmpty=true) (hs:Zdr Γ w I sl a) (hc:QJ ZZ cs.toList=some ys) {ce:Zf}
  (hv:WA (cloV f (evL sl ys))=some ce):YH P Γ I o a w ce:=by
 obtain⟨r,h1,h2⟩:=opt1_some hv;unfold cloV at h1;split at h1
 ·rename_i ha;cases h1;have aa:fs = #[]:=by simpa using he
  refine⟨.func (.func f) #[] (cs.map a.eval),_,.inl (by simp[execOp,ho,Instr.makeFunc,aa]),h2,⟨_,rfl,?_⟩⟩;have:=Zt6 ha (hs.evL hc);simpa using this
 ·cases h1
def ZcC (Γ:Gh) (w:World) (I A:Nat→Prop) (hp:Hp) (ids:List Nat) (cl:Bool) (Q:(Nat→Prop)→Prop):Prop:=
 ∀ I' : Nat→Prop,(∀ b,I b→I' b)→(∀ id∈ids,∀ sz xs ex b,lkp hp id=some (.row sz xs ex false)→ZB (Γ id)=some b→I' b)→Q I'∧(cl=true→Q fun b=>I' b∧A b)
theorem Za6 {I' : Nat→Prop} (h:∀ b,I b→I' b):ZR I I' w w:=⟨h,fun _ _=>rfl⟩
theorem ZES (h:ZaV Γ w I F A hp) (aa:∀ b,F b→A b) {id:Nat} {q:List D×Bool} (he:ZmT (lkp hp id)=some q) :
  ∃ a n c sz,Γ id=some (.row a n c sz)∧ZcC Γ w I A hp [id] q.2 fun S=>ZQ w S (.sl q.1) [.slice a n c]:=by
 unfold ZmT at he;split at he
 ·rename_i sz xs ex fz hl;cases he;obtain⟨ad,n,c,h1,h2,h3⟩:=h id _ hl;refine⟨ad,n,c,sz,h1,fun I' hI hf=>?_⟩;rcases h3 with h3 | ⟨g,q0,cur,e,rfl,hc,hw,h4,h5,h6,h7,h8,ab,h9⟩
  ·have hx:xs=[]:=Kt (by omega);subst hx;have:∀ S,ZQ w S (.sl []) [.slice ad n c]:=fun S=>⟨ad,c,by rw[h2],by simp,.inl rfl⟩
   exact⟨this _,fun _=>this _⟩
  ·have hg:I' g:=by
    cases fz
    ·exact hf id (by simp) sz xs ex g hl (by rw[h1];simp[ZB,KH hc])
    ·exact hI g (by simpa using h8)
   refine⟨⟨_,c,by rw[h2],(show xs.length≤c by omega),.inr ⟨g,q0,sz,rfl,hg,h7,?_⟩⟩,fun ae=>?_⟩
   ·cases ex
    ·exact h9.mono' (Za6 hI) rfl
    ·exact h9.mono' ⟨fun b hb=>hI b hb.1,fun _ _=>rfl⟩ rfl
   ·obtain rfl:ex=true:=ae;refine⟨_,c,by rw[h2],(show xs.length≤c by omega),.inr ⟨g,q0,sz,rfl,⟨hg,aa g ab⟩,h7,?_⟩⟩;simp only[Km] at h9;exact h9.mono' ⟨fun b hb=>⟨hI b hb.1,hb.2⟩,fun _ _=>rfl⟩ rfl
 ·cases he
theorem ZAQ (h:ZaV Γ w I F A hp) (aa:∀ b,F b→A b) {x:AV} {v:Value} (hx:Rep Γ w I x v) {q:D×Bool×List Nat} (hg:ZcB hp x=some q) :
  ZcC Γ w I A hp q.2.2 q.2.1 fun S=>Xb w S q.1 v:=by
 unfold ZcB at hg;split at hg
 ·cases hg;have h1:=Ql.1 hx;exact fun I' hI _=>⟨h1.mono (Za6 hI),fun ab=>ZwS ab h1⟩
 ·cases hg;obtain⟨ad,rfl⟩:=hx;have:∀ S,Xb w S (.sl []) (.slice ad 0 0):=fun S=>⟨ad,0,rfl,by simp,.inl rfl⟩
  exact fun I' hI _=>⟨this _,fun _=>this _⟩
 ·obtain⟨qq,h1,hg⟩:=Za hg;cases hg;obtain⟨ad,n,c,sz,h2,h3⟩:=ZES h aa h1;obtain⟨ae,n',c',af,h4,rfl⟩:=hx;rw[h2] at h4;cases h4;exact h3
 ·cases hg
theorem ZcC.more {ids aa : List Nat} {cl ad : Bool} {Q:(Nat→Prop)→Prop} (h:ZcC Γ w I A hp ids cl Q) (hi:∀ id∈ids,id∈aa) (hc:ad=true→cl=true):ZcC Γ w I A hp aa ad Q:=
 fun I' hI hf=>⟨(h I' hI fun id ab=>hf id (hi id ab)).1,fun ae=>(h I' hI fun id ab=>hf id (hi id ab)).2 (hc ae)⟩
theorem ZcC.and {ids:List Nat} {cl:Bool} {Q R S:(Nat→Prop)→Prop} (h:ZcC Γ w I A hp ids cl Q) (k:ZcC Γ w I A hp ids cl R) (hs:∀ I',Q I'→R I'→S I'):ZcC Γ w I A hp ids cl S:=
 fun I' hI hf=>⟨hs _ (h I' hI hf).1 (k I' hI hf).1,fun aa=>hs _ ((h I' hI hf).2 aa) ((k I' hI hf).2 aa)⟩
theorem Zt7 (h:ZaV Γ w I F A hp) (ab:∀ b,F b→A b):∀ {xs:List AV} {vs:List Value},ZA (Y6 Γ w I) xs vs→∀ {q:List D×Bool×List Nat},Ws hp xs=some q →
  ZcC Γ w I A hp q.2.2 q.2.1 fun S=>QT w S q.1 vs
 | [],[],_,q,hg=>by
  simp only[Ws] at hg;cases hg;exact fun I' hI hf=>⟨by simp[QT],fun _=>by simp[QT]⟩
 | [],_ :: _,h,_,_=>h.elim
 | _ :: _,[],h,_,_=>h.elim
 | x :: xs,v :: vs,hr,q,hg=>by
  simp only[Ws] at hg;obtain⟨q1,h1,hg⟩:=Za hg;obtain⟨q2,h2,hg⟩:=Za hg;split at hg
  ·rename_i hc;cases hg;simp only[Kf] at hc;have e1:=ZAQ h ab hr.1.rep2.rep h1;have e2:=Zt7 h ab hr.2 h2;refine ZcC.and (e1.more (by simp;exact fun id aa=>.inl aa) (by simp;exact fun h _=>h)) (e2.more (by simp;exact fun id aa=>.inr aa) (by simp)) fun I' hq hr=>?_;exact⟨v,vs,rfl,hc.1,(Xb.one hc.1).1 hq,hr⟩
  ·cases hg
theorem ZHw (h:ZaV Γ w I F A hp) (aa:∀ b,F b→A b) {x:AV} {v:Value} (hx:Rep Γ w I x v) {q:D×Bool×List Nat} (hg:give hp x=some q) :
  ZcC Γ w I A hp q.2.2 q.2.1 fun S=>Xb w S q.1 v:=by
 unfold give at hg;split at hg
 ·obtain⟨p,h1,hg⟩:=Za hg;cases hg;obtain⟨vs,rfl,h2⟩:=hx;have:=Zt7 h aa h2 h1;exact fun I' hI hf=>⟨⟨vs,rfl,(this I' hI hf).1⟩,fun ab=>⟨vs,rfl,(this I' hI hf).2 ab⟩⟩
 ·exact ZAQ h aa hx hg
theorem Zt8 (h:ZaV Γ w I F A hp) (ab:∀ b,F b→A b):∀ {xs:List AV} {vs:List Value},ZA (Rep Γ w I) xs vs→∀ {q:List D×Bool×List Nat},Uo hp xs=some q →
  ZcC Γ w I A hp q.2.2 q.2.1 fun S=>ZA (Xb w S) q.1 vs
 | [],[],_,q,hg=>by
  simp only[Uo] at hg;cases hg;exact fun I' hI hf=>⟨trivial,fun _=>trivial⟩
 | [],_ :: _,h,_,_=>h.elim
 | _ :: _,[],h,_,_=>h.elim
 | x :: xs,v :: vs,hr,q,hg=>by
  simp only[Uo] at hg;obtain⟨q1,h1,hg⟩:=Za hg;obtain⟨q2,h2,hg⟩:=Za hg;split at hg
  ·cases hg;have e1:=ZHw h ab hr.1 h1;have e2:=Zt8 h ab hr.2 h2;exact ZcC.and (e1.more (by simp;exact fun id aa=>.inl aa) (by simp;exact fun h _=>h)) (e2.more (by simp;exact fun id aa=>.inr aa) (by simp)) fun I' hq hr=>⟨hq,hr⟩
  ·cases hg
theorem ZcC.froze {ids:List Nat} {cl:Bool} {Q:(Nat→Prop)→Prop} (h:ZcC Γ w I A hp ids cl Q) (hq:∀ S S' : Nat→Prop,(∀ b,S b→S' b)→Q S→Q S') :
  Q (if cl then fun b=>XM Γ w hp I ids b∧A b else XM Γ w hp I ids):=by
 have:=h (XM Γ w hp I ids) (fun b hb=>.inl hb) fun id aa sz xs ex b hl hb=>.inr ⟨id,aa,_,hl,rfl,.inl hb⟩;cases cl
 ·exact this.1
 ·exact this.2 rfl
theorem Zpz:∀ (us vs:List Value) (off:Nat),(ZoJ vs off us).length=vs.length
 | [],_,_=>rfl
 | u :: us,vs,off=>by simp[ZoJ,Zpz us]
theorem ZAR:∀ (us vs:List Value) (off i:Nat),off+us.length≤vs.length→(ZoJ vs off us)[i]?=if off≤i∧i<off+us.length then us[i-off]? else vs[i]?
 | [],vs,off,i,_=>by
  simp only[ZoJ,KQ,L8];rw[Kd (by omega)]
 | u :: us,vs,off,i,h=>by
  simp only[Kl] at h;simp only[ZoJ];rw[ZAR us _ _ i (by simp;omega)];simp only[Kl];by_cases h1:i=off
  ·subst h1;rw[Kd (by omega),Kg (by omega)];have:i<vs.length:=by omega
   simp[this]
  ·by_cases h2:off+1≤i∧i<off+1+us.length
   ·rw[Kg h2,Kg (by omega)];have:i-off=(i-(off+1))+1:=by omega
    rw[this];simp
   ·rw[Kd h2,Kd (by omega)];rw[Lp (by omega)]
theorem Zt9 (sz:Nat):∀ (ps:List Value) (k:Nat) (vs:Array Value),(∀ v∈ps,v.cells.size=sz)→(k+ps.length)*sz≤vs.size →
  ∃ aa,Instr.fill (fun i=>some (i*sz,sz)) vs ((ps.zipIdx k).map fun x=>(x.2,x.1))=some aa∧aa.size=vs.size ∧
   (∀ i,i<k*sz→aa[i]?=vs[i]?)∧(∀ i,(k+ps.length)*sz≤i→aa[i]?=vs[i]?) ∧
   ∀ j u,((ps.map fun v=>v.cells.toList).flatten)[j]?=some u→aa[k*sz+j]?=some u
 | [],k,vs,_,_=>⟨vs,rfl,rfl,fun _ _=>rfl,fun _ _=>rfl,fun j u hu=>by simp at hu⟩
 | p :: ps,k,vs,hsz,hle=>by
  have hp:=hsz p (by simp);simp only[Kl] at hle;have ag:(k+1)*sz≤vs.size:=Kx (KP _ (by omega)) hle;have af:(k+1)*sz=k*sz+sz:=by rw[KV];omega
  have ab:(p.cells.zipIdx.foldl (fun cs (x:Value×Nat)=>cs.setIfInBounds (k*sz+x.2) x.1) vs).toList=ZoJ vs.toList (k*sz) p.cells.toList:=ZwV _ _ _;have ae:∀ i,(p.cells.zipIdx.foldl (fun cs (x:Value×Nat)=>cs.setIfInBounds (k*sz+x.2) x.1) vs)[i]?=if k*sz≤i∧i<k*sz+sz then p.cells[i-k*sz]? else vs[i]?:=by
   intro i;rw[← LP,ab,ZAR _ _ _ _ (by simp[hp];omega)];simp[hp]
  have ad:(p.cells.zipIdx.foldl (fun cs (x:Value×Nat)=>cs.setIfInBounds (k*sz+x.2) x.1) vs).size=vs.size:=by
   rw[← Le,ab,Zpz];simp
  obtain⟨aa,h1,h2,h3,h4,h5⟩:=Zt9 sz ps (k+1) (p.cells.zipIdx.foldl (fun cs (x:Value×Nat)=>cs.setIfInBounds (k*sz+x.2) x.1) vs) (fun v hv=>hsz v (by simp[hv])) (by rw[ad];rw[show k+1+ps.length=k+(ps.length+1) by omega];exact hle);refine⟨aa,?_,by rw[h2,ad],?_,?_,?_⟩
  ·simp only[List.zipIdx_cons,Kk,Instr.fill];have c1:¬(p.cells.size≠sz):=by simp[hp]
   have c2:¬(k*sz+p.cells.size>vs.size):=by rw[hp];omega
   simp only[c1,c2,decide_false,Bool.or_self,Ka,Kn];exact h1
  ·intro i hi;rw[h3 i (by omega),ae,Kd (by omega)]
  ·intro i hi;simp only[Kl] at hi;have:(k+1+ps.length)*sz≤i:=by rw[show k+1+ps.length=k+(ps.length+1) by omega];exact hi
   have h6:(k+1)*sz≤i:=Kx (KP _ (by omega)) this;rw[h4 i this,ae,Kd (by omega)]
  ·intro j u hu;simp only[Kk,Lj,Kaw,Le,hp] at hu;split at hu
   ·rename_i hj;have h6:aa[k*sz+j]?=(p.cells.zipIdx.foldl (fun cs (x:Value×Nat)=>cs.setIfInBounds (k*sz+x.2) x.1) vs)[k*sz+j]?:=h3 _ (by omega);rw[h6,ae,Kg (by omega)];have:k*sz+j-k*sz=j:=by omega
    rw[this];simpa using hu
   ·rename_i hj;have:=h5 (j-sz) u hu;rw[af] at this;have he:k*sz+sz+(j-sz)=k*sz+j:=by omega
    rw[← he];exact this
end
end Go.Abs
