/- Own text. -/
import Derived.Test.YtfnegoimdljanaaGreatDoorAbsStep4
set_option linter.unusedVariables false
set_option linter.unusedSimpArgs false
namespace Go.Abs
open Go
section
variable {P:Program} {nt:Nat} {U:Nat→Prop} {F A I:Nat→Prop} {Γ:Gh} {sl:Sl} {hp:Hp} {a:Act} {w:World}
theorem ZgJ {S:Nat→Prop} {sz:Nat}:∀ {ds:List D} {vs:List Value},(ds.all fun d=>d.cells.length==sz)=true→ZA (Xb w S) ds vs→Z4 w S sz ds (vs.map fun v=>v.cells.toList)
 | [],[],_,_=>trivial
 | [],_ :: _,_,h=>h.elim
 | _ :: _,[],_,h=>h.elim
 | d :: ds,v :: vs,hl,h=>by
  simp only[LG,Kf,beq_iff_eq] at hl;refine⟨⟨?_,h.1.cells⟩,ZgJ hl.2 h.2⟩;rw[← hl.1,h.1.cells.length]
theorem Znk {ps:List (Nat×Operand)} {n:Nat} (h:ps.map (·.1)=List.range n):ps.map (fun x=>(x.1,a.eval x.2))=((ps.map fun x=>a.eval x.2).zipIdx 0).map fun x=>(x.2,x.1):=by
 refine LI fun i=>?_;have hi:(ps.map (·.1))[i]?=(List.range n)[i]?:=by rw[h]
 simp only[K0,List.getElem?_zipIdx] at hi ⊢;cases hp:ps[i]? with
 | none=>simp
 | some p=>
  rw[hp] at hi;simp only[Lc] at hi;have hn:i<n:=by
   rcases K3 i n with h1 | h1
   ·exact h1
   ·rw[K8 (by simpa using h1)] at hi;cases hi
  rw[List.getElem?_range hn] at hi;cases hi;simp
theorem ZpC {o:Oper} {t e:TypeId} {n:Nat} {ps:Array (Nat×Operand)} (ho:o.op=.buildSlice t n ps) (he:Yu P t=some e)
  (af:ps.toList.map (·.1)=List.range n) (ah:n*P.cellsOf e≤16777216) (ai:Uy P e=true) (aj:∀ v∈ps.toList.map (fun x=>a.eval x.2),v.cells.size=P.cellsOf e) :
  ∃ cells:Array Value,(execOp a.eval o).run P w=.ok (.value (.slice (some ⟨w.heap.size,0,none⟩) n n)) (w.alloc (.cells cells e))∧cells.size=n*P.cellsOf e ∧
   ∀ (j:Nat) (u:Value),((ps.toList.map fun x=>a.eval x.2).map fun v=>v.cells.toList).flatten[j]?=some u→cells[j]?=some u:=by
 obtain⟨i,z,hi,hz,am,ak,ad,ae⟩:=Vz ai;have al : Zca P e=some z:=by simp[Zca,hi,hz]
 have hn:n=ps.toList.length:=by have:=congrArg List.length af;simpa using this.symm
 have aa:(ps.map fun x=>(x.1,a.eval x.2)).toList=((ps.toList.map fun x=>a.eval x.2).zipIdx 0).map fun x=>(x.2,x.1):=by
  rw[Array.toList_map];exact Znk af
 obtain⟨cells,h1,h2,_,_,h3⟩:=Zt9 (P.cellsOf e) (ps.toList.map fun x=>a.eval x.2) 0 ((Array.range (n*P.cellsOf e)).map (z.cells[· % z.cells.size]!)) aj (by simp[hn]);refine⟨cells,?_,by simpa using h2,fun j u hu=>by simpa using h3 j u hu⟩;have an:n*P.cellsOf e=0→(Array.range (n*P.cellsOf e)).map (fun x:Nat=>(#[]:Array Value)[x % 0]!)=(Array.range (n*P.cellsOf e)).map (z.cells[· % z.cells.size]!):=fun h0=>by rw[h0];simp
 rw[← aa] at h1;have ab : ¬(n*P.cellsOf e>16777216):=by omega
 by_cases h0:n*P.cellsOf e=0
 ·have ag:Array.range 0 = #[]:=rfl;rw[h0,ag] at h1;simp at h1;simp[execOp,ho,Instr.buildSlice,run_underlying (Xd he),Xe hi,h0];rw[ag];simp[h1,newRow]
 ·simp[execOp,ho,Instr.buildSlice,run_underlying (Xd he),Xe hi,ab,h0,ZgC al];simp at h1;simp[h1,newRow]
theorem ZCu (h:Sim nt F A I Γ U sl hp a w) {o:Oper} {t e:TypeId} {n:Nat} {ps:Array (Nat×Operand)} {ys:List Opd} (ho:o.op=.buildSlice t n ps) (he:Yu P t=some e)
  (ap:QJ (fun q:Nat×Operand=>ZZ q.2) ps.toList=some ys) (ag:ps.toList.map (·.1)=List.range n) (ah:n*P.cellsOf e≤16777216) (al:Uy P e=true) {base:Nat} (hb:Xy U base) (hd:Q7 nt o.dst=true)
  {ce:Zf} (hv:buildSl hp base (P.cellsOf e) (evL sl ys)=some ce):Zf9 P nt F A I Γ U sl hp a w o base ce:=by
 obtain⟨i,z,hi,hz,a2,aq,ai,aj⟩:=Vz al;have a3 : Zca P e=some z:=by simp[Zca,hi,hz]
 have hn:n=ps.toList.length:=by have:=congrArg List.length ag;simpa using this.symm
 have hr:∀ {ps:List (Nat×Operand)} {ys:List Opd},QJ (fun q:Nat×Operand=>ZZ q.2) ps=some ys→ZA (Rep Γ w I) (evL sl ys) (ps.map fun x=>a.eval x.2):=by
  intro ps
  induction ps with
  | nil=>intro ys hy;simp only[QJ] at hy;cases hy;exact trivial
  | cons p ps ih=>
   intro ys hy;simp only[QJ] at hy;obtain⟨y,h1,hy⟩:=Za hy;obtain⟨a4,h2,hy⟩:=Za hy;cases hy;exact⟨h.slOK.ev h1,ih h2⟩
 have aa:=hr ap;have am:(ps.map fun x=>(x.1,a.eval x.2)).toList=((ps.toList.map fun x=>a.eval x.2).zipIdx 0).map fun x=>(x.2,x.1):=by
  rw[Array.toList_map];exact Znk ag
 have run:=fun af=>ZpC (w:=w) (a:=a) ho he ag ah al af;cases af:evL sl ys with
 | nil=>
  rw[af] at hv aa;simp only[buildSl] at hv;have ar:=Qu hv;subst ar;have ad:ps.toList.map (fun x=>a.eval x.2)=[]:=Kt aa.length.symm;have au:n=0:=by rw[hn];have:=congrArg List.length ad;simpa using this
  obtain⟨cells,h1,h2,_⟩:=run (by rw[ad];simp);subst au;refine⟨_,_,.inl h1,?_⟩;show V2 nt F A I Γ w (Zai U base) (Zt sl o.dst .nil) (Zi hp []) _ _;exact h.add (Γ':=Γ) (Qg.refl Γ) (YI w _) (by simp) rfl rfl rfl (fun k o hk=>by simp at hk) (fun i j o o' b hi=>by simp at hi) (fun k o b hk=>by simp at hk)
   (fun _ _=>rfl) (fun id av=>h.names id (fun hu=>av (.inl hu))) ⟨_,rfl⟩ hd
 | cons v vs=>
  rw[af] at hv aa;simp only[buildSl] at hv;obtain⟨q,h1,hv⟩:=Za hv;unfold ZEy at hv;split at hv
  ·rename_i ae;cases hv;have aw:=Zt8 h.hpOK h.own aa h1;have an:=h.freeze q.2.2;have ab:=aw.froze (fun S S' hs hq=>hq.mono fun d v ax=>ax.mono ⟨hs,fun _ _=>rfl⟩);have ay:=ZgJ ae ab;obtain⟨cells,h2,h3,h4⟩:=run (by
    intro u hu;obtain⟨j,hj⟩:=LF hu;obtain⟨d,az,a0⟩:=ab.get' j u hj;have:=KU.1 ae d (Kc az);simp only[beq_iff_eq] at this;have h5:=a0.cells.length;simp at h5;omega)
   refine⟨_,_,.inl h2,V2.of_freeze h q.2.2 ?_⟩;rw[XC];have a1:n=q.1.length:=by rw[ab.length,hn];simp
   have ao : (w.alloc (.cells cells e)).heap[w.heap.size]?=some (.cells cells e (0,0)):=heap_alloc_new w _;refine ZyF an hb hd (YI w _) (by simp) rfl rfl rfl ao a1 (Kp _) ?_ h3 (by omega) ?_
   ·have:n≤n*P.cellsOf e:=Nat.le_mul_of_pos_right _ (by omega);simp only[maxLen];omega
   ·have hk:ZR (if q.2.1 then fun b=>XM Γ w hp I q.2.2 b∧A b else XM Γ w hp I q.2.2) (if q.2.1 then fun b=>XM Γ w hp I q.2.2 b∧A b else XM Γ w hp I q.2.2) w (w.alloc (.cells cells e)):=by
     refine⟨fun _ h=>h,fun b ak=>YI w _ b (an.bound b ?_)⟩;cases hq:q.2.1<;>simp[hq] at ak
     ·exact ak
     ·exact ak.1
    refine YJ (ay.mono hk) ?_;intro j u hu;rw[cell_of_row _ _ _ _ _ _ ao];simpa using h4 j u hu
  ·cases hv
theorem Sim.turn (h:Sim nt F A I Γ U sl hp a w) {base:Nat} (hb:Xy U base) {id:Nat} {o0 o1:Zm} (hl:lkp hp id=some o0) {g:Nat} (hg:Zim (Γ id) o0=some g) (ao:¬I g) (ap:F g) {cur:Array Value}
  {adds:Hp} {Γ' : Gh} (hk:Qg Γ Γ') (ad:∀ k,U k→Γ' k=Γ k) (af:∀ k o,(k,o)∈adds→base≤k∧Vb Γ' (w.setRow g cur) I F A k o∧ZB (Γ' k)=none)
  (ag:∀ id,¬Zai U base id→Γ' id=none) (aq:Vb Γ' (w.setRow g cur) I F A id o1) {v:AV} {u:Value} {dst:Option Nat} (ai:Rep Γ' (w.setRow g cur) I v u) (aj:Q7 nt dst=true) (ar:∀ b,Zii Γ' (w.setRow g cur) id o1 b→Zii Γ w id o0 b:=by exact fun _ h=>False.elim h) (hbuf:∀ b,Buf Γ' (w.setRow g cur) id o1 b→Buf Γ w id o0 b:=by exact fun _ h=>False.elim h) :
  V2 nt F A I Γ w (Zai U base) (Zt sl dst v) (Zi (Zi hp [(id,o1)]) adds) (a.put dst u) (w.setRow g cur):=by
 have ae:∀ k,k≠g→(w.setRow g cur).heap[k]?=w.heap[k]?:=fun k hk=>setRow_other w g k cur hk;have aa:ZR I I w (w.setRow g cur):=⟨fun _ h=>h,fun b au=>ae b fun e=>ao (e ▸ au)⟩
 have ak:(w.setRow g cur).heap.size=w.heap.size:=size_setRow w g cur;have ah:∀ id o,lkp hp id=some o→Γ' id=Γ id:=fun id o hl=>ad id (h.id_in hl);refine⟨I,Γ',hk,aa,fun _ h=>.inl h,⟨rfl,rfl,rfl,by rw[ak];exact Kp _,fun k _ av=>ae k fun e=>av (e ▸ ap)⟩,?_⟩;have am:∀ i o,lkp (Zi (Zi hp [(id,o1)]) adds) i=some o→(i,o)∈adds∨(i=id∧o=o1)∨(i≠id∧lkp hp i=some o):=by
  intro i o hi;rcases Za2 adds _ i o hi with hm | hm
  ·exact .inl hm
  ·simp only[Zi,Qm] at hm;split at hm
   ·rename_i e;cases hm;exact .inr (.inl ⟨e.symm,rfl⟩)
   ·rename_i e;exact .inr (.inr ⟨fun e'=>e e'.symm,hm⟩)
 refine h.next hk aa ?_ ?_ (fun b hI=>by rw[ak];exact h.bound b hI) (by rw[ak];exact Kp _) ag ai aj
 ·intro i o hi;rcases am i o hi with hm | ⟨rfl,rfl⟩ | ⟨al,hm⟩
  ·exact(af i o hm).2.1
  ·exact aq
  ·exact(h.objs i o hm).mono hk aa fun b aw=>⟨ae b fun e=>al (h.inj i id o o0 g hm hl (e ▸ aw) (.inl hg)),fun h=>h⟩
 ·intro i j o o' b hi hj ab ax;have an:∀ i o,lkp (Zi (Zi hp [(id,o1)]) adds) i=some o→Blk Γ' (w.setRow g cur) i o b→∃ o',lkp hp i=some o'∧Blk Γ w i o' b:=by
   intro i o hi ab;rcases am i o hi with hm | ⟨rfl,rfl⟩ | ⟨al,hm⟩
   ·exact(ab.nil (af i o hm).2.2).elim
   ·refine⟨o0,hl,?_⟩;rcases ab with ab | ab | ab
    ·have h1:=Zki ab;rw[ah _ _ hl,Zki hg] at h1;cases h1;exact .inl hg
    ·exact .inr (.inl (ar b ab))
    ·exact .inr (.inr (hbuf b ab))
   ·exact⟨o,hm,ab.back (h.objs _ _ hm) (ah _ _ hm) fun g' ay=>ae g' fun e=>al (h.inj i id o o0 g hm hl (e ▸ ay) (.inl hg))⟩
  obtain⟨o2,h1,h2⟩:=an i o hi ab;obtain⟨o3,h3,h4⟩:=an j o' hj ax;exact h.inj i j o2 o3 b h1 h3 h2 h4
theorem ZwZ {x:AV} {v:Value} (hs:x.solid=true) (h:XS Γ w I x v):v.oneCell'=true:=by
 cases x with
 | d d=>
  obtain⟨h1,h2⟩:d.one=true∧ZQ w I d [v]:=h;cases d<;>simp only[ZQ] at h2
  ·simp at h2;subst h2;rfl
  ·simp at h2;subst h2;rfl
  ·obtain⟨t,h3,_⟩:=h2;simp at h3;subst h3;rfl
  ·obtain⟨t,c,h3,_⟩:=h2;simp at h3;subst h3;rfl
  ·simp[D.one] at h1
 | nil=>obtain⟨ad,rfl⟩:=h;rfl
 | nilp=>obtain rfl:=h;rfl
 | nili=>obtain rfl:=h;rfl
 | ptr id off=>obtain⟨b,h1,rfl⟩:=h;rfl
 | prow id sz i off=>obtain⟨b,o,n,c,h1,h2,rfl⟩:=h;rfl
 | pim cs=>obtain⟨b,o,vs,rfl,_⟩:=h;rfl
 | own id=>obtain⟨ad,n,c,sz,h1,rfl⟩:=h;rfl
 | ownv id off n=>obtain⟨a0,m,c,sz,ad,h1,h2,h3,rfl,_⟩:=h;rfl
 | bnil id e=>obtain⟨b,h1,h2⟩:=h;rcases h2 with rfl | rfl<;>rfl
 | bbuf a b=>cases hs
 | agg cs=>exact h.elim
 | tup vs=>cases hs
 | clo f cs=>obtain⟨us,rfl,_⟩:=h;rfl
 | junk=>cases hs
theorem Zh5:∀ {xs:List AV} {vs:List Value},X1 xs=true→ZA (XS Γ w I) xs vs→∀ v∈vs,v.oneCell'=true
 | [],[],_,_,v,hv=>by simp at hv
 | [],_ :: _,_,h,_,_=>h.elim
 | _ :: _,[],_,h,_,_=>h.elim
 | x :: xs,u :: vs,hs,h,v,hv=>by
  simp only[X1,Kf] at hs;rcases Ke.1 hv with rfl | hv
  ·exact ZwZ hs.1 h.1
  ·exact Zh5 hs.2 h.2 v hv
theorem ZjC {x:AV} (h:X1 x.cells=true):x.solid=true:=by
 cases x<;>first | rfl | simp[AV.cells,X1,AV.solid] at h
theorem ZyH {t:TypeId} {i:TypeInfo} (hi:P.info? t=some i) {v:Value} (aa:v.cells.size=P.cellsOf t) {b o:Nat} {cur:Array Value} {e:TypeId} (hw:w.heap[b]?=some (.cells cur e (0,0)))
  (ab:o+v.cells.size≤cur.size) (h1:∀ u∈v.cells.toList,u.oneCell'=true) :
  (storeVar t ⟨b,o,none⟩ v).run P w=.ok () (w.setRow b (Zy cur.toList o v.cells.toList).toArray):=by
 have ad:=run_storeCells_at P b o e v.cells.toList 0 cur w hw (by simpa using ab) h1;simp only[storeVar,Sem.run_bind,Xe hi,Result.andThen_ok];rw[Kd (by simp[aa])];rw[ad];simp[Zy]
theorem ZlT {α β:Type} {R:α→β→Prop} {cs xs:List α} {vs us:List β} (h:ZA R cs vs) (k:ZA R xs us) (off:Nat):ZA R (Zy cs off xs) (Zy vs off us):=by
 unfold Zy;rw[k.length];exact((h.take off).append k).append (h.drop _)
theorem Wh {α:Type} (cs xs:List α) (off:Nat) (h:off+xs.length≤cs.length):(Zy cs off xs).length=cs.length:=by
 simp[Zy];omega
theorem Qv {α:Type} (cs xs:List α) (off i:Nat) (h:off+xs.length≤cs.length):(Zy cs off xs)[i]?=if off≤i∧i<off+xs.length then xs[i-off]? else cs[i]?:=by
 unfold Zy;by_cases h1:i<off
 ·rw[Kd (by omega),KK,KM (by simp;omega),List.getElem?_take_of_lt h1]
 ·by_cases h2:i<off+xs.length
  ·rw[Kg (by omega),KK,KG (by simp;omega),KM (by simp;omega)];congr 1;simp;omega
  ·rw[Kd (by omega),KK,KG (by simp;omega),KG (by simp;omega),Lk];congr 1;simp;omega
end
end Go.Abs
set_option linter.unusedVariables false
set_option linter.unusedSimpArgs false
namespace Go.Abs
open Go
section
variable {P:Program} {nt:Nat} {U:Nat→Prop} {F A I:Nat→Prop} {Γ:Gh} {sl:Sl} {hp:Hp} {a:Act} {w:World}
theorem Sim.turnT (h:Sim nt F A I Γ U sl hp a w) {base:Nat} {id:Nat} {dels:List Nat} (a6:id∉dels) {o0 o1:Zm} (hl:lkp hp id=some o0) {g:Nat} (hg:Zim (Γ id) o0=some g) (ap:¬I g) (aq:F g) {cur:Array Value}
  (ar:Vb Γ (w.setRow g cur) I F A id o1) {v:AV} {u:Value} {dst:Option Nat} (ad:Rep Γ (w.setRow g cur) I v u) (ae:Q7 nt dst=true)
  (au:∀ b,Blk Γ (w.setRow g cur) id o1 b→∃ k∈id :: dels,∃ o,lkp hp k=some o∧Blk Γ w k o b) :
  V2 nt F A I Γ w (Zai U base) (Zt sl dst v) (Zi (Qc hp dels) [(id,o1)]) (a.put dst u) (w.setRow g cur):=by
 have ab:∀ k,k≠g→(w.setRow g cur).heap[k]?=w.heap[k]?:=fun k hk=>setRow_other w g k cur hk;have aa:ZR I I w (w.setRow g cur):=⟨fun _ h=>h,fun b av=>ab b fun e=>ap (e ▸ av)⟩
 have af:(w.setRow g cur).heap.size=w.heap.size:=size_setRow w g cur;refine⟨I,Γ,Qg.refl Γ,aa,fun _ h=>.inl h,⟨rfl,rfl,rfl,by rw[af];exact Kp _,fun k _ aw=>ab k fun e=>aw (e ▸ aq)⟩,?_⟩;have ag:∀ i o,lkp (Zi (Qc hp dels) [(id,o1)]) i=some o→(i=id∧o=o1)∨(i≠id∧i∉dels∧lkp hp i=some o):=by
  intro i o hi;simp only[Zi,Qm] at hi;split at hi
  ·rename_i e;cases hi;exact .inl ⟨e.symm,rfl⟩
  ·rename_i e;obtain⟨h1,h2⟩:=W8 _ _ _ _ hi;exact .inr ⟨fun e'=>e e'.symm,h2,h1⟩
 have ah:∀ i o b,i≠id→lkp hp i=some o→Blk Γ (w.setRow g cur) i o b→Blk Γ w i o b:=fun i o b h1 h3 h4=>
  h4.back (h.objs i o h3) rfl fun g' ax=>ab g' fun e=>h1 (h.inj i id o o0 g h3 hl (e ▸ ax) (.inl hg))
 refine h.next (Qg.refl Γ) aa ?_ ?_ (fun b hI=>by rw[af];exact h.bound b hI) (by rw[af];exact Kp _) (fun k ay=>h.names k (fun hu=>ay (.inl hu))) ad ae
 ·intro i o hi;rcases ag i o hi with ⟨rfl,rfl⟩ | ⟨az,a0,hm⟩
  ·exact ar
  ·exact(h.objs i o hm).mono (Qg.refl Γ) aa fun b a1=>⟨ab b fun e=>az (h.inj i id o o0 g hm hl (e ▸ a1) (.inl hg)),fun h=>h⟩
 ·have am:∀ j o' b,j≠id→j∉dels→lkp hp j=some o'→Blk Γ (w.setRow g cur) j o' b→Blk Γ (w.setRow g cur) id o1 b→False:=by
   intro j o' b h1 h2 h3 h4 h5;obtain⟨k,hk,ok,a2,a3⟩:=au b h5;have:=h.inj j k o' ok b h3 a2 (ah j o' b h1 h3 h4) a3;subst this;rcases Ke.1 hk with hk | hk
   ·exact h1 hk
   ·exact h2 hk
  intro i j o o' b hi hj ai aj;rcases ag i o hi with ⟨rfl,rfl⟩ | ⟨an,a4,ak⟩<;>rcases ag j o' hj with ⟨rfl,rfl⟩ | ⟨ao,a5,al⟩
  ·rfl
  ·exact(am j o' b ao a5 al aj ai).elim
  ·exact(am i o b an a4 ak ai aj).elim
  ·exact h.inj i j o o' b ak al (ah i o b an ak ai) (ah j o' b ao al aj)
theorem Zw0 {S:Nat→Prop} {ns:Nat} {d:D} {v:Value} (hp:d.plain=true) (h:ZQ w S d [v]):Qw w ns [] d v:=by
 cases d with
 | sl ys=>cases hp
 | agg cs=>cases hp
 | int k n=>simp[ZQ] at h;subst h;simp[Qw]
 | bool b=>simp[ZQ] at h;subst h;simp[Qw]
 | str s=>simp only[ZQ] at h;obtain⟨t,e,ht⟩:=h;cases e;simp only[Qw];exact⟨⟨t,rfl,ht⟩,trivial⟩
theorem Zw1 {S:Nat→Prop} {ns:Nat}:∀ {ds:List D} {vs:List Value},ZaB D.plain ds=true→QT w S ds vs→Qj w ns [] ds vs
 | [],vs,_,h=>by simp only[QT] at h;subst h;simp[Qj]
 | d :: ds,vs,hp,h=>by
  simp only[ZaB,Kf] at hp;simp only[QT] at h;obtain⟨v,r,rfl,_,h2,h3⟩:=h;simp only[Qj];exact⟨v,r,[],[],rfl,rfl,Zw0 hp.1 h2,Zw1 hp.2 h3⟩
theorem ZGn {S:Nat→Prop} {ns:Nat} {x:D} {vs:List Value} (hf:x.flat=true) (h:ZQ w S x vs):XH w ns [] x vs:=by
 cases x with
 | sl ys=>simp[D.flat,D.cells,ZaB,D.plain] at hf
 | agg cs=>simp only[XH];exact Zw1 hf (by simpa only[ZQ] using h)
 | int k n=>simp only[ZQ] at h;simp only[XH];exact⟨h,trivial⟩
 | bool b=>simp only[ZQ] at h;simp only[XH];exact⟨h,trivial⟩
 | str s=>simp only[ZQ] at h;simp only[XH];obtain⟨t,h,ht⟩:=h;exact⟨⟨t,h,ht⟩,trivial⟩
theorem ZoL {S:Nat→Prop} {ns g sz:Nat}:∀ {xs:List D} {o:Nat},ZaB D.flat xs=true→Ut w S g sz xs o→Z1 w ns [] g sz xs o
 | [],o,_,_=>by simp[Z1]
 | x :: xs,o,hf,h=>by
  simp only[ZaB,Kf] at hf;simp only[Ut] at h;obtain⟨⟨vs,h1,h2,h3⟩,h4⟩:=h;simp only[Z1];exact⟨vs,[],[],rfl,h1,h2,ZGn hf.1 h3,ZoL hf.2 h4⟩
theorem Znl (h:Sim nt F A I Γ U sl hp a w) {ns:Nat}:∀ {cs:List AV} {vs:List Value} {q:List D×List Nat},ZA (Y6 Γ w I) cs vs→Wt hp ns cs=some q →
  ∃ B,Qj w ns B q.1 vs∧B.Nodup∧(∀ b∈B,¬I b∧F b)∧∀ b∈B,∃ id∈q.2,∃ o,lkp hp id=some o∧Blk Γ w id o b
 | [],[],q,_,hq=>by
  simp only[Wt] at hq;cases hq;exact⟨[],by simp[Qj],Lz,fun b hb=>by simp at hb,fun b hb=>by simp at hb⟩
 | [],_ :: _,_,h,_=>h.elim
 | _ :: _,[],_,h,_=>h.elim
 | x :: cs,v :: vs,q,hr,hq=>by
  simp only[Wt] at hq;obtain⟨q1,h1,hq⟩:=Za hq;obtain⟨q2,h2,hq⟩:=Za hq;split at hq
  ·rename_i hc;cases hq;obtain⟨B2,k1,k2,k3,k4⟩:=Znl h hr.2 h2;have aj:∃ B1,Qw w ns B1 q1.1 v∧B1.Nodup∧(∀ b∈B1,¬I b∧F b)∧∀ b∈B1,∃ id∈q1.2,∃ o,lkp hp id=some o∧Blk Γ w id o b:=by
    have hv:=hr.1;unfold Zji at h1;split at h1
    ·rename_i y;split at h1
     ·rename_i hy;cases h1;exact⟨[],Zw0 hy hv.2,Lz,fun b hb=>by simp at hb,fun b hb=>by simp at hb⟩
     ·cases h1
    ·cases h1;obtain⟨ad,rfl⟩:=hv;exact⟨[],by simp only[Qw];exact⟨ad,0,rfl,Kp _,.inl ⟨rfl,trivial⟩⟩,Lz,fun b hb=>by simp at hb,fun b hb=>by simp at hb⟩
    ·rename_i id;obtain⟨ad,n,c,aq,hg,rfl⟩:=hv;unfold Zke at h1;split at h1
     ·rename_i sz ys hl;split at h1
      ·rename_i aa;obtain⟨rfl,ak⟩:=aa;cases h1;obtain⟨al,n',c',ae,ab⟩:=h.objs id _ hl;rw[hg] at ae;cases ae;obtain⟨rfl,ab⟩:=ab;rcases ab with ab | ⟨g,q0,cur,e,rfl,p1,p2,p3,p4,p5,p6,p7,p8,p9⟩
       ·exact⟨[],by simp only[Qw];exact⟨ad,c,rfl,by omega,.inl ⟨ab.2,trivial⟩⟩,Lz,fun b hb=>by simp at hb,fun b hb=>by simp at hb⟩
       ·obtain⟨p5,h0⟩:=p5;obtain rfl:=h0 rfl;rw[K7] at p5;refine⟨[g],by simp only[Qw];exact⟨_,c,rfl,p3,.inr ⟨g,cur,e,[],rfl,p1,p2,p4,p5,p6,rfl,ZoL ak p9⟩⟩,by simp,fun b hb=>?_,fun b hb=>?_⟩
        ·simp at hb;subst hb;exact⟨by simpa using p7,p8⟩
        ·simp at hb;subst hb;exact⟨id,by simp,_,hl,.inl (by rw[hg];simp[ZB,KH p1])⟩
      ·cases h1
     ·rename_i sz n' ys hl;split at h1
      ·rename_i aa;obtain⟨rfl,rfl⟩:=aa;cases h1;obtain⟨al,m,c',ae,ab,_⟩:=h.objs id _ hl;rw[hg] at ae;cases ae;obtain⟨rfl,ab⟩:=ab;rcases ab with ab | ⟨g,cur,e,B,rfl,p1,p2,p3,p4,p5,p6,p7,p8,p9⟩
       ·exact⟨[],by simp only[Qw];exact⟨ad,c,rfl,by omega,.inl ⟨ab.2.1,trivial⟩⟩,Lz,fun b hb=>by simp at hb,fun b hb=>by simp at hb⟩
       ·have ai:ZB (Γ id)=some g:=by rw[hg];simp[ZB,KH p1]
        refine⟨g :: B,by simp only[Qw];exact⟨_,c,rfl,p3,.inr ⟨g,cur,e,B,rfl,p1,p2,p4,p5,p6,rfl,p7⟩⟩,p8,p9,fun b hb=>?_⟩;rcases Ke.1 hb with rfl | hb
        ·exact⟨id,by simp,_,hl,.inl ai⟩
        ·exact⟨id,by simp,_,hl,.inr (.inl ⟨g,B,ai,p7,hb⟩)⟩
      ·cases h1
     ·cases h1
    ·cases h1
   obtain⟨B1,j1,j2,j3,j4⟩:=aj;refine⟨B1++B2,by simp only[Qj];exact⟨v,vs,B1,B2,rfl,rfl,j1,k1⟩,LU.2 ⟨j2,k2,fun b hb b' am e=>?_⟩,fun b hb=>?_,fun b hb=>?_⟩
   ·subst e;obtain⟨id,af,o,hl,an⟩:=j4 b hb;obtain⟨ao,ag,o',ap,ah⟩:=k4 b am;have:=h.inj id ao o o' b hl ap an ah;subst this;simp only[K9] at hc;have:(q1.2.any q2.2.contains)=true:=LQ.2 ⟨id,af,by simpa using ag⟩;rw[this] at hc;cases hc
   ·rcases Ki.1 hb with hb | hb
    ·exact j3 b hb
    ·exact k3 b hb
   ·rcases Ki.1 hb with hb | hb
    ·obtain⟨id,af,hh⟩:=j4 b hb;exact⟨id,by simp[af],hh⟩
    ·obtain⟨id,af,hh⟩:=k4 b hb;exact⟨id,by simp[af],hh⟩
  ·cases hq
theorem Zkm {g sz ns j off:Nat} {xs cs ds:List D} {us:List Value} {B Bq:List Nat} {cur:Array Value} {e:TypeId} (hw:w.heap[g]?=some (.cells cur e (0,0))) (hE:Z1 w ns B g sz xs 0) (hx:xs[j]?=some (.agg cs)) (an:cs.length=sz)
  (ah:off+us.length≤sz) (hq:Qj w ns Bq ds us) (ai:g∉B) (aj:g∉Bq) (ao:j*sz+sz≤cur.size) :
  ∃ B' BM vm,Z1 (w.setRow g (Zy cur.toList (j*sz+off) us).toArray) ns B' g sz (xs.set j (.agg (Zy cs off ds))) 0∧(∀ x,List.count x B'+List.count x BM=List.count x B+List.count x Bq) ∧
   Qj w ns BM ((cs.drop off).take us.length) vm∧QA w g (j*sz+off) vm:=by
 generalize ag : w.setRow g (Zy cur.toList (j*sz+off) us).toArray=w';have ab:∀ k,k≠g→w'.heap[k]?=w.heap[k]?:=fun k hk=>by rw[← ag];exact setRow_other w g k _ hk
 have ae:w'.heap[g]?=some (.cells (Zy cur.toList (j*sz+off) us).toArray e (0,0)):=by rw[← ag];exact setRow_heap w g cur _ e _ hw
 have ad:∀ p,w'.cell? ⟨g,p,none⟩=(Zy cur.toList (j*sz+off) us)[p]?:=fun p=>by rw[cell_of_row _ _ _ _ _ _ ae];simp
 have aa:∀ p,w.cell? ⟨g,p,none⟩=cur.toList[p]?:=fun p=>by rw[cell_of_row _ _ _ _ _ _ hw];simp
 obtain⟨vs,B1,Bn,B2,rfl,v1,v2,v3,put⟩:=hE.at hx;have ak:=hq.length;have v4:=v3.cells;simp only[D.cells] at v4;have e1:cs=cs.take off++((cs.drop off).take us.length++(cs.drop off).drop us.length):=by rw[Lq us.length (cs.drop off),Lq off cs]
 rw[e1] at v4;obtain⟨BA,ap,rfl,w1,w2⟩:=v4.split;obtain⟨BM,BC,rfl,w3,w4⟩:=w2.split;have t1:(cs.take off).length=off:=by simp;omega
 have t2:((cs.drop off).take us.length).length=us.length:=by simp;omega
 rw[t1] at w1 w4;rw[t2] at w4;have af:∀ b,b∈B1++(BA++(BM++BC))++B2→b≠g:=fun b hb e=>ai (e ▸ hb);have k1:Qj w' ns BA (cs.take off) (vs.take off):=w1.mono fun b hb=>ab b (af b (by simp[hb]));have k2:Qj w' ns Bq ds us:=hq.mono fun b hb=>ab b fun e=>aj (e ▸ hb);have k3:Qj w' ns BC ((cs.drop off).drop us.length) ((vs.drop off).drop us.length):=w4.mono fun b hb=>ab b (af b (by simp[hb]));have k4:=(k1.append k2).append k3;have e2:cs.take off++ds++(cs.drop off).drop us.length=Zy cs off ds:=by simp[Zy,Kaq,ak]
 have e3:vs.take off++us++(vs.drop off).drop us.length=Zy vs off us:=by simp[Zy,Kaq]
 rw[e2,e3] at k4;refine⟨B1++(BA++Bq++BC)++B2,BM,_,put w' _ (.agg (Zy cs off ds)) (Zy vs off us) (fun b hb=>ab b (af b ?_)) (fun p v hp hv=>?_) ?_ (fun p u hu=>?_) (Zud k4),fun x=>?_,w3,fun p u hu=>?_⟩
 ·rcases Ki.1 hb with hb | hb<;>simp[hb]
 ·rw[ad,Qv _ _ _ _ (by simp;omega),Kd (by omega),← aa];exact hv
 ·rw[Wh];exact v1;omega
 ·rw[Qv _ _ _ _ (by omega)] at hu;rw[ad,Qv _ _ _ _ (by simp;omega)];split at hu
  ·rename_i al;rw[Kg (by omega)];have:0+j*sz+p-(j*sz+off)=p-off:=by omega
   rw[this];exact hu
  ·rename_i al;rw[Kd (by omega),← aa];exact v2 p u hu
 ·simp only[List.count_append];omega
 ·rw[t1] at hu;have am : vs[off+p]?=some u:=by
   rw[Lr] at hu;split at hu
   ·rwa [Lk] at hu
   ·cases hu
  have:=v2 (off+p) u am
  rwa [K7,← KW] at this
theorem Zuc {α:Type} (cs us:List α) (q p:Nat) (v:α) (h:q+us.length≤cs.length):Zy (cs.set p v) q us=if q≤p∧p<q+us.length then Zy cs q us else (Zy cs q us).set p v:=by
 refine LI fun k=>?_;rw[Qv _ _ _ _ (by simpa using h)];split
 ·rename_i hk;split
  ·rw[Qv _ _ _ _ h,Kg hk]
  ·rename_i hp;rw[Lp (fun e:p=k=>hp (by rw[e];exact hk)),Qv _ _ _ _ h,Kg hk]
 ·rename_i hk;split
  ·rename_i hp;rw[Lp (fun e:p=k=>hk (by rw[← e];exact hp)),Qv _ _ _ _ h,Kd hk]
  ·by_cases e:p=k
   ·subst e;simp only[LV,Km,Wh _ _ _ h]
   ·rw[Lp e,Lp e,Qv _ _ _ _ h,Kd hk]
theorem ZyI {xs:List D} {i j c:Nat} {x' : D} {ys:List D} (h:Zar xs i c=some ys) (hx:i=j→∀ x,xs[i]?=some x→x'.cells[c]?=x.cells[c]?):Zar (xs.set j x') i c=some ys:=by
 unfold Zar at h ⊢;obtain⟨x,h1,h2⟩:=Za h;by_cases e:i=j
 ·subst e;have:=hx rfl x h1;rw[LH (Kb.1 h1).1,Zh,this];exact h2
 ·rw[Lp (fun e'=>e e'.symm),h1,Zh];exact h2
theorem ZCv {a:Option Addr} {g sz ns j off:Nat} {xs cs ds:List D} {us:List Value} {B Bq:List Nat} {cur:Array Value} {e:TypeId} {lk:Option (Option Nat×Nat×Nat)} (ha:a=some ⟨g,0,none⟩) (hw:w.heap[g]?=some (.cells cur e (0,0)))
  (hE:Z1 (Jn w g (VL sz lk)) ns B g sz xs 0) (hL:YM Γ w a sz ns xs lk) (hx:xs[j]?=some (.agg cs)) (ae:cs.length=sz)
  (ab:off+us.length≤sz) (hq:Qj w ns Bq ds us) (af:g∉B) (ad:g∉Bq) (ag:j*sz+sz≤cur.size) :
  (∃ B',Z1 (Jn (w.setRow g (Zy cur.toList (j*sz+off) us).toArray) g (VL sz (Zao j off us.length lk))) ns B' g sz (xs.set j (.agg (Zy cs off ds))) 0∧∀ x,List.count x B'≤List.count x B+List.count x Bq) ∧
  YM Γ (w.setRow g (Zy cur.toList (j*sz+off) us).toArray) a sz ns (xs.set j (.agg (Zy cs off ds))) (Zao j off us.length lk):=by
 have aj:=hq.length;cases lk with
 | none=>
  obtain⟨B',BM,_,h1,h2,_⟩:=Zkm hw hE hx ae ab hq af ad ag;exact⟨⟨B',h1,fun x=>by have:=h2 x;omega⟩,trivial⟩
 | some r=>
  obtain⟨nm,i',c⟩:=r;obtain⟨l1,l2,l3,l4⟩:=hL;simp only[VL] at hE;rw[Zka hw] at hE;have ai:=setRow_heap w g cur (cur.setIfInBounds (i' * sz+c) (.slice none 0 0)) e (0,0) hw;obtain⟨B',BM,_,h1,h2,_⟩:=Zkm ai hE hx ae ab (hq.mono fun b hb=>setRow_other w g b _ fun e=>ad (e ▸ hb)) af ad (by simpa using ag);have h2:∀ x,List.count x B'≤List.count x B+List.count x Bq:=fun x=>by have:=h2 x;omega
  rw[setRow_setRow,Kav,Zuc _ _ _ _ _ (by simp;omega)] at h1;have aa:=setRow_heap w g cur (Zy cur.toList (j*sz+off) us).toArray e (0,0) hw;by_cases hc:j=i'∧off≤c∧c<off+us.length
  ·have hs:Zao j off us.length (some (nm,i',c))=none:=by simp only[Zao];rw[Kg hc]
   rw[hs];obtain⟨rfl,ak,hc2⟩:=hc;rw[Kg (by omega)] at h1;exact⟨⟨B',h1,h2⟩,trivial⟩
  ·have hs:Zao j off us.length (some (nm,i',c))=some (nm,i',c):=by simp only[Zao];rw[Kd hc]
   rw[hs];have hp:¬(j*sz+off≤i' * sz+c∧i' * sz+c<j*sz+off+us.length):=fun hp=>hc (by
    obtain⟨k,hk⟩:∃ k,i' * sz+c=j*sz+(off+k)∧k<us.length:=⟨i' * sz+c-(j*sz+off),by omega,by omega⟩
    obtain⟨e1,e2⟩:=ZDd l2 (show off+k<sz by omega) hk.1;exact⟨e1.symm,by omega,by omega⟩)
   rw[Kd hp] at h1;refine⟨?_,by simpa using l1,l2,ZyI l3 fun e x ah=>?_,fun k hk=>?_⟩
   ·simp only[VL];rw[Zka aa,setRow_setRow];have:(Zy cur.toList (j*sz+off) us).toArray.setIfInBounds (i' * sz+c) (.slice none 0 0)=((Zy cur.toList (j*sz+off) us).set (i' * sz+c) (.slice none 0 0)).toArray:=by simp
    rw[this];exact⟨B',h1,h2⟩
   ·subst e;rw[hx] at ah;cases ah;simp only[D.cells];rw[Qv _ _ _ _ (by omega),Kd (fun hh=>hc ⟨rfl,by omega⟩)]
   ·obtain⟨g',a',n',c',h5,h6,h7⟩:=l4 k hk;rw[ha] at h5;cases h5;refine⟨g,a',n',c',ha,h6,?_⟩;rw[cell_of_row _ _ _ _ _ _ hw] at h7;rw[cell_of_row _ _ _ _ _ _ aa];have:(Zy cur.toList (j*sz+off) us).toArray[i' * sz+c]?=cur[i' * sz+c]?:=by
     rw[Kam,Qv _ _ _ _ (by simp;omega),Kd hp];simp
    rw[this];exact h7
theorem ZjD {ns:Nat}:∀ {xs:List AV} {q:List D×List Nat},Wt hp ns xs=some q→X1 xs=true
 | [],q,h=>rfl
 | x :: xs,q,h=>by
  simp only[Wt] at h;obtain⟨q1,h1,h⟩:=Za h;obtain⟨q2,h2,h⟩:=Za h;simp only[X1,ZjD h2,Kad];cases x<;>first | rfl | cases h1
theorem Zw2 {ns:Nat}:∀ {xs:List AV} {q:List D×List Nat},Wt hp ns xs=some q→q.1.length=xs.length
 | [],q,h=>by simp only[Wt] at h;cases h;rfl
 | x :: xs,q,h=>by
  simp only[Wt] at h;obtain⟨q1,h1,h⟩:=Za h;obtain⟨q2,h2,h⟩:=Za h;split at h
  ·cases h;simp[Zw2 h2]
  ·cases h
theorem Zw3 {ns:Nat}:∀ {xs:List AV} {vs:List Value} {q:List D×List Nat},Wt hp ns xs=some q→ZA (XS Γ w I) xs vs→ZA (Y6 Γ w I) xs vs
 | [],[],q,h,hr=>trivial
 | [],_ :: _,q,h,hr=>hr.elim
 | _ :: _,[],q,h,hr=>hr.elim
 | x :: xs,v :: vs,q,h,hr=>by
  simp only[Wt] at h;obtain⟨q1,h1,h⟩:=Za h;obtain⟨q2,h2,h⟩:=Za h;refine⟨?_,Zw3 h2 hr.2⟩;cases x<;>first | exact hr.1 | cases h1
end
end Go.Abs
