/- Own text. -/
import Derived.Test.YtefabmohhbhlfaaAbsStep4
set_option linter.unusedVariables false
set_option linter.unusedSimpArgs false
namespace Go.Abs
open Go
section
variable {P:Program} {nt:Nat} {U:Nat→Prop} {F A I:Nat→Prop} {Γ:Gh} {sl:Sl} {hp:Hp} {a:Act} {w:World}
theorem J5 {S:Nat→Prop} {sz:Nat}:∀ {ds:List D} {vs:List Value},(ds.all fun d=>d.cells.length==sz)=true→Zq (QZ w S) ds vs→ZM w S sz ds (vs.map fun v=>v.cells.toList)
 | [],[],_,_=>trivial
 | [],_ :: _,_,h=>h.elim
 | _ :: _,[],_,h=>h.elim
 | d :: ds,v :: vs,hl,h=>by
  simp only[Lt,Kb,beq_iff_eq] at hl;refine⟨⟨?_,h.1.cells⟩,J5 hl.2 h.2⟩;rw[← hl.1,h.1.cells.length]
theorem ZdM {ps:List (Nat×Operand)} {n:Nat} (h:ps.map (·.1)=List.range n):ps.map (fun x=>(x.1,a.eval x.2))=((ps.map fun x=>a.eval x.2).zipIdx 0).map fun x=>(x.2,x.1):=by
 refine Lj fun i=>?_;have hi:(ps.map (·.1))[i]?=(List.range n)[i]?:=by rw[h]
 simp only[Kx,List.getElem?_zipIdx] at hi ⊢;cases hp:ps[i]? with
 | none=>simp
 | some p=>
  rw[hp] at hi;simp only[KW] at hi;have hn:i<n:=by
   rcases KZ i n with h1 | h1
   ·exact h1
   ·rw[KR (by simpa using h1)] at hi;cases hi
  rw[List.getElem?_range hn] at hi;cases hi;simp
theorem Zfy {o:Oper} {t e:TypeId} {n:Nat} {ps:Array (Nat×Operand)} (ho:o.op=.buildSlice t n ps) (he:Q8 P t=some e)
  (af:ps.toList.map (·.1)=List.range n) (ah:n*P.cellsOf e≤16777216) (ai:Ve P e=true) (aj:∀ v∈ps.toList.map (fun x=>a.eval x.2),v.cells.size=P.cellsOf e) :
  ∃ cells:Array Value,(execOp a.eval o).run P w=.ok (.value (.slice (some ⟨w.heap.size,0,none⟩) n n)) (w.alloc (.cells cells e))∧cells.size=n*P.cellsOf e ∧
   ∀ (j:Nat) (u:Value),((ps.toList.map fun x=>a.eval x.2).map fun v=>v.cells.toList).flatten[j]?=some u→cells[j]?=some u:=by
 obtain⟨i,z,hi,hz,am,ak,ad,ae⟩:=XS ai;have al : W2 P e=some z:=by simp[W2,hi,hz]
 have hn:n=ps.toList.length:=by have:=congrArg List.length af;simpa using this.symm
 have aa:(ps.map fun x=>(x.1,a.eval x.2)).toList=((ps.toList.map fun x=>a.eval x.2).zipIdx 0).map fun x=>(x.2,x.1):=by
  rw[Array.toList_map];exact ZdM af
 obtain⟨cells,h1,h2,_,_,h3⟩:=ZhK (P.cellsOf e) (ps.toList.map fun x=>a.eval x.2) 0 ((Array.range (n*P.cellsOf e)).map (z.cells[· % z.cells.size]!)) aj (by simp[hn]);refine⟨cells,?_,by simpa using h2,fun j u hu=>by simpa using h3 j u hu⟩;have an:n*P.cellsOf e=0→(Array.range (n*P.cellsOf e)).map (fun x:Nat=>(#[]:Array Value)[x % 0]!)=(Array.range (n*P.cellsOf e)).map (z.cells[· % z.cells.size]!):=fun h0=>by rw[h0];simp
 rw[← aa] at h1;have ab : ¬(n*P.cellsOf e>16777216):=by omega
 by_cases h0:n*P.cellsOf e=0
 ·have ag:Array.range 0 = #[]:=rfl;rw[h0,ag] at h1;simp at h1;simp[execOp,ho,Instr.buildSlice,run_underlying (Qp he),Qq hi,h0];rw[ag];simp[h1,newRow]
 ·simp[execOp,ho,Instr.buildSlice,run_underlying (Qp he),Qq hi,ab,h0,JX al];simp at h1;simp[h1,newRow]
theorem ZnQ (h:Sim nt F A I Γ U sl hp a w) {o:Oper} {t e:TypeId} {n:Nat} {ps:Array (Nat×Operand)} {ys:List Opd} (ho:o.op=.buildSlice t n ps) (he:Q8 P t=some e)
  (ap:Qb (fun q:Nat×Operand=>ZJ q.2) ps.toList=some ys) (ag:ps.toList.map (·.1)=List.range n) (ah:n*P.cellsOf e≤16777216) (al:Ve P e=true) {base:Nat} (hb:Qx U base) (hd:Qm nt o.dst=true)
  {ce:Zb} (hv:buildSl hp base (P.cellsOf e) (evL sl ys)=some ce):JJ P nt F A I Γ U sl hp a w o base ce:=by
 obtain⟨i,z,hi,hz,a2,aq,ai,aj⟩:=XS al;have a3 : W2 P e=some z:=by simp[W2,hi,hz]
 have hn:n=ps.toList.length:=by have:=congrArg List.length ag;simpa using this.symm
 have hr:∀ {ps:List (Nat×Operand)} {ys:List Opd},Qb (fun q:Nat×Operand=>ZJ q.2) ps=some ys→Zq (Rep Γ w I) (evL sl ys) (ps.map fun x=>a.eval x.2):=by
  intro ps
  induction ps with
  | nil=>intro ys hy;simp only[Qb] at hy;cases hy;exact trivial
  | cons p ps ih=>
   intro ys hy;simp only[Qb] at hy;obtain⟨y,h1,hy⟩:=Za hy;obtain⟨a4,h2,hy⟩:=Za hy;cases hy;exact⟨h.slOK.ev h1,ih h2⟩
 have aa:=hr ap;have am:(ps.map fun x=>(x.1,a.eval x.2)).toList=((ps.toList.map fun x=>a.eval x.2).zipIdx 0).map fun x=>(x.2,x.1):=by
  rw[Array.toList_map];exact ZdM ag
 have run:=fun af=>Zfy (w:=w) (a:=a) ho he ag ah al af;cases af:evL sl ys with
 | nil=>
  rw[af] at hv aa;simp only[buildSl] at hv;have ar:=Z4 hv;subst ar;have ad:ps.toList.map (fun x=>a.eval x.2)=[]:=Km aa.length.symm;have au:n=0:=by rw[hn];have:=congrArg List.length ad;simpa using this
  obtain⟨cells,h1,h2,_⟩:=run (by rw[ad];simp);subst au;refine⟨_,_,.inl h1,?_⟩;show X9 nt F A I Γ w (Wb U base) (Zi sl o.dst .nil) (Zd hp []) _ _;exact h.add (Γ':=Γ) (ZY.refl Γ) (Xd w _) (by simp) rfl rfl rfl (fun k o hk=>by simp at hk) (fun i j o o' b hi=>by simp at hi) (fun k o b hk=>by simp at hk)
   (fun _ _=>rfl) (fun id av=>h.names id (fun hu=>av (.inl hu))) ⟨_,rfl⟩ hd
 | cons v vs=>
  rw[af] at hv aa;simp only[buildSl] at hv;obtain⟨q,h1,hv⟩:=Za hv;unfold ZpD at hv;split at hv
  ·rename_i ae;cases hv;have aw:=ZhJ h.hpOK h.own aa h1;have an:=h.freeze q.2.2;have ab:=aw.froze (fun S S' hs hq=>hq.mono fun d v ax=>ax.mono ⟨hs,fun _ _=>rfl⟩);have ay:=J5 ae ab;obtain⟨cells,h2,h3,h4⟩:=run (by
    intro u hu;obtain⟨j,hj⟩:=LL hu;obtain⟨d,az,a0⟩:=ab.get' j u hj;have:=KK.1 ae d (Ke az);simp only[beq_iff_eq] at this;have h5:=a0.cells.length;simp at h5;omega)
   refine⟨_,_,.inl h2,X9.of_freeze h q.2.2 ?_⟩;rw[QB];have a1:n=q.1.length:=by rw[ab.length,hn];simp
   have ao : (w.alloc (.cells cells e)).heap[w.heap.size]?=some (.cells cells e (0,0)):=heap_alloc_new w _;refine Zk1 an hb hd (Xd w _) (by simp) rfl rfl rfl ao a1 (Kh _) ?_ h3 (by omega) ?_
   ·have:n≤n*P.cellsOf e:=Nat.le_mul_of_pos_right _ (by omega);simp only[maxLen];omega
   ·have hk:ZB (if q.2.1 then fun b=>QK Γ w hp I q.2.2 b∧A b else QK Γ w hp I q.2.2) (if q.2.1 then fun b=>QK Γ w hp I q.2.2 b∧A b else QK Γ w hp I q.2.2) w (w.alloc (.cells cells e)):=by
     refine⟨fun _ h=>h,fun b ak=>Xd w _ b (an.bound b ?_)⟩;cases hq:q.2.1<;>simp[hq] at ak
     ·exact ak
     ·exact ak.1
    refine Xe (ay.mono hk) ?_;intro j u hu;rw[cell_of_row _ _ _ _ _ _ ao];simpa using h4 j u hu
  ·cases hv
theorem Sim.turn (h:Sim nt F A I Γ U sl hp a w) {base:Nat} (hb:Qx U base) {id:Nat} {o0 o1:Zh} (hl:lkp hp id=some o0) {g:Nat} (hg:Za3 (Γ id) o0=some g) (ao:¬I g) (ap:F g) {cur:Array Value}
  {adds:Hp} {Γ' : Gh} (hk:ZY Γ Γ') (ad:∀ k,U k→Γ' k=Γ k) (af:∀ k o,(k,o)∈adds→base≤k∧XF Γ' (w.setRow g cur) I F A k o∧Zp (Γ' k)=none)
  (ag:∀ id,¬Wb U base id→Γ' id=none) (aq:XF Γ' (w.setRow g cur) I F A id o1) {v:AV} {u:Value} {dst:Option Nat} (ai:Rep Γ' (w.setRow g cur) I v u) (aj:Qm nt dst=true) (ar:∀ b,Za0 Γ' (w.setRow g cur) id o1 b→Za0 Γ w id o0 b:=by exact fun _ h=>False.elim h) (hbuf:∀ b,Buf Γ' (w.setRow g cur) id o1 b→Buf Γ w id o0 b:=by exact fun _ h=>False.elim h) :
  X9 nt F A I Γ w (Wb U base) (Zi sl dst v) (Zd (Zd hp [(id,o1)]) adds) (a.put dst u) (w.setRow g cur):=by
 have ae:∀ k,k≠g→(w.setRow g cur).heap[k]?=w.heap[k]?:=fun k hk=>setRow_other w g k cur hk;have aa:ZB I I w (w.setRow g cur):=⟨fun _ h=>h,fun b au=>ae b fun e=>ao (e ▸ au)⟩
 have ak:(w.setRow g cur).heap.size=w.heap.size:=size_setRow w g cur;have ah:∀ id o,lkp hp id=some o→Γ' id=Γ id:=fun id o hl=>ad id (h.id_in hl);refine⟨I,Γ',hk,aa,fun _ h=>.inl h,⟨rfl,rfl,rfl,by rw[ak];exact Kh _,fun k _ av=>ae k fun e=>av (e ▸ ap)⟩,?_⟩;have am:∀ i o,lkp (Zd (Zd hp [(id,o1)]) adds) i=some o→(i,o)∈adds∨(i=id∧o=o1)∨(i≠id∧lkp hp i=some o):=by
  intro i o hi;rcases WG adds _ i o hi with hm | hm
  ·exact .inl hm
  ·simp only[Zd,ZW] at hm;split at hm
   ·rename_i e;cases hm;exact .inr (.inl ⟨e.symm,rfl⟩)
   ·rename_i e;exact .inr (.inr ⟨fun e'=>e e'.symm,hm⟩)
 refine h.next hk aa ?_ ?_ (fun b hI=>by rw[ak];exact h.bound b hI) (by rw[ak];exact Kh _) ag ai aj
 ·intro i o hi;rcases am i o hi with hm | ⟨rfl,rfl⟩ | ⟨al,hm⟩
  ·exact(af i o hm).2.1
  ·exact aq
  ·exact(h.objs i o hm).mono hk aa fun b aw=>⟨ae b fun e=>al (h.inj i id o o0 g hm hl (e ▸ aw) (.inl hg)),fun h=>h⟩
 ·intro i j o o' b hi hj ab ax;have an:∀ i o,lkp (Zd (Zd hp [(id,o1)]) adds) i=some o→Blk Γ' (w.setRow g cur) i o b→∃ o',lkp hp i=some o'∧Blk Γ w i o' b:=by
   intro i o hi ab;rcases am i o hi with hm | ⟨rfl,rfl⟩ | ⟨al,hm⟩
   ·exact(ab.nil (af i o hm).2.2).elim
   ·refine⟨o0,hl,?_⟩;rcases ab with ab | ab | ab
    ·have h1:=Zb6 ab;rw[ah _ _ hl,Zb6 hg] at h1;cases h1;exact .inl hg
    ·exact .inr (.inl (ar b ab))
    ·exact .inr (.inr (hbuf b ab))
   ·exact⟨o,hm,ab.back (h.objs _ _ hm) (ah _ _ hm) fun g' ay=>ae g' fun e=>al (h.inj i id o o0 g hm hl (e ▸ ay) (.inl hg))⟩
  obtain⟨o2,h1,h2⟩:=an i o hi ab;obtain⟨o3,h3,h4⟩:=an j o' hj ax;exact h.inj i j o2 o3 b h1 h3 h2 h4
theorem Zj0 {x:AV} {v:Value} (hs:x.solid=true) (h:QT Γ w I x v):v.oneCell'=true:=by
 cases x with
 | d d=>
  obtain⟨h1,h2⟩:d.one=true∧ZH w I d [v]:=h;cases d<;>simp only[ZH] at h2
  ·simp at h2;subst h2;rfl
  ·simp at h2;subst h2;rfl
  ·obtain⟨t,h3,_⟩:=h2;simp at h3;subst h3;rfl
  ·obtain⟨t,c,h3,_⟩:=h2;simp at h3;subst h3;rfl
  ·simp[D.one] at h1
 | nil=>obtain⟨ad,rfl⟩:=h;rfl
 | nilp=>obtain rfl:=h;rfl
 | nili=>obtain rfl:=h;rfl
 | ptr id off=>obtain⟨b,h1,rfl⟩:=h;rfl
 | prow id sz i off=>obtain⟨b,o,n,c,h1,h2,rfl⟩:=h;rfl
 | pim cs=>obtain⟨b,o,vs,rfl,_⟩:=h;rfl
 | own id=>obtain⟨ad,n,c,sz,h1,rfl⟩:=h;rfl
 | ownv id off n=>obtain⟨a0,m,c,sz,ad,h1,h2,h3,rfl,_⟩:=h;rfl
 | bnil id e=>obtain⟨b,h1,h2⟩:=h;rcases h2 with rfl | rfl<;>rfl
 | bbuf a b=>cases hs
 | agg cs=>exact h.elim
 | tup vs=>cases hs
 | clo f cs=>obtain⟨us,rfl,_⟩:=h;rfl
 | junk=>cases hs
theorem ZaN:∀ {xs:List AV} {vs:List Value},QP xs=true→Zq (QT Γ w I) xs vs→∀ v∈vs,v.oneCell'=true
 | [],[],_,_,v,hv=>by simp at hv
 | [],_ :: _,_,h,_,_=>h.elim
 | _ :: _,[],_,h,_,_=>h.elim
 | x :: xs,u :: vs,hs,h,v,hv=>by
  simp only[QP,Kb] at hs;rcases Kf.1 hv with rfl | hv
  ·exact Zj0 hs.1 h.1
  ·exact ZaN hs.2 h.2 v hv
theorem Zbz {x:AV} (h:QP x.cells=true):x.solid=true:=by
 cases x<;>first | rfl | simp[AV.cells,QP,AV.solid] at h
theorem Zk2 {t:TypeId} {i:TypeInfo} (hi:P.info? t=some i) {v:Value} (aa:v.cells.size=P.cellsOf t) {b o:Nat} {cur:Array Value} {e:TypeId} (hw:w.heap[b]?=some (.cells cur e (0,0)))
  (ab:o+v.cells.size≤cur.size) (h1:∀ u∈v.cells.toList,u.oneCell'=true) :
  (storeVar t ⟨b,o,none⟩ v).run P w=.ok () (w.setRow b (Zn cur.toList o v.cells.toList).toArray):=by
 have ad:=run_storeCells_at P b o e v.cells.toList 0 cur w hw (by simpa using ab) h1;simp only[storeVar,Sem.run_bind,Qq hi,Result.andThen_ok];rw[Kn (by simp[aa])];rw[ad];simp[Zn]
theorem ZcW {α β:Type} {R:α→β→Prop} {cs xs:List α} {vs us:List β} (h:Zq R cs vs) (k:Zq R xs us) (off:Nat):Zq R (Zn cs off xs) (Zn vs off us):=by
 unfold Zn;rw[k.length];exact((h.take off).append k).append (h.drop _)
theorem Ye {α:Type} (cs xs:List α) (off:Nat) (h:off+xs.length≤cs.length):(Zn cs off xs).length=cs.length:=by
 simp[Zn];omega
theorem Z5 {α:Type} (cs xs:List α) (off i:Nat) (h:off+xs.length≤cs.length):(Zn cs off xs)[i]?=if off≤i∧i<off+xs.length then xs[i-off]? else cs[i]?:=by
 unfold Zn;by_cases h1:i<off
 ·rw[Kn (by omega),Lz,Kr (by simp;omega),List.getElem?_take_of_lt h1]
 ·by_cases h2:i<off+xs.length
  ·rw[Ko (by omega),Lz,Kp (by simp;omega),Kr (by simp;omega)];congr 1;simp;omega
  ·rw[Kn (by omega),Lz,Kp (by simp;omega),Kp (by simp;omega),KY];congr 1;simp;omega
end
end Go.Abs
