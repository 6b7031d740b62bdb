/- The abstract semantics and the model: slices built,stores. Own text. -/
import Derived.Test.YtkdjbefmiiibpaaGreatDoorAbsStep4
set_option linter.unusedVariables false
set_option linter.unusedSimpArgs false
namespace Go.Abs
open Go
section
variable {P:Program} {nt:Nat} {U:Nat→Prop} {F A I:Nat→Prop} {Γ:Gh} {sl:Sl} {hp:Hp} {a:Act} {w:World}
theorem ZgN {S:Nat→Prop} {sz:Nat}:∀ {ds:List D} {vs:List Value},(ds.all fun d=>d.cells.length==sz)=true→Zz (Yq w S) ds vs→Qc w S sz ds (vs.map fun v=>v.cells.toList)
 | [],[],_,_=>trivial
 | [],_ :: _,_,h=>h.elim
 | _ :: _,[],_,h=>h.elim
 | d :: ds,v :: vs,hl,h=>by
  simp only[List.all_cons,Bool.and_eq_true,beq_iff_eq] at hl
  refine⟨⟨?_,h.1.cells⟩,ZgN hl.2 h.2⟩
  rw[← hl.1,h.1.cells.length]
theorem ZlP {ps:List (Nat×Operand)} {n:Nat} (h:ps.map (·.1)=List.range n):ps.map (fun x=>(x.1,a.eval x.2))=((ps.map fun x=>a.eval x.2).zipIdx 0).map fun x=>(x.2,x.1):=by
 refine List.ext_getElem? fun i=>?_
 have hi:(ps.map (·.1))[i]?=(List.range n)[i]?:=by rw[h]
 simp only[List.getElem?_map,List.getElem?_zipIdx] at hi ⊢
 cases hp:ps[i]? with
 | none=>simp
 | some p=>
  rw[hp] at hi
  simp only[Option.map_some] at hi
  have hn:i<n:=by
   rcases Nat.lt_or_ge i n with h1 | h1
   ·exact h1
   ·rw[List.getElem?_eq_none (by simpa using h1)] at hi;cases hi
  rw[List.getElem?_range hn] at hi
  cases hi
  simp
theorem ZnJ {o:Oper} {t e:TypeId} {n:Nat} {ps:Array (Nat×Operand)} (ho:o.op=.buildSlice t n ps) (he:VD P t=some e)
  (hps:ps.toList.map (·.1)=List.range n) (hbig:n*P.cellsOf e≤16777216) (hok:Zaq P e=true) (hvs:∀ v∈ps.toList.map (fun x=>a.eval x.2),v.cells.size=P.cellsOf e) :
  ∃ cells:Array Value,(execOp a.eval o).run P w=.ok (.value (.slice (some ⟨w.heap.size,0,none⟩) n n)) (w.alloc (.cells cells e))∧cells.size=n*P.cellsOf e ∧
   ∀ (j:Nat) (u:Value),((ps.toList.map fun x=>a.eval x.2).map fun v=>v.cells.toList).flatten[j]?=some u→cells[j]?=some u:=by
 obtain⟨i,z,hi,hz,hzs,hpos,hcells,hbytes⟩:=WE hok
 have hz' : Zdo P e=some z:=by simp[Zdo,hi,hz]
 have hn:n=ps.toList.length:=by have:=congrArg List.length hps;simpa using this.symm
 have hlist:(ps.map fun x=>(x.1,a.eval x.2)).toList=((ps.toList.map fun x=>a.eval x.2).zipIdx 0).map fun x=>(x.2,x.1):=by
  rw[Array.toList_map];exact ZlP hps
 obtain⟨cells,h1,h2,_,_,h3⟩:=ZpT (P.cellsOf e) (ps.toList.map fun x=>a.eval x.2) 0 ((Array.range (n*P.cellsOf e)).map (z.cells[· % z.cells.size]!)) hvs (by simp[hn])
 refine⟨cells,?_,by simpa using h2,fun j u hu=>by simpa using h3 j u hu⟩
 have hz0:n*P.cellsOf e=0→(Array.range (n*P.cellsOf e)).map (fun x:Nat=>(#[]:Array Value)[x % 0]!)=(Array.range (n*P.cellsOf e)).map (z.cells[· % z.cells.size]!):=fun h0=>by rw[h0];simp
 rw[← hlist] at h1
 have hbig' : ¬(n*P.cellsOf e>16777216):=by omega
 by_cases h0:n*P.cellsOf e=0
 ·have hr0:Array.range 0 = #[]:=rfl
  rw[h0,hr0] at h1
  simp at h1
  simp[execOp,ho,Instr.buildSlice,run_underlying (Xt he),Xu hi,h0]
  rw[hr0]
  simp[h1,newRow]
 ·simp[execOp,ho,Instr.buildSlice,run_underlying (Xt he),Xu hi,hbig',h0,Zgt hz']
  simp at h1
  simp[h1,newRow]
theorem Zw8 (h:Sim nt F A I Γ U sl hp a w) {o:Oper} {t e:TypeId} {n:Nat} {ps:Array (Nat×Operand)} {ys:List Opd} (ho:o.op=.buildSlice t n ps) (he:VD P t=some e)
  (hys:Q6 (fun q:Nat×Operand=>Qd q.2) ps.toList=some ys) (hps:ps.toList.map (·.1)=List.range n) (hbig:n*P.cellsOf e≤16777216) (hok:Zaq P e=true) {base:Nat} (hb:Yd U base) (hd:XI nt o.dst=true)
  {ce:Zc} (hv:buildSl hp base (P.cellsOf e) (evL sl ys)=some ce):ZgL P nt F A I Γ U sl hp a w o base ce:=by
 obtain⟨i,z,hi,hz,hzs,hpos,hcells,hbytes⟩:=WE hok
 have hz' : Zdo P e=some z:=by simp[Zdo,hi,hz]
 have hn:n=ps.toList.length:=by have:=congrArg List.length hps;simpa using this.symm
 have hr:∀ {ps:List (Nat×Operand)} {ys:List Opd},Q6 (fun q:Nat×Operand=>Qd q.2) ps=some ys→Zz (Rep Γ w I) (evL sl ys) (ps.map fun x=>a.eval x.2):=by
  intro ps
  induction ps with
  | nil=>intro ys hy;simp only[Q6] at hy;cases hy;exact trivial
  | cons p ps ih=>
   intro ys hy
   simp only[Q6] at hy
   obtain⟨y,h1,hy⟩:=Za hy
   obtain⟨ys',h2,hy⟩:=Za hy
   cases hy
   exact⟨h.slOK.ev h1,ih h2⟩
 have hall:=hr hys
 have hlist:(ps.map fun x=>(x.1,a.eval x.2)).toList=((ps.toList.map fun x=>a.eval x.2).zipIdx 0).map fun x=>(x.2,x.1):=by
  rw[Array.toList_map];exact ZlP hps
 have run:=fun hvs=>ZnJ (w:=w) (a:=a) ho he hps hbig hok hvs
 cases hvs:evL sl ys with
 | nil=>
  rw[hvs] at hv hall
  simp only[buildSl] at hv
  have hv':=QP hv
  subst hv'
  have hnil:ps.toList.map (fun x=>a.eval x.2)=[]:=List.eq_nil_of_length_eq_zero hall.length.symm
  have hn0:n=0:=by rw[hn];have:=congrArg List.length hnil;simpa using this
  obtain⟨cells,h1,h2,_⟩:=run (by rw[hnil];simp)
  subst hn0
  refine⟨_,_,.inl h1,?_⟩
  show JX nt F A I Γ w (Za3 U base) (Zw sl o.dst .nil) (Zg hp []) _ _
  exact h.add (Γ':=Γ) (XA.refl Γ) (V2 w _) (by simp) rfl rfl rfl (fun k o hk=>by simp at hk) (fun i j o o' b hi=>by simp at hi) (fun k o b hk=>by simp at hk)
   (fun _ _=>rfl) (fun id hid=>h.names id (fun hu=>hid (.inl hu))) ⟨_,rfl⟩ hd
 | cons v vs=>
  rw[hvs] at hv hall
  simp only[buildSl] at hv
  obtain⟨q,h1,hv⟩:=Za hv
  unfold ZwA at hv
  split at hv
  ·rename_i hlen
   cases hv
   have hgv:=ZpS h.hpOK h.own hall h1
   have hfz:=h.freeze q.2.2
   have hch0:=hgv.froze (fun S S' hs hq=>hq.mono fun d v hdv=>hdv.mono ⟨hs,fun _ _=>rfl⟩)
   have hch:=ZgN hlen hch0
   obtain⟨cells,h2,h3,h4⟩:=run (by
    intro u hu
    obtain⟨j,hj⟩:=List.getElem?_of_mem hu
    obtain⟨d,hd',hdu⟩:=hch0.get' j u hj
    have:=List.all_eq_true.1 hlen d (List.mem_of_getElem? hd')
    simp only[beq_iff_eq] at this
    have h5:=hdu.cells.length
    simp at h5
    omega)
   refine⟨_,_,.inl h2,JX.of_freeze h q.2.2 ?_⟩
   rw[Yl]
   have hxs:n=q.1.length:=by rw[hch0.length,hn];simp
   have hw' : (w.alloc (.cells cells e)).heap[w.heap.size]?=some (.cells cells e (0,0)):=heap_alloc_new w _
   refine Ztr hfz hb hd (V2 w _) (by simp) rfl rfl rfl hw' hxs (Nat.le_refl _) ?_ h3 (by omega) ?_
   ·have:n≤n*P.cellsOf e:=Nat.le_mul_of_pos_right _ (by omega)
    simp only[maxLen];omega
   ·have hk:Z3 (if q.2.1 then fun b=>Yp Γ w hp I q.2.2 b∧A b else Yp Γ w hp I q.2.2) (if q.2.1 then fun b=>Yp Γ w hp I q.2.2 b∧A b else Yp Γ w hp I q.2.2) w (w.alloc (.cells cells e)):=by
     refine⟨fun _ h=>h,fun b hbb=>V2 w _ b (hfz.bound b ?_)⟩
     cases hq:q.2.1<;>simp[hq] at hbb
     ·exact hbb
     ·exact hbb.1
    refine Xm (hch.mono hk) ?_
    intro j u hu
    rw[cell_of_row _ _ _ _ _ _ hw']
    simpa using h4 j u hu
  ·cases hv
theorem Sim.turn (h:Sim nt F A I Γ U sl hp a w) {base:Nat} (hb:Yd U base) {id:Nat} {o0 o1:Zo} (hl:lkp hp id=some o0) {g:Nat} (hg:ZG (Γ id)=some g) (hgI:¬I g) (hgF:F g) {cur:Array Value}
  {adds:Hp} {Γ' : Gh} (hk:XA Γ Γ') (hbefore:∀ k,U k→Γ' k=Γ k) (hadds:∀ k o,(k,o)∈adds→base≤k∧W1 Γ' (w.setRow g cur) I F A k o∧ZG (Γ' k)=none)
  (hnames:∀ id,¬Za3 U base id→Γ' id=none) (ho1:W1 Γ' (w.setRow g cur) I F A id o1) {v:AV} {u:Value} {dst:Option Nat} (hrep:Rep Γ' (w.setRow g cur) I v u) (hdst:XI nt dst=true) (hin:∀ b,Y9 Γ' (w.setRow g cur) id o1 b→Y9 Γ w id o0 b:=by exact fun _ h=>False.elim h) (hbuf:∀ b,Buf Γ' (w.setRow g cur) id o1 b→Buf Γ w id o0 b:=by exact fun _ h=>False.elim h) :
  JX nt F A I Γ w (Za3 U base) (Zw sl dst v) (Zg (Zg hp [(id,o1)]) adds) (a.put dst u) (w.setRow g cur):=by
 have hoth:∀ k,k≠g→(w.setRow g cur).heap[k]?=w.heap[k]?:=fun k hk=>setRow_other w g k cur hk
 have hkeep:Z3 I I w (w.setRow g cur):=⟨fun _ h=>h,fun b hb'=>hoth b fun e=>hgI (e ▸ hb')⟩
 have hsz:(w.setRow g cur).heap.size=w.heap.size:=size_setRow w g cur
 have hold:∀ id o,lkp hp id=some o→Γ' id=Γ id:=fun id o hl=>hbefore id (h.id_in hl)
 refine⟨I,Γ',fun id b hg=>hk _ _ hg,hkeep,fun _ h=>.inl h,⟨rfl,rfl,rfl,by rw[hsz];exact Nat.le_refl _,fun k _ hkf=>hoth k fun e=>hkf (e ▸ hgF)⟩,?_⟩
 have mem:∀ i o,lkp (Zg (Zg hp [(id,o1)]) adds) i=some o→(i,o)∈adds∨(i=id∧o=o1)∨(i≠id∧lkp hp i=some o):=by
  intro i o hi
  rcases ZbO adds _ i o hi with hm | hm
  ·exact .inl hm
  ·simp only[Zg,Qy] at hm
   split at hm
   ·rename_i e;cases hm;exact .inr (.inl ⟨e.symm,rfl⟩)
   ·rename_i e;exact .inr (.inr ⟨fun e'=>e e'.symm,hm⟩)
 refine h.next hk hkeep ?_ ?_ (fun b hI=>by rw[hsz];exact h.bound b hI) (by rw[hsz];exact Nat.le_refl _) hnames hrep hdst
 ·intro i o hi
  rcases mem i o hi with hm | ⟨rfl,rfl⟩ | ⟨hne,hm⟩
  ·exact(hadds i o hm).2.1
  ·exact ho1
  ·exact(h.objs i o hm).mono hk hkeep fun b hbb=>⟨hoth b fun e=>hne (h.inj i id o o0 g hm hl (e ▸ hbb) (.inl hg)),fun h=>h⟩
 ·intro i j o o' b hi hj hbi hbj
  have key:∀ i o,lkp (Zg (Zg hp [(id,o1)]) adds) i=some o→Blk Γ' (w.setRow g cur) i o b→∃ o',lkp hp i=some o'∧Blk Γ w i o' b:=by
   intro i o hi hbi
   rcases mem i o hi with hm | ⟨rfl,rfl⟩ | ⟨hne,hm⟩
   ·exact(hbi.nil (hadds i o hm).2.2).elim
   ·exact⟨o0,hl,hbi.imp (fun h=>hold _ _ hl ▸ h) (Or.imp (hin b) (hbuf b))⟩
   ·exact⟨o,hm,hbi.back (hold _ _ hm) fun g' hg'=>hoth g' fun e=>hne (h.inj i id o o0 g hm hl (.inl (e ▸ hg')) (.inl hg))⟩
  obtain⟨o2,h1,h2⟩:=key i o hi hbi
  obtain⟨o3,h3,h4⟩:=key j o' hj hbj
  exact h.inj i j o2 o3 b h1 h3 h2 h4
theorem Zsn {x:AV} {v:Value} (hs:x.solid=true) (h:YA Γ w I x v):v.oneCell'=true:=by
 cases x with
 | d d=>
  obtain⟨h1,h2⟩:d.one=true∧Z2 w I d [v]:=h
  cases d<;>simp only[Z2] at h2
  ·simp at h2;subst h2;rfl
  ·simp at h2;subst h2;rfl
  ·obtain⟨t,h3,_⟩:=h2;simp at h3;subst h3;rfl
  ·obtain⟨t,c,h3,_⟩:=h2;simp at h3;subst h3;rfl
  ·simp[D.one] at h1
 | nil=>obtain⟨ad,rfl⟩:=h;rfl
 | nilp=>obtain rfl:=h;rfl
 | nili=>obtain rfl:=h;rfl
 | ptr id off=>obtain⟨b,h1,rfl⟩:=h;rfl
 | prow id sz i off=>obtain⟨b,n,c,h1,h2,rfl⟩:=h;rfl
 | pim cs=>obtain⟨b,o,vs,rfl,_⟩:=h;rfl
 | own id=>obtain⟨ad,n,c,sz,h1,rfl⟩:=h;rfl
 | ownv id off n=>obtain⟨a0,m,c,sz,ad,h1,h2,h3,rfl,_⟩:=h;rfl
 | sub id nm=>obtain⟨_,ad,n,c,sz,h1,rfl⟩:=h;rfl
 | bnil id e=>obtain⟨b,h1,h2⟩:=h;rcases h2 with rfl | rfl<;>rfl
 | bbuf a b=>cases hs
 | agg cs=>exact h.elim
 | tup vs=>cases hs
 | clo f cs=>obtain⟨us,rfl,_⟩:=h;rfl
 | junk=>cases hs
theorem ZkQ:∀ {xs:List AV} {vs:List Value},Vj xs=true→Zz (YA Γ w I) xs vs→∀ v∈vs,v.oneCell'=true
 | [],[],_,_,v,hv=>by simp at hv
 | [],_ :: _,_,h,_,_=>h.elim
 | _ :: _,[],_,h,_,_=>h.elim
 | x :: xs,u :: vs,hs,h,v,hv=>by
  simp only[Vj,Bool.and_eq_true] at hs
  rcases List.mem_cons.1 hv with rfl | hv
  ·exact Zsn hs.1 h.1
  ·exact ZkQ hs.2 h.2 v hv
theorem ZnK {x:AV} (h:Vj x.cells=true):x.solid=true:=by
 cases x<;>first | rfl | simp[AV.cells,Vj,AV.solid] at h
theorem Zts {t:TypeId} {i:TypeInfo} (hi:P.info? t=some i) {v:Value} (hsz:v.cells.size=P.cellsOf t) {b o:Nat} {cur:Array Value} {e:TypeId} (hw:w.heap[b]?=some (.cells cur e (0,0)))
  (hle:o+v.cells.size≤cur.size) (h1:∀ u∈v.cells.toList,u.oneCell'=true) :
  (storeVar t ⟨b,o,none⟩ v).run P w=.ok () (w.setRow b (Qp cur.toList o v.cells.toList).toArray):=by
 have hst:=run_storeCells_at P b o e v.cells.toList 0 cur w hw (by simpa using hle) h1
 simp only[storeVar,Sem.run_bind,Xu hi,Result.andThen_ok]
 rw[if_neg (by simp[hsz])]
 rw[hst]
 simp[Qp]
theorem ZkR {α β:Type} {R:α→β→Prop} {cs xs:List α} {vs us:List β} (h:Zz R cs vs) (k:Zz R xs us) (off:Nat):Zz R (Qp cs off xs) (Qp vs off us):=by
 unfold Qp
 rw[k.length]
 exact((h.take off).append k).append (h.drop _)
theorem ZfJ {α:Type} (cs xs:List α) (off:Nat) (h:off+xs.length≤cs.length):(Qp cs off xs).length=cs.length:=by
 simp[Qp];omega
theorem ZbS {α:Type} (cs xs:List α) (off i:Nat) (h:off+xs.length≤cs.length):(Qp cs off xs)[i]?=if off≤i∧i<off+xs.length then xs[i-off]? else cs[i]?:=by
 unfold Qp
 by_cases h1:i<off
 ·rw[if_neg (by omega),List.append_assoc,List.getElem?_append_left (by simp;omega),List.getElem?_take_of_lt h1]
 ·by_cases h2:i<off+xs.length
  ·rw[if_pos (by omega),List.append_assoc,List.getElem?_append_right (by simp;omega),List.getElem?_append_left (by simp;omega)]
   congr 1;simp;omega
  ·rw[if_neg (by omega),List.append_assoc,List.getElem?_append_right (by simp;omega),List.getElem?_append_right (by simp;omega),List.getElem?_drop]
   congr 1;simp;omega
end
end Go.Abs
