/- Own text. -/
import Derived.Test.YtefabmohhbhlfaaAbsStep2
set_option linter.unusedVariables false
set_option linter.unusedSimpArgs false
namespace Go.Abs
open Go
def ZM (w:World) (S:Nat→Prop) (sz:Nat) (xs:List D) (cs:List (List Value)):Prop:=Zq (fun d c=>c.length=sz∧ZH w S d c) xs cs
section
variable {w:World} {S:Nat→Prop} {sz:Nat}
theorem Xe {b:Nat}:∀ {xs:List D} {cs:List (List Value)} {o:Nat},ZM w S sz xs cs→Z7 w b o cs.flatten→Vf w S b sz xs o
 | [],[],_,_,_=>by simp[Vf]
 | [],_ :: _,_,h,_=>h.elim
 | _ :: _,[],_,h,_=>h.elim
 | x :: xs,c :: cs,o,h,hat=>by
  simp only[KA] at hat;simp only[Vf];refine⟨⟨c,h.1.1,?_,h.1.2⟩,Xe h.2 ?_⟩
  ·have:=hat.take c.length;simpa using this
  ·have:=hat.drop c.length;simpa [h.1.1] using this
theorem QQ {b:Nat}:∀ {xs:List D} {o:Nat},Vf w S b sz xs o→∃ cs,ZM w S sz xs cs∧Z7 w b o cs.flatten
 | [],o,_=>⟨[],trivial,fun j u hu=>by simp at hu⟩
 | x :: xs,o,h=>by
  simp only[Vf] at h;obtain⟨⟨c,h1,h2,h3⟩,h4⟩:=h;obtain⟨cs,h5,h6⟩:=QQ h4;refine⟨c :: cs,⟨⟨h1,h3⟩,h5⟩,fun j u hu=>?_⟩;simp only[KA,L3] at hu;split at hu
  ·exact h2 j u hu
  ·have:=h6 _ u hu;have he:o+sz+(j-c.length)=o+j:=by omega
   rw[← he];exact this
theorem ZM.length_flatten:∀ {xs:List D} {cs:List (List Value)},ZM w S sz xs cs→cs.flatten.length=xs.length*sz
 | [],[],_=>by simp
 | [],_ :: _,h=>h.elim
 | _ :: _,[],h=>h.elim
 | x :: xs,c :: cs,h=>by
  simp only[KA,Kj,Kg,ZM.length_flatten (xs:=xs) h.2,h.1.1,KG];omega
theorem ZM.append {xs ys:List D} {cs ds:List (List Value)} (h:ZM w S sz xs cs) (k:ZM w S sz ys ds):ZM w S sz (xs++ys) (cs++ds):=Zq.append h k
theorem ZM.mono {w' : World} {S' : Nat→Prop} (hk:ZB S S' w w') {xs:List D} {cs:List (List Value)} (h:ZM w S sz xs cs):ZM w' S' sz xs cs:=
 Zq.mono (fun _ _ h=>⟨h.1,h.2.mono hk⟩) h
theorem ZcV {w' : World} {S' : Nat→Prop}:∀ {ds:List D} {vs:List Value},Wr D.plain ds=true→Qu w S ds vs→Qu w' S' ds vs
 | [],_,_,h=>by simpa [Qu] using h
 | d :: ds,vs,hp,h=>by
  simp only[Wr,Kb] at hp;simp only[Qu] at h ⊢;obtain⟨v,r,h1,h2,h3,h4⟩:=h;exact⟨v,r,h1,h2,J1 hp.1 h3,ZcV hp.2 h4⟩
theorem ZhE {w' : World} {S' : Nat→Prop} {d:D} {vs:List Value} (hf:d.flat=true) (h:ZH w S d vs):ZH w' S' d vs:=by
 cases d with
 | agg cs=>simp only[ZH] at h ⊢;exact ZcV hf h
 | sl xs=>simp[D.flat,D.cells,Wr,D.plain] at hf
 | _=>exact J1 rfl h
theorem ZjW {w' : World} {S' : Nat→Prop} {d:D} {v:Value} (hf:d.flat=true) (h:QZ w S d v):QZ w' S' d v:=by
 cases d with
 | agg cs=>obtain⟨vs,h1,h2⟩:=h;exact⟨vs,h1,ZcV hf h2⟩
 | sl xs=>simp[D.flat,D.cells,Wr,D.plain] at hf
 | _=>simp only[QZ] at h ⊢;exact J1 rfl h
end
section
variable {P:Program} {nt:Nat} {U:Nat→Prop} {F A I:Nat→Prop} {Γ:Gh} {sl:Sl} {hp:Hp} {a:Act} {w:World}
theorem Sim.sub (h:Sim nt F A I Γ U sl hp a w) {hp' : Hp} (hs:∀ id o,lkp hp' id=some o→lkp hp id=some o):Sim nt F A I Γ U sl hp' a w:=
 { h with objs:=fun id o hl=>h.objs id o (hs id o hl),inj:=fun i j o o' b hi hj=>h.inj i j o o' b (hs _ _ hi) (hs _ _ hj) }
theorem Zk1 (h:Sim nt F A I Γ U sl hp a w) {dst:Option Nat} {base:Nat} (hb:Qx U base) (hd:Qm nt dst=true) {w' : World}
  (af:∀ k,k<w.heap.size→w'.heap[k]?=w.heap[k]?) (aj:w.heap.size≤w'.heap.size) (ak:w'.os=w.os) (aa:w'.tape=w.tape) (ag:w'.output=w.output)
  {n c s:Nat} {e:TypeId} {cur:Array Value} {xs:List D} {ex:Bool} (ab:w'.heap[w.heap.size]?=some (.cells cur e (0,0))) (hn:n=xs.length) (al:n≤c) (am:c≤maxLen) (an:cur.size=c*s) (h0:0<s)
  (ah:Vf w' (if ex then fun b=>I b∧A b else I) w.heap.size s xs 0) :
  X9 nt F A I Γ w (Wb U base) (Zi sl dst (.own base)) (Zd hp [(base,.row s xs ex false)]) (a.put dst (.slice (some ⟨w.heap.size,0,none⟩) n c)) w':=by
 refine h.add (Γ':=upd Γ base (.row (some ⟨w.heap.size,0,none⟩) n c s)) (Yd _ (h.names base hb.self)) af aj ak aa ag ?_ ?_ ?_ ?_ ?_ ?_ hd
 ·intro k o' hk;simp at hk;obtain⟨rfl,rfl⟩:=hk;refine⟨_,n,c,Zw _ _ _,hn,?_⟩;by_cases hc:c=0
  ·exact .inl ⟨by omega,hc⟩
  ·exact .inr ⟨w.heap.size,0,cur,e,rfl,by omega,ab,al,am,⟨by omega,fun _=>rfl⟩,h0,by simp;exact fun hi=>absurd (h.bound _ hi) (by omega),h.fresh _ (Kh _),ah⟩
 ·intro i j o1 o2 b hi hj _ _;simp at hi hj;omega
 ·intro k o' b hk ae;simp at hk;obtain⟨rfl,rfl⟩:=hk;have ae:=ae.row;rw[Zw] at ae;obtain⟨ad,h1,h2,h3⟩:=ZjV ae;cases h1;rw[← h2];exact Kh _
 ·intro k hk;exact Qg _ _ (fun e=>hb.self (e ▸ hk))
 ·intro id ai;rw[Qg _ _ (fun e=>ai (.inr (by omega)))];exact h.names id (fun hu=>ai (.inl hu))
 ·exact⟨_,n,c,s,Zw _ _ _,rfl⟩
theorem ZjX {S:Nat→Prop} {v:Value} {d:D} (h:Zc0 v=some d):d.one=true∧ZH w S d [v]:=by
 unfold Zc0 at h;split at h
 ·cases h;exact⟨rfl,by simp[ZH]⟩
 ·cases h;exact⟨rfl,by simp[ZH]⟩
 ·cases h;exact⟨rfl,_,rfl,rfl⟩
 ·cases h;exact⟨rfl,none,0,rfl,Kh _,.inl rfl⟩
 ·cases h
theorem ZhF {S:Nat→Prop}:∀ {vs:List Value} {ds:List D},Qb Zc0 vs=some ds→Qu w S ds vs
 | [],ds,h=>by simp only[Qb] at h;cases h;simp[Qu]
 | v :: vs,ds,h=>by
  simp only[Qb] at h;obtain⟨d,h1,h⟩:=Za h;obtain⟨aa,h2,h⟩:=Za h;cases h;obtain⟨h3,h4⟩:=ZjX (w:=w) (S:=S) h1;exact⟨v,vs,rfl,h3,h4,ZhF h2⟩
theorem Zge {S:Nat→Prop} {z:Value} {d:D} (h:evD z=some d):ZH w S d z.cells.toList:=by
 cases z with
 | agg cs=>
  simp only[evD] at h;obtain⟨ds,h1,h⟩:=Za h;cases h;exact ZhF h1
 | _=>simp only[evD] at h;exact(ZjX h).2
theorem WH (z:Array Value):∀ n,(madeCells z (n*z.size)).toList=(List.replicate n z.toList).flatten:=by
 intro n;refine Lj fun i=>?_;have hz:(z.size=0→n*z.size=0):=fun h=>by simp[h]
 by_cases hi:i<n*z.size
 ·have aa:0<z.size:=by
   rcases Lq z.size with h | h
   ·rw[h] at hi;simp at hi
   ·exact h
  have h1:(madeCells z (n*z.size)).toList[i]?=some z[i % z.size]!:=by
   simp[madeCells,hi]
  rw[h1];clear h1
  induction n generalizing i with
  | zero=>simp at hi
  | succ n ih=>
   rw[LC,KA,L3];split
   ·rename_i h2;simp at h2;rw[Nat.mod_eq_of_lt h2];simp[h2]
   ·rename_i h2;simp at h2;have h3:i-z.size<n*z.size:=by rw[KG] at hi;omega
    have:=ih (i-z.size) (fun h=>by simp[h]) h3;have hl:z.toList.length=z.size:=by simp
    rw[hl,← this,Nat.mod_eq_sub_mod h2]
 ·rw[KR,KR]
  ·rw[List.length_flatten];simp;omega
  ·simp[madeCells];omega
theorem WI {S:Nat→Prop} {sz:Nat} {d:D} {c:List Value} (hl:c.length=sz) (h:ZH w S d c):∀ n,ZM w S sz (List.replicate n d) (List.replicate n c)
 | 0=>trivial
 | n+1=>⟨⟨hl,h⟩,WI hl h n⟩
theorem Ya {b:Nat} {cur:Array Value} {e:TypeId} {fr:Nat×Nat} (h:w.heap[b]?=some (.cells cur e fr)) {xs ys:List Value} (hl:cur.toList=xs++ys):Z7 w b 0 xs:=fun j u hu=>by
 refine Zbe h j u ?_;rw[hl,Kr (Kc.1 hu).1];exact hu
theorem Zsb (h:Sim nt F A I Γ U sl hp a w) {o:Oper} {t e:TypeId} {l c:Operand} {l' c' : Opd} {z:Value} {d:D} (ho:o.op=.makeSlice t l c) (he:Q8 P t=some e) (hl:ZJ l=some l') (hc:ZJ c=some c')
  (hz:W2 P e=some z) (ak:evD z=some d) (al:Ve P e=true) {base:Nat} (hb:Qx U base) (hd:Qm nt o.dst=true) {ce:Zb} {n m:Int} (hn:idx (evO sl l')=some n) (hm:idx (evO sl c')=some m)
  (hv:ZjG base (P.cellsOf e) (P.bytesOf e) d n m=some ce):JJ P nt F A I Γ U sl hp a w o base ce:=by
 obtain⟨i,z',hi,ag,ah,af,aa,ab⟩:=XS al;obtain⟨i',ai,ad⟩:=Zal hz;rw[hi] at ai;cases ai;rw[ag] at ad;cases ad;obtain⟨k1,e1⟩:=Yr hn (h.slOK.ev hl);obtain⟨k2,e2⟩:=Yr hm (h.slOK.ev hc);unfold ZjG at hv;split at hv
 ·rename_i ae;obtain⟨c1,c2,c3,c4,c5⟩:=ae;cases hv;rw[aa] at c5 ⊢;rw[ab] at c3;have hr:=run_make (P:=P) w t e i z (Qp he) hi ag k1 k2 n m c1 c2 (by have h2:=c3;rw[Int.mul_comm] at h2;simp only[Zz] at h2;omega) (by simp only[Zz] at c4;omega);refine⟨.slice (some ⟨w.heap.size,0,none⟩) n.toNat m.toNat,w.alloc (.cells (madeCells z.cells (m.toNat*i.size)) e),.inl (by simp[execOp,ho,e1,e2,hr]),?_⟩;rw[QB];have aj : (w.alloc (.cells (madeCells z.cells (m.toNat*i.size)) e)).heap[w.heap.size]?=some (.cells (madeCells z.cells (m.toNat*i.size)) e (0,0)):=heap_alloc_new w _;refine Zk1 h hb hd (Xd w _) (by simp) rfl rfl rfl aj (by simp) (by omega) (by simp only[Zz] at c4;simp only[maxLen];omega) (size_madeCells _ _) af ?_
  have am:ZM (w.alloc (.cells (madeCells z.cells (m.toNat*i.size)) e)) (fun b=>I b∧A b) i.size (List.replicate n.toNat d) (List.replicate n.toNat z.cells.toList):=
   WI (by simp[ah]) (Zge ak) n.toNat
  refine Xe am ?_;refine Ya aj (ys:=(List.replicate (m.toNat-n.toNat) z.cells.toList).flatten) ?_;rw[← ah,WH,← La,List.replicate_append_replicate];congr 2
  omega
 ·cases hv
def ZeO:List Value→Nat→List Value→List Value
 | vs,_,[]=>vs
 | vs,off,u :: r=>ZeO (vs.set off u) (off+1) r
theorem ZjY (off:Nat):∀ (l:List Value) (k:Nat) (vs:Array Value),
  (List.foldl (fun cs (x:Value×Nat)=>cs.setIfInBounds (off+x.2) x.1) vs (l.zipIdx k)).toList=ZeO vs.toList (off+k) l
 | [],k,vs=>by simp[ZeO]
 | u :: l,k,vs=>by
  simp only[List.zipIdx_cons,List.foldl_cons,ZeO];rw[ZjY off l (k+1)];simp[KI]
theorem ZoN {R:AV→Value→Prop}:∀ {xs:List AV} {us:List Value} {cs:List AV} {vs:List Value} (off:Nat),Zq R xs us→Zq R cs vs→Zq R (ZpB cs off xs) (ZeO vs off us)
 | [],[],_,_,_,_,h=>h
 | [],_ :: _,_,_,_,h,_=>h.elim
 | _ :: _,[],_,_,_,h,_=>h.elim
 | x :: xs,u :: us,cs,vs,off,h,hr=>by
  simp only[ZpB,ZeO];exact ZoN (off+1) h.2 (hr.set off h.1)
theorem ZjZ (off:Nat) (u vs:Array Value):(u.zipIdx.foldl (fun cs (x:Value×Nat)=>cs.setIfInBounds (off+x.2) x.1) vs).toList=ZeO vs.toList off u.toList:=by
 have:=ZjY off u.toList 0 vs;rw[← Array.foldl_toList,Array.toList_zipIdx];simpa using this
theorem ZhG {place:Nat→Option (Nat×Nat)} {pl:Nat→Option (Nat×Nat)} (ae:∀ i p,pl i=some p→place i=some p) (hs:Up Γ w I sl a) :
  ∀ {ps:List (Nat×Operand)} {qs:List (Nat×Nat×Opd)} {cells r:List AV} {vs:Array Value},Qb (Zl8 pl) ps=some qs→Zq (QT Γ w I) cells vs.toList→Zfl cells (evP sl qs)=some r →
   ∃ aa,Instr.fill place vs (ps.map fun x=>(x.1,a.eval x.2))=some aa∧Zq (QT Γ w I) r aa.toList
 | [],qs,cells,r,vs,hq,hr,hf=>by
  simp only[Qb] at hq;cases hq;simp only[evP,Zfl] at hf;cases hf;exact⟨vs,rfl,hr⟩
 | p :: ps,qs,cells,r,vs,hq,hr,hf=>by
  simp only[Qb] at hq;obtain⟨q,h1,hq⟩:=Za hq;obtain⟨ah,h2,hq⟩:=Za hq;cases hq;unfold Zl8 at h1;obtain⟨pp,h3,h1⟩:=Za h1;obtain⟨x,h4,h1⟩:=Za h1;cases h1;simp only[evP,Zfl] at hf;split at hf
  ·rename_i hc;obtain⟨ab,ad,ai⟩:=hc;have af:=Rep.cells ab (hs.ev h4);have ag:(a.eval p.2).cells.size=pp.2:=by rw[← ad,af.length];simp
   have aj:cells.length=vs.size:=by rw[hr.length];simp
   obtain⟨aa,h5,h6⟩:=ZhG ae hs (vs:=(a.eval p.2).cells.zipIdx.foldl (fun cs (x:Value×Nat)=>cs.setIfInBounds (pp.1+x.2) x.1) vs) h2 (by rw[ZjZ];exact ZoN _ af hr) hf;refine⟨aa,?_,h6⟩;simp only[Kq,Instr.fill,ae _ _ h3];have c1:¬((a.eval p.2).cells.size≠pp.2):=by simp[ag]
   have c2:¬(pp.1+(a.eval p.2).cells.size>vs.size):=by omega
   simp only[c1,c2,decide_false,Bool.or_self,Ka,Ki];exact h5
  ·cases hf
end
end Go.Abs
set_option linter.unusedVariables false
set_option linter.unusedSimpArgs false
namespace Go.Abs
open Go
section
variable {P:Program} {nt:Nat} {U:Nat→Prop} {F A I:Nat→Prop} {Γ:Gh} {sl:Sl} {hp:Hp} {a:Act} {w:World}
theorem Zfw:∀ (fs:List Field) (w:World),(∀ f∈fs,(P.info? f.type).isSome=true) →
  (fs.mapM (m:=Sem) fun f=>do pure (f.offset,← sizeOf f.type)).run P w=.ok (fs.map fun f=>(f.offset,P.cellsOf f.type)) w
 | [],w,_=>by simp
 | f :: fs,w,h=>by
  obtain⟨i,hi⟩:=K6.1 (h f (by simp));have ih:=Zfw fs w fun g hg=>h g (by simp[hg]);simp only[List.mapM_cons,Sem.run_bind,Qq hi,Result.andThen_ok,Sem.run_pure,ih,Kq]
theorem ZpW {t:TypeId} {z:Value} (hz:W2 P t=some z) (hf:Zdq P t=true) (hs:Up Γ w I sl a) {ps:Array (Nat×Operand)} {qs:List (Nat×Nat×Opd)}
  (hq:Qb (Zl8 (Zat P t (ZcN P t))) ps.toList=some qs) {cs:List AV} (hv:Zfl (evC z).cells (evP sl qs)=some cs) :
  ∃ vs,(Instr.build t (ps.map fun x=>(x.1,a.eval x.2))).run P w=.ok (.agg vs) w∧Zq (QT Γ w I) cs vs.toList:=by
 unfold Zdq at hf;split at hf
 ·rename_i fs hu;have ha:ZcN P t=none:=by simp[ZcN,hu]
  have aa:∀ i p,Zat P t (ZcN P t) i=some p→(fs.map fun f=>(f.offset,P.cellsOf f.type))[i]?=some p:=by
   intro i p hp';rw[ha] at hp';simp only[Zat] at hp';obtain⟨q,h1,h2⟩:=Za hp';cases h2;obtain⟨ad,x,h3,h4,h5,h6,_⟩:=Zbd h1;rw[hu] at h3;cases h3;simp[h4,h5,h6]
  obtain⟨vs,h1,h2⟩:=ZhG (place:=fun i=>(fs.map fun f=>(f.offset,P.cellsOf f.type))[i]?) aa hs hq (ZeN Γ w I z) hv;refine⟨vs,?_,h2⟩;have hm:(fs.mapM (m:=Sem) fun f=>do pure (f.offset,← sizeOf f.type)).run P w=.ok (fs.map fun f=>(f.offset,P.cellsOf f.type)) w:=by
   rw[Array.mapM_eq_mapM_toList,Sem.run_map,Zfw fs.toList w (fun f hm=>KK.1 hf f hm)];simp;apply Array.ext';simp
  have ab : Instr.fill (fun i=>(fs.map fun f=>(f.offset,P.cellsOf f.type))[i]?) z.cells (ps.map fun x=>(x.1,a.eval x.2)).toList=some vs:=by simpa using h1
  simp only[Instr.build,Sem.run_bind,JX hz,Result.andThen_ok,run_underlying hu,hm,ab];rfl
 ·rename_i n e hu;have ha:ZcN P t=some (n,e):=by simp[ZcN,hu]
  obtain⟨i,hi⟩:=K6.1 hf;have aa:∀ j p,Zat P t (ZcN P t) j=some p→(fun j=>some (j*P.cellsOf e,P.cellsOf e)) j=some p:=by
   intro j p hp';rw[ha] at hp';simpa [Zat] using hp'
  obtain⟨vs,h1,h2⟩:=ZhG aa hs hq (ZeN Γ w I z) hv;refine⟨vs,?_,h2⟩;have ab : Instr.fill (fun j=>some (j*P.cellsOf e,P.cellsOf e)) z.cells (ps.map fun x=>(x.1,a.eval x.2)).toList=some vs:=by simpa using h1
  simp only[Instr.build,Sem.run_bind,JX hz,Result.andThen_ok,run_underlying hu,Qq hi,ab];rfl
 ·cases hf
theorem ZnP {o:Oper} {t:TypeId} {ps:Array (Nat×Operand)} {z:Value} {qs:List (Nat×Nat×Opd)} (ho:o.op=.build t ps) (hz:W2 P t=some z) (hf:Zdq P t=true) (hs:Up Γ w I sl a)
  (hq:Qb (Zl8 (Zat P t (ZcN P t))) ps.toList=some qs) {ce:Zb} (hv:Zg4 (evC z).cells (evP sl qs)=some ce):Q9 P Γ I o a w ce:=by
 unfold Zg4 at hv;obtain⟨cs,h1,h2⟩:=Za hv;obtain⟨vs,h3,h4⟩:=ZpW hz hf hs hq h1;exact⟨.agg vs,_,.inl (by simp only[execOp,ho];simp[h3]),Z4 h2,Zb2 h4⟩
theorem ZpX {x:AV} {v:Value} (ha:x.atom=true) (h:Rep Γ w I x v):XA Γ w I x v:=by
 cases x<;>first | exact h | (simp[AV.atom] at ha;done) | skip
 rename_i d;exact⟨ha,(QZ.one ha).1 (QE.1 h)⟩
theorem ZhH:∀ {xs:List AV} {vs:List Value},ZbX xs=true→Zq (Rep Γ w I) xs vs→Zq (XA Γ w I) xs vs
 | [],[],_,_=>trivial
 | [],_ :: _,_,h=>h.elim
 | _ :: _,[],_,h=>h.elim
 | x :: xs,v :: vs,ha,h=>by
  simp only[ZbX,Kb] at ha;exact⟨ZpX ha.1 h.1,ZhH ha.2 h.2⟩
theorem Zsc {o:Oper} {f:FuncId} {fs cs:Array Operand} {ys:List Opd} (ho:o.op=.makeFunc (.func f) fs cs) (he:fs.toList.isEmpty=true) (hs:Up Γ w I sl a) (hc:Qb ZJ cs.toList=some ys) {ce:Zb}
  (hv:YA (cloV f (evL sl ys))=some ce):Q9 P Γ I o a w ce:=by
 obtain⟨r,h1,h2⟩:=opt1_some hv;unfold cloV at h1;split at h1
 ·rename_i ha;cases h1;have aa:fs = #[]:=by simpa using he
  refine⟨.func (.func f) #[] (cs.map a.eval),_,.inl (by simp[execOp,ho,Instr.makeFunc,aa]),h2,⟨_,rfl,?_⟩⟩;have:=ZhH ha (hs.evL hc);simpa using this
 ·cases h1
def Um (Γ:Gh) (w:World) (I A:Nat→Prop) (hp:Hp) (ids:List Nat) (cl:Bool) (Q:(Nat→Prop)→Prop):Prop:=
 ∀ I' : Nat→Prop,(∀ b,I b→I' b)→(∀ id∈ids,∀ sz xs ex b,lkp hp id=some (.row sz xs ex false)→Zp (Γ id)=some b→I' b)→Q I'∧(cl=true→Q fun b=>I' b∧A b)
theorem WJ {I' : Nat→Prop} (h:∀ b,I b→I' b):ZB I I' w w:=⟨h,fun _ _=>rfl⟩
theorem ZpY (h:Wz Γ w I F A hp) (aa:∀ b,F b→A b) {id:Nat} {q:List D×Bool} (he:Zc2 (lkp hp id)=some q) :
  ∃ a n c sz,Γ id=some (.row a n c sz)∧Um Γ w I A hp [id] q.2 fun S=>ZH w S (.sl q.1) [.slice a n c]:=by
 unfold Zc2 at he;split at he
 ·rename_i sz xs ex fz hl;cases he;obtain⟨ad,n,c,h1,h2,h3⟩:=h id _ hl;refine⟨ad,n,c,sz,h1,fun I' hI hf=>?_⟩;rcases h3 with h3 | ⟨g,q0,cur,e,rfl,hc,hw,h4,h5,h6,h7,h8,ab,h9⟩
  ·have hx:xs=[]:=Km (by omega);subst hx;have:∀ S,ZH w S (.sl []) [.slice ad n c]:=fun S=>⟨ad,c,by rw[h2],by simp,.inl rfl⟩
   exact⟨this _,fun _=>this _⟩
  ·have hg:I' g:=by
    cases fz
    ·exact hf id (by simp) sz xs ex g hl (by rw[h1];simp[Zp,Ku hc])
    ·exact hI g (by simpa using h8)
   refine⟨⟨_,c,by rw[h2],(show xs.length≤c by omega),.inr ⟨g,q0,sz,rfl,hg,h7,?_⟩⟩,fun ae=>?_⟩
   ·cases ex
    ·exact h9.mono' (WJ hI) rfl
    ·exact h9.mono' ⟨fun b hb=>hI b hb.1,fun _ _=>rfl⟩ rfl
   ·obtain rfl:ex=true:=ae;refine⟨_,c,by rw[h2],(show xs.length≤c by omega),.inr ⟨g,q0,sz,rfl,⟨hg,aa g ab⟩,h7,?_⟩⟩;simp only[Kk] at h9;exact h9.mono' ⟨fun b hb=>⟨hI b hb.1,hb.2⟩,fun _ _=>rfl⟩ rfl
 ·cases he
theorem Zmt (h:Wz Γ w I F A hp) (aa:∀ b,F b→A b) {x:AV} {v:Value} (hx:Rep Γ w I x v) {q:D×Bool×List Nat} (hg:Uj hp x=some q) :
  Um Γ w I A hp q.2.2 q.2.1 fun S=>QZ w S q.1 v:=by
 unfold Uj at hg;split at hg
 ·cases hg;have h1:=QE.1 hx;exact fun I' hI _=>⟨h1.mono (WJ hI),fun ab=>ZjW ab h1⟩
 ·cases hg;obtain⟨ad,rfl⟩:=hx;have:∀ S,QZ w S (.sl []) (.slice ad 0 0):=fun S=>⟨ad,0,rfl,by simp,.inl rfl⟩
  exact fun I' hI _=>⟨this _,fun _=>this _⟩
 ·obtain⟨qq,h1,hg⟩:=Za hg;cases hg;obtain⟨ad,n,c,sz,h2,h3⟩:=ZpY h aa h1;obtain⟨ae,n',c',af,h4,rfl⟩:=hx;rw[h2] at h4;cases h4;exact h3
 ·cases hg
theorem Um.more {ids aa : List Nat} {cl ad : Bool} {Q:(Nat→Prop)→Prop} (h:Um Γ w I A hp ids cl Q) (hi:∀ id∈ids,id∈aa) (hc:ad=true→cl=true):Um Γ w I A hp aa ad Q:=
 fun I' hI hf=>⟨(h I' hI fun id ab=>hf id (hi id ab)).1,fun ae=>(h I' hI fun id ab=>hf id (hi id ab)).2 (hc ae)⟩
theorem Um.and {ids:List Nat} {cl:Bool} {Q R S:(Nat→Prop)→Prop} (h:Um Γ w I A hp ids cl Q) (k:Um Γ w I A hp ids cl R) (hs:∀ I',Q I'→R I'→S I'):Um Γ w I A hp ids cl S:=
 fun I' hI hf=>⟨hs _ (h I' hI hf).1 (k I' hI hf).1,fun aa=>hs _ ((h I' hI hf).2 aa) ((k I' hI hf).2 aa)⟩
theorem ZhI (h:Wz Γ w I F A hp) (ab:∀ b,F b→A b):∀ {xs:List AV} {vs:List Value},Zq (XA Γ w I) xs vs→∀ {q:List D×Bool×List Nat},Yo hp xs=some q →
  Um Γ w I A hp q.2.2 q.2.1 fun S=>Qu w S q.1 vs
 | [],[],_,q,hg=>by
  simp only[Yo] at hg;cases hg;exact fun I' hI hf=>⟨by simp[Qu],fun _=>by simp[Qu]⟩
 | [],_ :: _,h,_,_=>h.elim
 | _ :: _,[],h,_,_=>h.elim
 | x :: xs,v :: vs,hr,q,hg=>by
  simp only[Yo] at hg;obtain⟨q1,h1,hg⟩:=Za hg;obtain⟨q2,h2,hg⟩:=Za hg;split at hg
  ·rename_i hc;cases hg;simp only[Kb] at hc;have e1:=Zmt h ab hr.1.rep2.rep h1;have e2:=ZhI h ab hr.2 h2;refine Um.and (e1.more (by simp;exact fun id aa=>.inl aa) (by simp;exact fun h _=>h)) (e2.more (by simp;exact fun id aa=>.inr aa) (by simp)) fun I' hq hr=>?_;exact⟨v,vs,rfl,hc.1,(QZ.one hc.1).1 hq,hr⟩
  ·cases hg
theorem Zsd (h:Wz Γ w I F A hp) (aa:∀ b,F b→A b) {x:AV} {v:Value} (hx:Rep Γ w I x v) {q:D×Bool×List Nat} (hg:give hp x=some q) :
  Um Γ w I A hp q.2.2 q.2.1 fun S=>QZ w S q.1 v:=by
 unfold give at hg;split at hg
 ·obtain⟨p,h1,hg⟩:=Za hg;cases hg;obtain⟨vs,rfl,h2⟩:=hx;have:=ZhI h aa h2 h1;exact fun I' hI hf=>⟨⟨vs,rfl,(this I' hI hf).1⟩,fun ab=>⟨vs,rfl,(this I' hI hf).2 ab⟩⟩
 ·exact Zmt h aa hx hg
theorem ZhJ (h:Wz Γ w I F A hp) (ab:∀ b,F b→A b):∀ {xs:List AV} {vs:List Value},Zq (Rep Γ w I) xs vs→∀ {q:List D×Bool×List Nat},Y2 hp xs=some q →
  Um Γ w I A hp q.2.2 q.2.1 fun S=>Zq (QZ w S) q.1 vs
 | [],[],_,q,hg=>by
  simp only[Y2] at hg;cases hg;exact fun I' hI hf=>⟨trivial,fun _=>trivial⟩
 | [],_ :: _,h,_,_=>h.elim
 | _ :: _,[],h,_,_=>h.elim
 | x :: xs,v :: vs,hr,q,hg=>by
  simp only[Y2] at hg;obtain⟨q1,h1,hg⟩:=Za hg;obtain⟨q2,h2,hg⟩:=Za hg;split at hg
  ·cases hg;have e1:=Zsd h ab hr.1 h1;have e2:=ZhJ h ab hr.2 h2;exact Um.and (e1.more (by simp;exact fun id aa=>.inl aa) (by simp;exact fun h _=>h)) (e2.more (by simp;exact fun id aa=>.inr aa) (by simp)) fun I' hq hr=>⟨hq,hr⟩
  ·cases hg
theorem Um.froze {ids:List Nat} {cl:Bool} {Q:(Nat→Prop)→Prop} (h:Um Γ w I A hp ids cl Q) (hq:∀ S S' : Nat→Prop,(∀ b,S b→S' b)→Q S→Q S') :
  Q (if cl then fun b=>QK Γ w hp I ids b∧A b else QK Γ w hp I ids):=by
 have:=h (QK Γ w hp I ids) (fun b hb=>.inl hb) fun id aa sz xs ex b hl hb=>.inr ⟨id,aa,_,hl,rfl,.inl hb⟩;cases cl
 ·exact this.1
 ·exact this.2 rfl
theorem Zfx:∀ (us vs:List Value) (off:Nat),(ZeO vs off us).length=vs.length
 | [],_,_=>rfl
 | u :: us,vs,off=>by simp[ZeO,Zfx us]
theorem Zmu:∀ (us vs:List Value) (off i:Nat),off+us.length≤vs.length→(ZeO vs off us)[i]?=if off≤i∧i<off+us.length then us[i-off]? else vs[i]?
 | [],vs,off,i,_=>by
  simp only[ZeO,KH,LM];rw[Kn (by omega)]
 | u :: us,vs,off,i,h=>by
  simp only[Kg] at h;simp only[ZeO];rw[Zmu us _ _ i (by simp;omega)];simp only[Kg];by_cases h1:i=off
  ·subst h1;rw[Kn (by omega),Ko (by omega)];have:i<vs.length:=by omega
   simp[this]
  ·by_cases h2:off+1≤i∧i<off+1+us.length
   ·rw[Ko h2,Ko (by omega)];have:i-off=(i-(off+1))+1:=by omega
    rw[this];simp
   ·rw[Kn h2,Kn (by omega)];rw[K8 (by omega)]
theorem ZhK (sz:Nat):∀ (ps:List Value) (k:Nat) (vs:Array Value),(∀ v∈ps,v.cells.size=sz)→(k+ps.length)*sz≤vs.size →
  ∃ aa,Instr.fill (fun i=>some (i*sz,sz)) vs ((ps.zipIdx k).map fun x=>(x.2,x.1))=some aa∧aa.size=vs.size ∧
   (∀ i,i<k*sz→aa[i]?=vs[i]?)∧(∀ i,(k+ps.length)*sz≤i→aa[i]?=vs[i]?) ∧
   ∀ j u,((ps.map fun v=>v.cells.toList).flatten)[j]?=some u→aa[k*sz+j]?=some u
 | [],k,vs,_,_=>⟨vs,rfl,rfl,fun _ _=>rfl,fun _ _=>rfl,fun j u hu=>by simp at hu⟩
 | p :: ps,k,vs,hsz,hle=>by
  have hp:=hsz p (by simp);simp only[Kg] at hle;have ag:(k+1)*sz≤vs.size:=Lp (KC _ (by omega)) hle;have af:(k+1)*sz=k*sz+sz:=by rw[KG];omega
  have ab:(p.cells.zipIdx.foldl (fun cs (x:Value×Nat)=>cs.setIfInBounds (k*sz+x.2) x.1) vs).toList=ZeO vs.toList (k*sz) p.cells.toList:=ZjZ _ _ _;have ae:∀ i,(p.cells.zipIdx.foldl (fun cs (x:Value×Nat)=>cs.setIfInBounds (k*sz+x.2) x.1) vs)[i]?=if k*sz≤i∧i<k*sz+sz then p.cells[i-k*sz]? else vs[i]?:=by
   intro i;rw[← LI,ab,Zmu _ _ _ _ (by simp[hp];omega)];simp[hp]
  have ad:(p.cells.zipIdx.foldl (fun cs (x:Value×Nat)=>cs.setIfInBounds (k*sz+x.2) x.1) vs).size=vs.size:=by
   rw[← KU,ab,Zfx];simp
  obtain⟨aa,h1,h2,h3,h4,h5⟩:=ZhK sz ps (k+1) (p.cells.zipIdx.foldl (fun cs (x:Value×Nat)=>cs.setIfInBounds (k*sz+x.2) x.1) vs) (fun v hv=>hsz v (by simp[hv])) (by rw[ad];rw[show k+1+ps.length=k+(ps.length+1) by omega];exact hle);refine⟨aa,?_,by rw[h2,ad],?_,?_,?_⟩
  ·simp only[List.zipIdx_cons,Kq,Instr.fill];have c1:¬(p.cells.size≠sz):=by simp[hp]
   have c2:¬(k*sz+p.cells.size>vs.size):=by rw[hp];omega
   simp only[c1,c2,decide_false,Bool.or_self,Ka,Ki];exact h1
  ·intro i hi;rw[h3 i (by omega),ae,Kn (by omega)]
  ·intro i hi;simp only[Kg] at hi;have:(k+1+ps.length)*sz≤i:=by rw[show k+1+ps.length=k+(ps.length+1) by omega];exact hi
   have h6:(k+1)*sz≤i:=Lp (KC _ (by omega)) this;rw[h4 i this,ae,Kn (by omega)]
  ·intro j u hu;simp only[Kq,KA,L3,KU,hp] at hu;split at hu
   ·rename_i hj;have h6:aa[k*sz+j]?=(p.cells.zipIdx.foldl (fun cs (x:Value×Nat)=>cs.setIfInBounds (k*sz+x.2) x.1) vs)[k*sz+j]?:=h3 _ (by omega);rw[h6,ae,Ko (by omega)];have:k*sz+j-k*sz=j:=by omega
    rw[this];simpa using hu
   ·rename_i hj;have:=h5 (j-sz) u hu;rw[af] at this;have he:k*sz+sz+(j-sz)=k*sz+j:=by omega
    rw[← he];exact this
end
end Go.Abs
