/- Own text. -/
import Derived.Test.YtefabmohhbhlfaaAbsStep2
set_option linter.unusedVariables false
set_option linter.unusedSimpArgs false
namespace Go.Abs
open Go
def ZL (w:World) (S:Nat→Prop) (sz:Nat) (xs:List D) (cs:List (List Value)):Prop:=Zp (fun d c=>c.length=sz∧ZG w S d c) xs cs
section
variable {w:World} {S:Nat→Prop} {sz:Nat}
theorem Q7 {b:Nat}:∀ {xs:List D} {cs:List (List Value)} {o:Nat},ZL w S sz xs cs→Z0 w b o cs.flatten→YS w S b sz xs o
 | [],[],_,_,_=>by simp[YS]
 | [],_ :: _,_,h,_=>h.elim
 | _ :: _,[],_,h,_=>h.elim
 | x :: xs,c :: cs,o,h,hat=>by
  simp only[KR] at hat;simp only[YS];refine⟨⟨c,h.1.1,?_,h.1.2⟩,Q7 h.2 ?_⟩
  ·have:=hat.take c.length;simpa using this
  ·have:=hat.drop c.length;simpa [h.1.1] using this
theorem QN {b:Nat}:∀ {xs:List D} {o:Nat},YS w S b sz xs o→∃ cs,ZL w S sz xs cs∧Z0 w b o cs.flatten
 | [],o,_=>⟨[],trivial,fun j u hu=>by simp at hu⟩
 | x :: xs,o,h=>by
  simp only[YS] at h;obtain⟨⟨c,h1,h2,h3⟩,h4⟩:=h;obtain⟨cs,h5,h6⟩:=QN h4;refine⟨c :: cs,⟨⟨h1,h3⟩,h5⟩,fun j u hu=>?_⟩;simp only[KR,L1] at hu;split at hu
  ·exact h2 j u hu
  ·have:=h6 _ u hu;have he:o+sz+(j-c.length)=o+j:=by omega
   rw[← he];exact this
theorem ZL.length_flatten:∀ {xs:List D} {cs:List (List Value)},ZL w S sz xs cs→cs.flatten.length=xs.length*sz
 | [],[],_=>by simp
 | [],_ :: _,h=>h.elim
 | _ :: _,[],h=>h.elim
 | x :: xs,c :: cs,h=>by
  simp only[KR,Ki,Kk,ZL.length_flatten (xs:=xs) h.2,h.1.1,KA];omega
theorem ZL.append {xs ys:List D} {cs ds:List (List Value)} (h:ZL w S sz xs cs) (k:ZL w S sz ys ds):ZL w S sz (xs++ys) (cs++ds):=Zp.append h k
theorem ZL.mono {w' : World} {S' : Nat→Prop} (hk:ZB S S' w w') {xs:List D} {cs:List (List Value)} (h:ZL w S sz xs cs):ZL w' S' sz xs cs:=
 Zp.mono (fun _ _ h=>⟨h.1,h.2.mono hk⟩) h
theorem Zck {w' : World} {S' : Nat→Prop}:∀ {ds:List D} {vs:List Value},Vb D.plain ds=true→Qt w S ds vs→Qt w' S' ds vs
 | [],_,_,h=>by simpa [Qt] using h
 | d :: ds,vs,hp,h=>by
  simp only[Vb,Kb] at hp;simp only[Qt] at h ⊢;obtain⟨v,r,h1,h2,h3,h4⟩:=h;exact⟨v,r,h1,h2,Js hp.1 h3,Zck hp.2 h4⟩
theorem ZgO {w' : World} {S' : Nat→Prop} {d:D} {vs:List Value} (hf:d.flat=true) (h:ZG w S d vs):ZG w' S' d vs:=by
 cases d with
 | agg cs=>simp only[ZG] at h ⊢;exact Zck hf h
 | sl xs=>simp[D.flat,D.cells,Vb,D.plain] at hf
 | _=>exact Js rfl h
theorem ZiZ {w' : World} {S' : Nat→Prop} {d:D} {v:Value} (hf:d.flat=true) (h:QV w S d v):QV w' S' d v:=by
 cases d with
 | agg cs=>obtain⟨vs,h1,h2⟩:=h;exact⟨vs,h1,Zck hf h2⟩
 | sl xs=>simp[D.flat,D.cells,Vb,D.plain] at hf
 | _=>simp only[QV] at h ⊢;exact Js rfl h
end
section
variable {P:Program} {nt:Nat} {U:Nat→Prop} {F A I:Nat→Prop} {Γ:Gh} {sl:Sl} {hp:Hp} {a:Act} {w:World}
theorem Sim.sub (h:Sim nt F A I Γ U sl hp a w) {hp' : Hp} (hs:∀ id o,lkp hp' id=some o→lkp hp id=some o):Sim nt F A I Γ U sl hp' a w:=
 { h with objs:=fun id o hl=>h.objs id o (hs id o hl),inj:=fun i j o o' b hi hj=>h.inj i j o o' b (hs _ _ hi) (hs _ _ hj) }
theorem Zj4 (h:Sim nt F A I Γ U sl hp a w) {dst:Option Nat} {base:Nat} (hb:Qw U base) (hd:Qh nt dst=true) {w' : World}
  (af:∀ k,k<w.heap.size→w'.heap[k]?=w.heap[k]?) (aj:w.heap.size≤w'.heap.size) (ak:w'.os=w.os) (aa:w'.tape=w.tape) (ag:w'.output=w.output)
  {n c s:Nat} {e:TypeId} {cur:Array Value} {xs:List D} {ex:Bool} (ab:w'.heap[w.heap.size]?=some (.cells cur e (0,0))) (hn:n=xs.length) (al:n≤c) (am:c≤maxLen) (an:cur.size=c*s) (h0:0<s)
  (ah:YS w' (if ex then fun b=>I b∧A b else I) w.heap.size s xs 0) :
  XQ nt F A I Γ w (VI U base) (Zi sl dst (.own base)) (Zd hp [(base,.row s xs ex false)]) (a.put dst (.slice (some ⟨w.heap.size,0,none⟩) n c)) w':=by
 refine h.add (Γ':=upd Γ base (.row (some ⟨w.heap.size,0,none⟩) n c s)) (XU _ (h.names base hb.self)) af aj ak aa ag ?_ ?_ ?_ ?_ ?_ ?_ hd
 ·intro k o' hk;simp at hk;obtain⟨rfl,rfl⟩:=hk;refine⟨_,n,c,Zw _ _ _,hn,?_⟩;by_cases hc:c=0
  ·exact .inl ⟨by omega,hc⟩
  ·exact .inr ⟨w.heap.size,0,cur,e,rfl,by omega,ab,al,am,⟨by omega,fun _=>rfl⟩,h0,by simp;exact fun hi=>absurd (h.bound _ hi) (by omega),h.fresh _ (Kf _),ah⟩
 ·intro i j o1 o2 b hi hj _ _;simp at hi hj;omega
 ·intro k o' b hk ae;simp at hk;obtain⟨rfl,rfl⟩:=hk;have ae:=ae.row;rw[Zw] at ae;obtain⟨ad,h1,h2,h3⟩:=ZiY ae;cases h1;rw[← h2];exact Kf _
 ·intro k hk;exact Qb _ _ (fun e=>hb.self (e ▸ hk))
 ·intro id ai;rw[Qb _ _ (fun e=>ai (.inr (by omega)))];exact h.names id (fun hu=>ai (.inl hu))
 ·exact⟨_,n,c,s,Zw _ _ _,rfl⟩
theorem Zi0 {S:Nat→Prop} {v:Value} {d:D} (h:Zct v=some d):d.one=true∧ZG w S d [v]:=by
 unfold Zct at h;split at h
 ·cases h;exact⟨rfl,by simp[ZG]⟩
 ·cases h;exact⟨rfl,by simp[ZG]⟩
 ·cases h;exact⟨rfl,_,rfl,rfl⟩
 ·cases h;exact⟨rfl,none,0,rfl,Kf _,.inl rfl⟩
 ·cases h
theorem ZgP {S:Nat→Prop}:∀ {vs:List Value} {ds:List D},Z7 Zct vs=some ds→Qt w S ds vs
 | [],ds,h=>by simp only[Z7] at h;cases h;simp[Qt]
 | v :: vs,ds,h=>by
  simp only[Z7] at h;obtain⟨d,h1,h⟩:=Za h;obtain⟨aa,h2,h⟩:=Za h;cases h;obtain⟨h3,h4⟩:=Zi0 (w:=w) (S:=S) h1;exact⟨v,vs,rfl,h3,h4,ZgP h2⟩
theorem Zfo {S:Nat→Prop} {z:Value} {d:D} (h:evD z=some d):ZG w S d z.cells.toList:=by
 cases z with
 | agg cs=>
  simp only[evD] at h;obtain⟨ds,h1,h⟩:=Za h;cases h;exact ZgP h1
 | _=>simp only[evD] at h;exact(Zi0 h).2
theorem Wi (z:Array Value):∀ n,(madeCells z (n*z.size)).toList=(List.replicate n z.toList).flatten:=by
 intro n;refine KW fun i=>?_;have hz:(z.size=0→n*z.size=0):=fun h=>by simp[h]
 by_cases hi:i<n*z.size
 ·have aa:0<z.size:=by
   rcases Lh z.size with h | h
   ·rw[h] at hi;simp at hi
   ·exact h
  have h1:(madeCells z (n*z.size)).toList[i]?=some z[i % z.size]!:=by
   simp[madeCells,hi]
  rw[h1];clear h1
  induction n generalizing i with
  | zero=>simp at hi
  | succ n ih=>
   rw[Lt,KR,L1];split
   ·rename_i h2;simp at h2;rw[Nat.mod_eq_of_lt h2];simp[h2]
   ·rename_i h2;simp at h2;have h3:i-z.size<n*z.size:=by rw[KA] at hi;omega
    have:=ih (i-z.size) (fun h=>by simp[h]) h3;have hl:z.toList.length=z.size:=by simp
    rw[hl,← this,Nat.mod_eq_sub_mod h2]
 ·rw[KH,KH]
  ·rw[List.length_flatten];simp;omega
  ·simp[madeCells];omega
theorem Wj {S:Nat→Prop} {sz:Nat} {d:D} {c:List Value} (hl:c.length=sz) (h:ZG w S d c):∀ n,ZL w S sz (List.replicate n d) (List.replicate n c)
 | 0=>trivial
 | n+1=>⟨⟨hl,h⟩,Wj hl h n⟩
theorem XR {b:Nat} {cur:Array Value} {e:TypeId} {fr:Nat×Nat} (h:w.heap[b]?=some (.cells cur e fr)) {xs ys:List Value} (hl:cur.toList=xs++ys):Z0 w b 0 xs:=fun j u hu=>by
 refine Zay h j u ?_;rw[hl,Kn (Kd.1 hu).1];exact hu
theorem ZqF (h:Sim nt F A I Γ U sl hp a w) {o:Oper} {t e:TypeId} {l c:Operand} {l' c' : Opd} {z:Value} {d:D} (ho:o.op=.makeSlice t l c) (he:Q1 P t=some e) (hl:ZI l=some l') (hc:ZI c=some c')
  (hz:WB P e=some z) (ak:evD z=some d) (al:YR P e=true) {base:Nat} (hb:Qw U base) (hd:Qh nt o.dst=true) {ce:Zb} {n m:Int} (hn:idx (evO sl l')=some n) (hm:idx (evO sl c')=some m)
  (hv:ZiI base (P.cellsOf e) (P.bytesOf e) d n m=some ce):U6 P nt F A I Γ U sl hp a w o base ce:=by
 obtain⟨i,z',hi,ag,ah,af,aa,ab⟩:=Xz al;obtain⟨i',ai,ad⟩:=JK hz;rw[hi] at ai;cases ai;rw[ag] at ad;cases ad;obtain⟨k1,e1⟩:=Yb hn (h.slOK.ev hl);obtain⟨k2,e2⟩:=Yb hm (h.slOK.ev hc);unfold ZiI at hv;split at hv
 ·rename_i ae;obtain⟨c1,c2,c3,c4,c5⟩:=ae;cases hv;rw[aa] at c5 ⊢;rw[ab] at c3;have hr:=run_make (P:=P) w t e i z (Ql he) hi ag k1 k2 n m c1 c2 (by have h2:=c3;rw[Kab] at h2;simp only[Zz] at h2;omega) (by simp only[Zz] at c4;omega);refine⟨.slice (some ⟨w.heap.size,0,none⟩) n.toNat m.toNat,w.alloc (.cells (madeCells z.cells (m.toNat*i.size)) e),.inl (by simp[execOp,ho,e1,e2,hr]),?_⟩;rw[Qz];have aj : (w.alloc (.cells (madeCells z.cells (m.toNat*i.size)) e)).heap[w.heap.size]?=some (.cells (madeCells z.cells (m.toNat*i.size)) e (0,0)):=heap_alloc_new w _;refine Zj4 h hb hd (Q6 w _) (by simp) rfl rfl rfl aj (by simp) (by omega) (by simp only[Zz] at c4;simp only[maxLen];omega) (size_madeCells _ _) af ?_
  have am:ZL (w.alloc (.cells (madeCells z.cells (m.toNat*i.size)) e)) (fun b=>I b∧A b) i.size (List.replicate n.toNat d) (List.replicate n.toNat z.cells.toList):=
   Wj (by simp[ah]) (Zfo ak) n.toNat
  refine Q7 am ?_;refine XR aj (ys:=(List.replicate (m.toNat-n.toNat) z.cells.toList).flatten) ?_;rw[← ah,Wi,← La,List.replicate_append_replicate];congr 2
  omega
 ·cases hv
def Zd6:List Value→Nat→List Value→List Value
 | vs,_,[]=>vs
 | vs,off,u :: r=>Zd6 (vs.set off u) (off+1) r
theorem Zi1 (off:Nat):∀ (l:List Value) (k:Nat) (vs:Array Value),
  (List.foldl (fun cs (x:Value×Nat)=>cs.setIfInBounds (off+x.2) x.1) vs (l.zipIdx k)).toList=Zd6 vs.toList (off+k) l
 | [],k,vs=>by simp[Zd6]
 | u :: l,k,vs=>by
  simp only[List.zipIdx_cons,List.foldl_cons,Zd6];rw[Zi1 off l (k+1)];simp[KD]
theorem Zne {R:AV→Value→Prop}:∀ {xs:List AV} {us:List Value} {cs:List AV} {vs:List Value} (off:Nat),Zp R xs us→Zp R cs vs→Zp R (ZnY cs off xs) (Zd6 vs off us)
 | [],[],_,_,_,_,h=>h
 | [],_ :: _,_,_,_,h,_=>h.elim
 | _ :: _,[],_,_,_,h,_=>h.elim
 | x :: xs,u :: us,cs,vs,off,h,hr=>by
  simp only[ZnY,Zd6];exact Zne (off+1) h.2 (hr.set off h.1)
theorem Zi2 (off:Nat) (u vs:Array Value):(u.zipIdx.foldl (fun cs (x:Value×Nat)=>cs.setIfInBounds (off+x.2) x.1) vs).toList=Zd6 vs.toList off u.toList:=by
 have:=Zi1 off u.toList 0 vs;rw[← Array.foldl_toList,Array.toList_zipIdx];simpa using this
theorem ZgQ {place:Nat→Option (Nat×Nat)} {pl:Nat→Option (Nat×Nat)} (ae:∀ i p,pl i=some p→place i=some p) (hs:WV Γ w I sl a) :
  ∀ {ps:List (Nat×Operand)} {qs:List (Nat×Nat×Opd)} {cells r:List AV} {vs:Array Value},Z7 (Zk0 pl) ps=some qs→Zp (QP Γ w I) cells vs.toList→ZeE cells (evP sl qs)=some r →
   ∃ aa,Instr.fill place vs (ps.map fun x=>(x.1,a.eval x.2))=some aa∧Zp (QP Γ w I) r aa.toList
 | [],qs,cells,r,vs,hq,hr,hf=>by
  simp only[Z7] at hq;cases hq;simp only[evP,ZeE] at hf;cases hf;exact⟨vs,rfl,hr⟩
 | p :: ps,qs,cells,r,vs,hq,hr,hf=>by
  simp only[Z7] at hq;obtain⟨q,h1,hq⟩:=Za hq;obtain⟨ah,h2,hq⟩:=Za hq;cases hq;unfold Zk0 at h1;obtain⟨pp,h3,h1⟩:=Za h1;obtain⟨x,h4,h1⟩:=Za h1;cases h1;simp only[evP,ZeE] at hf;split at hf
  ·rename_i hc;obtain⟨ab,ad,ai⟩:=hc;have af:=Rep.cells ab (hs.ev h4);have ag:(a.eval p.2).cells.size=pp.2:=by rw[← ad,af.length];simp
   have aj:cells.length=vs.size:=by rw[hr.length];simp
   obtain⟨aa,h5,h6⟩:=ZgQ ae hs (vs:=(a.eval p.2).cells.zipIdx.foldl (fun cs (x:Value×Nat)=>cs.setIfInBounds (pp.1+x.2) x.1) vs) h2 (by rw[Zi2];exact Zne _ af hr) hf;refine⟨aa,?_,h6⟩;simp only[Ko,Instr.fill,ae _ _ h3];have c1:¬((a.eval p.2).cells.size≠pp.2):=by simp[ag]
   have c2:¬(pp.1+(a.eval p.2).cells.size>vs.size):=by omega
   simp only[c1,c2,decide_false,Bool.or_self,Ka,Kj];exact h5
  ·cases hf
end
end Go.Abs
