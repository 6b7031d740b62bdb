/- Own text. -/
import Derived.Test.YtighjmleicikhaaAbsStep2
set_option linter.unusedVariables false
set_option linter.unusedSimpArgs false
namespace Go.Abs
open Go
def ZJ (w:World) (S:Nat→Prop) (sz:Nat) (xs:List D) (cs:List (List Value)):Prop:=Zn (fun d c=>c.length=sz∧ZA w S d c) xs cs
section
variable {w:World} {S:Nat→Prop} {sz:Nat}
theorem XF {b:Nat}:∀ {xs:List D} {cs:List (List Value)} {o:Nat},ZJ w S sz xs cs→Qi w b o cs.flatten→YT w S b sz xs o
 | [],[],_,_,_=>by simp[YT]
 | [],_ :: _,_,h,_=>h.elim
 | _ :: _,[],_,h,_=>h.elim
 | x :: xs,c :: cs,o,h,hat=>by
  simp only[KQ] at hat;simp only[YT];refine⟨⟨c,h.1.1,?_,h.1.2⟩,XF h.2 ?_⟩
  ·have:=hat.take c.length;simpa using this
  ·have:=hat.drop c.length;simpa [h.1.1] using this
theorem Xk {b:Nat}:∀ {xs:List D} {o:Nat},YT w S b sz xs o→∃ cs,ZJ w S sz xs cs∧Qi w b o cs.flatten
 | [],o,_=>⟨[],trivial,fun j u hu=>by simp at hu⟩
 | x :: xs,o,h=>by
  simp only[YT] at h;obtain⟨⟨c,h1,h2,h3⟩,h4⟩:=h;obtain⟨cs,h5,h6⟩:=Xk h4;refine⟨c :: cs,⟨⟨h1,h3⟩,h5⟩,fun j u hu=>?_⟩;simp only[KQ,LC] at hu;split at hu
  ·exact h2 j u hu
  ·have:=h6 _ u hu;have he:o+sz+(j-c.length)=o+j:=by omega
   rw[← he];exact this
theorem ZJ.length_flatten:∀ {xs:List D} {cs:List (List Value)},ZJ w S sz xs cs→cs.flatten.length=xs.length*sz
 | [],[],_=>by simp
 | [],_ :: _,h=>h.elim
 | _ :: _,[],h=>h.elim
 | x :: xs,c :: cs,h=>by
  simp only[KQ,Kn,Kk,ZJ.length_flatten (xs:=xs) h.2,h.1.1,KC];omega
theorem ZJ.append {xs ys:List D} {cs ds:List (List Value)} (h:ZJ w S sz xs cs) (k:ZJ w S sz ys ds):ZJ w S sz (xs++ys) (cs++ds):=Zn.append h k
theorem ZJ.mono {w' : World} {S' : Nat→Prop} (hk:ZB S S' w w') {xs:List D} {cs:List (List Value)} (h:ZJ w S sz xs cs):ZJ w' S' sz xs cs:=
 Zn.mono (fun _ _ h=>⟨h.1,h.2.mono hk⟩) h
theorem Zc5 {w' : World} {S' : Nat→Prop}:∀ {ds:List D} {vs:List Value},W1 D.plain ds=true→Qg w S ds vs→Qg w' S' ds vs
 | [],_,_,h=>by simpa [Qg] using h
 | d :: ds,vs,hp,h=>by
  simp only[W1,Kb] at hp;simp only[Qg] at h ⊢;obtain⟨v,r,h1,h2,h3,h4⟩:=h;exact⟨v,r,h1,h2,JN hp.1 h3,Zc5 hp.2 h4⟩
theorem ZhB {w' : World} {S' : Nat→Prop} {d:D} {vs:List Value} (hf:d.flat=true) (h:ZA w S d vs):ZA w' S' d vs:=by
 cases d with
 | agg cs=>simp only[ZA] at h ⊢;exact Zc5 hf h
 | sl xs=>simp[D.flat,D.cells,W1,D.plain] at hf
 | _=>exact JN rfl h
theorem Zjc {w' : World} {S' : Nat→Prop} {d:D} {v:Value} (hf:d.flat=true) (h:QH w S d v):QH w' S' d v:=by
 cases d with
 | agg cs=>obtain⟨vs,h1,h2⟩:=h;exact⟨vs,h1,Zc5 hf h2⟩
 | sl xs=>simp[D.flat,D.cells,W1,D.plain] at hf
 | _=>simp only[QH] at h ⊢;exact JN rfl h
end
section
variable {P:Program} {nt:Nat} {U:Nat→Prop} {F A I:Nat→Prop} {Γ:Gh} {sl:Sl} {hp:Hp} {a:Act} {w:World}
theorem Sim.sub (h:Sim nt F A I Γ U sl hp a w) {hp' : Hp} (hs:∀ id o,lkp hp' id=some o→lkp hp id=some o):Sim nt F A I Γ U sl hp' a w:=
 { h with objs:=fun id o hl=>h.objs id o (hs id o hl),inj:=fun i j o o' b hi hj=>h.inj i j o o' b (hs _ _ hi) (hs _ _ hj) }
theorem ZkD (h:Sim nt F A I Γ U sl hp a w) {dst:Option Nat} {base:Nat} (hb:QD U base) (hd:Qr nt dst=true) {w' : World}
  (af:∀ k,k<w.heap.size→w'.heap[k]?=w.heap[k]?) (aj:w.heap.size≤w'.heap.size) (ak:w'.os=w.os) (aa:w'.tape=w.tape) (ag:w'.output=w.output)
  {n c s:Nat} {e:TypeId} {cur:Array Value} {xs:List D} {ex:Bool} (ab:w'.heap[w.heap.size]?=some (.cells cur e (0,0))) (hn:n=xs.length) (al:n≤c) (am:c≤maxLen) (an:cur.size=c*s) (h0:0<s)
  (ah:YT w' (if ex then fun b=>I b∧A b else I) w.heap.size s xs 0) :
  YU nt F A I Γ w (V0 U base) (Zi sl dst (.own base)) (Zd hp [(base,.row s xs ex false)]) (a.put dst (.slice (some ⟨w.heap.size,0,none⟩) n c)) w':=by
 refine h.add (Γ':=upd Γ base (.row (some ⟨w.heap.size,0,none⟩) n c s)) (XX _ (h.names base hb.self)) af aj ak aa ag ?_ ?_ ?_ ?_ ?_ ?_ hd
 ·intro k o' hk;simp at hk;obtain⟨rfl,rfl⟩:=hk;refine⟨_,n,c,Zt _ _ _,hn,?_⟩;by_cases hc:c=0
  ·exact .inl ⟨by omega,hc⟩
  ·exact .inr ⟨w.heap.size,cur,e,rfl,by omega,ab,al,am,an,h0,by simp;exact fun hi=>absurd (h.bound _ hi) (by omega),h.fresh _ (Kf _),ah⟩
 ·intro i j o1 o2 b hi hj _ _;simp at hi hj;omega
 ·intro k o' b hk ae;simp at hk;obtain⟨rfl,rfl⟩:=hk;have ae:=ae.row;rw[Zt] at ae;obtain⟨ad,h1,h2,h3⟩:=Zjb ae;cases h1;rw[← h2];exact Kf _
 ·intro k hk;exact Qh _ _ (fun e=>hb.self (e ▸ hk))
 ·intro id ai;rw[Qh _ _ (fun e=>ai (.inr (by omega)))];exact h.names id (fun hu=>ai (.inl hu))
 ·exact⟨_,n,c,s,Zt _ _ _,rfl⟩
theorem Zjd {S:Nat→Prop} {v:Value} {d:D} (h:Zde v=some d):d.one=true∧ZA w S d [v]:=by
 unfold Zde at h;split at h
 ·cases h;exact⟨rfl,by simp[ZA]⟩
 ·cases h;exact⟨rfl,by simp[ZA]⟩
 ·cases h;exact⟨rfl,_,rfl,rfl⟩
 ·cases h;exact⟨rfl,none,0,rfl,Kf _,.inl rfl⟩
 ·cases h
theorem ZhC {S:Nat→Prop}:∀ {vs:List Value} {ds:List D},Z6 Zde vs=some ds→Qg w S ds vs
 | [],ds,h=>by simp only[Z6] at h;cases h;simp[Qg]
 | v :: vs,ds,h=>by
  simp only[Z6] at h;obtain⟨d,h1,h⟩:=Za h;obtain⟨aa,h2,h⟩:=Za h;cases h;obtain⟨h3,h4⟩:=Zjd (w:=w) (S:=S) h1;exact⟨v,vs,rfl,h3,h4,ZhC h2⟩
theorem ZfM {S:Nat→Prop} {z:Value} {d:D} (h:evD z=some d):ZA w S d z.cells.toList:=by
 cases z with
 | agg cs=>
  simp only[evD] at h;obtain⟨ds,h1,h⟩:=Za h;cases h;exact ZhC h1
 | _=>simp only[evD] at h;exact(Zjd h).2
theorem Wm (z:Array Value):∀ n,(madeCells z (n*z.size)).toList=(List.replicate n z.toList).flatten:=by
 intro n;refine KT fun i=>?_;have hz:(z.size=0→n*z.size=0):=fun h=>by simp[h]
 by_cases hi:i<n*z.size
 ·have aa:0<z.size:=by
   rcases K8 z.size with h | h
   ·rw[h] at hi;simp at hi
   ·exact h
  have h1:(madeCells z (n*z.size)).toList[i]?=some z[i % z.size]!:=by
   simp[madeCells,hi]
  rw[h1];clear h1
  induction n generalizing i with
  | zero=>simp at hi
  | succ n ih=>
   rw[Li,KQ,LC];split
   ·rename_i h2;simp at h2;rw[Nat.mod_eq_of_lt h2];simp[h2]
   ·rename_i h2;simp at h2;have h3:i-z.size<n*z.size:=by rw[KC] at hi;omega
    have:=ih (i-z.size) (fun h=>by simp[h]) h3;have hl:z.toList.length=z.size:=by simp
    rw[hl,← this,Nat.mod_eq_sub_mod h2]
 ·rw[KE,KE]
  ·rw[List.length_flatten];simp;omega
  ·simp[madeCells];omega
theorem Wn {S:Nat→Prop} {sz:Nat} {d:D} {c:List Value} (hl:c.length=sz) (h:ZA w S d c):∀ n,ZJ w S sz (List.replicate n d) (List.replicate n c)
 | 0=>trivial
 | n+1=>⟨⟨hl,h⟩,Wn hl h n⟩
theorem Q5 {b:Nat} {cur:Array Value} {e:TypeId} {fr:Nat×Nat} (h:w.heap[b]?=some (.cells cur e fr)) {xs ys:List Value} (hl:cur.toList=xs++ys):Qi w b 0 xs:=fun j u hu=>by
 refine Zba h j u ?_;rw[hl,Ky (Kc.1 hu).1];exact hu
theorem Zsb (h:Sim nt F A I Γ U sl hp a w) {o:Oper} {t e:TypeId} {l c:Operand} {l' c' : Opd} {z:Value} {d:D} (ho:o.op=.makeSlice t l c) (he:Xg P t=some e) (hl:ZE l=some l') (hc:ZE c=some c')
  (hz:WK P e=some z) (ak:evD z=some d) (al:YS P e=true) {base:Nat} (hb:QD U base) (hd:Qr nt o.dst=true) {ce:Zb} {n m:Int} (hn:idx (evO sl l')=some n) (hm:idx (evO sl c')=some m)
  (hv:ZiX base (P.cellsOf e) (P.bytesOf e) d n m=some ce):Jw P nt F A I Γ U sl hp a w o base ce:=by
 obtain⟨i,z',hi,ag,ah,af,aa,ab⟩:=XI al;obtain⟨i',ai,ad⟩:=Zae hz;rw[hi] at ai;cases ai;rw[ag] at ad;cases ad;obtain⟨k1,e1⟩:=X8 hn (h.slOK.ev hl);obtain⟨k2,e2⟩:=X8 hm (h.slOK.ev hc);unfold ZiX at hv;split at hv
 ·rename_i ae;obtain⟨c1,c2,c3,c4,c5⟩:=ae;cases hv;rw[aa] at c5 ⊢;rw[ab] at c3;have hr:=run_make (P:=P) w t e i z (Qs he) hi ag k1 k2 n m c1 c2 (by have h2:=c3;rw[Int.mul_comm] at h2;simp only[Zv] at h2;omega) (by simp only[Zv] at c4;omega);refine⟨.slice (some ⟨w.heap.size,0,none⟩) n.toNat m.toNat,w.alloc (.cells (madeCells z.cells (m.toNat*i.size)) e),.inl (by simp[execOp,ho,e1,e2,hr]),?_⟩;rw[QC];have aj : (w.alloc (.cells (madeCells z.cells (m.toNat*i.size)) e)).heap[w.heap.size]?=some (.cells (madeCells z.cells (m.toNat*i.size)) e (0,0)):=heap_alloc_new w _;refine ZkD h hb hd (Xj w _) (by simp) rfl rfl rfl aj (by simp) (by omega) (by simp only[Zv] at c4;simp only[maxLen];omega) (size_madeCells _ _) af ?_
  have am:ZJ (w.alloc (.cells (madeCells z.cells (m.toNat*i.size)) e)) (fun b=>I b∧A b) i.size (List.replicate n.toNat d) (List.replicate n.toNat z.cells.toList):=
   Wn (by simp[ah]) (ZfM ak) n.toNat
  refine XF am ?_;refine Q5 aj (ys:=(List.replicate (m.toNat-n.toNat) z.cells.toList).flatten) ?_;rw[← ah,Wm,← Lo,List.replicate_append_replicate];congr 2
  omega
 ·cases hv
def ZeK:List Value→Nat→List Value→List Value
 | vs,_,[]=>vs
 | vs,off,u :: r=>ZeK (vs.set off u) (off+1) r
theorem Zje (off:Nat):∀ (l:List Value) (k:Nat) (vs:Array Value),
  (List.foldl (fun cs (x:Value×Nat)=>cs.setIfInBounds (off+x.2) x.1) vs (l.zipIdx k)).toList=ZeK vs.toList (off+k) l
 | [],k,vs=>by simp[ZeK]
 | u :: l,k,vs=>by
  simp only[List.zipIdx_cons,List.foldl_cons,ZeK];rw[Zje off l (k+1)];simp[KU]
theorem Zof {R:AV→Value→Prop}:∀ {xs:List AV} {us:List Value} {cs:List AV} {vs:List Value} (off:Nat),Zn R xs us→Zn R cs vs→Zn R (Zo2 cs off xs) (ZeK vs off us)
 | [],[],_,_,_,_,h=>h
 | [],_ :: _,_,_,_,h,_=>h.elim
 | _ :: _,[],_,_,_,h,_=>h.elim
 | x :: xs,u :: us,cs,vs,off,h,hr=>by
  simp only[Zo2,ZeK];exact Zof (off+1) h.2 (hr.set off h.1)
theorem Zjf (off:Nat) (u vs:Array Value):(u.zipIdx.foldl (fun cs (x:Value×Nat)=>cs.setIfInBounds (off+x.2) x.1) vs).toList=ZeK vs.toList off u.toList:=by
 have:=Zje off u.toList 0 vs;rw[← Array.foldl_toList,Array.toList_zipIdx];simpa using this
theorem ZhD {place:Nat→Option (Nat×Nat)} {pl:Nat→Option (Nat×Nat)} (ae:∀ i p,pl i=some p→place i=some p) (hs:W4 Γ w I sl a) :
  ∀ {ps:List (Nat×Operand)} {qs:List (Nat×Nat×Opd)} {cells r:List AV} {vs:Array Value},Z6 (ZlT pl) ps=some qs→Zn (QZ Γ w I) cells vs.toList→Ze9 cells (evP sl qs)=some r →
   ∃ aa,Instr.fill place vs (ps.map fun x=>(x.1,a.eval x.2))=some aa∧Zn (QZ Γ w I) r aa.toList
 | [],qs,cells,r,vs,hq,hr,hf=>by
  simp only[Z6] at hq;cases hq;simp only[evP,Ze9] at hf;cases hf;exact⟨vs,rfl,hr⟩
 | p :: ps,qs,cells,r,vs,hq,hr,hf=>by
  simp only[Z6] at hq;obtain⟨q,h1,hq⟩:=Za hq;obtain⟨ah,h2,hq⟩:=Za hq;cases hq;unfold ZlT at h1;obtain⟨pp,h3,h1⟩:=Za h1;obtain⟨x,h4,h1⟩:=Za h1;cases h1;simp only[evP,Ze9] at hf;split at hf
  ·rename_i hc;obtain⟨ab,ad,ai⟩:=hc;have af:=Rep.cells ab (hs.ev h4);have ag:(a.eval p.2).cells.size=pp.2:=by rw[← ad,af.length];simp
   have aj:cells.length=vs.size:=by rw[hr.length];simp
   obtain⟨aa,h5,h6⟩:=ZhD ae hs (vs:=(a.eval p.2).cells.zipIdx.foldl (fun cs (x:Value×Nat)=>cs.setIfInBounds (pp.1+x.2) x.1) vs) h2 (by rw[Zjf];exact Zof _ af hr) hf;refine⟨aa,?_,h6⟩;simp only[Kq,Instr.fill,ae _ _ h3];have c1:¬((a.eval p.2).cells.size≠pp.2):=by simp[ag]
   have c2:¬(pp.1+(a.eval p.2).cells.size>vs.size):=by omega
   simp only[c1,c2,decide_false,Bool.or_self,Ka,Kg];exact h5
  ·cases hf
end
end Go.Abs
