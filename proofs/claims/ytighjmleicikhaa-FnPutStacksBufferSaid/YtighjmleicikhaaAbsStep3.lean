/- Own text. -/
import Derived.Test.YtighjmleicikhaaAbsStep2
set_option linter.unusedVariables false
set_option linter.unusedSimpArgs false
namespace Go.Abs
open Go
def ZD (w:World) (S:Nat→Prop) (sz:Nat) (xs:List D) (cs:List (List Value)):Prop:=Zl (fun d c=>c.length=sz∧Zx w S d c) xs cs
section
variable {w:World} {S:Nat→Prop} {sz:Nat}
theorem QS {b:Nat}:∀ {xs:List D} {cs:List (List Value)} {o:Nat},ZD w S sz xs cs→ZU w b o cs.flatten→Yk w S b sz xs o
 | [],[],_,_,_=>by simp[Yk]
 | [],_ :: _,_,h,_=>h.elim
 | _ :: _,[],_,h,_=>h.elim
 | x :: xs,c :: cs,o,h,hat=>by
  simp only[KS] at hat;simp only[Yk];refine⟨⟨c,h.1.1,?_,h.1.2⟩,QS h.2 ?_⟩
  ·have:=hat.take c.length;simpa using this
  ·have:=hat.drop c.length;simpa [h.1.1] using this
theorem Qz {b:Nat}:∀ {xs:List D} {o:Nat},Yk w S b sz xs o→∃ cs,ZD w S sz xs cs∧ZU w b o cs.flatten
 | [],o,_=>⟨[],trivial,fun j u hu=>by simp at hu⟩
 | x :: xs,o,h=>by
  simp only[Yk] at h;obtain⟨⟨c,h1,h2,h3⟩,h4⟩:=h;obtain⟨cs,h5,h6⟩:=Qz h4;refine⟨c :: cs,⟨⟨h1,h3⟩,h5⟩,fun j u hu=>?_⟩;simp only[KS,LM] at hu;split at hu
  ·exact h2 j u hu
  ·have:=h6 _ u hu;have he:o+sz+(j-c.length)=o+j:=by omega
   rw[← he];exact this
theorem ZD.length_flatten:∀ {xs:List D} {cs:List (List Value)},ZD w S sz xs cs→cs.flatten.length=xs.length*sz
 | [],[],_=>by simp
 | [],_ :: _,h=>h.elim
 | _ :: _,[],h=>h.elim
 | x :: xs,c :: cs,h=>by
  simp only[KS,Ko,Kv,ZD.length_flatten (xs:=xs) h.2,h.1.1,KA];omega
theorem ZD.append {xs ys:List D} {cs ds:List (List Value)} (h:ZD w S sz xs cs) (k:ZD w S sz ys ds):ZD w S sz (xs++ys) (cs++ds):=Zl.append h k
theorem ZD.mono {w' : World} {S' : Nat→Prop} (hk:Zw S S' w w') {xs:List D} {cs:List (List Value)} (h:ZD w S sz xs cs):ZD w' S' sz xs cs:=
 Zl.mono (fun _ _ h=>⟨h.1,h.2.mono hk⟩) h
theorem Zbc {w' : World} {S' : Nat→Prop}:∀ {ds:List D} {vs:List Value},V4 D.plain ds=true→Qg w S ds vs→Qg w' S' ds vs
 | [],_,_,h=>by simpa [Qg] using h
 | d :: ds,vs,hp,h=>by
  simp only[V4,Kc] at hp;simp only[Qg] at h ⊢;obtain⟨v,r,h1,h2,h3,h4⟩:=h;exact⟨v,r,h1,h2,Uu hp.1 h3,Zbc hp.2 h4⟩
theorem Ze7 {w' : World} {S' : Nat→Prop} {d:D} {vs:List Value} (hf:d.flat=true) (h:Zx w S d vs):Zx w' S' d vs:=by
 cases d with
 | agg cs=>simp only[Zx] at h ⊢;exact Zbc hf h
 | sl xs=>simp[D.flat,D.cells,V4,D.plain] at hf
 | _=>exact Uu rfl h
theorem ZgD {w' : World} {S' : Nat→Prop} {d:D} {v:Value} (hf:d.flat=true) (h:QL w S d v):QL w' S' d v:=by
 cases d with
 | agg cs=>obtain⟨vs,h1,h2⟩:=h;exact⟨vs,h1,Zbc hf h2⟩
 | sl xs=>simp[D.flat,D.cells,V4,D.plain] at hf
 | _=>simp only[QL] at h ⊢;exact Uu rfl h
end
section
variable {P:Program} {nt:Nat} {U:Nat→Prop} {F A I:Nat→Prop} {Γ:Gh} {sl:Sl} {hp:Hp} {a:Act} {w:World}
theorem Sim.sub (h:Sim nt F A I Γ U sl hp a w) {hp' : Hp} (hs:∀ id o,lkp hp' id=some o→lkp hp id=some o):Sim nt F A I Γ U sl hp' a w:=
 { h with objs:=fun id o hl=>h.objs id o (hs id o hl),inj:=fun i j o o' b hi hj=>h.inj i j o o' b (hs _ _ hi) (hs _ _ hj) }
theorem ZhB (h:Sim nt F A I Γ U sl hp a w) {dst:Option Nat} {base:Nat} (hb:Qi U base) (hd:Qa nt dst=true) {w' : World}
  (af:∀ k,k<w.heap.size→w'.heap[k]?=w.heap[k]?) (aj:w.heap.size≤w'.heap.size) (ak:w'.os=w.os) (aa:w'.tape=w.tape) (ag:w'.output=w.output)
  {n c s:Nat} {e:TypeId} {cur:Array Value} {xs:List D} {ex:Bool} (ab:w'.heap[w.heap.size]?=some (.cells cur e (0,0))) (hn:n=xs.length) (al:n≤c) (am:c≤maxLen) (an:cur.size=c*s) (h0:0<s)
  (ah:Yk w' (if ex then fun b=>I b∧A b else I) w.heap.size s xs 0) :
  Yc nt F A I Γ w (Y2 U base) (Zh sl dst (.own base)) (Zd hp [(base,.row s xs ex false)]) (a.put dst (.slice (some ⟨w.heap.size,0,none⟩) n c)) w':=by
 refine h.add (Γ':=upd Γ base (.row (some ⟨w.heap.size,0,none⟩) n c s)) (Xx _ (h.names base hb.self)) af aj ak aa ag ?_ ?_ ?_ ?_ ?_ ?_ hd
 ·intro k o' hk;simp at hk;obtain⟨rfl,rfl⟩:=hk;refine⟨_,n,c,Zq _ _ _,hn,?_⟩;by_cases hc:c=0
  ·exact .inl ⟨by omega,hc⟩
  ·exact .inr ⟨w.heap.size,0,cur,e,rfl,by omega,ab,al,am,⟨by omega,fun _=>rfl⟩,h0,by simp;exact fun hi=>absurd (h.bound _ hi) (by omega),h.fresh _ (Kg _),ah⟩
 ·intro i j o1 o2 b hi hj _ _;simp at hi hj;omega
 ·intro k o' b hk ae;simp at hk;obtain⟨rfl,rfl⟩:=hk;have ae:=ae.row;rw[Zq] at ae;obtain⟨ad,h1,h2,h3⟩:=ZgC ae;cases h1;rw[← h2];exact Kg _
 ·intro k hk;exact Z2 _ _ (fun e=>hb.self (e ▸ hk))
 ·intro id ai;rw[Z2 _ _ (fun e=>ai (.inr (by omega)))];exact h.names id (fun hu=>ai (.inl hu))
 ·exact⟨_,n,c,s,Zq _ _ _,rfl⟩
theorem ZgE {S:Nat→Prop} {v:Value} {d:D} (h:Zbi v=some d):d.one=true∧Zx w S d [v]:=by
 unfold Zbi at h;split at h
 ·cases h;exact⟨rfl,by simp[Zx]⟩
 ·cases h;exact⟨rfl,by simp[Zx]⟩
 ·cases h;exact⟨rfl,_,rfl,rfl⟩
 ·cases h;exact⟨rfl,none,0,rfl,Kg _,.inl rfl⟩
 ·cases h
theorem Ze8 {S:Nat→Prop}:∀ {vs:List Value} {ds:List D},ZY Zbi vs=some ds→Qg w S ds vs
 | [],ds,h=>by simp only[ZY] at h;cases h;simp[Qg]
 | v :: vs,ds,h=>by
  simp only[ZY] at h;obtain⟨d,h1,h⟩:=Za h;obtain⟨aa,h2,h⟩:=Za h;cases h;obtain⟨h3,h4⟩:=ZgE (w:=w) (S:=S) h1;exact⟨v,vs,rfl,h3,h4,Ze8 h2⟩
theorem ZdP {S:Nat→Prop} {z:Value} {d:D} (h:evD z=some d):Zx w S d z.cells.toList:=by
 cases z with
 | agg cs=>
  simp only[evD] at h;obtain⟨ds,h1,h⟩:=Za h;cases h;exact Ze8 h1
 | _=>simp only[evD] at h;exact(ZgE h).2
theorem Vq (z:Array Value):∀ n,(madeCells z (n*z.size)).toList=(List.replicate n z.toList).flatten:=by
 intro n;refine Ld fun i=>?_;have hz:(z.size=0→n*z.size=0):=fun h=>by simp[h]
 by_cases hi:i<n*z.size
 ·have aa:0<z.size:=by
   rcases K8 z.size with h | h
   ·rw[h] at hi;simp at hi
   ·exact h
  have h1:(madeCells z (n*z.size)).toList[i]?=some z[i % z.size]!:=by
   simp[madeCells,hi]
  rw[h1];clear h1
  induction n generalizing i with
  | zero=>simp at hi
  | succ n ih=>
   rw[LB,KS,LM];split
   ·rename_i h2;simp at h2;rw[Nat.mod_eq_of_lt h2];simp[h2]
   ·rename_i h2;simp at h2;have h3:i-z.size<n*z.size:=by rw[KA] at hi;omega
    have:=ih (i-z.size) (fun h=>by simp[h]) h3;have hl:z.toList.length=z.size:=by simp
    rw[hl,← this,Nat.mod_eq_sub_mod h2]
 ·rw[KH,KH]
  ·rw[List.length_flatten];simp;omega
  ·simp[madeCells];omega
theorem Vr {S:Nat→Prop} {sz:Nat} {d:D} {c:List Value} (hl:c.length=sz) (h:Zx w S d c):∀ n,ZD w S sz (List.replicate n d) (List.replicate n c)
 | 0=>trivial
 | n+1=>⟨⟨hl,h⟩,Vr hl h n⟩
theorem Xw {b:Nat} {cur:Array Value} {e:TypeId} {fr:Nat×Nat} (h:w.heap[b]?=some (.cells cur e fr)) {xs ys:List Value} (hl:cur.toList=xs++ys):ZU w b 0 xs:=fun j u hu=>by
 refine Jv h j u ?_;rw[hl,Kq (Kb.1 hu).1];exact hu
theorem Zn4 (h:Sim nt F A I Γ U sl hp a w) {o:Oper} {t e:TypeId} {l c:Operand} {l' c' : Opd} {z:Value} {d:D} (ho:o.op=.makeSlice t l c) (he:QN P t=some e) (hl:ZA l=some l') (hc:ZA c=some c')
  (hz:VH P e=some z) (ak:evD z=some d) (al:Yj P e=true) {base:Nat} (hb:Qi U base) (hd:Qa nt o.dst=true) {ce:Zb} {n m:Int} (hn:idx (evO sl l')=some n) (hm:idx (evO sl c')=some m)
  (hv:Zgm base (P.cellsOf e) (P.bytesOf e) d n m=some ce):Uc P nt F A I Γ U sl hp a w o base ce:=by
 obtain⟨i,z',hi,ag,ah,af,aa,ab⟩:=Xk al;obtain⟨i',ai,ad⟩:=UJ hz;rw[hi] at ai;cases ai;rw[ag] at ad;cases ad;obtain⟨k1,e1⟩:=XH hn (h.slOK.ev hl);obtain⟨k2,e2⟩:=XH hm (h.slOK.ev hc);unfold Zgm at hv;split at hv
 ·rename_i ae;obtain⟨c1,c2,c3,c4,c5⟩:=ae;cases hv;rw[aa] at c5 ⊢;rw[ab] at c3;have hr:=run_make (P:=P) w t e i z (Qd he) hi ag k1 k2 n m c1 c2 (by have h2:=c3;rw[Int.mul_comm] at h2;simp only[ZG] at h2;omega) (by simp only[ZG] at c4;omega);refine⟨.slice (some ⟨w.heap.size,0,none⟩) n.toNat m.toNat,w.alloc (.cells (madeCells z.cells (m.toNat*i.size)) e),.inl (by simp[execOp,ho,e1,e2,hr]),?_⟩;rw[Ql];have aj : (w.alloc (.cells (madeCells z.cells (m.toNat*i.size)) e)).heap[w.heap.size]?=some (.cells (madeCells z.cells (m.toNat*i.size)) e (0,0)):=heap_alloc_new w _;refine ZhB h hb hd (QR w _) (by simp) rfl rfl rfl aj (by simp) (by omega) (by simp only[ZG] at c4;simp only[maxLen];omega) (size_madeCells _ _) af ?_
  have am:ZD (w.alloc (.cells (madeCells z.cells (m.toNat*i.size)) e)) (fun b=>I b∧A b) i.size (List.replicate n.toNat d) (List.replicate n.toNat z.cells.toList):=
   Vr (by simp[ah]) (ZdP ak) n.toNat
  refine QS am ?_;refine Xw aj (ys:=(List.replicate (m.toNat-n.toNat) z.cells.toList).flatten) ?_;rw[← ah,Vq,← Lc,List.replicate_append_replicate];congr 2
  omega
 ·cases hv
def ZcG:List Value→Nat→List Value→List Value
 | vs,_,[]=>vs
 | vs,off,u :: r=>ZcG (vs.set off u) (off+1) r
theorem ZgF (off:Nat):∀ (l:List Value) (k:Nat) (vs:Array Value),
  (List.foldl (fun cs (x:Value×Nat)=>cs.setIfInBounds (off+x.2) x.1) vs (l.zipIdx k)).toList=ZcG vs.toList (off+k) l
 | [],k,vs=>by simp[ZcG]
 | u :: l,k,vs=>by
  simp only[List.zipIdx_cons,List.foldl_cons,ZcG];rw[ZgF off l (k+1)];simp[KC]
theorem ZkS {R:AV→Value→Prop}:∀ {xs:List AV} {us:List Value} {cs:List AV} {vs:List Value} (off:Nat),Zl R xs us→Zl R cs vs→Zl R (ZlF cs off xs) (ZcG vs off us)
 | [],[],_,_,_,_,h=>h
 | [],_ :: _,_,_,_,h,_=>h.elim
 | _ :: _,[],_,_,_,h,_=>h.elim
 | x :: xs,u :: us,cs,vs,off,h,hr=>by
  simp only[ZlF,ZcG];exact ZkS (off+1) h.2 (hr.set off h.1)
theorem ZgG (off:Nat) (u vs:Array Value):(u.zipIdx.foldl (fun cs (x:Value×Nat)=>cs.setIfInBounds (off+x.2) x.1) vs).toList=ZcG vs.toList off u.toList:=by
 have:=ZgF off u.toList 0 vs;rw[← Array.foldl_toList,Array.toList_zipIdx];simpa using this
theorem Ze9 {place:Nat→Option (Nat×Nat)} {pl:Nat→Option (Nat×Nat)} (ae:∀ i p,pl i=some p→place i=some p) (hs:V7 Γ w I sl a) :
  ∀ {ps:List (Nat×Operand)} {qs:List (Nat×Nat×Opd)} {cells r:List AV} {vs:Array Value},ZY (ZiE pl) ps=some qs→Zl (QB Γ w I) cells vs.toList→Zdd cells (evP sl qs)=some r →
   ∃ aa,Instr.fill place vs (ps.map fun x=>(x.1,a.eval x.2))=some aa∧Zl (QB Γ w I) r aa.toList
 | [],qs,cells,r,vs,hq,hr,hf=>by
  simp only[ZY] at hq;cases hq;simp only[evP,Zdd] at hf;cases hf;exact⟨vs,rfl,hr⟩
 | p :: ps,qs,cells,r,vs,hq,hr,hf=>by
  simp only[ZY] at hq;obtain⟨q,h1,hq⟩:=Za hq;obtain⟨ah,h2,hq⟩:=Za hq;cases hq;unfold ZiE at h1;obtain⟨pp,h3,h1⟩:=Za h1;obtain⟨x,h4,h1⟩:=Za h1;cases h1;simp only[evP,Zdd] at hf;split at hf
  ·rename_i hc;obtain⟨ab,ad,ai⟩:=hc;have af:=Rep.cells ab (hs.ev h4);have ag:(a.eval p.2).cells.size=pp.2:=by rw[← ad,af.length];simp
   have aj:cells.length=vs.size:=by rw[hr.length];simp
   obtain⟨aa,h5,h6⟩:=Ze9 ae hs (vs:=(a.eval p.2).cells.zipIdx.foldl (fun cs (x:Value×Nat)=>cs.setIfInBounds (pp.1+x.2) x.1) vs) h2 (by rw[ZgG];exact ZkS _ af hr) hf;refine⟨aa,?_,h6⟩;simp only[Ky,Instr.fill,ae _ _ h3];have c1:¬((a.eval p.2).cells.size≠pp.2):=by simp[ag]
   have c2:¬(pp.1+(a.eval p.2).cells.size>vs.size):=by omega
   simp only[c1,c2,decide_false,Bool.or_self,Ka,Kh];exact h5
  ·cases hf
end
end Go.Abs
