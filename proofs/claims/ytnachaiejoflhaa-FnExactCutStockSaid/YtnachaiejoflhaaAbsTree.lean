/- Own text. -/
import Derived.Test.YtnachaiejoflhaaAbsRep0
set_option linter.unusedVariables false
set_option linter.unusedSimpArgs false
namespace Go.Abs
open Go
def plainV:D→Option Value
 | .int k n=>some (.int k n)
 | .bool b=>some (.bool b)
 | _=>none
mutual
def Z6 (w:World) (ns:Nat) (B:List Nat):D→Value→Prop
 | .int k n,v=>v=.int k n∧B=[]
 | .bool b,v=>v=.bool b∧B=[]
 | .str s,v=>(∃ t:ByteArray,v=.string t∧t.data.toList=s)∧B=[]
 | .sl xs,v=>∃ a c,v=.slice a xs.length c∧xs.length≤c∧((c=0∧B=[]) ∨
   ∃ g cur e Bs,a=some ⟨g,0,none⟩∧0<c∧w.heap[g]?=some (.cells cur e (0,0))∧c≤maxLen∧cur.size=c*ns∧0<ns∧B=g :: Bs∧ZO w ns Bs g ns xs 0)
 | .agg _,_=>False
def ZW (w:World) (ns:Nat) (B:List Nat):List D→List Value→Prop
 | [],vs=>vs=[]∧B=[]
 | d :: ds,vs=>∃ v r B1 B2,vs=v :: r∧B=B1++B2∧Z6 w ns B1 d v∧ZW w ns B2 ds r
def QJ (w:World) (ns:Nat) (B:List Nat):D→List Value→Prop
 | .agg cs,vs=>ZW w ns B cs vs
 | .int k n,vs=>vs=[.int k n]∧B=[]
 | .bool b,vs=>vs=[.bool b]∧B=[]
 | .str s,vs=>(∃ t:ByteArray,vs=[.string t]∧t.data.toList=s)∧B=[]
 | .sl _,_=>False
def ZO (w:World) (ns:Nat) (B:List Nat) (g sz:Nat):List D→Nat→Prop
 | [],_=>B=[]
 | d :: ds,o=>∃ vs B1 B2,B=B1++B2∧vs.length=sz∧Ql w g o vs∧QJ w ns B1 d vs∧ZO w ns B2 g sz ds (o+sz)
end
section
variable {w w' : World} {ns:Nat}
mutual
theorem Z6.mono:∀ {d:D} {B:List Nat} {v:Value},Z6 w ns B d v→(∀ b∈B,w'.heap[b]?=w.heap[b]?)→Z6 w' ns B d v
 | .int _ _,_,_,h,_=>by simpa only[Z6] using h
 | .bool _,_,_,h,_=>by simpa only[Z6] using h
 | .str _,_,_,h,_=>by simpa only[Z6] using h
 | .agg _,_,_,h,_=>by simp only[Z6] at h
 | .sl xs,B,v,h,hk=>by
  simp only[Z6] at h ⊢;obtain⟨a,c,h1,h2,h3⟩:=h;refine⟨a,c,h1,h2,?_⟩;rcases h3 with h3 | ⟨g,cur,e,Bs,h4,h5,h6,h7,h8,h9,rfl,aa⟩
  ·exact .inl h3
  ·exact .inr ⟨g,cur,e,Bs,h4,h5,(hk g (by simp)).trans h6,h7,h8,h9,rfl,ZO.mono aa (hk g (by simp)) fun b hb=>hk b (by simp[hb])⟩
theorem ZW.mono:∀ {ds:List D} {B:List Nat} {vs:List Value},ZW w ns B ds vs→(∀ b∈B,w'.heap[b]?=w.heap[b]?)→ZW w' ns B ds vs
 | [],_,_,h,_=>by simpa only[ZW] using h
 | d :: ds,B,vs,h,hk=>by
  simp only[ZW] at h ⊢;obtain⟨v,r,B1,B2,h1,rfl,h2,h3⟩:=h;exact⟨v,r,B1,B2,h1,rfl,Z6.mono h2 fun b hb=>hk b (by simp[hb]),ZW.mono h3 fun b hb=>hk b (by simp[hb])⟩
theorem QJ.mono:∀ {d:D} {B:List Nat} {vs:List Value},QJ w ns B d vs→(∀ b∈B,w'.heap[b]?=w.heap[b]?)→QJ w' ns B d vs
 | .int _ _,_,_,h,_=>by simpa only[QJ] using h
 | .bool _,_,_,h,_=>by simpa only[QJ] using h
 | .str _,_,_,h,_=>by simpa only[QJ] using h
 | .sl _,_,_,h,_=>by simp only[QJ] at h
 | .agg cs,_,_,h,hk=>by
  simp only[QJ] at h ⊢;exact ZW.mono h hk
theorem ZO.mono {g sz:Nat}:∀ {xs:List D} {B:List Nat} {o:Nat},ZO w ns B g sz xs o→w'.heap[g]?=w.heap[g]?→(∀ b∈B,w'.heap[b]?=w.heap[b]?)→ZO w' ns B g sz xs o
 | [],_,_,h,_,_=>by simpa only[ZO] using h
 | d :: ds,B,o,h,hg,hk=>by
  simp only[ZO] at h ⊢;obtain⟨vs,B1,B2,rfl,h1,h2,h3,h4⟩:=h;exact⟨vs,B1,B2,rfl,h1,h2.mono hg,QJ.mono h3 fun b hb=>hk b (by simp[hb]),ZO.mono h4 hg fun b hb=>hk b (by simp[hb])⟩
end
mutual
theorem Z6.rep {S:Nat→Prop}:∀ {d:D} {B:List Nat} {v:Value},Z6 w ns B d v→(∀ b∈B,S b)→d.one=true∧ZF w S d [v]
 | .int _ _,_,_,h,_=>by simp only[Z6] at h;exact⟨rfl,by rw[h.1];rfl⟩
 | .bool _,_,_,h,_=>by simp only[Z6] at h;exact⟨rfl,by rw[h.1];rfl⟩
 | .str _,_,_,h,_=>by
  simp only[Z6] at h;obtain⟨⟨t,rfl,h⟩,_⟩:=h;exact⟨rfl,t,rfl,h⟩
 | .agg _,_,_,h,_=>by simp only[Z6] at h
 | .sl xs,B,v,h,hk=>by
  simp only[Z6] at h;obtain⟨a,c,rfl,h2,h3⟩:=h;refine⟨rfl,?_⟩;simp only[ZF];refine⟨a,c,rfl,h2,?_⟩;rcases h3 with ⟨rfl,_⟩ | ⟨g,cur,e,Bs,h4,h5,h6,h7,h8,h9,rfl,aa⟩
  ·exact .inl (Kh (by omega))
  ·exact .inr ⟨g,0,ns,h4,hk g (by simp),h9,ZO.rep aa fun b hb=>hk b (by simp[hb])⟩
theorem ZW.rep {S:Nat→Prop}:∀ {ds:List D} {B:List Nat} {vs:List Value},ZW w ns B ds vs→(∀ b∈B,S b)→Qf w S ds vs
 | [],_,_,h,_=>by simp only[ZW] at h;simp only[Qf];exact h.1
 | d :: ds,B,vs,h,hk=>by
  simp only[ZW] at h;obtain⟨v,r,B1,B2,rfl,rfl,h2,h3⟩:=h;simp only[Qf];obtain⟨g1,g2⟩:=Z6.rep (S:=S) h2 fun b hb=>hk b (by simp[hb]);exact⟨v,r,rfl,g1,g2,ZW.rep h3 fun b hb=>hk b (by simp[hb])⟩
theorem QJ.rep {S:Nat→Prop}:∀ {d:D} {B:List Nat} {vs:List Value},QJ w ns B d vs→(∀ b∈B,S b)→ZF w S d vs
 | .int _ _,_,_,h,_=>by simp only[QJ] at h;simp only[ZF];exact h.1
 | .bool _,_,_,h,_=>by simp only[QJ] at h;simp only[ZF];exact h.1
 | .str _,_,_,h,_=>by simp only[QJ] at h;simp only[ZF];exact h.1
 | .sl _,_,_,h,_=>by simp only[QJ] at h
 | .agg cs,_,_,h,hk=>by
  simp only[QJ] at h;simp only[ZF];exact ZW.rep h hk
theorem ZO.rep {S:Nat→Prop} {g sz:Nat}:∀ {xs:List D} {B:List Nat} {o:Nat},ZO w ns B g sz xs o→(∀ b∈B,S b)→Y8 w S g sz xs o
 | [],_,_,_,_=>by simp only[Y8]
 | d :: ds,B,o,h,hk=>by
  simp only[ZO] at h;obtain⟨vs,B1,B2,rfl,h1,h2,h3,h4⟩:=h;simp only[Y8];exact⟨⟨vs,h1,h2,QJ.rep h3 fun b hb=>hk b (by simp[hb])⟩,ZO.rep h4 fun b hb=>hk b (by simp[hb])⟩
end
mutual
theorem Z6.lt:∀ {d:D} {B:List Nat} {v:Value},Z6 w ns B d v→∀ b∈B,b<w.heap.size
 | .int _ _,_,_,h,b,hb=>by simp only[Z6] at h;rw[h.2] at hb;simp at hb
 | .bool _,_,_,h,b,hb=>by simp only[Z6] at h;rw[h.2] at hb;simp at hb
 | .str _,_,_,h,b,hb=>by simp only[Z6] at h;rw[h.2] at hb;simp at hb
 | .agg _,_,_,h,_,_=>by simp only[Z6] at h
 | .sl xs,B,v,h,b,hb=>by
  simp only[Z6] at h;obtain⟨a,c,_,_,h3⟩:=h;rcases h3 with ⟨_,rfl⟩ | ⟨g,cur,e,Bs,_,_,h6,_,_,_,rfl,aa⟩
  ·simp at hb
  ·rcases Kf.1 hb with rfl | hb
   ·exact(Kz.1 h6).1
   ·exact ZO.lt aa b hb
theorem ZW.lt:∀ {ds:List D} {B:List Nat} {vs:List Value},ZW w ns B ds vs→∀ b∈B,b<w.heap.size
 | [],_,_,h,b,hb=>by simp only[ZW] at h;rw[h.2] at hb;simp at hb
 | d :: ds,_,_,h,b,hb=>by
  simp only[ZW] at h;obtain⟨v,r,B1,B2,rfl,rfl,h2,h3⟩:=h;rcases Kd.1 hb with hb | hb
  ·exact Z6.lt h2 b hb
  ·exact ZW.lt h3 b hb
theorem QJ.lt:∀ {d:D} {B:List Nat} {vs:List Value},QJ w ns B d vs→∀ b∈B,b<w.heap.size
 | .int _ _,_,_,h,b,hb=>by simp only[QJ] at h;rw[h.2] at hb;simp at hb
 | .bool _,_,_,h,b,hb=>by simp only[QJ] at h;rw[h.2] at hb;simp at hb
 | .str _,_,_,h,b,hb=>by simp only[QJ] at h;rw[h.2] at hb;simp at hb
 | .sl _,_,_,h,_,_=>by simp only[QJ] at h
 | .agg cs,_,_,h,b,hb=>by
  simp only[QJ] at h;exact ZW.lt h b hb
theorem ZO.lt {g sz:Nat}:∀ {xs:List D} {B:List Nat} {o:Nat},ZO w ns B g sz xs o→∀ b∈B,b<w.heap.size
 | [],_,_,h,b,hb=>by simp only[ZO] at h;rw[h] at hb;simp at hb
 | d :: ds,_,_,h,b,hb=>by
  simp only[ZO] at h;obtain⟨vs,B1,B2,rfl,h1,h2,h3,h4⟩:=h;rcases Kd.1 hb with hb | hb
  ·exact QJ.lt h3 b hb
  ·exact ZO.lt h4 b hb
end
theorem Ql.uniq {b o:Nat}:∀ {vs us:List Value},Ql w b o vs→Ql w b o us→vs.length=us.length→vs=us:=by
 intro vs us h h' hl;refine KV fun j=>?_;rcases KG j vs.length with hj | hj
 ·have h1:=h j _ (Kl hj);have h2:=h' j _ (Kl (by omega:j<us.length));rw[h1] at h2;rw[Kl hj,Kl (by omega:j<us.length)];exact h2
 ·rw[KF hj,KF (by omega)]
mutual
theorem Z6.uniq:∀ {d:D} {B B' : List Nat} {v:Value},Z6 w ns B d v→Z6 w ns B' d v→B=B'
 | .int _ _,_,_,_,h,h'=>by simp only[Z6] at h h';rw[h.2,h'.2]
 | .bool _,_,_,_,h,h'=>by simp only[Z6] at h h';rw[h.2,h'.2]
 | .str _,_,_,_,h,h'=>by simp only[Z6] at h h';rw[h.2,h'.2]
 | .agg _,_,_,_,h,_=>by simp only[Z6] at h
 | .sl xs,B,B',v,h,h'=>by
  simp only[Z6] at h h';obtain⟨a,c,rfl,h2,h3⟩:=h;obtain⟨a',c',e,ag,ab⟩:=h';cases e;rcases h3 with ⟨hc,rfl⟩ | ⟨g,cur,e,Bs,rfl,hc,_,_,_,_,rfl,ad⟩<;>rcases ab with ⟨ae,rfl⟩ | ⟨g',af,e',ah,e1,ae,_,_,_,_,rfl,aa⟩
  ·rfl
  ·omega
  ·omega
  ·cases e1;rw[ZO.uniq ad aa]
theorem ZW.uniq:∀ {ds:List D} {B B' : List Nat} {vs:List Value},ZW w ns B ds vs→ZW w ns B' ds vs→B=B'
 | [],_,_,_,h,h'=>by simp only[ZW] at h h';rw[h.2,h'.2]
 | d :: ds,_,_,_,h,h'=>by
  simp only[ZW] at h h';obtain⟨v,r,B1,B2,rfl,rfl,h2,h3⟩:=h;obtain⟨v',r',ad,ae,e,rfl,aa,ab⟩:=h';cases e;rw[Z6.uniq h2 aa,ZW.uniq h3 ab]
theorem QJ.uniq:∀ {d:D} {B B' : List Nat} {vs:List Value},QJ w ns B d vs→QJ w ns B' d vs→B=B'
 | .int _ _,_,_,_,h,h'=>by simp only[QJ] at h h';rw[h.2,h'.2]
 | .bool _,_,_,_,h,h'=>by simp only[QJ] at h h';rw[h.2,h'.2]
 | .str _,_,_,_,h,h'=>by simp only[QJ] at h h';rw[h.2,h'.2]
 | .sl _,_,_,_,h,_=>by simp only[QJ] at h
 | .agg cs,_,_,_,h,h'=>by
  simp only[QJ] at h h';exact ZW.uniq h h'
theorem ZO.uniq {g sz:Nat}:∀ {xs:List D} {B B' : List Nat} {o:Nat},ZO w ns B g sz xs o→ZO w ns B' g sz xs o→B=B'
 | [],_,_,_,h,h'=>by simp only[ZO] at h h';rw[h,h']
 | d :: ds,_,_,_,h,h'=>by
  simp only[ZO] at h h';obtain⟨vs,B1,B2,rfl,h1,h2,h3,h4⟩:=h;obtain⟨ae,af,ag,rfl,ah,aa,ab,ad⟩:=h';cases Ql.uniq h2 aa (by omega);rw[QJ.uniq h3 ab,ZO.uniq h4 ad]
end
theorem ZW.length:∀ {ds:List D} {B:List Nat} {vs:List Value},ZW w ns B ds vs→vs.length=ds.length
 | [],_,_,h=>by simp only[ZW] at h;rw[h.1];rfl
 | d :: ds,_,_,h=>by
  simp only[ZW] at h;obtain⟨v,r,B1,B2,rfl,rfl,_,h3⟩:=h;simp[ZW.length h3]
theorem ZW.append:∀ {ds es:List D} {B B' : List Nat} {vs us:List Value},ZW w ns B ds vs→ZW w ns B' es us→ZW w ns (B++B') (ds++es) (vs++us)
 | [],_,_,_,_,_,h,h'=>by
  simp only[ZW] at h;obtain⟨rfl,rfl⟩:=h;simpa using h'
 | d :: ds,es,B,B',vs,us,h,h'=>by
  simp only[ZW] at h;obtain⟨v,r,B1,B2,rfl,rfl,h2,h3⟩:=h;simp only[KI,ZW];exact⟨v,r++us,B1,B2++B',rfl,by simp,h2,ZW.append h3 h'⟩
theorem ZW.split:∀ {ds es:List D} {B:List Nat} {vs:List Value},ZW w ns B (ds++es) vs→∃ B1 B2,B=B1++B2∧ZW w ns B1 ds (vs.take ds.length)∧ZW w ns B2 es (vs.drop ds.length)
 | [],es,B,vs,h=>⟨[],B,rfl,by simp[ZW],by simpa using h⟩
 | d :: ds,es,B,vs,h=>by
  simp only[KI,ZW] at h;obtain⟨v,r,B1,B2,rfl,rfl,h2,h3⟩:=h;obtain⟨C1,C2,rfl,g1,g2⟩:=ZW.split h3;refine⟨B1++C1,C2,by simp,?_,by simpa using g2⟩;simp only[Kp,List.take_succ_cons,ZW];exact⟨v,r.take ds.length,B1,C1,rfl,rfl,h2,g1⟩
theorem QJ.cells:∀ {d:D} {B:List Nat} {vs:List Value},QJ w ns B d vs→ZW w ns B d.cells vs
 | .int k n,B,vs,h=>by
  simp only[QJ] at h;obtain⟨rfl,rfl⟩:=h;simp only[D.cells,ZW,Z6];exact⟨_,[],[],[],rfl,rfl,⟨rfl,rfl⟩,rfl,rfl⟩
 | .bool b,B,vs,h=>by
  simp only[QJ] at h;obtain⟨rfl,rfl⟩:=h;simp only[D.cells,ZW,Z6];exact⟨_,[],[],[],rfl,rfl,⟨rfl,rfl⟩,rfl,rfl⟩
 | .str s,B,vs,h=>by
  simp only[QJ] at h;obtain⟨⟨t,rfl,ht⟩,rfl⟩:=h;simp only[D.cells,ZW,Z6];exact⟨_,[],[],[],rfl,rfl,⟨⟨t,rfl,ht⟩,rfl⟩,rfl,rfl⟩
 | .sl _,_,_,h=>by simp only[QJ] at h
 | .agg cs,B,vs,h=>by simp only[QJ] at h;exact h
theorem ZnD {cs:List D} {B:List Nat} {vs:List Value} (h:ZW w ns B cs vs):QJ w ns B (.agg cs) vs:=by simp only[QJ];exact h
theorem ZO.at {g sz:Nat}:∀ {xs:List D} {B:List Nat} {o i:Nat} {x:D},ZO w ns B g sz xs o→xs[i]?=some x→∃ vs B1 Bn B2,B=B1++Bn++B2∧vs.length=sz∧Ql w g (o+i*sz) vs∧QJ w ns Bn x vs ∧
  ∀ (w' : World) (aa : List Nat) (x' : D) (us:List Value),(∀ b∈B1++B2,w'.heap[b]?=w.heap[b]?)→(∀ p v,(p<o+i*sz∨o+i*sz+sz≤p)→w.cell? ⟨g,p,none⟩=some v→w'.cell? ⟨g,p,none⟩=some v) →
   us.length=sz→Ql w' g (o+i*sz) us→QJ w' ns aa x' us→ZO w' ns (B1++aa++B2) g sz (xs.set i x') o
 | [],_,_,_,_,_,hx=>by simp at hx
 | d :: ds,B,o,0,x,h,hx=>by
  simp only[Lr,Option.some.injEq] at hx;subst hx;simp only[ZO] at h;obtain⟨vs,B1,B2,rfl,h1,h2,h3,h4⟩:=h;refine⟨vs,[],B1,B2,by simp,h1,by simpa using h2,h3,fun w' aa x' us hk hc hl ab ht=>?_⟩;simp only[List.set_cons_zero,Lu,ZO];refine⟨us,aa,B2,rfl,hl,by simpa using ab,ht,?_⟩;have ad:∀ {ys:List D} {C:List Nat} {q:Nat},o+sz≤q→(∀ b∈C,b∈B2)→ZO w ns C g sz ys q→ZO w' ns C g sz ys q:=by
   intro ys
   induction ys with
   | nil=>intro C q _ _ h;simpa only[ZO] using h
   | cons y ys ih=>
    intro C q hq hC h;simp only[ZO] at h ⊢;obtain⟨ws,C1,C2,rfl,k1,k2,k3,k4⟩:=h;refine⟨ws,C1,C2,rfl,k1,fun j u hu=>?_,k3.mono fun b hb=>hk b (by simp[hC b (by simp[hb])]),ih (by omega) (fun b hb=>hC b (by simp[hb])) k4⟩;exact hc (q+j) u (.inr (by omega)) (k2 j u hu)
  exact ad (Kg _) (fun _ hb=>hb) h4
 | d :: ds,B,o,i+1,x,h,hx=>by
  simp only[Lg] at hx;simp only[ZO] at h;obtain⟨ws,C1,C2,rfl,h1,h2,h3,h4⟩:=h;obtain⟨vs,B1,Bn,B2,rfl,g1,g2,g3,g4⟩:=ZO.at h4 hx;have e:o+sz+i*sz=o+(i+1)*sz:=by rw[KA];omega
  rw[e] at g2 g4;refine⟨vs,C1++B1,Bn,B2,by simp,g1,g2,g3,fun w' aa x' us hk hc hl ab ht=>?_⟩;simp only[List.set_cons_succ,ZO];refine⟨ws,C1,B1++aa++B2,by simp,h1,fun j u hu=>?_,h3.mono fun b hb=>hk b (by simp[hb]),g4 w' aa x' us (fun b hb=>hk b (by
   simp only[Kd] at hb ⊢;rcases hb with hb | hb
   ·exact .inl (.inr hb)
   ·exact .inr hb)) hc hl ab ht⟩
  have hj:j<ws.length:=(Kc.1 hu).1;have:sz≤(i+1)*sz:=Nat.le_mul_of_pos_left sz (by omega);exact hc (o+j) u (.inl (by omega)) (h2 j u hu)
theorem ZO.length_le {g sz:Nat}:∀ {xs:List D} {B:List Nat} {o:Nat},ZO w ns B g sz xs o→∀ i,i<xs.length→∃ vs:List Value,vs.length=sz∧Ql w g (o+i*sz) vs
 | [],_,_,_,i,hi=>by simp at hi
 | d :: ds,B,o,h,0,_=>by
  simp only[ZO] at h;obtain⟨vs,B1,B2,rfl,h1,h2,_,_⟩:=h;exact⟨vs,h1,by simpa using h2⟩
 | d :: ds,B,o,h,i+1,hi=>by
  simp only[ZO] at h;obtain⟨vs,B1,B2,rfl,h1,h2,_,h4⟩:=h;obtain⟨us,g1,g2⟩:=ZO.length_le h4 i (by simpa using hi);refine⟨us,g1,?_⟩;have e:o+sz+i*sz=o+(i+1)*sz:=by rw[KA];omega
  rw[e] at g2;exact g2
theorem ZO.append {g sz:Nat}:∀ {xs ys:List D} {B B' : List Nat} {o:Nat},ZO w ns B g sz xs o→ZO w ns B' g sz ys (o+xs.length*sz)→ZO w ns (B++B') g sz (xs++ys) o
 | [],ys,B,B',o,h,h'=>by
  simp only[ZO] at h;subst h;simpa using h'
 | d :: ds,ys,B,B',o,h,h'=>by
  simp only[ZO] at h;obtain⟨vs,B1,B2,rfl,h1,h2,h3,h4⟩:=h;simp only[KI,ZO];refine⟨vs,B1,B2++B',by simp,h1,h2,h3,ZO.append h4 ?_⟩;have e:o+(d :: ds).length*sz=o+sz+ds.length*sz:=by rw[Kp,KA];omega
  rwa [e] at h'
theorem ZW.get:∀ {ds:List D} {B:List Nat} {vs:List Value} {j:Nat} {d:D},ZW w ns B ds vs→ds[j]?=some d→∃ v B1 Bn B2,vs[j]?=some v∧B=B1++Bn++B2∧Z6 w ns Bn d v
 | [],_,_,_,_,_,h=>by simp at h
 | e :: ds,B,vs,0,d,h,hd=>by
  simp only[Lr,Option.some.injEq] at hd;subst hd;simp only[ZW] at h;obtain⟨v,r,B1,B2,rfl,rfl,h2,h3⟩:=h;exact⟨v,[],B1,B2,rfl,by simp,h2⟩
 | e :: ds,B,vs,j+1,d,h,hd=>by
  simp only[Lg] at hd;simp only[ZW] at h;obtain⟨v,r,B1,B2,rfl,rfl,h2,h3⟩:=h;obtain⟨u,C1,Cn,C2,g1,rfl,g3⟩:=ZW.get h3 hd;exact⟨u,B1++C1,Cn,C2,by simpa using g1,by simp,g3⟩
theorem Z6.plain {S:Nat→Prop} {d:D} {B:List Nat} {v:Value} (h:Z6 w ns B d v) (hd:∀ ys,d≠.sl ys):B=[]∧d.plain=true∧ZF w S d [v]:=by
 cases d with
 | sl ys=>exact absurd rfl (hd ys)
 | agg cs=>simp only[Z6] at h
 | int k n=>simp only[Z6] at h;obtain⟨rfl,rfl⟩:=h;exact⟨rfl,rfl,rfl⟩
 | bool b=>simp only[Z6] at h;obtain⟨rfl,rfl⟩:=h;exact⟨rfl,rfl,rfl⟩
 | str s=>simp only[Z6] at h;obtain⟨⟨t,rfl,ht⟩,rfl⟩:=h;exact⟨rfl,rfl,t,rfl,ht⟩
end
end Go.Abs
