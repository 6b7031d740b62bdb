/- Own text. -/
import Derived.Test.YtighjmleicikhaaAbsRep0
set_option linter.unusedVariables false
set_option linter.unusedSimpArgs false
namespace Go.Abs
open Go
def plainV:D→Option Value
 | .int k n=>some (.int k n)
 | .bool b=>some (.bool b)
 | _=>none
mutual
def ZT (w:World) (ns:Nat) (B:List Nat):D→Value→Prop
 | .int k n,v=>v=.int k n∧B=[]
 | .bool b,v=>v=.bool b∧B=[]
 | .str s,v=>(∃ t:ByteArray,v=.string t∧t.data.toList=s)∧B=[]
 | .sl xs,v=>∃ a c,v=.slice a xs.length c∧xs.length≤c∧((c=0∧B=[]) ∨
   ∃ g cur e Bs,a=some ⟨g,0,none⟩∧0<c∧w.heap[g]?=some (.cells cur e (0,0))∧c≤maxLen∧cur.size=c*ns∧0<ns∧B=g :: Bs∧ZE w ns Bs g ns xs 0)
 | .agg _,_=>False
def ZM (w:World) (ns:Nat) (B:List Nat):List D→List Value→Prop
 | [],vs=>vs=[]∧B=[]
 | d :: ds,vs=>∃ v r B1 B2,vs=v :: r∧B=B1++B2∧ZT w ns B1 d v∧ZM w ns B2 ds r
def Qr (w:World) (ns:Nat) (B:List Nat):D→List Value→Prop
 | .agg cs,vs=>ZM w ns B cs vs
 | .int k n,vs=>vs=[.int k n]∧B=[]
 | .bool b,vs=>vs=[.bool b]∧B=[]
 | .str s,vs=>(∃ t:ByteArray,vs=[.string t]∧t.data.toList=s)∧B=[]
 | .sl _,_=>False
def ZE (w:World) (ns:Nat) (B:List Nat) (g sz:Nat):List D→Nat→Prop
 | [],_=>B=[]
 | d :: ds,o=>∃ vs B1 B2,B=B1++B2∧vs.length=sz∧ZU w g o vs∧Qr w ns B1 d vs∧ZE w ns B2 g sz ds (o+sz)
end
section
variable {w w' : World} {ns:Nat}
mutual
theorem ZT.mono:∀ {d:D} {B:List Nat} {v:Value},ZT w ns B d v→(∀ b∈B,w'.heap[b]?=w.heap[b]?)→ZT w' ns B d v
 | .int _ _,_,_,h,_=>by simpa only[ZT] using h
 | .bool _,_,_,h,_=>by simpa only[ZT] using h
 | .str _,_,_,h,_=>by simpa only[ZT] using h
 | .agg _,_,_,h,_=>by simp only[ZT] at h
 | .sl xs,B,v,h,hk=>by
  simp only[ZT] at h ⊢;obtain⟨a,c,h1,h2,h3⟩:=h;refine⟨a,c,h1,h2,?_⟩;rcases h3 with h3 | ⟨g,cur,e,Bs,h4,h5,h6,h7,h8,h9,rfl,aa⟩
  ·exact .inl h3
  ·exact .inr ⟨g,cur,e,Bs,h4,h5,(hk g (by simp)).trans h6,h7,h8,h9,rfl,ZE.mono aa (hk g (by simp)) fun b hb=>hk b (by simp[hb])⟩
theorem ZM.mono:∀ {ds:List D} {B:List Nat} {vs:List Value},ZM w ns B ds vs→(∀ b∈B,w'.heap[b]?=w.heap[b]?)→ZM w' ns B ds vs
 | [],_,_,h,_=>by simpa only[ZM] using h
 | d :: ds,B,vs,h,hk=>by
  simp only[ZM] at h ⊢;obtain⟨v,r,B1,B2,h1,rfl,h2,h3⟩:=h;exact⟨v,r,B1,B2,h1,rfl,ZT.mono h2 fun b hb=>hk b (by simp[hb]),ZM.mono h3 fun b hb=>hk b (by simp[hb])⟩
theorem Qr.mono:∀ {d:D} {B:List Nat} {vs:List Value},Qr w ns B d vs→(∀ b∈B,w'.heap[b]?=w.heap[b]?)→Qr w' ns B d vs
 | .int _ _,_,_,h,_=>by simpa only[Qr] using h
 | .bool _,_,_,h,_=>by simpa only[Qr] using h
 | .str _,_,_,h,_=>by simpa only[Qr] using h
 | .sl _,_,_,h,_=>by simp only[Qr] at h
 | .agg cs,_,_,h,hk=>by
  simp only[Qr] at h ⊢;exact ZM.mono h hk
theorem ZE.mono {g sz:Nat}:∀ {xs:List D} {B:List Nat} {o:Nat},ZE w ns B g sz xs o→w'.heap[g]?=w.heap[g]?→(∀ b∈B,w'.heap[b]?=w.heap[b]?)→ZE w' ns B g sz xs o
 | [],_,_,h,_,_=>by simpa only[ZE] using h
 | d :: ds,B,o,h,hg,hk=>by
  simp only[ZE] at h ⊢;obtain⟨vs,B1,B2,rfl,h1,h2,h3,h4⟩:=h;exact⟨vs,B1,B2,rfl,h1,h2.mono hg,Qr.mono h3 fun b hb=>hk b (by simp[hb]),ZE.mono h4 hg fun b hb=>hk b (by simp[hb])⟩
end
mutual
theorem ZT.rep {S:Nat→Prop}:∀ {d:D} {B:List Nat} {v:Value},ZT w ns B d v→(∀ b∈B,S b)→d.one=true∧Zx w S d [v]
 | .int _ _,_,_,h,_=>by simp only[ZT] at h;exact⟨rfl,by rw[h.1];rfl⟩
 | .bool _,_,_,h,_=>by simp only[ZT] at h;exact⟨rfl,by rw[h.1];rfl⟩
 | .str _,_,_,h,_=>by
  simp only[ZT] at h;obtain⟨⟨t,rfl,h⟩,_⟩:=h;exact⟨rfl,t,rfl,h⟩
 | .agg _,_,_,h,_=>by simp only[ZT] at h
 | .sl xs,B,v,h,hk=>by
  simp only[ZT] at h;obtain⟨a,c,rfl,h2,h3⟩:=h;refine⟨rfl,?_⟩;simp only[Zx];refine⟨a,c,rfl,h2,?_⟩;rcases h3 with ⟨rfl,_⟩ | ⟨g,cur,e,Bs,h4,h5,h6,h7,h8,h9,rfl,aa⟩
  ·exact .inl (Kf (by omega))
  ·exact .inr ⟨g,0,ns,h4,hk g (by simp),h9,ZE.rep aa fun b hb=>hk b (by simp[hb])⟩
theorem ZM.rep {S:Nat→Prop}:∀ {ds:List D} {B:List Nat} {vs:List Value},ZM w ns B ds vs→(∀ b∈B,S b)→Qg w S ds vs
 | [],_,_,h,_=>by simp only[ZM] at h;simp only[Qg];exact h.1
 | d :: ds,B,vs,h,hk=>by
  simp only[ZM] at h;obtain⟨v,r,B1,B2,rfl,rfl,h2,h3⟩:=h;simp only[Qg];obtain⟨g1,g2⟩:=ZT.rep (S:=S) h2 fun b hb=>hk b (by simp[hb]);exact⟨v,r,rfl,g1,g2,ZM.rep h3 fun b hb=>hk b (by simp[hb])⟩
theorem Qr.rep {S:Nat→Prop}:∀ {d:D} {B:List Nat} {vs:List Value},Qr w ns B d vs→(∀ b∈B,S b)→Zx w S d vs
 | .int _ _,_,_,h,_=>by simp only[Qr] at h;simp only[Zx];exact h.1
 | .bool _,_,_,h,_=>by simp only[Qr] at h;simp only[Zx];exact h.1
 | .str _,_,_,h,_=>by simp only[Qr] at h;simp only[Zx];exact h.1
 | .sl _,_,_,h,_=>by simp only[Qr] at h
 | .agg cs,_,_,h,hk=>by
  simp only[Qr] at h;simp only[Zx];exact ZM.rep h hk
theorem ZE.rep {S:Nat→Prop} {g sz:Nat}:∀ {xs:List D} {B:List Nat} {o:Nat},ZE w ns B g sz xs o→(∀ b∈B,S b)→Yk w S g sz xs o
 | [],_,_,_,_=>by simp only[Yk]
 | d :: ds,B,o,h,hk=>by
  simp only[ZE] at h;obtain⟨vs,B1,B2,rfl,h1,h2,h3,h4⟩:=h;simp only[Yk];exact⟨⟨vs,h1,h2,Qr.rep h3 fun b hb=>hk b (by simp[hb])⟩,ZE.rep h4 fun b hb=>hk b (by simp[hb])⟩
end
mutual
theorem ZT.lt:∀ {d:D} {B:List Nat} {v:Value},ZT w ns B d v→∀ b∈B,b<w.heap.size
 | .int _ _,_,_,h,b,hb=>by simp only[ZT] at h;rw[h.2] at hb;simp at hb
 | .bool _,_,_,h,b,hb=>by simp only[ZT] at h;rw[h.2] at hb;simp at hb
 | .str _,_,_,h,b,hb=>by simp only[ZT] at h;rw[h.2] at hb;simp at hb
 | .agg _,_,_,h,_,_=>by simp only[ZT] at h
 | .sl xs,B,v,h,b,hb=>by
  simp only[ZT] at h;obtain⟨a,c,_,_,h3⟩:=h;rcases h3 with ⟨_,rfl⟩ | ⟨g,cur,e,Bs,_,_,h6,_,_,_,rfl,aa⟩
  ·simp at hb
  ·rcases Ke.1 hb with rfl | hb
   ·exact(Ks.1 h6).1
   ·exact ZE.lt aa b hb
theorem ZM.lt:∀ {ds:List D} {B:List Nat} {vs:List Value},ZM w ns B ds vs→∀ b∈B,b<w.heap.size
 | [],_,_,h,b,hb=>by simp only[ZM] at h;rw[h.2] at hb;simp at hb
 | d :: ds,_,_,h,b,hb=>by
  simp only[ZM] at h;obtain⟨v,r,B1,B2,rfl,rfl,h2,h3⟩:=h;rcases Kd.1 hb with hb | hb
  ·exact ZT.lt h2 b hb
  ·exact ZM.lt h3 b hb
theorem Qr.lt:∀ {d:D} {B:List Nat} {vs:List Value},Qr w ns B d vs→∀ b∈B,b<w.heap.size
 | .int _ _,_,_,h,b,hb=>by simp only[Qr] at h;rw[h.2] at hb;simp at hb
 | .bool _,_,_,h,b,hb=>by simp only[Qr] at h;rw[h.2] at hb;simp at hb
 | .str _,_,_,h,b,hb=>by simp only[Qr] at h;rw[h.2] at hb;simp at hb
 | .sl _,_,_,h,_,_=>by simp only[Qr] at h
 | .agg cs,_,_,h,b,hb=>by
  simp only[Qr] at h;exact ZM.lt h b hb
theorem ZE.lt {g sz:Nat}:∀ {xs:List D} {B:List Nat} {o:Nat},ZE w ns B g sz xs o→∀ b∈B,b<w.heap.size
 | [],_,_,h,b,hb=>by simp only[ZE] at h;rw[h] at hb;simp at hb
 | d :: ds,_,_,h,b,hb=>by
  simp only[ZE] at h;obtain⟨vs,B1,B2,rfl,h1,h2,h3,h4⟩:=h;rcases Kd.1 hb with hb | hb
  ·exact Qr.lt h3 b hb
  ·exact ZE.lt h4 b hb
end
theorem ZU.uniq {b o:Nat}:∀ {vs us:List Value},ZU w b o vs→ZU w b o us→vs.length=us.length→vs=us:=by
 intro vs us h h' hl;refine Ld fun j=>?_;rcases KN j vs.length with hj | hj
 ·have h1:=h j _ (Kj hj);have h2:=h' j _ (Kj (by omega:j<us.length));rw[h1] at h2;rw[Kj hj,Kj (by omega:j<us.length)];exact h2
 ·rw[KH hj,KH (by omega)]
mutual
theorem ZT.uniq:∀ {d:D} {B B' : List Nat} {v:Value},ZT w ns B d v→ZT w ns B' d v→B=B'
 | .int _ _,_,_,_,h,h'=>by simp only[ZT] at h h';rw[h.2,h'.2]
 | .bool _,_,_,_,h,h'=>by simp only[ZT] at h h';rw[h.2,h'.2]
 | .str _,_,_,_,h,h'=>by simp only[ZT] at h h';rw[h.2,h'.2]
 | .agg _,_,_,_,h,_=>by simp only[ZT] at h
 | .sl xs,B,B',v,h,h'=>by
  simp only[ZT] at h h';obtain⟨a,c,rfl,h2,h3⟩:=h;obtain⟨a',c',e,ag,ab⟩:=h';cases e;rcases h3 with ⟨hc,rfl⟩ | ⟨g,cur,e,Bs,rfl,hc,_,_,_,_,rfl,ad⟩<;>rcases ab with ⟨ae,rfl⟩ | ⟨g',af,e',ah,e1,ae,_,_,_,_,rfl,aa⟩
  ·rfl
  ·omega
  ·omega
  ·cases e1;rw[ZE.uniq ad aa]
theorem ZM.uniq:∀ {ds:List D} {B B' : List Nat} {vs:List Value},ZM w ns B ds vs→ZM w ns B' ds vs→B=B'
 | [],_,_,_,h,h'=>by simp only[ZM] at h h';rw[h.2,h'.2]
 | d :: ds,_,_,_,h,h'=>by
  simp only[ZM] at h h';obtain⟨v,r,B1,B2,rfl,rfl,h2,h3⟩:=h;obtain⟨v',r',ad,ae,e,rfl,aa,ab⟩:=h';cases e;rw[ZT.uniq h2 aa,ZM.uniq h3 ab]
theorem Qr.uniq:∀ {d:D} {B B' : List Nat} {vs:List Value},Qr w ns B d vs→Qr w ns B' d vs→B=B'
 | .int _ _,_,_,_,h,h'=>by simp only[Qr] at h h';rw[h.2,h'.2]
 | .bool _,_,_,_,h,h'=>by simp only[Qr] at h h';rw[h.2,h'.2]
 | .str _,_,_,_,h,h'=>by simp only[Qr] at h h';rw[h.2,h'.2]
 | .sl _,_,_,_,h,_=>by simp only[Qr] at h
 | .agg cs,_,_,_,h,h'=>by
  simp only[Qr] at h h';exact ZM.uniq h h'
theorem ZE.uniq {g sz:Nat}:∀ {xs:List D} {B B' : List Nat} {o:Nat},ZE w ns B g sz xs o→ZE w ns B' g sz xs o→B=B'
 | [],_,_,_,h,h'=>by simp only[ZE] at h h';rw[h,h']
 | d :: ds,_,_,_,h,h'=>by
  simp only[ZE] at h h';obtain⟨vs,B1,B2,rfl,h1,h2,h3,h4⟩:=h;obtain⟨ae,af,ag,rfl,ah,aa,ab,ad⟩:=h';cases ZU.uniq h2 aa (by omega);rw[Qr.uniq h3 ab,ZE.uniq h4 ad]
end
theorem ZM.length:∀ {ds:List D} {B:List Nat} {vs:List Value},ZM w ns B ds vs→vs.length=ds.length
 | [],_,_,h=>by simp only[ZM] at h;rw[h.1];rfl
 | d :: ds,_,_,h=>by
  simp only[ZM] at h;obtain⟨v,r,B1,B2,rfl,rfl,_,h3⟩:=h;simp[ZM.length h3]
theorem ZM.append:∀ {ds es:List D} {B B' : List Nat} {vs us:List Value},ZM w ns B ds vs→ZM w ns B' es us→ZM w ns (B++B') (ds++es) (vs++us)
 | [],_,_,_,_,_,h,h'=>by
  simp only[ZM] at h;obtain⟨rfl,rfl⟩:=h;simpa using h'
 | d :: ds,es,B,B',vs,us,h,h'=>by
  simp only[ZM] at h;obtain⟨v,r,B1,B2,rfl,rfl,h2,h3⟩:=h;simp only[KX,ZM];exact⟨v,r++us,B1,B2++B',rfl,by simp,h2,ZM.append h3 h'⟩
theorem ZM.split:∀ {ds es:List D} {B:List Nat} {vs:List Value},ZM w ns B (ds++es) vs→∃ B1 B2,B=B1++B2∧ZM w ns B1 ds (vs.take ds.length)∧ZM w ns B2 es (vs.drop ds.length)
 | [],es,B,vs,h=>⟨[],B,rfl,by simp[ZM],by simpa using h⟩
 | d :: ds,es,B,vs,h=>by
  simp only[KX,ZM] at h;obtain⟨v,r,B1,B2,rfl,rfl,h2,h3⟩:=h;obtain⟨C1,C2,rfl,g1,g2⟩:=ZM.split h3;refine⟨B1++C1,C2,by simp,?_,by simpa using g2⟩;simp only[Kv,List.take_succ_cons,ZM];exact⟨v,r.take ds.length,B1,C1,rfl,rfl,h2,g1⟩
theorem Qr.cells:∀ {d:D} {B:List Nat} {vs:List Value},Qr w ns B d vs→ZM w ns B d.cells vs
 | .int k n,B,vs,h=>by
  simp only[Qr] at h;obtain⟨rfl,rfl⟩:=h;simp only[D.cells,ZM,ZT];exact⟨_,[],[],[],rfl,rfl,⟨rfl,rfl⟩,rfl,rfl⟩
 | .bool b,B,vs,h=>by
  simp only[Qr] at h;obtain⟨rfl,rfl⟩:=h;simp only[D.cells,ZM,ZT];exact⟨_,[],[],[],rfl,rfl,⟨rfl,rfl⟩,rfl,rfl⟩
 | .str s,B,vs,h=>by
  simp only[Qr] at h;obtain⟨⟨t,rfl,ht⟩,rfl⟩:=h;simp only[D.cells,ZM,ZT];exact⟨_,[],[],[],rfl,rfl,⟨⟨t,rfl,ht⟩,rfl⟩,rfl,rfl⟩
 | .sl _,_,_,h=>by simp only[Qr] at h
 | .agg cs,B,vs,h=>by simp only[Qr] at h;exact h
theorem ZiZ {cs:List D} {B:List Nat} {vs:List Value} (h:ZM w ns B cs vs):Qr w ns B (.agg cs) vs:=by simp only[Qr];exact h
theorem ZE.at {g sz:Nat}:∀ {xs:List D} {B:List Nat} {o i:Nat} {x:D},ZE w ns B g sz xs o→xs[i]?=some x→∃ vs B1 Bn B2,B=B1++Bn++B2∧vs.length=sz∧ZU w g (o+i*sz) vs∧Qr w ns Bn x vs ∧
  ∀ (w' : World) (aa : List Nat) (x' : D) (us:List Value),(∀ b∈B1++B2,w'.heap[b]?=w.heap[b]?)→(∀ p v,(p<o+i*sz∨o+i*sz+sz≤p)→w.cell? ⟨g,p,none⟩=some v→w'.cell? ⟨g,p,none⟩=some v) →
   us.length=sz→ZU w' g (o+i*sz) us→Qr w' ns aa x' us→ZE w' ns (B1++aa++B2) g sz (xs.set i x') o
 | [],_,_,_,_,_,hx=>by simp at hx
 | d :: ds,B,o,0,x,h,hx=>by
  simp only[Lh,Option.some.injEq] at hx;subst hx;simp only[ZE] at h;obtain⟨vs,B1,B2,rfl,h1,h2,h3,h4⟩:=h;refine⟨vs,[],B1,B2,by simp,h1,by simpa using h2,h3,fun w' aa x' us hk hc hl ab ht=>?_⟩;simp only[List.set_cons_zero,KW,ZE];refine⟨us,aa,B2,rfl,hl,by simpa using ab,ht,?_⟩;have ad:∀ {ys:List D} {C:List Nat} {q:Nat},o+sz≤q→(∀ b∈C,b∈B2)→ZE w ns C g sz ys q→ZE w' ns C g sz ys q:=by
   intro ys
   induction ys with
   | nil=>intro C q _ _ h;simpa only[ZE] using h
   | cons y ys ih=>
    intro C q hq hC h;simp only[ZE] at h ⊢;obtain⟨ws,C1,C2,rfl,k1,k2,k3,k4⟩:=h;refine⟨ws,C1,C2,rfl,k1,fun j u hu=>?_,k3.mono fun b hb=>hk b (by simp[hC b (by simp[hb])]),ih (by omega) (fun b hb=>hC b (by simp[hb])) k4⟩;exact hc (q+j) u (.inr (by omega)) (k2 j u hu)
  exact ad (Kg _) (fun _ hb=>hb) h4
 | d :: ds,B,o,i+1,x,h,hx=>by
  simp only[K6] at hx;simp only[ZE] at h;obtain⟨ws,C1,C2,rfl,h1,h2,h3,h4⟩:=h;obtain⟨vs,B1,Bn,B2,rfl,g1,g2,g3,g4⟩:=ZE.at h4 hx;have e:o+sz+i*sz=o+(i+1)*sz:=by rw[KA];omega
  rw[e] at g2 g4;refine⟨vs,C1++B1,Bn,B2,by simp,g1,g2,g3,fun w' aa x' us hk hc hl ab ht=>?_⟩;simp only[List.set_cons_succ,ZE];refine⟨ws,C1,B1++aa++B2,by simp,h1,fun j u hu=>?_,h3.mono fun b hb=>hk b (by simp[hb]),g4 w' aa x' us (fun b hb=>hk b (by
   simp only[Kd] at hb ⊢;rcases hb with hb | hb
   ·exact .inl (.inr hb)
   ·exact .inr hb)) hc hl ab ht⟩
  have hj:j<ws.length:=(Kb.1 hu).1;have:sz≤(i+1)*sz:=Nat.le_mul_of_pos_left sz (by omega);exact hc (o+j) u (.inl (by omega)) (h2 j u hu)
theorem ZE.length_le {g sz:Nat}:∀ {xs:List D} {B:List Nat} {o:Nat},ZE w ns B g sz xs o→∀ i,i<xs.length→∃ vs:List Value,vs.length=sz∧ZU w g (o+i*sz) vs
 | [],_,_,_,i,hi=>by simp at hi
 | d :: ds,B,o,h,0,_=>by
  simp only[ZE] at h;obtain⟨vs,B1,B2,rfl,h1,h2,_,_⟩:=h;exact⟨vs,h1,by simpa using h2⟩
 | d :: ds,B,o,h,i+1,hi=>by
  simp only[ZE] at h;obtain⟨vs,B1,B2,rfl,h1,h2,_,h4⟩:=h;obtain⟨us,g1,g2⟩:=ZE.length_le h4 i (by simpa using hi);refine⟨us,g1,?_⟩;have e:o+sz+i*sz=o+(i+1)*sz:=by rw[KA];omega
  rw[e] at g2;exact g2
theorem ZE.append {g sz:Nat}:∀ {xs ys:List D} {B B' : List Nat} {o:Nat},ZE w ns B g sz xs o→ZE w ns B' g sz ys (o+xs.length*sz)→ZE w ns (B++B') g sz (xs++ys) o
 | [],ys,B,B',o,h,h'=>by
  simp only[ZE] at h;subst h;simpa using h'
 | d :: ds,ys,B,B',o,h,h'=>by
  simp only[ZE] at h;obtain⟨vs,B1,B2,rfl,h1,h2,h3,h4⟩:=h;simp only[KX,ZE];refine⟨vs,B1,B2++B',by simp,h1,h2,h3,ZE.append h4 ?_⟩;have e:o+(d :: ds).length*sz=o+sz+ds.length*sz:=by rw[Kv,KA];omega
  rwa [e] at h'
theorem ZM.get:∀ {ds:List D} {B:List Nat} {vs:List Value} {j:Nat} {d:D},ZM w ns B ds vs→ds[j]?=some d→∃ v B1 Bn B2,vs[j]?=some v∧B=B1++Bn++B2∧ZT w ns Bn d v
 | [],_,_,_,_,_,h=>by simp at h
 | e :: ds,B,vs,0,d,h,hd=>by
  simp only[Lh,Option.some.injEq] at hd;subst hd;simp only[ZM] at h;obtain⟨v,r,B1,B2,rfl,rfl,h2,h3⟩:=h;exact⟨v,[],B1,B2,rfl,by simp,h2⟩
 | e :: ds,B,vs,j+1,d,h,hd=>by
  simp only[K6] at hd;simp only[ZM] at h;obtain⟨v,r,B1,B2,rfl,rfl,h2,h3⟩:=h;obtain⟨u,C1,Cn,C2,g1,rfl,g3⟩:=ZM.get h3 hd;exact⟨u,B1++C1,Cn,C2,by simpa using g1,by simp,g3⟩
theorem ZT.plain {S:Nat→Prop} {d:D} {B:List Nat} {v:Value} (h:ZT w ns B d v) (hd:∀ ys,d≠.sl ys):B=[]∧d.plain=true∧Zx w S d [v]:=by
 cases d with
 | sl ys=>exact absurd rfl (hd ys)
 | agg cs=>simp only[ZT] at h
 | int k n=>simp only[ZT] at h;obtain⟨rfl,rfl⟩:=h;exact⟨rfl,rfl,rfl⟩
 | bool b=>simp only[ZT] at h;obtain⟨rfl,rfl⟩:=h;exact⟨rfl,rfl,rfl⟩
 | str s=>simp only[ZT] at h;obtain⟨⟨t,rfl,ht⟩,rfl⟩:=h;exact⟨rfl,rfl,t,rfl,ht⟩
end
end Go.Abs
