/- Own text. -/
import GoSem.Core.World
import Derived.Test.YtefabmohhbhlfaaAbsRun
import Derived.Below
set_option linter.unusedVariables false
set_option linter.unusedSimpArgs false
namespace Go.Abs
open Go
def gtabs:List (Nat×Array Value):=[]
end Go.Abs
set_option linter.unusedVariables false
set_option linter.unusedSimpArgs false
namespace Go.Abs
open Go
def Zq {α β:Type} (R:α→β→Prop):List α→List β→Prop
 | [],[]=>True
 | a :: as,b :: bs=>R a b∧Zq R as bs
 | _,_=>False
section
variable {α β:Type} {R R' : α→β→Prop}
theorem Zq.length:∀ {as:List α} {bs:List β},Zq R as bs→as.length=bs.length
 | [],[],_=>rfl
 | _ :: _,_ :: _,h=>congrArg (·+1) (Zq.length h.2)
 | [],_ :: _,h=>h.elim
 | _ :: _,[],h=>h.elim
theorem Zq.mono (hr:∀ a b,R a b→R' a b):∀ {as:List α} {bs:List β},Zq R as bs→Zq R' as bs
 | [],[],_=>trivial
 | _ :: _,_ :: _,h=>⟨hr _ _ h.1,Zq.mono hr h.2⟩
 | [],_ :: _,h=>h.elim
 | _ :: _,[],h=>h.elim
theorem Zq.get:∀ {as:List α} {bs:List β},Zq R as bs→∀ (i:Nat) (a:α),as[i]?=some a→∃ b,bs[i]?=some b∧R a b
 | [],[],_,i,a,h=>by simp at h
 | a :: as,b :: bs,h,0,a',ha=>by simp at ha;subst ha;exact⟨b,by simp,h.1⟩
 | a :: as,b :: bs,h,i+1,a',ha=>by simp at ha;obtain⟨b',h1,h2⟩:=Zq.get h.2 i a' ha;exact⟨b',by simp[h1],h2⟩
 | [],_ :: _,h,_,_,_=>h.elim
 | _ :: _,[],h,_,_,_=>h.elim
theorem Zq.get' : ∀ {as:List α} {bs:List β},Zq R as bs→∀ (i:Nat) (b:β),bs[i]?=some b→∃ a,as[i]?=some a∧R a b
 | [],[],_,i,a,h=>by simp at h
 | a :: as,b :: bs,h,0,b',hb=>by simp at hb;subst hb;exact⟨a,by simp,h.1⟩
 | a :: as,b :: bs,h,i+1,b',hb=>by simp at hb;obtain⟨a',h1,h2⟩:=Zq.get' h.2 i b' hb;exact⟨a',by simp[h1],h2⟩
 | [],_ :: _,h,_,_,_=>h.elim
 | _ :: _,[],h,_,_,_=>h.elim
theorem Zq.of_get:∀ {as:List α} {bs:List β},as.length=bs.length→(∀ (i:Nat) (a:α) (b:β),as[i]?=some a→bs[i]?=some b→R a b)→Zq R as bs
 | [],[],_,_=>trivial
 | a :: as,b :: bs,hl,h=>⟨h 0 a b (by simp) (by simp),Zq.of_get (by simpa using hl) fun i a' b' ha hb=>h (i+1) a' b' (by simpa using ha) (by simpa using hb)⟩
 | [],_ :: _,hl,_=>by simp at hl
 | _ :: _,[],hl,_=>by simp at hl
theorem Zq.append:∀ {as aa : List α} {bs ab : List β},Zq R as bs→Zq R aa ab→Zq R (as++aa) (bs++ab)
 | [],_,[],_,_,h'=>h'
 | _ :: _,_,_ :: _,_,h,h'=>⟨h.1,Zq.append h.2 h'⟩
 | [],_,_ :: _,_,h,_=>h.elim
 | _ :: _,_,[],_,h,_=>h.elim
theorem Zq.take (n:Nat):∀ {as:List α} {bs:List β},Zq R as bs→Zq R (as.take n) (bs.take n):=by
 induction n with
 | zero=>intro as bs _;simp[Zq]
 | succ n ih=>
  intro as bs h;cases as<;>cases bs
  ·simp[Zq]
  ·exact h.elim
  ·exact h.elim
  ·exact⟨h.1,ih h.2⟩
theorem Zq.drop (n:Nat):∀ {as:List α} {bs:List β},Zq R as bs→Zq R (as.drop n) (bs.drop n):=by
 induction n with
 | zero=>intro as bs h;simpa using h
 | succ n ih=>
  intro as bs h;cases as<;>cases bs
  ·simp[Zq]
  ·exact h.elim
  ·exact h.elim
  ·simpa using ih h.2
theorem Zq.map {γ δ:Type} {S:γ→δ→Prop} {f:α→γ} {g:β→δ} (hr:∀ a b,R a b→S (f a) (g b)):∀ {as:List α} {bs:List β},Zq R as bs→Zq S (as.map f) (bs.map g)
 | [],[],_=>trivial
 | _ :: _,_ :: _,h=>⟨hr _ _ h.1,Zq.map hr h.2⟩
 | [],_ :: _,h=>h.elim
 | _ :: _,[],h=>h.elim
theorem Zq.map_left {γ:Type} {S:γ→β→Prop} {f:α→γ} (hr:∀ a b,R a b→S (f a) b):∀ {as:List α} {bs:List β},Zq R as bs→Zq S (as.map f) bs
 | [],[],_=>trivial
 | _ :: _,_ :: _,h=>⟨hr _ _ h.1,Zq.map_left hr h.2⟩
 | [],_ :: _,h=>h.elim
 | _ :: _,[],h=>h.elim
theorem Zq.set {as:List α} {bs:List β} (h:Zq R as bs) (i:Nat) {a:α} {b:β} (aa:R a b):Zq R (as.set i a) (bs.set i b):=by
 refine Zq.of_get (by simp[h.length]) fun j a' b' ha hb=>?_;rw[LA] at ha hb;rw[h.length] at ha;split at ha
 ·split at ha
  ·rename_i h1 h2;subst h1;simp[h2] at ha hb;subst ha;rw[← hb];exact aa
  ·cases ha
 ·rename_i h1;simp[h1] at hb;obtain⟨ab,h2,h3⟩:=h.get j a' ha;rw[hb] at h2;cases h2;exact h3
end
def Z7 (w:World) (b o:Nat) (vs:List Value):Prop:=∀ j u,vs[j]?=some u→w.cell? ⟨b,o+j,none⟩=some u
theorem Z7.mono {w w' : World} {b o:Nat} {vs:List Value} (h:Z7 w b o vs) (hb:w'.heap[b]?=w.heap[b]?):Z7 w' b o vs:=
 fun j u hu=>(World.cell?_of_block (w:=w) (a:=⟨b,o+j,none⟩) hb).trans (h j u hu)
mutual
def ZH (w:World) (S:Nat→Prop):D→List Value→Prop
 | .int k n,vs=>vs=[.int k n]
 | .bool b,vs=>vs=[.bool b]
 | .str s,vs=>∃ t:ByteArray,vs=[.string t]∧t.data.toList=s
 | .sl xs,vs=>∃ a c,vs=[.slice a xs.length c]∧xs.length≤c∧(xs=[]∨∃ b o sz,a=some ⟨b,o,none⟩∧S b∧0<sz∧Vf w S b sz xs o)
 | .agg cs,vs=>Qu w S cs vs
def Qu (w:World) (S:Nat→Prop):List D→List Value→Prop
 | [],vs=>vs=[]
 | d :: ds,vs=>∃ v r,vs=v :: r∧d.one=true∧ZH w S d [v]∧Qu w S ds r
def Vf (w:World) (S:Nat→Prop) (b sz:Nat):List D→Nat→Prop
 | [],_=>True
 | d :: ds,o=>(∃ vs:List Value,vs.length=sz∧Z7 w b o vs∧ZH w S d vs)∧Vf w S b sz ds (o+sz)
end
section
variable {w:World} {S:Nat→Prop}
theorem QG:∀ {ds:List D} {vs:List Value},Qu w S ds vs↔Zq (fun d v=>d.one=true∧ZH w S d [v]) ds vs
 | [],[]=>by simp[Qu,Zq]
 | [],_ :: _=>by simp[Qu,Zq]
 | d :: ds,[]=>by simp[Qu,Zq]
 | d :: ds,v :: vs=>by
  simp only[Qu,Zq,QG (ds:=ds) (vs:=vs)];constructor
  ·rintro ⟨v',r,h,h1,h2,h3⟩
   cases h;exact⟨⟨h1,h2⟩,QG.1 h3⟩
  ·rintro ⟨⟨h1,h2⟩,h3⟩
   exact⟨v,vs,rfl,h1,h2,QG.2 h3⟩
theorem Xf {b sz:Nat}:∀ {xs:List D} {o:Nat},Vf w S b sz xs o ↔
  ∀ i x,xs[i]?=some x→∃ vs:List Value,vs.length=sz∧Z7 w b (o+i*sz) vs∧ZH w S x vs
 | [],o=>by simp[Vf]
 | d :: ds,o=>by
  simp only[Vf,Xf (xs:=ds)];constructor
  ·rintro ⟨h1,h2⟩ i x hx
   cases i with
   | zero=>simp at hx;subst hx;simpa using h1
   | succ i=>
    simp at hx;obtain⟨vs,h3,h4,h5⟩:=h2 i x hx;refine⟨vs,h3,?_,h5⟩;have:o+(i+1)*sz=o+sz+i*sz:=by rw[KG];omega
    rw[this];exact h4
  ·intro h;refine⟨by simpa using h 0 d (by simp),fun i x hx=>?_⟩;obtain⟨vs,h3,h4,h5⟩:=h (i+1) x (by simpa using hx);refine⟨vs,h3,?_,h5⟩;have:o+(i+1)*sz=o+sz+i*sz:=by rw[KG];omega
   rw[← this];exact h4
structure ZB (S S' : Nat→Prop) (w w' : World):Prop where
 sub:∀ b,S b→S' b
 blk:∀ b,S b→w'.heap[b]?=w.heap[b]?
mutual
theorem ZH.mono {w' : World} {S' : Nat→Prop} (hk:ZB S S' w w'):∀ {d:D} {vs:List Value},ZH w S d vs→ZH w' S' d vs
 | .int _ _,_,h=>by simpa [ZH] using h
 | .bool _,_,h=>by simpa [ZH] using h
 | .str _,_,h=>by simpa [ZH] using h
 | .sl xs,vs,h=>by
  simp only[ZH] at h ⊢;obtain⟨a,c,h1,h2,h3⟩:=h;refine⟨a,c,h1,h2,?_⟩;rcases h3 with h3 | ⟨b,o,sz,h4,h5,h6,h7⟩
  ·exact .inl h3
  ·exact .inr ⟨b,o,sz,h4,hk.sub b h5,h6,Vf.mono hk h5 h7⟩
 | .agg cs,vs,h=>by
  simp only[ZH] at h ⊢;exact Qu.mono hk h
theorem Qu.mono {w' : World} {S' : Nat→Prop} (hk:ZB S S' w w'):∀ {ds:List D} {vs:List Value},Qu w S ds vs→Qu w' S' ds vs
 | [],_,h=>by simpa [Qu] using h
 | d :: ds,vs,h=>by
  simp only[Qu] at h ⊢;obtain⟨v,r,h1,h2,h3,h4⟩:=h;exact⟨v,r,h1,h2,ZH.mono hk h3,Qu.mono hk h4⟩
theorem Vf.mono {w' : World} {S' : Nat→Prop} (hk:ZB S S' w w') {b sz:Nat} (hb:S b):∀ {ds:List D} {o:Nat},Vf w S b sz ds o→Vf w' S' b sz ds o
 | [],_,_=>by simp[Vf]
 | d :: ds,o,h=>by
  simp only[Vf] at h ⊢;obtain⟨⟨vs,h1,h2,h3⟩,h4⟩:=h;exact⟨⟨vs,h1,h2.mono (hk.blk b hb),ZH.mono hk h3⟩,Vf.mono hk hb h4⟩
end
theorem Vf.mono' {w' : World} {S' : Nat→Prop} (hk:ZB S S' w w') {b sz:Nat} (hb:w'.heap[b]?=w.heap[b]?) {ds:List D} {o:Nat} (h:Vf w S b sz ds o):Vf w' S' b sz ds o:=by
 rw[Xf] at h ⊢;intro i x hx;obtain⟨vs,h1,h2,h3⟩:=h i x hx;exact⟨vs,h1,h2.mono hb,h3.mono hk⟩
theorem Qu.length {ds:List D} {vs:List Value} (h:Qu w S ds vs):ds.length=vs.length:=(QG.1 h).length
theorem ZH.length {d:D} {vs:List Value} (h:ZH w S d vs):vs.length=d.cells.length:=by
 cases d<;>simp only[ZH] at h
 ·subst h;rfl
 ·subst h;rfl
 ·obtain⟨t,rfl,_⟩:=h;rfl
 ·obtain⟨a,c,rfl,_⟩:=h;rfl
 ·exact h.length.symm
theorem ZH.cells {d:D} {vs:List Value} (h:ZH w S d vs):Qu w S d.cells vs:=by
 cases d<;>simp only[D.cells,Qu]
 ·simp only[ZH] at h;subst h;exact⟨_,[],rfl,rfl,by simp[ZH],rfl⟩
 ·simp only[ZH] at h;subst h;exact⟨_,[],rfl,rfl,by simp[ZH],rfl⟩
 ·have h':=h;simp only[ZH] at h;obtain⟨t,rfl,_⟩:=h;exact⟨_,[],rfl,rfl,h',rfl⟩
 ·have h':=h;simp only[ZH] at h;obtain⟨a,c,rfl,_⟩:=h;exact⟨_,[],rfl,rfl,h',rfl⟩
 ·simpa [ZH] using h
end
end Go.Abs
set_option linter.unusedVariables false
set_option linter.unusedSimpArgs false
namespace Go.Abs
open Go
def plainV:D→Option Value
 | .int k n=>some (.int k n)
 | .bool b=>some (.bool b)
 | _=>none
mutual
def Z6 (w:World) (ns:Nat) (B:List Nat):D→Value→Prop
 | .int k n,v=>v=.int k n∧B=[]
 | .bool b,v=>v=.bool b∧B=[]
 | .str s,v=>(∃ t:ByteArray,v=.string t∧t.data.toList=s)∧B=[]
 | .sl xs,v=>∃ a c,v=.slice a xs.length c∧xs.length≤c∧((c=0∧B=[]) ∨
   ∃ g cur e Bs,a=some ⟨g,0,none⟩∧0<c∧w.heap[g]?=some (.cells cur e (0,0))∧c≤maxLen∧cur.size=c*ns∧0<ns∧B=g :: Bs∧ZK w ns Bs g ns xs 0)
 | .agg _,_=>False
def ZV (w:World) (ns:Nat) (B:List Nat):List D→List Value→Prop
 | [],vs=>vs=[]∧B=[]
 | d :: ds,vs=>∃ v r B1 B2,vs=v :: r∧B=B1++B2∧Z6 w ns B1 d v∧ZV w ns B2 ds r
def QH (w:World) (ns:Nat) (B:List Nat):D→List Value→Prop
 | .agg cs,vs=>ZV w ns B cs vs
 | .int k n,vs=>vs=[.int k n]∧B=[]
 | .bool b,vs=>vs=[.bool b]∧B=[]
 | .str s,vs=>(∃ t:ByteArray,vs=[.string t]∧t.data.toList=s)∧B=[]
 | .sl _,_=>False
def ZK (w:World) (ns:Nat) (B:List Nat) (g sz:Nat):List D→Nat→Prop
 | [],_=>B=[]
 | d :: ds,o=>∃ vs B1 B2,B=B1++B2∧vs.length=sz∧Z7 w g o vs∧QH w ns B1 d vs∧ZK w ns B2 g sz ds (o+sz)
end
section
variable {w w' : World} {ns:Nat}
mutual
theorem Z6.mono:∀ {d:D} {B:List Nat} {v:Value},Z6 w ns B d v→(∀ b∈B,w'.heap[b]?=w.heap[b]?)→Z6 w' ns B d v
 | .int _ _,_,_,h,_=>by simpa only[Z6] using h
 | .bool _,_,_,h,_=>by simpa only[Z6] using h
 | .str _,_,_,h,_=>by simpa only[Z6] using h
 | .agg _,_,_,h,_=>by simp only[Z6] at h
 | .sl xs,B,v,h,hk=>by
  simp only[Z6] at h ⊢;obtain⟨a,c,h1,h2,h3⟩:=h;refine⟨a,c,h1,h2,?_⟩;rcases h3 with h3 | ⟨g,cur,e,Bs,h4,h5,h6,h7,h8,h9,rfl,aa⟩
  ·exact .inl h3
  ·exact .inr ⟨g,cur,e,Bs,h4,h5,(hk g (by simp)).trans h6,h7,h8,h9,rfl,ZK.mono aa (hk g (by simp)) fun b hb=>hk b (by simp[hb])⟩
theorem ZV.mono:∀ {ds:List D} {B:List Nat} {vs:List Value},ZV w ns B ds vs→(∀ b∈B,w'.heap[b]?=w.heap[b]?)→ZV w' ns B ds vs
 | [],_,_,h,_=>by simpa only[ZV] using h
 | d :: ds,B,vs,h,hk=>by
  simp only[ZV] at h ⊢;obtain⟨v,r,B1,B2,h1,rfl,h2,h3⟩:=h;exact⟨v,r,B1,B2,h1,rfl,Z6.mono h2 fun b hb=>hk b (by simp[hb]),ZV.mono h3 fun b hb=>hk b (by simp[hb])⟩
theorem QH.mono:∀ {d:D} {B:List Nat} {vs:List Value},QH w ns B d vs→(∀ b∈B,w'.heap[b]?=w.heap[b]?)→QH w' ns B d vs
 | .int _ _,_,_,h,_=>by simpa only[QH] using h
 | .bool _,_,_,h,_=>by simpa only[QH] using h
 | .str _,_,_,h,_=>by simpa only[QH] using h
 | .sl _,_,_,h,_=>by simp only[QH] at h
 | .agg cs,_,_,h,hk=>by
  simp only[QH] at h ⊢;exact ZV.mono h hk
theorem ZK.mono {g sz:Nat}:∀ {xs:List D} {B:List Nat} {o:Nat},ZK w ns B g sz xs o→w'.heap[g]?=w.heap[g]?→(∀ b∈B,w'.heap[b]?=w.heap[b]?)→ZK w' ns B g sz xs o
 | [],_,_,h,_,_=>by simpa only[ZK] using h
 | d :: ds,B,o,h,hg,hk=>by
  simp only[ZK] at h ⊢;obtain⟨vs,B1,B2,rfl,h1,h2,h3,h4⟩:=h;exact⟨vs,B1,B2,rfl,h1,h2.mono hg,QH.mono h3 fun b hb=>hk b (by simp[hb]),ZK.mono h4 hg fun b hb=>hk b (by simp[hb])⟩
end
mutual
theorem Z6.rep {S:Nat→Prop}:∀ {d:D} {B:List Nat} {v:Value},Z6 w ns B d v→(∀ b∈B,S b)→d.one=true∧ZH w S d [v]
 | .int _ _,_,_,h,_=>by simp only[Z6] at h;exact⟨rfl,by rw[h.1];rfl⟩
 | .bool _,_,_,h,_=>by simp only[Z6] at h;exact⟨rfl,by rw[h.1];rfl⟩
 | .str _,_,_,h,_=>by
  simp only[Z6] at h;obtain⟨⟨t,rfl,h⟩,_⟩:=h;exact⟨rfl,t,rfl,h⟩
 | .agg _,_,_,h,_=>by simp only[Z6] at h
 | .sl xs,B,v,h,hk=>by
  simp only[Z6] at h;obtain⟨a,c,rfl,h2,h3⟩:=h;refine⟨rfl,?_⟩;simp only[ZH];refine⟨a,c,rfl,h2,?_⟩;rcases h3 with ⟨rfl,_⟩ | ⟨g,cur,e,Bs,h4,h5,h6,h7,h8,h9,rfl,aa⟩
  ·exact .inl (Km (by omega))
  ·exact .inr ⟨g,0,ns,h4,hk g (by simp),h9,ZK.rep aa fun b hb=>hk b (by simp[hb])⟩
theorem ZV.rep {S:Nat→Prop}:∀ {ds:List D} {B:List Nat} {vs:List Value},ZV w ns B ds vs→(∀ b∈B,S b)→Qu w S ds vs
 | [],_,_,h,_=>by simp only[ZV] at h;simp only[Qu];exact h.1
 | d :: ds,B,vs,h,hk=>by
  simp only[ZV] at h;obtain⟨v,r,B1,B2,rfl,rfl,h2,h3⟩:=h;simp only[Qu];obtain⟨g1,g2⟩:=Z6.rep (S:=S) h2 fun b hb=>hk b (by simp[hb]);exact⟨v,r,rfl,g1,g2,ZV.rep h3 fun b hb=>hk b (by simp[hb])⟩
theorem QH.rep {S:Nat→Prop}:∀ {d:D} {B:List Nat} {vs:List Value},QH w ns B d vs→(∀ b∈B,S b)→ZH w S d vs
 | .int _ _,_,_,h,_=>by simp only[QH] at h;simp only[ZH];exact h.1
 | .bool _,_,_,h,_=>by simp only[QH] at h;simp only[ZH];exact h.1
 | .str _,_,_,h,_=>by simp only[QH] at h;simp only[ZH];exact h.1
 | .sl _,_,_,h,_=>by simp only[QH] at h
 | .agg cs,_,_,h,hk=>by
  simp only[QH] at h;simp only[ZH];exact ZV.rep h hk
theorem ZK.rep {S:Nat→Prop} {g sz:Nat}:∀ {xs:List D} {B:List Nat} {o:Nat},ZK w ns B g sz xs o→(∀ b∈B,S b)→Vf w S g sz xs o
 | [],_,_,_,_=>by simp only[Vf]
 | d :: ds,B,o,h,hk=>by
  simp only[ZK] at h;obtain⟨vs,B1,B2,rfl,h1,h2,h3,h4⟩:=h;simp only[Vf];exact⟨⟨vs,h1,h2,QH.rep h3 fun b hb=>hk b (by simp[hb])⟩,ZK.rep h4 fun b hb=>hk b (by simp[hb])⟩
end
mutual
theorem Z6.lt:∀ {d:D} {B:List Nat} {v:Value},Z6 w ns B d v→∀ b∈B,b<w.heap.size
 | .int _ _,_,_,h,b,hb=>by simp only[Z6] at h;rw[h.2] at hb;simp at hb
 | .bool _,_,_,h,b,hb=>by simp only[Z6] at h;rw[h.2] at hb;simp at hb
 | .str _,_,_,h,b,hb=>by simp only[Z6] at h;rw[h.2] at hb;simp at hb
 | .agg _,_,_,h,_,_=>by simp only[Z6] at h
 | .sl xs,B,v,h,b,hb=>by
  simp only[Z6] at h;obtain⟨a,c,_,_,h3⟩:=h;rcases h3 with ⟨_,rfl⟩ | ⟨g,cur,e,Bs,_,_,h6,_,_,_,rfl,aa⟩
  ·simp at hb
  ·rcases Kf.1 hb with rfl | hb
   ·exact(KF.1 h6).1
   ·exact ZK.lt aa b hb
theorem ZV.lt:∀ {ds:List D} {B:List Nat} {vs:List Value},ZV w ns B ds vs→∀ b∈B,b<w.heap.size
 | [],_,_,h,b,hb=>by simp only[ZV] at h;rw[h.2] at hb;simp at hb
 | d :: ds,_,_,h,b,hb=>by
  simp only[ZV] at h;obtain⟨v,r,B1,B2,rfl,rfl,h2,h3⟩:=h;rcases Kd.1 hb with hb | hb
  ·exact Z6.lt h2 b hb
  ·exact ZV.lt h3 b hb
theorem QH.lt:∀ {d:D} {B:List Nat} {vs:List Value},QH w ns B d vs→∀ b∈B,b<w.heap.size
 | .int _ _,_,_,h,b,hb=>by simp only[QH] at h;rw[h.2] at hb;simp at hb
 | .bool _,_,_,h,b,hb=>by simp only[QH] at h;rw[h.2] at hb;simp at hb
 | .str _,_,_,h,b,hb=>by simp only[QH] at h;rw[h.2] at hb;simp at hb
 | .sl _,_,_,h,_,_=>by simp only[QH] at h
 | .agg cs,_,_,h,b,hb=>by
  simp only[QH] at h;exact ZV.lt h b hb
theorem ZK.lt {g sz:Nat}:∀ {xs:List D} {B:List Nat} {o:Nat},ZK w ns B g sz xs o→∀ b∈B,b<w.heap.size
 | [],_,_,h,b,hb=>by simp only[ZK] at h;rw[h] at hb;simp at hb
 | d :: ds,_,_,h,b,hb=>by
  simp only[ZK] at h;obtain⟨vs,B1,B2,rfl,h1,h2,h3,h4⟩:=h;rcases Kd.1 hb with hb | hb
  ·exact QH.lt h3 b hb
  ·exact ZK.lt h4 b hb
end
theorem Z7.uniq {b o:Nat}:∀ {vs us:List Value},Z7 w b o vs→Z7 w b o us→vs.length=us.length→vs=us:=by
 intro vs us h h' hl;refine Lj fun j=>?_;rcases KZ j vs.length with hj | hj
 ·have h1:=h j _ (Kz hj);have h2:=h' j _ (Kz (by omega:j<us.length));rw[h1] at h2;rw[Kz hj,Kz (by omega:j<us.length)];exact h2
 ·rw[KR hj,KR (by omega)]
mutual
theorem Z6.uniq:∀ {d:D} {B B' : List Nat} {v:Value},Z6 w ns B d v→Z6 w ns B' d v→B=B'
 | .int _ _,_,_,_,h,h'=>by simp only[Z6] at h h';rw[h.2,h'.2]
 | .bool _,_,_,_,h,h'=>by simp only[Z6] at h h';rw[h.2,h'.2]
 | .str _,_,_,_,h,h'=>by simp only[Z6] at h h';rw[h.2,h'.2]
 | .agg _,_,_,_,h,_=>by simp only[Z6] at h
 | .sl xs,B,B',v,h,h'=>by
  simp only[Z6] at h h';obtain⟨a,c,rfl,h2,h3⟩:=h;obtain⟨a',c',e,ag,ab⟩:=h';cases e;rcases h3 with ⟨hc,rfl⟩ | ⟨g,cur,e,Bs,rfl,hc,_,_,_,_,rfl,ad⟩<;>rcases ab with ⟨ae,rfl⟩ | ⟨g',af,e',ah,e1,ae,_,_,_,_,rfl,aa⟩
  ·rfl
  ·omega
  ·omega
  ·cases e1;rw[ZK.uniq ad aa]
theorem ZV.uniq:∀ {ds:List D} {B B' : List Nat} {vs:List Value},ZV w ns B ds vs→ZV w ns B' ds vs→B=B'
 | [],_,_,_,h,h'=>by simp only[ZV] at h h';rw[h.2,h'.2]
 | d :: ds,_,_,_,h,h'=>by
  simp only[ZV] at h h';obtain⟨v,r,B1,B2,rfl,rfl,h2,h3⟩:=h;obtain⟨v',r',ad,ae,e,rfl,aa,ab⟩:=h';cases e;rw[Z6.uniq h2 aa,ZV.uniq h3 ab]
theorem QH.uniq:∀ {d:D} {B B' : List Nat} {vs:List Value},QH w ns B d vs→QH w ns B' d vs→B=B'
 | .int _ _,_,_,_,h,h'=>by simp only[QH] at h h';rw[h.2,h'.2]
 | .bool _,_,_,_,h,h'=>by simp only[QH] at h h';rw[h.2,h'.2]
 | .str _,_,_,_,h,h'=>by simp only[QH] at h h';rw[h.2,h'.2]
 | .sl _,_,_,_,h,_=>by simp only[QH] at h
 | .agg cs,_,_,_,h,h'=>by
  simp only[QH] at h h';exact ZV.uniq h h'
theorem ZK.uniq {g sz:Nat}:∀ {xs:List D} {B B' : List Nat} {o:Nat},ZK w ns B g sz xs o→ZK w ns B' g sz xs o→B=B'
 | [],_,_,_,h,h'=>by simp only[ZK] at h h';rw[h,h']
 | d :: ds,_,_,_,h,h'=>by
  simp only[ZK] at h h';obtain⟨vs,B1,B2,rfl,h1,h2,h3,h4⟩:=h;obtain⟨ae,af,ag,rfl,ah,aa,ab,ad⟩:=h';cases Z7.uniq h2 aa (by omega);rw[QH.uniq h3 ab,ZK.uniq h4 ad]
end
theorem ZV.length:∀ {ds:List D} {B:List Nat} {vs:List Value},ZV w ns B ds vs→vs.length=ds.length
 | [],_,_,h=>by simp only[ZV] at h;rw[h.1];rfl
 | d :: ds,_,_,h=>by
  simp only[ZV] at h;obtain⟨v,r,B1,B2,rfl,rfl,_,h3⟩:=h;simp[ZV.length h3]
theorem ZV.append:∀ {ds es:List D} {B B' : List Nat} {vs us:List Value},ZV w ns B ds vs→ZV w ns B' es us→ZV w ns (B++B') (ds++es) (vs++us)
 | [],_,_,_,_,_,h,h'=>by
  simp only[ZV] at h;obtain⟨rfl,rfl⟩:=h;simpa using h'
 | d :: ds,es,B,B',vs,us,h,h'=>by
  simp only[ZV] at h;obtain⟨v,r,B1,B2,rfl,rfl,h2,h3⟩:=h;simp only[KL,ZV];exact⟨v,r++us,B1,B2++B',rfl,by simp,h2,ZV.append h3 h'⟩
theorem ZV.split:∀ {ds es:List D} {B:List Nat} {vs:List Value},ZV w ns B (ds++es) vs→∃ B1 B2,B=B1++B2∧ZV w ns B1 ds (vs.take ds.length)∧ZV w ns B2 es (vs.drop ds.length)
 | [],es,B,vs,h=>⟨[],B,rfl,by simp[ZV],by simpa using h⟩
 | d :: ds,es,B,vs,h=>by
  simp only[KL,ZV] at h;obtain⟨v,r,B1,B2,rfl,rfl,h2,h3⟩:=h;obtain⟨C1,C2,rfl,g1,g2⟩:=ZV.split h3;refine⟨B1++C1,C2,by simp,?_,by simpa using g2⟩;simp only[Kg,List.take_succ_cons,ZV];exact⟨v,r.take ds.length,B1,C1,rfl,rfl,h2,g1⟩
theorem QH.cells:∀ {d:D} {B:List Nat} {vs:List Value},QH w ns B d vs→ZV w ns B d.cells vs
 | .int k n,B,vs,h=>by
  simp only[QH] at h;obtain⟨rfl,rfl⟩:=h;simp only[D.cells,ZV,Z6];exact⟨_,[],[],[],rfl,rfl,⟨rfl,rfl⟩,rfl,rfl⟩
 | .bool b,B,vs,h=>by
  simp only[QH] at h;obtain⟨rfl,rfl⟩:=h;simp only[D.cells,ZV,Z6];exact⟨_,[],[],[],rfl,rfl,⟨rfl,rfl⟩,rfl,rfl⟩
 | .str s,B,vs,h=>by
  simp only[QH] at h;obtain⟨⟨t,rfl,ht⟩,rfl⟩:=h;simp only[D.cells,ZV,Z6];exact⟨_,[],[],[],rfl,rfl,⟨⟨t,rfl,ht⟩,rfl⟩,rfl,rfl⟩
 | .sl _,_,_,h=>by simp only[QH] at h
 | .agg cs,B,vs,h=>by simp only[QH] at h;exact h
theorem ZhO {cs:List D} {B:List Nat} {vs:List Value} (h:ZV w ns B cs vs):QH w ns B (.agg cs) vs:=by simp only[QH];exact h
theorem ZK.at {g sz:Nat}:∀ {xs:List D} {B:List Nat} {o i:Nat} {x:D},ZK w ns B g sz xs o→xs[i]?=some x→∃ vs B1 Bn B2,B=B1++Bn++B2∧vs.length=sz∧Z7 w g (o+i*sz) vs∧QH w ns Bn x vs ∧
  ∀ (w' : World) (aa : List Nat) (x' : D) (us:List Value),(∀ b∈B1++B2,w'.heap[b]?=w.heap[b]?)→(∀ p v,(p<o+i*sz∨o+i*sz+sz≤p)→w.cell? ⟨g,p,none⟩=some v→w'.cell? ⟨g,p,none⟩=some v) →
   us.length=sz→Z7 w' g (o+i*sz) us→QH w' ns aa x' us→ZK w' ns (B1++aa++B2) g sz (xs.set i x') o
 | [],_,_,_,_,_,hx=>by simp at hx
 | d :: ds,B,o,0,x,h,hx=>by
  simp only[LU,Option.some.injEq] at hx;subst hx;simp only[ZK] at h;obtain⟨vs,B1,B2,rfl,h1,h2,h3,h4⟩:=h;refine⟨vs,[],B1,B2,by simp,h1,by simpa using h2,h3,fun w' aa x' us hk hc hl ab ht=>?_⟩;simp only[List.set_cons_zero,K4,ZK];refine⟨us,aa,B2,rfl,hl,by simpa using ab,ht,?_⟩;have ad:∀ {ys:List D} {C:List Nat} {q:Nat},o+sz≤q→(∀ b∈C,b∈B2)→ZK w ns C g sz ys q→ZK w' ns C g sz ys q:=by
   intro ys
   induction ys with
   | nil=>intro C q _ _ h;simpa only[ZK] using h
   | cons y ys ih=>
    intro C q hq hC h;simp only[ZK] at h ⊢;obtain⟨ws,C1,C2,rfl,k1,k2,k3,k4⟩:=h;refine⟨ws,C1,C2,rfl,k1,fun j u hu=>?_,k3.mono fun b hb=>hk b (by simp[hC b (by simp[hb])]),ih (by omega) (fun b hb=>hC b (by simp[hb])) k4⟩;exact hc (q+j) u (.inr (by omega)) (k2 j u hu)
  exact ad (Kh _) (fun _ hb=>hb) h4
 | d :: ds,B,o,i+1,x,h,hx=>by
  simp only[Lb] at hx;simp only[ZK] at h;obtain⟨ws,C1,C2,rfl,h1,h2,h3,h4⟩:=h;obtain⟨vs,B1,Bn,B2,rfl,g1,g2,g3,g4⟩:=ZK.at h4 hx;have e:o+sz+i*sz=o+(i+1)*sz:=by rw[KG];omega
  rw[e] at g2 g4;refine⟨vs,C1++B1,Bn,B2,by simp,g1,g2,g3,fun w' aa x' us hk hc hl ab ht=>?_⟩;simp only[List.set_cons_succ,ZK];refine⟨ws,C1,B1++aa++B2,by simp,h1,fun j u hu=>?_,h3.mono fun b hb=>hk b (by simp[hb]),g4 w' aa x' us (fun b hb=>hk b (by
   simp only[Kd] at hb ⊢;rcases hb with hb | hb
   ·exact .inl (.inr hb)
   ·exact .inr hb)) hc hl ab ht⟩
  have hj:j<ws.length:=(Kc.1 hu).1;have:sz≤(i+1)*sz:=Nat.le_mul_of_pos_left sz (by omega);exact hc (o+j) u (.inl (by omega)) (h2 j u hu)
theorem ZK.length_le {g sz:Nat}:∀ {xs:List D} {B:List Nat} {o:Nat},ZK w ns B g sz xs o→∀ i,i<xs.length→∃ vs:List Value,vs.length=sz∧Z7 w g (o+i*sz) vs
 | [],_,_,_,i,hi=>by simp at hi
 | d :: ds,B,o,h,0,_=>by
  simp only[ZK] at h;obtain⟨vs,B1,B2,rfl,h1,h2,_,_⟩:=h;exact⟨vs,h1,by simpa using h2⟩
 | d :: ds,B,o,h,i+1,hi=>by
  simp only[ZK] at h;obtain⟨vs,B1,B2,rfl,h1,h2,_,h4⟩:=h;obtain⟨us,g1,g2⟩:=ZK.length_le h4 i (by simpa using hi);refine⟨us,g1,?_⟩;have e:o+sz+i*sz=o+(i+1)*sz:=by rw[KG];omega
  rw[e] at g2;exact g2
theorem ZK.append {g sz:Nat}:∀ {xs ys:List D} {B B' : List Nat} {o:Nat},ZK w ns B g sz xs o→ZK w ns B' g sz ys (o+xs.length*sz)→ZK w ns (B++B') g sz (xs++ys) o
 | [],ys,B,B',o,h,h'=>by
  simp only[ZK] at h;subst h;simpa using h'
 | d :: ds,ys,B,B',o,h,h'=>by
  simp only[ZK] at h;obtain⟨vs,B1,B2,rfl,h1,h2,h3,h4⟩:=h;simp only[KL,ZK];refine⟨vs,B1,B2++B',by simp,h1,h2,h3,ZK.append h4 ?_⟩;have e:o+(d :: ds).length*sz=o+sz+ds.length*sz:=by rw[Kg,KG];omega
  rwa [e] at h'
theorem ZV.get:∀ {ds:List D} {B:List Nat} {vs:List Value} {j:Nat} {d:D},ZV w ns B ds vs→ds[j]?=some d→∃ v B1 Bn B2,vs[j]?=some v∧B=B1++Bn++B2∧Z6 w ns Bn d v
 | [],_,_,_,_,_,h=>by simp at h
 | e :: ds,B,vs,0,d,h,hd=>by
  simp only[LU,Option.some.injEq] at hd;subst hd;simp only[ZV] at h;obtain⟨v,r,B1,B2,rfl,rfl,h2,h3⟩:=h;exact⟨v,[],B1,B2,rfl,by simp,h2⟩
 | e :: ds,B,vs,j+1,d,h,hd=>by
  simp only[Lb] at hd;simp only[ZV] at h;obtain⟨v,r,B1,B2,rfl,rfl,h2,h3⟩:=h;obtain⟨u,C1,Cn,C2,g1,rfl,g3⟩:=ZV.get h3 hd;exact⟨u,B1++C1,Cn,C2,by simpa using g1,by simp,g3⟩
theorem Z6.plain {S:Nat→Prop} {d:D} {B:List Nat} {v:Value} (h:Z6 w ns B d v) (hd:∀ ys,d≠.sl ys):B=[]∧d.plain=true∧ZH w S d [v]:=by
 cases d with
 | sl ys=>exact absurd rfl (hd ys)
 | agg cs=>simp only[Z6] at h
 | int k n=>simp only[Z6] at h;obtain⟨rfl,rfl⟩:=h;exact⟨rfl,rfl,rfl⟩
 | bool b=>simp only[Z6] at h;obtain⟨rfl,rfl⟩:=h;exact⟨rfl,rfl,rfl⟩
 | str s=>simp only[Z6] at h;obtain⟨⟨t,rfl,ht⟩,rfl⟩:=h;exact⟨rfl,rfl,t,rfl,ht⟩
end
end Go.Abs
