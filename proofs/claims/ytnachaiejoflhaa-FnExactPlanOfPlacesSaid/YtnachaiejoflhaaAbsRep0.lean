/- Own text. -/
import GoSem.Core.World
import Derived.Test.YtnachaiejoflhaaAbsRun
import Derived.Below
set_option linter.unusedVariables false
set_option linter.unusedSimpArgs false
namespace Go.Abs
open Go
def gtabs:List (Nat×Array Value):=[]
end Go.Abs
set_option linter.unusedVariables false
set_option linter.unusedSimpArgs false
namespace Go.Abs
open Go
def Zm {α β:Type} (R:α→β→Prop):List α→List β→Prop
 | [],[]=>True
 | a :: as,b :: bs=>R a b∧Zm R as bs
 | _,_=>False
section
variable {α β:Type} {R R' : α→β→Prop}
theorem Zm.length:∀ {as:List α} {bs:List β},Zm R as bs→as.length=bs.length
 | [],[],_=>rfl
 | _ :: _,_ :: _,h=>congrArg (·+1) (Zm.length h.2)
 | [],_ :: _,h=>h.elim
 | _ :: _,[],h=>h.elim
theorem Zm.mono (hr:∀ a b,R a b→R' a b):∀ {as:List α} {bs:List β},Zm R as bs→Zm R' as bs
 | [],[],_=>trivial
 | _ :: _,_ :: _,h=>⟨hr _ _ h.1,Zm.mono hr h.2⟩
 | [],_ :: _,h=>h.elim
 | _ :: _,[],h=>h.elim
theorem Zm.get:∀ {as:List α} {bs:List β},Zm R as bs→∀ (i:Nat) (a:α),as[i]?=some a→∃ b,bs[i]?=some b∧R a b
 | [],[],_,i,a,h=>by simp at h
 | a :: as,b :: bs,h,0,a',ha=>by simp at ha;subst ha;exact⟨b,by simp,h.1⟩
 | a :: as,b :: bs,h,i+1,a',ha=>by simp at ha;obtain⟨b',h1,h2⟩:=Zm.get h.2 i a' ha;exact⟨b',by simp[h1],h2⟩
 | [],_ :: _,h,_,_,_=>h.elim
 | _ :: _,[],h,_,_,_=>h.elim
theorem Zm.get' : ∀ {as:List α} {bs:List β},Zm R as bs→∀ (i:Nat) (b:β),bs[i]?=some b→∃ a,as[i]?=some a∧R a b
 | [],[],_,i,a,h=>by simp at h
 | a :: as,b :: bs,h,0,b',hb=>by simp at hb;subst hb;exact⟨a,by simp,h.1⟩
 | a :: as,b :: bs,h,i+1,b',hb=>by simp at hb;obtain⟨a',h1,h2⟩:=Zm.get' h.2 i b' hb;exact⟨a',by simp[h1],h2⟩
 | [],_ :: _,h,_,_,_=>h.elim
 | _ :: _,[],h,_,_,_=>h.elim
theorem Zm.of_get:∀ {as:List α} {bs:List β},as.length=bs.length→(∀ (i:Nat) (a:α) (b:β),as[i]?=some a→bs[i]?=some b→R a b)→Zm R as bs
 | [],[],_,_=>trivial
 | a :: as,b :: bs,hl,h=>⟨h 0 a b (by simp) (by simp),Zm.of_get (by simpa using hl) fun i a' b' ha hb=>h (i+1) a' b' (by simpa using ha) (by simpa using hb)⟩
 | [],_ :: _,hl,_=>by simp at hl
 | _ :: _,[],hl,_=>by simp at hl
theorem Zm.append:∀ {as aa : List α} {bs ab : List β},Zm R as bs→Zm R aa ab→Zm R (as++aa) (bs++ab)
 | [],_,[],_,_,h'=>h'
 | _ :: _,_,_ :: _,_,h,h'=>⟨h.1,Zm.append h.2 h'⟩
 | [],_,_ :: _,_,h,_=>h.elim
 | _ :: _,_,[],_,h,_=>h.elim
theorem Zm.take (n:Nat):∀ {as:List α} {bs:List β},Zm R as bs→Zm R (as.take n) (bs.take n):=by
 induction n with
 | zero=>intro as bs _;simp[Zm]
 | succ n ih=>
  intro as bs h;cases as<;>cases bs
  ·simp[Zm]
  ·exact h.elim
  ·exact h.elim
  ·exact⟨h.1,ih h.2⟩
theorem Zm.drop (n:Nat):∀ {as:List α} {bs:List β},Zm R as bs→Zm R (as.drop n) (bs.drop n):=by
 induction n with
 | zero=>intro as bs h;simpa using h
 | succ n ih=>
  intro as bs h;cases as<;>cases bs
  ·simp[Zm]
  ·exact h.elim
  ·exact h.elim
  ·simpa using ih h.2
theorem Zm.map {γ δ:Type} {S:γ→δ→Prop} {f:α→γ} {g:β→δ} (hr:∀ a b,R a b→S (f a) (g b)):∀ {as:List α} {bs:List β},Zm R as bs→Zm S (as.map f) (bs.map g)
 | [],[],_=>trivial
 | _ :: _,_ :: _,h=>⟨hr _ _ h.1,Zm.map hr h.2⟩
 | [],_ :: _,h=>h.elim
 | _ :: _,[],h=>h.elim
theorem Zm.map_left {γ:Type} {S:γ→β→Prop} {f:α→γ} (hr:∀ a b,R a b→S (f a) b):∀ {as:List α} {bs:List β},Zm R as bs→Zm S (as.map f) bs
 | [],[],_=>trivial
 | _ :: _,_ :: _,h=>⟨hr _ _ h.1,Zm.map_left hr h.2⟩
 | [],_ :: _,h=>h.elim
 | _ :: _,[],h=>h.elim
theorem Zm.set {as:List α} {bs:List β} (h:Zm R as bs) (i:Nat) {a:α} {b:β} (aa:R a b):Zm R (as.set i a) (bs.set i b):=by
 refine Zm.of_get (by simp[h.length]) fun j a' b' ha hb=>?_;rw[List.getElem?_set] at ha hb;rw[h.length] at ha;split at ha
 ·split at ha
  ·rename_i h1 h2;subst h1;simp[h2] at ha hb;subst ha;rw[← hb];exact aa
  ·cases ha
 ·rename_i h1;simp[h1] at hb;obtain⟨ab,h2,h3⟩:=h.get j a' ha;rw[hb] at h2;cases h2;exact h3
end
def Qc (w:World) (b o:Nat) (vs:List Value):Prop:=∀ j u,vs[j]?=some u→w.cell? ⟨b,o+j,none⟩=some u
theorem Qc.mono {w w' : World} {b o:Nat} {vs:List Value} (h:Qc w b o vs) (hb:w'.heap[b]?=w.heap[b]?):Qc w' b o vs:=
 fun j u hu=>(World.cell?_of_block (w:=w) (a:=⟨b,o+j,none⟩) hb).trans (h j u hu)
mutual
def Zv (w:World) (S:Nat→Prop):D→List Value→Prop
 | .int k n,vs=>vs=[.int k n]
 | .bool b,vs=>vs=[.bool b]
 | .str s,vs=>∃ t:ByteArray,vs=[.string t]∧t.data.toList=s
 | .sl xs,vs=>∃ a c,vs=[.slice a xs.length c]∧xs.length≤c∧(xs=[]∨∃ b o sz,a=some ⟨b,o,none⟩∧S b∧0<sz∧YE w S b sz xs o)
 | .agg cs,vs=>Z8 w S cs vs
def Z8 (w:World) (S:Nat→Prop):List D→List Value→Prop
 | [],vs=>vs=[]
 | d :: ds,vs=>∃ v r,vs=v :: r∧d.one=true∧Zv w S d [v]∧Z8 w S ds r
def YE (w:World) (S:Nat→Prop) (b sz:Nat):List D→Nat→Prop
 | [],_=>True
 | d :: ds,o=>(∃ vs:List Value,vs.length=sz∧Qc w b o vs∧Zv w S d vs)∧YE w S b sz ds (o+sz)
end
section
variable {w:World} {S:Nat→Prop}
theorem Qi:∀ {ds:List D} {vs:List Value},Z8 w S ds vs↔Zm (fun d v=>d.one=true∧Zv w S d [v]) ds vs
 | [],[]=>by simp[Z8,Zm]
 | [],_ :: _=>by simp[Z8,Zm]
 | d :: ds,[]=>by simp[Z8,Zm]
 | d :: ds,v :: vs=>by
  simp only[Z8,Zm,Qi (ds:=ds) (vs:=vs)];constructor
  ·rintro ⟨v',r,h,h1,h2,h3⟩
   cases h;exact⟨⟨h1,h2⟩,Qi.1 h3⟩
  ·rintro ⟨⟨h1,h2⟩,h3⟩
   exact⟨v,vs,rfl,h1,h2,Qi.2 h3⟩
theorem QV {b sz:Nat}:∀ {xs:List D} {o:Nat},YE w S b sz xs o ↔
  ∀ i x,xs[i]?=some x→∃ vs:List Value,vs.length=sz∧Qc w b (o+i*sz) vs∧Zv w S x vs
 | [],o=>by simp[YE]
 | d :: ds,o=>by
  simp only[YE,QV (xs:=ds)];constructor
  ·rintro ⟨h1,h2⟩ i x hx
   cases i with
   | zero=>simp at hx;subst hx;simpa using h1
   | succ i=>
    simp at hx;obtain⟨vs,h3,h4,h5⟩:=h2 i x hx;refine⟨vs,h3,?_,h5⟩;have:o+(i+1)*sz=o+sz+i*sz:=by rw[KA];omega
    rw[this];exact h4
  ·intro h;refine⟨by simpa using h 0 d (by simp),fun i x hx=>?_⟩;obtain⟨vs,h3,h4,h5⟩:=h (i+1) x (by simpa using hx);refine⟨vs,h3,?_,h5⟩;have:o+(i+1)*sz=o+sz+i*sz:=by rw[KA];omega
   rw[← this];exact h4
structure Zx (S S' : Nat→Prop) (w w' : World):Prop where
 sub:∀ b,S b→S' b
 blk:∀ b,S b→w'.heap[b]?=w.heap[b]?
mutual
theorem Zv.mono {w' : World} {S' : Nat→Prop} (hk:Zx S S' w w'):∀ {d:D} {vs:List Value},Zv w S d vs→Zv w' S' d vs
 | .int _ _,_,h=>by simpa [Zv] using h
 | .bool _,_,h=>by simpa [Zv] using h
 | .str _,_,h=>by simpa [Zv] using h
 | .sl xs,vs,h=>by
  simp only[Zv] at h ⊢;obtain⟨a,c,h1,h2,h3⟩:=h;refine⟨a,c,h1,h2,?_⟩;rcases h3 with h3 | ⟨b,o,sz,h4,h5,h6,h7⟩
  ·exact .inl h3
  ·exact .inr ⟨b,o,sz,h4,hk.sub b h5,h6,YE.mono hk h5 h7⟩
 | .agg cs,vs,h=>by
  simp only[Zv] at h ⊢;exact Z8.mono hk h
theorem Z8.mono {w' : World} {S' : Nat→Prop} (hk:Zx S S' w w'):∀ {ds:List D} {vs:List Value},Z8 w S ds vs→Z8 w' S' ds vs
 | [],_,h=>by simpa [Z8] using h
 | d :: ds,vs,h=>by
  simp only[Z8] at h ⊢;obtain⟨v,r,h1,h2,h3,h4⟩:=h;exact⟨v,r,h1,h2,Zv.mono hk h3,Z8.mono hk h4⟩
theorem YE.mono {w' : World} {S' : Nat→Prop} (hk:Zx S S' w w') {b sz:Nat} (hb:S b):∀ {ds:List D} {o:Nat},YE w S b sz ds o→YE w' S' b sz ds o
 | [],_,_=>by simp[YE]
 | d :: ds,o,h=>by
  simp only[YE] at h ⊢;obtain⟨⟨vs,h1,h2,h3⟩,h4⟩:=h;exact⟨⟨vs,h1,h2.mono (hk.blk b hb),Zv.mono hk h3⟩,YE.mono hk hb h4⟩
end
theorem YE.mono' {w' : World} {S' : Nat→Prop} (hk:Zx S S' w w') {b sz:Nat} (hb:w'.heap[b]?=w.heap[b]?) {ds:List D} {o:Nat} (h:YE w S b sz ds o):YE w' S' b sz ds o:=by
 rw[QV] at h ⊢;intro i x hx;obtain⟨vs,h1,h2,h3⟩:=h i x hx;exact⟨vs,h1,h2.mono hb,h3.mono hk⟩
theorem Z8.length {ds:List D} {vs:List Value} (h:Z8 w S ds vs):ds.length=vs.length:=(Qi.1 h).length
theorem Zv.length {d:D} {vs:List Value} (h:Zv w S d vs):vs.length=d.cells.length:=by
 cases d<;>simp only[Zv] at h
 ·subst h;rfl
 ·subst h;rfl
 ·obtain⟨t,rfl,_⟩:=h;rfl
 ·obtain⟨a,c,rfl,_⟩:=h;rfl
 ·exact h.length.symm
theorem Zv.cells {d:D} {vs:List Value} (h:Zv w S d vs):Z8 w S d.cells vs:=by
 cases d<;>simp only[D.cells,Z8]
 ·simp only[Zv] at h;subst h;exact⟨_,[],rfl,rfl,by simp[Zv],rfl⟩
 ·simp only[Zv] at h;subst h;exact⟨_,[],rfl,rfl,by simp[Zv],rfl⟩
 ·have h':=h;simp only[Zv] at h;obtain⟨t,rfl,_⟩:=h;exact⟨_,[],rfl,rfl,h',rfl⟩
 ·have h':=h;simp only[Zv] at h;obtain⟨a,c,rfl,_⟩:=h;exact⟨_,[],rfl,rfl,h',rfl⟩
 ·simpa [Zv] using h
end
end Go.Abs
