/- Own text. -/
import GoSem.Core.World
import Derived.Test.YtighjmleicikhaaAbsRun
import Derived.Below
set_option linter.unusedVariables false
set_option linter.unusedSimpArgs false
namespace Go.Abs
open Go
def gtabs:List (Nat×Array Value):=[]
end Go.Abs
set_option linter.unusedVariables false
set_option linter.unusedSimpArgs false
namespace Go.Abs
open Go
def Zl {α β:Type} (R:α→β→Prop):List α→List β→Prop
 | [],[]=>True
 | a :: as,b :: bs=>R a b∧Zl R as bs
 | _,_=>False
section
variable {α β:Type} {R R' : α→β→Prop}
theorem Zl.length:∀ {as:List α} {bs:List β},Zl R as bs→as.length=bs.length
 | [],[],_=>rfl
 | _ :: _,_ :: _,h=>congrArg (·+1) (Zl.length h.2)
 | [],_ :: _,h=>h.elim
 | _ :: _,[],h=>h.elim
theorem Zl.mono (hr:∀ a b,R a b→R' a b):∀ {as:List α} {bs:List β},Zl R as bs→Zl R' as bs
 | [],[],_=>trivial
 | _ :: _,_ :: _,h=>⟨hr _ _ h.1,Zl.mono hr h.2⟩
 | [],_ :: _,h=>h.elim
 | _ :: _,[],h=>h.elim
theorem Zl.get:∀ {as:List α} {bs:List β},Zl R as bs→∀ (i:Nat) (a:α),as[i]?=some a→∃ b,bs[i]?=some b∧R a b
 | [],[],_,i,a,h=>by simp at h
 | a :: as,b :: bs,h,0,a',ha=>by simp at ha;subst ha;exact⟨b,by simp,h.1⟩
 | a :: as,b :: bs,h,i+1,a',ha=>by simp at ha;obtain⟨b',h1,h2⟩:=Zl.get h.2 i a' ha;exact⟨b',by simp[h1],h2⟩
 | [],_ :: _,h,_,_,_=>h.elim
 | _ :: _,[],h,_,_,_=>h.elim
theorem Zl.get' : ∀ {as:List α} {bs:List β},Zl R as bs→∀ (i:Nat) (b:β),bs[i]?=some b→∃ a,as[i]?=some a∧R a b
 | [],[],_,i,a,h=>by simp at h
 | a :: as,b :: bs,h,0,b',hb=>by simp at hb;subst hb;exact⟨a,by simp,h.1⟩
 | a :: as,b :: bs,h,i+1,b',hb=>by simp at hb;obtain⟨a',h1,h2⟩:=Zl.get' h.2 i b' hb;exact⟨a',by simp[h1],h2⟩
 | [],_ :: _,h,_,_,_=>h.elim
 | _ :: _,[],h,_,_,_=>h.elim
theorem Zl.of_get:∀ {as:List α} {bs:List β},as.length=bs.length→(∀ (i:Nat) (a:α) (b:β),as[i]?=some a→bs[i]?=some b→R a b)→Zl R as bs
 | [],[],_,_=>trivial
 | a :: as,b :: bs,hl,h=>⟨h 0 a b (by simp) (by simp),Zl.of_get (by simpa using hl) fun i a' b' ha hb=>h (i+1) a' b' (by simpa using ha) (by simpa using hb)⟩
 | [],_ :: _,hl,_=>by simp at hl
 | _ :: _,[],hl,_=>by simp at hl
theorem Zl.append:∀ {as aa : List α} {bs ab : List β},Zl R as bs→Zl R aa ab→Zl R (as++aa) (bs++ab)
 | [],_,[],_,_,h'=>h'
 | _ :: _,_,_ :: _,_,h,h'=>⟨h.1,Zl.append h.2 h'⟩
 | [],_,_ :: _,_,h,_=>h.elim
 | _ :: _,_,[],_,h,_=>h.elim
theorem Zl.take (n:Nat):∀ {as:List α} {bs:List β},Zl R as bs→Zl R (as.take n) (bs.take n):=by
 induction n with
 | zero=>intro as bs _;simp[Zl]
 | succ n ih=>
  intro as bs h;cases as<;>cases bs
  ·simp[Zl]
  ·exact h.elim
  ·exact h.elim
  ·exact⟨h.1,ih h.2⟩
theorem Zl.drop (n:Nat):∀ {as:List α} {bs:List β},Zl R as bs→Zl R (as.drop n) (bs.drop n):=by
 induction n with
 | zero=>intro as bs h;simpa using h
 | succ n ih=>
  intro as bs h;cases as<;>cases bs
  ·simp[Zl]
  ·exact h.elim
  ·exact h.elim
  ·simpa using ih h.2
theorem Zl.map {γ δ:Type} {S:γ→δ→Prop} {f:α→γ} {g:β→δ} (hr:∀ a b,R a b→S (f a) (g b)):∀ {as:List α} {bs:List β},Zl R as bs→Zl S (as.map f) (bs.map g)
 | [],[],_=>trivial
 | _ :: _,_ :: _,h=>⟨hr _ _ h.1,Zl.map hr h.2⟩
 | [],_ :: _,h=>h.elim
 | _ :: _,[],h=>h.elim
theorem Zl.map_left {γ:Type} {S:γ→β→Prop} {f:α→γ} (hr:∀ a b,R a b→S (f a) b):∀ {as:List α} {bs:List β},Zl R as bs→Zl S (as.map f) bs
 | [],[],_=>trivial
 | _ :: _,_ :: _,h=>⟨hr _ _ h.1,Zl.map_left hr h.2⟩
 | [],_ :: _,h=>h.elim
 | _ :: _,[],h=>h.elim
theorem Zl.set {as:List α} {bs:List β} (h:Zl R as bs) (i:Nat) {a:α} {b:β} (aa:R a b):Zl R (as.set i a) (bs.set i b):=by
 refine Zl.of_get (by simp[h.length]) fun j a' b' ha hb=>?_;rw[List.getElem?_set] at ha hb;rw[h.length] at ha;split at ha
 ·split at ha
  ·rename_i h1 h2;subst h1;simp[h2] at ha hb;subst ha;rw[← hb];exact aa
  ·cases ha
 ·rename_i h1;simp[h1] at hb;obtain⟨ab,h2,h3⟩:=h.get j a' ha;rw[hb] at h2;cases h2;exact h3
end
def ZU (w:World) (b o:Nat) (vs:List Value):Prop:=∀ j u,vs[j]?=some u→w.cell? ⟨b,o+j,none⟩=some u
theorem ZU.mono {w w' : World} {b o:Nat} {vs:List Value} (h:ZU w b o vs) (hb:w'.heap[b]?=w.heap[b]?):ZU w' b o vs:=
 fun j u hu=>(World.cell?_of_block (w:=w) (a:=⟨b,o+j,none⟩) hb).trans (h j u hu)
mutual
def Zx (w:World) (S:Nat→Prop):D→List Value→Prop
 | .int k n,vs=>vs=[.int k n]
 | .bool b,vs=>vs=[.bool b]
 | .str s,vs=>∃ t:ByteArray,vs=[.string t]∧t.data.toList=s
 | .sl xs,vs=>∃ a c,vs=[.slice a xs.length c]∧xs.length≤c∧(xs=[]∨∃ b o sz,a=some ⟨b,o,none⟩∧S b∧0<sz∧Yk w S b sz xs o)
 | .agg cs,vs=>Qg w S cs vs
def Qg (w:World) (S:Nat→Prop):List D→List Value→Prop
 | [],vs=>vs=[]
 | d :: ds,vs=>∃ v r,vs=v :: r∧d.one=true∧Zx w S d [v]∧Qg w S ds r
def Yk (w:World) (S:Nat→Prop) (b sz:Nat):List D→Nat→Prop
 | [],_=>True
 | d :: ds,o=>(∃ vs:List Value,vs.length=sz∧ZU w b o vs∧Zx w S d vs)∧Yk w S b sz ds (o+sz)
end
section
variable {w:World} {S:Nat→Prop}
theorem Qp:∀ {ds:List D} {vs:List Value},Qg w S ds vs↔Zl (fun d v=>d.one=true∧Zx w S d [v]) ds vs
 | [],[]=>by simp[Qg,Zl]
 | [],_ :: _=>by simp[Qg,Zl]
 | d :: ds,[]=>by simp[Qg,Zl]
 | d :: ds,v :: vs=>by
  simp only[Qg,Zl,Qp (ds:=ds) (vs:=vs)];constructor
  ·rintro ⟨v',r,h,h1,h2,h3⟩
   cases h;exact⟨⟨h1,h2⟩,Qp.1 h3⟩
  ·rintro ⟨⟨h1,h2⟩,h3⟩
   exact⟨v,vs,rfl,h1,h2,Qp.2 h3⟩
theorem Qy {b sz:Nat}:∀ {xs:List D} {o:Nat},Yk w S b sz xs o ↔
  ∀ i x,xs[i]?=some x→∃ vs:List Value,vs.length=sz∧ZU w b (o+i*sz) vs∧Zx w S x vs
 | [],o=>by simp[Yk]
 | d :: ds,o=>by
  simp only[Yk,Qy (xs:=ds)];constructor
  ·rintro ⟨h1,h2⟩ i x hx
   cases i with
   | zero=>simp at hx;subst hx;simpa using h1
   | succ i=>
    simp at hx;obtain⟨vs,h3,h4,h5⟩:=h2 i x hx;refine⟨vs,h3,?_,h5⟩;have:o+(i+1)*sz=o+sz+i*sz:=by rw[KA];omega
    rw[this];exact h4
  ·intro h;refine⟨by simpa using h 0 d (by simp),fun i x hx=>?_⟩;obtain⟨vs,h3,h4,h5⟩:=h (i+1) x (by simpa using hx);refine⟨vs,h3,?_,h5⟩;have:o+(i+1)*sz=o+sz+i*sz:=by rw[KA];omega
   rw[← this];exact h4
structure Zw (S S' : Nat→Prop) (w w' : World):Prop where
 sub:∀ b,S b→S' b
 blk:∀ b,S b→w'.heap[b]?=w.heap[b]?
mutual
theorem Zx.mono {w' : World} {S' : Nat→Prop} (hk:Zw S S' w w'):∀ {d:D} {vs:List Value},Zx w S d vs→Zx w' S' d vs
 | .int _ _,_,h=>by simpa [Zx] using h
 | .bool _,_,h=>by simpa [Zx] using h
 | .str _,_,h=>by simpa [Zx] using h
 | .sl xs,vs,h=>by
  simp only[Zx] at h ⊢;obtain⟨a,c,h1,h2,h3⟩:=h;refine⟨a,c,h1,h2,?_⟩;rcases h3 with h3 | ⟨b,o,sz,h4,h5,h6,h7⟩
  ·exact .inl h3
  ·exact .inr ⟨b,o,sz,h4,hk.sub b h5,h6,Yk.mono hk h5 h7⟩
 | .agg cs,vs,h=>by
  simp only[Zx] at h ⊢;exact Qg.mono hk h
theorem Qg.mono {w' : World} {S' : Nat→Prop} (hk:Zw S S' w w'):∀ {ds:List D} {vs:List Value},Qg w S ds vs→Qg w' S' ds vs
 | [],_,h=>by simpa [Qg] using h
 | d :: ds,vs,h=>by
  simp only[Qg] at h ⊢;obtain⟨v,r,h1,h2,h3,h4⟩:=h;exact⟨v,r,h1,h2,Zx.mono hk h3,Qg.mono hk h4⟩
theorem Yk.mono {w' : World} {S' : Nat→Prop} (hk:Zw S S' w w') {b sz:Nat} (hb:S b):∀ {ds:List D} {o:Nat},Yk w S b sz ds o→Yk w' S' b sz ds o
 | [],_,_=>by simp[Yk]
 | d :: ds,o,h=>by
  simp only[Yk] at h ⊢;obtain⟨⟨vs,h1,h2,h3⟩,h4⟩:=h;exact⟨⟨vs,h1,h2.mono (hk.blk b hb),Zx.mono hk h3⟩,Yk.mono hk hb h4⟩
end
theorem Yk.mono' {w' : World} {S' : Nat→Prop} (hk:Zw S S' w w') {b sz:Nat} (hb:w'.heap[b]?=w.heap[b]?) {ds:List D} {o:Nat} (h:Yk w S b sz ds o):Yk w' S' b sz ds o:=by
 rw[Qy] at h ⊢;intro i x hx;obtain⟨vs,h1,h2,h3⟩:=h i x hx;exact⟨vs,h1,h2.mono hb,h3.mono hk⟩
theorem Qg.length {ds:List D} {vs:List Value} (h:Qg w S ds vs):ds.length=vs.length:=(Qp.1 h).length
theorem Zx.length {d:D} {vs:List Value} (h:Zx w S d vs):vs.length=d.cells.length:=by
 cases d<;>simp only[Zx] at h
 ·subst h;rfl
 ·subst h;rfl
 ·obtain⟨t,rfl,_⟩:=h;rfl
 ·obtain⟨a,c,rfl,_⟩:=h;rfl
 ·exact h.length.symm
theorem Zx.cells {d:D} {vs:List Value} (h:Zx w S d vs):Qg w S d.cells vs:=by
 cases d<;>simp only[D.cells,Qg]
 ·simp only[Zx] at h;subst h;exact⟨_,[],rfl,rfl,by simp[Zx],rfl⟩
 ·simp only[Zx] at h;subst h;exact⟨_,[],rfl,rfl,by simp[Zx],rfl⟩
 ·have h':=h;simp only[Zx] at h;obtain⟨t,rfl,_⟩:=h;exact⟨_,[],rfl,rfl,h',rfl⟩
 ·have h':=h;simp only[Zx] at h;obtain⟨a,c,rfl,_⟩:=h;exact⟨_,[],rfl,rfl,h',rfl⟩
 ·simpa [Zx] using h
end
end Go.Abs
