/- Own text. -/
import GoSem.Core.World
import Derived.Test.YtefabmohhbhlfaaAbsRun
import Derived.Below
set_option linter.unusedVariables false
set_option linter.unusedSimpArgs false
namespace Go.Abs
open Go
def gtabs:List (Nat×Array Value):=[]
end Go.Abs
set_option linter.unusedVariables false
set_option linter.unusedSimpArgs false
namespace Go.Abs
open Go
def Zr {α β:Type} (R:α→β→Prop):List α→List β→Prop
 | [],[]=>True
 | a :: as,b :: bs=>R a b∧Zr R as bs
 | _,_=>False
section
variable {α β:Type} {R R' : α→β→Prop}
theorem Zr.length:∀ {as:List α} {bs:List β},Zr R as bs→as.length=bs.length
 | [],[],_=>rfl
 | _ :: _,_ :: _,h=>congrArg (·+1) (Zr.length h.2)
 | [],_ :: _,h=>h.elim
 | _ :: _,[],h=>h.elim
theorem Zr.mono (hr:∀ a b,R a b→R' a b):∀ {as:List α} {bs:List β},Zr R as bs→Zr R' as bs
 | [],[],_=>trivial
 | _ :: _,_ :: _,h=>⟨hr _ _ h.1,Zr.mono hr h.2⟩
 | [],_ :: _,h=>h.elim
 | _ :: _,[],h=>h.elim
theorem Zr.get:∀ {as:List α} {bs:List β},Zr R as bs→∀ (i:Nat) (a:α),as[i]?=some a→∃ b,bs[i]?=some b∧R a b
 | [],[],_,i,a,h=>by simp at h
 | a :: as,b :: bs,h,0,a',ha=>by simp at ha;subst ha;exact⟨b,by simp,h.1⟩
 | a :: as,b :: bs,h,i+1,a',ha=>by simp at ha;obtain⟨b',h1,h2⟩:=Zr.get h.2 i a' ha;exact⟨b',by simp[h1],h2⟩
 | [],_ :: _,h,_,_,_=>h.elim
 | _ :: _,[],h,_,_,_=>h.elim
theorem Zr.get' : ∀ {as:List α} {bs:List β},Zr R as bs→∀ (i:Nat) (b:β),bs[i]?=some b→∃ a,as[i]?=some a∧R a b
 | [],[],_,i,a,h=>by simp at h
 | a :: as,b :: bs,h,0,b',hb=>by simp at hb;subst hb;exact⟨a,by simp,h.1⟩
 | a :: as,b :: bs,h,i+1,b',hb=>by simp at hb;obtain⟨a',h1,h2⟩:=Zr.get' h.2 i b' hb;exact⟨a',by simp[h1],h2⟩
 | [],_ :: _,h,_,_,_=>h.elim
 | _ :: _,[],h,_,_,_=>h.elim
theorem Zr.of_get:∀ {as:List α} {bs:List β},as.length=bs.length→(∀ (i:Nat) (a:α) (b:β),as[i]?=some a→bs[i]?=some b→R a b)→Zr R as bs
 | [],[],_,_=>trivial
 | a :: as,b :: bs,hl,h=>⟨h 0 a b (by simp) (by simp),Zr.of_get (by simpa using hl) fun i a' b' ha hb=>h (i+1) a' b' (by simpa using ha) (by simpa using hb)⟩
 | [],_ :: _,hl,_=>by simp at hl
 | _ :: _,[],hl,_=>by simp at hl
theorem Zr.append:∀ {as aa : List α} {bs ab : List β},Zr R as bs→Zr R aa ab→Zr R (as++aa) (bs++ab)
 | [],_,[],_,_,h'=>h'
 | _ :: _,_,_ :: _,_,h,h'=>⟨h.1,Zr.append h.2 h'⟩
 | [],_,_ :: _,_,h,_=>h.elim
 | _ :: _,_,[],_,h,_=>h.elim
theorem Zr.take (n:Nat):∀ {as:List α} {bs:List β},Zr R as bs→Zr R (as.take n) (bs.take n):=by
 induction n with
 | zero=>intro as bs _;simp[Zr]
 | succ n ih=>
  intro as bs h;cases as<;>cases bs
  ·simp[Zr]
  ·exact h.elim
  ·exact h.elim
  ·exact⟨h.1,ih h.2⟩
theorem Zr.drop (n:Nat):∀ {as:List α} {bs:List β},Zr R as bs→Zr R (as.drop n) (bs.drop n):=by
 induction n with
 | zero=>intro as bs h;simpa using h
 | succ n ih=>
  intro as bs h;cases as<;>cases bs
  ·simp[Zr]
  ·exact h.elim
  ·exact h.elim
  ·simpa using ih h.2
theorem Zr.map {γ δ:Type} {S:γ→δ→Prop} {f:α→γ} {g:β→δ} (hr:∀ a b,R a b→S (f a) (g b)):∀ {as:List α} {bs:List β},Zr R as bs→Zr S (as.map f) (bs.map g)
 | [],[],_=>trivial
 | _ :: _,_ :: _,h=>⟨hr _ _ h.1,Zr.map hr h.2⟩
 | [],_ :: _,h=>h.elim
 | _ :: _,[],h=>h.elim
theorem Zr.map_left {γ:Type} {S:γ→β→Prop} {f:α→γ} (hr:∀ a b,R a b→S (f a) b):∀ {as:List α} {bs:List β},Zr R as bs→Zr S (as.map f) bs
 | [],[],_=>trivial
 | _ :: _,_ :: _,h=>⟨hr _ _ h.1,Zr.map_left hr h.2⟩
 | [],_ :: _,h=>h.elim
 | _ :: _,[],h=>h.elim
theorem Zr.set {as:List α} {bs:List β} (h:Zr R as bs) (i:Nat) {a:α} {b:β} (aa:R a b):Zr R (as.set i a) (bs.set i b):=by
 refine Zr.of_get (by simp[h.length]) fun j a' b' ha hb=>?_;rw[LP] at ha hb;rw[h.length] at ha;split at ha
 ·split at ha
  ·rename_i h1 h2;subst h1;simp[h2] at ha hb;subst ha;rw[← hb];exact aa
  ·cases ha
 ·rename_i h1;simp[h1] at hb;obtain⟨ab,h2,h3⟩:=h.get j a' ha;rw[hb] at h2;cases h2;exact h3
end
def Qe (w:World) (b o:Nat) (vs:List Value):Prop:=∀ j u,vs[j]?=some u→w.cell? ⟨b,o+j,none⟩=some u
theorem Qe.mono {w w' : World} {b o:Nat} {vs:List Value} (h:Qe w b o vs) (hb:w'.heap[b]?=w.heap[b]?):Qe w' b o vs:=
 fun j u hu=>(World.cell?_of_block (w:=w) (a:=⟨b,o+j,none⟩) hb).trans (h j u hu)
mutual
def ZL (w:World) (S:Nat→Prop):D→List Value→Prop
 | .int k n,vs=>vs=[.int k n]
 | .bool b,vs=>vs=[.bool b]
 | .str s,vs=>∃ t:ByteArray,vs=[.string t]∧t.data.toList=s
 | .sl xs,vs=>∃ a c,vs=[.slice a xs.length c]∧xs.length≤c∧(xs=[]∨∃ b o sz,a=some ⟨b,o,none⟩∧S b∧0<sz∧VU w S b sz xs o)
 | .agg cs,vs=>QE w S cs vs
def QE (w:World) (S:Nat→Prop):List D→List Value→Prop
 | [],vs=>vs=[]
 | d :: ds,vs=>∃ v r,vs=v :: r∧d.one=true∧ZL w S d [v]∧QE w S ds r
def VU (w:World) (S:Nat→Prop) (b sz:Nat):List D→Nat→Prop
 | [],_=>True
 | d :: ds,o=>(∃ vs:List Value,vs.length=sz∧Qe w b o vs∧ZL w S d vs)∧VU w S b sz ds (o+sz)
end
section
variable {w:World} {S:Nat→Prop}
theorem QW:∀ {ds:List D} {vs:List Value},QE w S ds vs↔Zr (fun d v=>d.one=true∧ZL w S d [v]) ds vs
 | [],[]=>by simp[QE,Zr]
 | [],_ :: _=>by simp[QE,Zr]
 | d :: ds,[]=>by simp[QE,Zr]
 | d :: ds,v :: vs=>by
  simp only[QE,Zr,QW (ds:=ds) (vs:=vs)];constructor
  ·rintro ⟨v',r,h,h1,h2,h3⟩
   cases h;exact⟨⟨h1,h2⟩,QW.1 h3⟩
  ·rintro ⟨⟨h1,h2⟩,h3⟩
   exact⟨v,vs,rfl,h1,h2,QW.2 h3⟩
theorem XD {b sz:Nat}:∀ {xs:List D} {o:Nat},VU w S b sz xs o ↔
  ∀ i x,xs[i]?=some x→∃ vs:List Value,vs.length=sz∧Qe w b (o+i*sz) vs∧ZL w S x vs
 | [],o=>by simp[VU]
 | d :: ds,o=>by
  simp only[VU,XD (xs:=ds)];constructor
  ·rintro ⟨h1,h2⟩ i x hx
   cases i with
   | zero=>simp at hx;subst hx;simpa using h1
   | succ i=>
    simp at hx;obtain⟨vs,h3,h4,h5⟩:=h2 i x hx;refine⟨vs,h3,?_,h5⟩;have:o+(i+1)*sz=o+sz+i*sz:=by rw[KI];omega
    rw[this];exact h4
  ·intro h;refine⟨by simpa using h 0 d (by simp),fun i x hx=>?_⟩;obtain⟨vs,h3,h4,h5⟩:=h (i+1) x (by simpa using hx);refine⟨vs,h3,?_,h5⟩;have:o+(i+1)*sz=o+sz+i*sz:=by rw[KI];omega
   rw[← this];exact h4
structure ZF (S S' : Nat→Prop) (w w' : World):Prop where
 sub:∀ b,S b→S' b
 blk:∀ b,S b→w'.heap[b]?=w.heap[b]?
mutual
theorem ZL.mono {w' : World} {S' : Nat→Prop} (hk:ZF S S' w w'):∀ {d:D} {vs:List Value},ZL w S d vs→ZL w' S' d vs
 | .int _ _,_,h=>by simpa [ZL] using h
 | .bool _,_,h=>by simpa [ZL] using h
 | .str _,_,h=>by simpa [ZL] using h
 | .sl xs,vs,h=>by
  simp only[ZL] at h ⊢;obtain⟨a,c,h1,h2,h3⟩:=h;refine⟨a,c,h1,h2,?_⟩;rcases h3 with h3 | ⟨b,o,sz,h4,h5,h6,h7⟩
  ·exact .inl h3
  ·exact .inr ⟨b,o,sz,h4,hk.sub b h5,h6,VU.mono hk h5 h7⟩
 | .agg cs,vs,h=>by
  simp only[ZL] at h ⊢;exact QE.mono hk h
theorem QE.mono {w' : World} {S' : Nat→Prop} (hk:ZF S S' w w'):∀ {ds:List D} {vs:List Value},QE w S ds vs→QE w' S' ds vs
 | [],_,h=>by simpa [QE] using h
 | d :: ds,vs,h=>by
  simp only[QE] at h ⊢;obtain⟨v,r,h1,h2,h3,h4⟩:=h;exact⟨v,r,h1,h2,ZL.mono hk h3,QE.mono hk h4⟩
theorem VU.mono {w' : World} {S' : Nat→Prop} (hk:ZF S S' w w') {b sz:Nat} (hb:S b):∀ {ds:List D} {o:Nat},VU w S b sz ds o→VU w' S' b sz ds o
 | [],_,_=>by simp[VU]
 | d :: ds,o,h=>by
  simp only[VU] at h ⊢;obtain⟨⟨vs,h1,h2,h3⟩,h4⟩:=h;exact⟨⟨vs,h1,h2.mono (hk.blk b hb),ZL.mono hk h3⟩,VU.mono hk hb h4⟩
end
theorem VU.mono' {w' : World} {S' : Nat→Prop} (hk:ZF S S' w w') {b sz:Nat} (hb:w'.heap[b]?=w.heap[b]?) {ds:List D} {o:Nat} (h:VU w S b sz ds o):VU w' S' b sz ds o:=by
 rw[XD] at h ⊢;intro i x hx;obtain⟨vs,h1,h2,h3⟩:=h i x hx;exact⟨vs,h1,h2.mono hb,h3.mono hk⟩
theorem QE.length {ds:List D} {vs:List Value} (h:QE w S ds vs):ds.length=vs.length:=(QW.1 h).length
theorem ZL.length {d:D} {vs:List Value} (h:ZL w S d vs):vs.length=d.cells.length:=by
 cases d<;>simp only[ZL] at h
 ·subst h;rfl
 ·subst h;rfl
 ·obtain⟨t,rfl,_⟩:=h;rfl
 ·obtain⟨a,c,rfl,_⟩:=h;rfl
 ·exact h.length.symm
theorem ZL.cells {d:D} {vs:List Value} (h:ZL w S d vs):QE w S d.cells vs:=by
 cases d<;>simp only[D.cells,QE]
 ·simp only[ZL] at h;subst h;exact⟨_,[],rfl,rfl,by simp[ZL],rfl⟩
 ·simp only[ZL] at h;subst h;exact⟨_,[],rfl,rfl,by simp[ZL],rfl⟩
 ·have h':=h;simp only[ZL] at h;obtain⟨t,rfl,_⟩:=h;exact⟨_,[],rfl,rfl,h',rfl⟩
 ·have h':=h;simp only[ZL] at h;obtain⟨a,c,rfl,_⟩:=h;exact⟨_,[],rfl,rfl,h',rfl⟩
 ·simpa [ZL] using h
end
end Go.Abs
set_option linter.unusedVariables false
set_option linter.unusedSimpArgs false
namespace Go.Abs
open Go
def plainV:D→Option Value
 | .int k n=>some (.int k n)
 | .bool b=>some (.bool b)
 | _=>none
mutual
def Qb (w:World) (ns:Nat) (B:List Nat):D→Value→Prop
 | .int k n,v=>v=.int k n∧B=[]
 | .bool b,v=>v=.bool b∧B=[]
 | .str s,v=>(∃ t:ByteArray,v=.string t∧t.data.toList=s)∧B=[]
 | .sl xs,v=>∃ a c,v=.slice a xs.length c∧xs.length≤c∧((c=0∧B=[]) ∨
   ∃ g cur e Bs,a=some ⟨g,0,none⟩∧0<c∧w.heap[g]?=some (.cells cur e (0,0))∧c≤maxLen∧cur.size=c*ns∧0<ns∧B=g :: Bs∧ZP w ns Bs g ns xs 0)
 | .agg _,_=>False
def ZZ (w:World) (ns:Nat) (B:List Nat):List D→List Value→Prop
 | [],vs=>vs=[]∧B=[]
 | d :: ds,vs=>∃ v r B1 B2,vs=v :: r∧B=B1++B2∧Qb w ns B1 d v∧ZZ w ns B2 ds r
def QX (w:World) (ns:Nat) (B:List Nat):D→List Value→Prop
 | .agg cs,vs=>ZZ w ns B cs vs
 | .int k n,vs=>vs=[.int k n]∧B=[]
 | .bool b,vs=>vs=[.bool b]∧B=[]
 | .str s,vs=>(∃ t:ByteArray,vs=[.string t]∧t.data.toList=s)∧B=[]
 | .sl _,_=>False
def ZP (w:World) (ns:Nat) (B:List Nat) (g sz:Nat):List D→Nat→Prop
 | [],_=>B=[]
 | d :: ds,o=>∃ vs B1 B2,B=B1++B2∧vs.length=sz∧Qe w g o vs∧QX w ns B1 d vs∧ZP w ns B2 g sz ds (o+sz)
end
section
variable {w w' : World} {ns:Nat}
mutual
theorem Qb.mono:∀ {d:D} {B:List Nat} {v:Value},Qb w ns B d v→(∀ b∈B,w'.heap[b]?=w.heap[b]?)→Qb w' ns B d v
 | .int _ _,_,_,h,_=>by simpa only[Qb] using h
 | .bool _,_,_,h,_=>by simpa only[Qb] using h
 | .str _,_,_,h,_=>by simpa only[Qb] using h
 | .agg _,_,_,h,_=>by simp only[Qb] at h
 | .sl xs,B,v,h,hk=>by
  simp only[Qb] at h ⊢;obtain⟨a,c,h1,h2,h3⟩:=h;refine⟨a,c,h1,h2,?_⟩;rcases h3 with h3 | ⟨g,cur,e,Bs,h4,h5,h6,h7,h8,h9,rfl,aa⟩
  ·exact .inl h3
  ·exact .inr ⟨g,cur,e,Bs,h4,h5,(hk g (by simp)).trans h6,h7,h8,h9,rfl,ZP.mono aa (hk g (by simp)) fun b hb=>hk b (by simp[hb])⟩
theorem ZZ.mono:∀ {ds:List D} {B:List Nat} {vs:List Value},ZZ w ns B ds vs→(∀ b∈B,w'.heap[b]?=w.heap[b]?)→ZZ w' ns B ds vs
 | [],_,_,h,_=>by simpa only[ZZ] using h
 | d :: ds,B,vs,h,hk=>by
  simp only[ZZ] at h ⊢;obtain⟨v,r,B1,B2,h1,rfl,h2,h3⟩:=h;exact⟨v,r,B1,B2,h1,rfl,Qb.mono h2 fun b hb=>hk b (by simp[hb]),ZZ.mono h3 fun b hb=>hk b (by simp[hb])⟩
theorem QX.mono:∀ {d:D} {B:List Nat} {vs:List Value},QX w ns B d vs→(∀ b∈B,w'.heap[b]?=w.heap[b]?)→QX w' ns B d vs
 | .int _ _,_,_,h,_=>by simpa only[QX] using h
 | .bool _,_,_,h,_=>by simpa only[QX] using h
 | .str _,_,_,h,_=>by simpa only[QX] using h
 | .sl _,_,_,h,_=>by simp only[QX] at h
 | .agg cs,_,_,h,hk=>by
  simp only[QX] at h ⊢;exact ZZ.mono h hk
theorem ZP.mono {g sz:Nat}:∀ {xs:List D} {B:List Nat} {o:Nat},ZP w ns B g sz xs o→w'.heap[g]?=w.heap[g]?→(∀ b∈B,w'.heap[b]?=w.heap[b]?)→ZP w' ns B g sz xs o
 | [],_,_,h,_,_=>by simpa only[ZP] using h
 | d :: ds,B,o,h,hg,hk=>by
  simp only[ZP] at h ⊢;obtain⟨vs,B1,B2,rfl,h1,h2,h3,h4⟩:=h;exact⟨vs,B1,B2,rfl,h1,h2.mono hg,QX.mono h3 fun b hb=>hk b (by simp[hb]),ZP.mono h4 hg fun b hb=>hk b (by simp[hb])⟩
end
mutual
theorem Qb.rep {S:Nat→Prop}:∀ {d:D} {B:List Nat} {v:Value},Qb w ns B d v→(∀ b∈B,S b)→d.one=true∧ZL w S d [v]
 | .int _ _,_,_,h,_=>by simp only[Qb] at h;exact⟨rfl,by rw[h.1];rfl⟩
 | .bool _,_,_,h,_=>by simp only[Qb] at h;exact⟨rfl,by rw[h.1];rfl⟩
 | .str _,_,_,h,_=>by
  simp only[Qb] at h;obtain⟨⟨t,rfl,h⟩,_⟩:=h;exact⟨rfl,t,rfl,h⟩
 | .agg _,_,_,h,_=>by simp only[Qb] at h
 | .sl xs,B,v,h,hk=>by
  simp only[Qb] at h;obtain⟨a,c,rfl,h2,h3⟩:=h;refine⟨rfl,?_⟩;simp only[ZL];refine⟨a,c,rfl,h2,?_⟩;rcases h3 with ⟨rfl,_⟩ | ⟨g,cur,e,Bs,h4,h5,h6,h7,h8,h9,rfl,aa⟩
  ·exact .inl (Ko (by omega))
  ·exact .inr ⟨g,0,ns,h4,hk g (by simp),h9,ZP.rep aa fun b hb=>hk b (by simp[hb])⟩
theorem ZZ.rep {S:Nat→Prop}:∀ {ds:List D} {B:List Nat} {vs:List Value},ZZ w ns B ds vs→(∀ b∈B,S b)→QE w S ds vs
 | [],_,_,h,_=>by simp only[ZZ] at h;simp only[QE];exact h.1
 | d :: ds,B,vs,h,hk=>by
  simp only[ZZ] at h;obtain⟨v,r,B1,B2,rfl,rfl,h2,h3⟩:=h;simp only[QE];obtain⟨g1,g2⟩:=Qb.rep (S:=S) h2 fun b hb=>hk b (by simp[hb]);exact⟨v,r,rfl,g1,g2,ZZ.rep h3 fun b hb=>hk b (by simp[hb])⟩
theorem QX.rep {S:Nat→Prop}:∀ {d:D} {B:List Nat} {vs:List Value},QX w ns B d vs→(∀ b∈B,S b)→ZL w S d vs
 | .int _ _,_,_,h,_=>by simp only[QX] at h;simp only[ZL];exact h.1
 | .bool _,_,_,h,_=>by simp only[QX] at h;simp only[ZL];exact h.1
 | .str _,_,_,h,_=>by simp only[QX] at h;simp only[ZL];exact h.1
 | .sl _,_,_,h,_=>by simp only[QX] at h
 | .agg cs,_,_,h,hk=>by
  simp only[QX] at h;simp only[ZL];exact ZZ.rep h hk
theorem ZP.rep {S:Nat→Prop} {g sz:Nat}:∀ {xs:List D} {B:List Nat} {o:Nat},ZP w ns B g sz xs o→(∀ b∈B,S b)→VU w S g sz xs o
 | [],_,_,_,_=>by simp only[VU]
 | d :: ds,B,o,h,hk=>by
  simp only[ZP] at h;obtain⟨vs,B1,B2,rfl,h1,h2,h3,h4⟩:=h;simp only[VU];exact⟨⟨vs,h1,h2,QX.rep h3 fun b hb=>hk b (by simp[hb])⟩,ZP.rep h4 fun b hb=>hk b (by simp[hb])⟩
end
mutual
theorem Qb.lt:∀ {d:D} {B:List Nat} {v:Value},Qb w ns B d v→∀ b∈B,b<w.heap.size
 | .int _ _,_,_,h,b,hb=>by simp only[Qb] at h;rw[h.2] at hb;simp at hb
 | .bool _,_,_,h,b,hb=>by simp only[Qb] at h;rw[h.2] at hb;simp at hb
 | .str _,_,_,h,b,hb=>by simp only[Qb] at h;rw[h.2] at hb;simp at hb
 | .agg _,_,_,h,_,_=>by simp only[Qb] at h
 | .sl xs,B,v,h,b,hb=>by
  simp only[Qb] at h;obtain⟨a,c,_,_,h3⟩:=h;rcases h3 with ⟨_,rfl⟩ | ⟨g,cur,e,Bs,_,_,h6,_,_,_,rfl,aa⟩
  ·simp at hb
  ·rcases Ke.1 hb with rfl | hb
   ·exact(KJ.1 h6).1
   ·exact ZP.lt aa b hb
theorem ZZ.lt:∀ {ds:List D} {B:List Nat} {vs:List Value},ZZ w ns B ds vs→∀ b∈B,b<w.heap.size
 | [],_,_,h,b,hb=>by simp only[ZZ] at h;rw[h.2] at hb;simp at hb
 | d :: ds,_,_,h,b,hb=>by
  simp only[ZZ] at h;obtain⟨v,r,B1,B2,rfl,rfl,h2,h3⟩:=h;rcases Kc.1 hb with hb | hb
  ·exact Qb.lt h2 b hb
  ·exact ZZ.lt h3 b hb
theorem QX.lt:∀ {d:D} {B:List Nat} {vs:List Value},QX w ns B d vs→∀ b∈B,b<w.heap.size
 | .int _ _,_,_,h,b,hb=>by simp only[QX] at h;rw[h.2] at hb;simp at hb
 | .bool _,_,_,h,b,hb=>by simp only[QX] at h;rw[h.2] at hb;simp at hb
 | .str _,_,_,h,b,hb=>by simp only[QX] at h;rw[h.2] at hb;simp at hb
 | .sl _,_,_,h,_,_=>by simp only[QX] at h
 | .agg cs,_,_,h,b,hb=>by
  simp only[QX] at h;exact ZZ.lt h b hb
theorem ZP.lt {g sz:Nat}:∀ {xs:List D} {B:List Nat} {o:Nat},ZP w ns B g sz xs o→∀ b∈B,b<w.heap.size
 | [],_,_,h,b,hb=>by simp only[ZP] at h;rw[h] at hb;simp at hb
 | d :: ds,_,_,h,b,hb=>by
  simp only[ZP] at h;obtain⟨vs,B1,B2,rfl,h1,h2,h3,h4⟩:=h;rcases Kc.1 hb with hb | hb
  ·exact QX.lt h3 b hb
  ·exact ZP.lt h4 b hb
end
theorem Qe.uniq {b o:Nat}:∀ {vs us:List Value},Qe w b o vs→Qe w b o us→vs.length=us.length→vs=us:=by
 intro vs us h h' hl;refine K7 fun j=>?_;rcases KX j vs.length with hj | hj
 ·have h1:=h j _ (KE hj);have h2:=h' j _ (KE (by omega:j<us.length));rw[h1] at h2;rw[KE hj,KE (by omega:j<us.length)];exact h2
 ·rw[KR hj,KR (by omega)]
mutual
theorem Qb.uniq:∀ {d:D} {B B' : List Nat} {v:Value},Qb w ns B d v→Qb w ns B' d v→B=B'
 | .int _ _,_,_,_,h,h'=>by simp only[Qb] at h h';rw[h.2,h'.2]
 | .bool _,_,_,_,h,h'=>by simp only[Qb] at h h';rw[h.2,h'.2]
 | .str _,_,_,_,h,h'=>by simp only[Qb] at h h';rw[h.2,h'.2]
 | .agg _,_,_,_,h,_=>by simp only[Qb] at h
 | .sl xs,B,B',v,h,h'=>by
  simp only[Qb] at h h';obtain⟨a,c,rfl,h2,h3⟩:=h;obtain⟨a',c',e,ag,ab⟩:=h';cases e;rcases h3 with ⟨hc,rfl⟩ | ⟨g,cur,e,Bs,rfl,hc,_,_,_,_,rfl,ad⟩<;>rcases ab with ⟨ae,rfl⟩ | ⟨g',af,e',ah,e1,ae,_,_,_,_,rfl,aa⟩
  ·rfl
  ·omega
  ·omega
  ·cases e1;rw[ZP.uniq ad aa]
theorem ZZ.uniq:∀ {ds:List D} {B B' : List Nat} {vs:List Value},ZZ w ns B ds vs→ZZ w ns B' ds vs→B=B'
 | [],_,_,_,h,h'=>by simp only[ZZ] at h h';rw[h.2,h'.2]
 | d :: ds,_,_,_,h,h'=>by
  simp only[ZZ] at h h';obtain⟨v,r,B1,B2,rfl,rfl,h2,h3⟩:=h;obtain⟨v',r',ad,ae,e,rfl,aa,ab⟩:=h';cases e;rw[Qb.uniq h2 aa,ZZ.uniq h3 ab]
theorem QX.uniq:∀ {d:D} {B B' : List Nat} {vs:List Value},QX w ns B d vs→QX w ns B' d vs→B=B'
 | .int _ _,_,_,_,h,h'=>by simp only[QX] at h h';rw[h.2,h'.2]
 | .bool _,_,_,_,h,h'=>by simp only[QX] at h h';rw[h.2,h'.2]
 | .str _,_,_,_,h,h'=>by simp only[QX] at h h';rw[h.2,h'.2]
 | .sl _,_,_,_,h,_=>by simp only[QX] at h
 | .agg cs,_,_,_,h,h'=>by
  simp only[QX] at h h';exact ZZ.uniq h h'
theorem ZP.uniq {g sz:Nat}:∀ {xs:List D} {B B' : List Nat} {o:Nat},ZP w ns B g sz xs o→ZP w ns B' g sz xs o→B=B'
 | [],_,_,_,h,h'=>by simp only[ZP] at h h';rw[h,h']
 | d :: ds,_,_,_,h,h'=>by
  simp only[ZP] at h h';obtain⟨vs,B1,B2,rfl,h1,h2,h3,h4⟩:=h;obtain⟨ae,af,ag,rfl,ah,aa,ab,ad⟩:=h';cases Qe.uniq h2 aa (by omega);rw[QX.uniq h3 ab,ZP.uniq h4 ad]
end
theorem ZZ.length:∀ {ds:List D} {B:List Nat} {vs:List Value},ZZ w ns B ds vs→vs.length=ds.length
 | [],_,_,h=>by simp only[ZZ] at h;rw[h.1];rfl
 | d :: ds,_,_,h=>by
  simp only[ZZ] at h;obtain⟨v,r,B1,B2,rfl,rfl,_,h3⟩:=h;simp[ZZ.length h3]
theorem ZZ.append:∀ {ds es:List D} {B B' : List Nat} {vs us:List Value},ZZ w ns B ds vs→ZZ w ns B' es us→ZZ w ns (B++B') (ds++es) (vs++us)
 | [],_,_,_,_,_,h,h'=>by
  simp only[ZZ] at h;obtain⟨rfl,rfl⟩:=h;simpa using h'
 | d :: ds,es,B,B',vs,us,h,h'=>by
  simp only[ZZ] at h;obtain⟨v,r,B1,B2,rfl,rfl,h2,h3⟩:=h;simp only[KN,ZZ];exact⟨v,r++us,B1,B2++B',rfl,by simp,h2,ZZ.append h3 h'⟩
theorem ZZ.split:∀ {ds es:List D} {B:List Nat} {vs:List Value},ZZ w ns B (ds++es) vs→∃ B1 B2,B=B1++B2∧ZZ w ns B1 ds (vs.take ds.length)∧ZZ w ns B2 es (vs.drop ds.length)
 | [],es,B,vs,h=>⟨[],B,rfl,by simp[ZZ],by simpa using h⟩
 | d :: ds,es,B,vs,h=>by
  simp only[KN,ZZ] at h;obtain⟨v,r,B1,B2,rfl,rfl,h2,h3⟩:=h;obtain⟨C1,C2,rfl,g1,g2⟩:=ZZ.split h3;refine⟨B1++C1,C2,by simp,?_,by simpa using g2⟩;simp only[Ki,List.take_succ_cons,ZZ];exact⟨v,r.take ds.length,B1,C1,rfl,rfl,h2,g1⟩
theorem QX.cells:∀ {d:D} {B:List Nat} {vs:List Value},QX w ns B d vs→ZZ w ns B d.cells vs
 | .int k n,B,vs,h=>by
  simp only[QX] at h;obtain⟨rfl,rfl⟩:=h;simp only[D.cells,ZZ,Qb];exact⟨_,[],[],[],rfl,rfl,⟨rfl,rfl⟩,rfl,rfl⟩
 | .bool b,B,vs,h=>by
  simp only[QX] at h;obtain⟨rfl,rfl⟩:=h;simp only[D.cells,ZZ,Qb];exact⟨_,[],[],[],rfl,rfl,⟨rfl,rfl⟩,rfl,rfl⟩
 | .str s,B,vs,h=>by
  simp only[QX] at h;obtain⟨⟨t,rfl,ht⟩,rfl⟩:=h;simp only[D.cells,ZZ,Qb];exact⟨_,[],[],[],rfl,rfl,⟨⟨t,rfl,ht⟩,rfl⟩,rfl,rfl⟩
 | .sl _,_,_,h=>by simp only[QX] at h
 | .agg cs,B,vs,h=>by simp only[QX] at h;exact h
theorem Zj8 {cs:List D} {B:List Nat} {vs:List Value} (h:ZZ w ns B cs vs):QX w ns B (.agg cs) vs:=by simp only[QX];exact h
theorem ZP.at {g sz:Nat}:∀ {xs:List D} {B:List Nat} {o i:Nat} {x:D},ZP w ns B g sz xs o→xs[i]?=some x→∃ vs B1 Bn B2,B=B1++Bn++B2∧vs.length=sz∧Qe w g (o+i*sz) vs∧QX w ns Bn x vs ∧
  ∀ (w' : World) (aa : List Nat) (x' : D) (us:List Value),(∀ b∈B1++B2,w'.heap[b]?=w.heap[b]?)→(∀ p v,(p<o+i*sz∨o+i*sz+sz≤p)→w.cell? ⟨g,p,none⟩=some v→w'.cell? ⟨g,p,none⟩=some v) →
   us.length=sz→Qe w' g (o+i*sz) us→QX w' ns aa x' us→ZP w' ns (B1++aa++B2) g sz (xs.set i x') o
 | [],_,_,_,_,_,hx=>by simp at hx
 | d :: ds,B,o,0,x,h,hx=>by
  simp only[List.getElem?_cons_zero,Option.some.injEq] at hx;subst hx;simp only[ZP] at h;obtain⟨vs,B1,B2,rfl,h1,h2,h3,h4⟩:=h;refine⟨vs,[],B1,B2,by simp,h1,by simpa using h2,h3,fun w' aa x' us hk hc hl ab ht=>?_⟩;simp only[List.set_cons_zero,Lz,ZP];refine⟨us,aa,B2,rfl,hl,by simpa using ab,ht,?_⟩;have ad:∀ {ys:List D} {C:List Nat} {q:Nat},o+sz≤q→(∀ b∈C,b∈B2)→ZP w ns C g sz ys q→ZP w' ns C g sz ys q:=by
   intro ys
   induction ys with
   | nil=>intro C q _ _ h;simpa only[ZP] using h
   | cons y ys ih=>
    intro C q hq hC h;simp only[ZP] at h ⊢;obtain⟨ws,C1,C2,rfl,k1,k2,k3,k4⟩:=h;refine⟨ws,C1,C2,rfl,k1,fun j u hu=>?_,k3.mono fun b hb=>hk b (by simp[hC b (by simp[hb])]),ih (by omega) (fun b hb=>hC b (by simp[hb])) k4⟩;exact hc (q+j) u (.inr (by omega)) (k2 j u hu)
  exact ad (Kh _) (fun _ hb=>hb) h4
 | d :: ds,B,o,i+1,x,h,hx=>by
  simp only[K3] at hx;simp only[ZP] at h;obtain⟨ws,C1,C2,rfl,h1,h2,h3,h4⟩:=h;obtain⟨vs,B1,Bn,B2,rfl,g1,g2,g3,g4⟩:=ZP.at h4 hx;have e:o+sz+i*sz=o+(i+1)*sz:=by rw[KI];omega
  rw[e] at g2 g4;refine⟨vs,C1++B1,Bn,B2,by simp,g1,g2,g3,fun w' aa x' us hk hc hl ab ht=>?_⟩;simp only[List.set_cons_succ,ZP];refine⟨ws,C1,B1++aa++B2,by simp,h1,fun j u hu=>?_,h3.mono fun b hb=>hk b (by simp[hb]),g4 w' aa x' us (fun b hb=>hk b (by
   simp only[Kc] at hb ⊢;rcases hb with hb | hb
   ·exact .inl (.inr hb)
   ·exact .inr hb)) hc hl ab ht⟩
  have hj:j<ws.length:=(Kd.1 hu).1;have:sz≤(i+1)*sz:=Nat.le_mul_of_pos_left sz (by omega);exact hc (o+j) u (.inl (by omega)) (h2 j u hu)
theorem ZP.length_le {g sz:Nat}:∀ {xs:List D} {B:List Nat} {o:Nat},ZP w ns B g sz xs o→∀ i,i<xs.length→∃ vs:List Value,vs.length=sz∧Qe w g (o+i*sz) vs
 | [],_,_,_,i,hi=>by simp at hi
 | d :: ds,B,o,h,0,_=>by
  simp only[ZP] at h;obtain⟨vs,B1,B2,rfl,h1,h2,_,_⟩:=h;exact⟨vs,h1,by simpa using h2⟩
 | d :: ds,B,o,h,i+1,hi=>by
  simp only[ZP] at h;obtain⟨vs,B1,B2,rfl,h1,h2,_,h4⟩:=h;obtain⟨us,g1,g2⟩:=ZP.length_le h4 i (by simpa using hi);refine⟨us,g1,?_⟩;have e:o+sz+i*sz=o+(i+1)*sz:=by rw[KI];omega
  rw[e] at g2;exact g2
theorem ZP.append {g sz:Nat}:∀ {xs ys:List D} {B B' : List Nat} {o:Nat},ZP w ns B g sz xs o→ZP w ns B' g sz ys (o+xs.length*sz)→ZP w ns (B++B') g sz (xs++ys) o
 | [],ys,B,B',o,h,h'=>by
  simp only[ZP] at h;subst h;simpa using h'
 | d :: ds,ys,B,B',o,h,h'=>by
  simp only[ZP] at h;obtain⟨vs,B1,B2,rfl,h1,h2,h3,h4⟩:=h;simp only[KN,ZP];refine⟨vs,B1,B2++B',by simp,h1,h2,h3,ZP.append h4 ?_⟩;have e:o+(d :: ds).length*sz=o+sz+ds.length*sz:=by rw[Ki,KI];omega
  rwa [e] at h'
theorem ZZ.get:∀ {ds:List D} {B:List Nat} {vs:List Value} {j:Nat} {d:D},ZZ w ns B ds vs→ds[j]?=some d→∃ v B1 Bn B2,vs[j]?=some v∧B=B1++Bn++B2∧Qb w ns Bn d v
 | [],_,_,_,_,_,h=>by simp at h
 | e :: ds,B,vs,0,d,h,hd=>by
  simp only[List.getElem?_cons_zero,Option.some.injEq] at hd;subst hd;simp only[ZZ] at h;obtain⟨v,r,B1,B2,rfl,rfl,h2,h3⟩:=h;exact⟨v,[],B1,B2,rfl,by simp,h2⟩
 | e :: ds,B,vs,j+1,d,h,hd=>by
  simp only[K3] at hd;simp only[ZZ] at h;obtain⟨v,r,B1,B2,rfl,rfl,h2,h3⟩:=h;obtain⟨u,C1,Cn,C2,g1,rfl,g3⟩:=ZZ.get h3 hd;exact⟨u,B1++C1,Cn,C2,by simpa using g1,by simp,g3⟩
theorem Qb.plain {S:Nat→Prop} {d:D} {B:List Nat} {v:Value} (h:Qb w ns B d v) (hd:∀ ys,d≠.sl ys):B=[]∧d.plain=true∧ZL w S d [v]:=by
 cases d with
 | sl ys=>exact absurd rfl (hd ys)
 | agg cs=>simp only[Qb] at h
 | int k n=>simp only[Qb] at h;obtain⟨rfl,rfl⟩:=h;exact⟨rfl,rfl,rfl⟩
 | bool b=>simp only[Qb] at h;obtain⟨rfl,rfl⟩:=h;exact⟨rfl,rfl,rfl⟩
 | str s=>simp only[Qb] at h;obtain⟨⟨t,rfl,ht⟩,rfl⟩:=h;exact⟨rfl,rfl,t,rfl,ht⟩
end
end Go.Abs
