import GoSem.Core.World
import Derived.Test.YtfnegoimdljanaaGreatDoorAbsRun
import Derived.Below
import Derived.Laws.MakeOwn
import Derived.Laws.StructEq
import Derived.Laws.Concat
import Derived.Laws.Slices
set_option linter.all false
namespace Go.Abs
open Go
def ZqZ:List Value:=(List.range 20).map fun i=>Value.int .u64 ((10 ^ i:Nat):Int)
def ZC5:List (Nat×Array Value):=[(1,ZqZ.toArray)]
end Go.Abs
namespace Go.Abs
open Go
def Zz {α β:Type} (R:α→β→Prop):List α→List β→Prop
 | [],[]=>True
 | a :: as1,b :: bs=>R a b∧Zz R as1 bs
 | _,_=>False
section
variable {α β:Type} {R R' : α→β→Prop}
theorem Zz.length:∀ {as1:List α} {bs:List β},Zz R as1 bs→as1.length=bs.length
 | [],[],_=>rfl
 | _ :: _,_ :: _,h=>congrArg (·+1) (Zz.length h.2)
 | [],_ :: _,h=>h.elim
 | _ :: _,[],h=>h.elim
theorem Zz.mono (hr:∀ a b,R a b→R' a b):∀ {as1:List α} {bs:List β},Zz R as1 bs→Zz R' as1 bs
 | [],[],_=>trivial
 | _ :: _,_ :: _,h=>⟨hr _ _ h.1,Zz.mono hr h.2⟩
 | [],_ :: _,h=>h.elim
 | _ :: _,[],h=>h.elim
theorem Zz.get:∀ {as1:List α} {bs:List β},Zz R as1 bs→∀ (i:Nat) (a:α),as1[i]?=some a→∃ b,bs[i]?=some b∧R a b
 | [],[],_,i,a,h=>by simp at h
 | a :: as1,b :: bs,h,0,a',ha=>by simp at ha;subst ha;exact⟨b,by simp,h.1⟩
 | a :: as1,b :: bs,h,i+1,a',ha=>by simp at ha;obtain⟨b',h1,h2⟩:=Zz.get h.2 i a' ha;exact⟨b',by simp[h1],h2⟩
 | [],_ :: _,h,_,_,_=>h.elim
 | _ :: _,[],h,_,_,_=>h.elim
theorem Zz.get' : ∀ {as1:List α} {bs:List β},Zz R as1 bs→∀ (i:Nat) (b:β),bs[i]?=some b→∃ a,as1[i]?=some a∧R a b
 | [],[],_,i,a,h=>by simp at h
 | a :: as1,b :: bs,h,0,b',hb=>by simp at hb;subst hb;exact⟨a,by simp,h.1⟩
 | a :: as1,b :: bs,h,i+1,b',hb=>by simp at hb;obtain⟨a',h1,h2⟩:=Zz.get' h.2 i b' hb;exact⟨a',by simp[h1],h2⟩
 | [],_ :: _,h,_,_,_=>h.elim
 | _ :: _,[],h,_,_,_=>h.elim
theorem Zz.of_get:∀ {as1:List α} {bs:List β},as1.length=bs.length→(∀ (i:Nat) (a:α) (b:β),as1[i]?=some a→bs[i]?=some b→R a b)→Zz R as1 bs
 | [],[],_,_=>trivial
 | a :: as1,b :: bs,hl,h=>⟨h 0 a b (by simp) (by simp),Zz.of_get (by simpa using hl) fun i a' b' ha hb=>h (i+1) a' b' (by simpa using ha) (by simpa using hb)⟩
 | [],_ :: _,hl,_=>by simp at hl
 | _ :: _,[],hl,_=>by simp at hl
theorem Zz.append:∀ {as1 aa : List α} {bs ab : List β},Zz R as1 bs→Zz R aa ab→Zz R (as1++aa) (bs++ab)
 | [],_,[],_,_,h'=>h'
 | _ :: _,_,_ :: _,_,h,h'=>⟨h.1,Zz.append h.2 h'⟩
 | [],_,_ :: _,_,h,_=>h.elim
 | _ :: _,_,[],_,h,_=>h.elim
theorem Zz.take (n:Nat):∀ {as1:List α} {bs:List β},Zz R as1 bs→Zz R (as1.take n) (bs.take n):=by
 induction n with
 | zero=>intro as1 bs _;simp[Zz]
 | succ n ih=>
  intro as1 bs h;cases as1<;>cases bs
  ·simp[Zz]
  ·exact h.elim
  ·exact h.elim
  ·exact⟨h.1,ih h.2⟩
theorem Zz.drop (n:Nat):∀ {as1:List α} {bs:List β},Zz R as1 bs→Zz R (as1.drop n) (bs.drop n):=by
 induction n with
 | zero=>intro as1 bs h;simpa using h
 | succ n ih=>
  intro as1 bs h;cases as1<;>cases bs
  ·simp[Zz]
  ·exact h.elim
  ·exact h.elim
  ·simpa using ih h.2
theorem Zz.map {γ δ:Type} {S:γ→δ→Prop} {f:α→γ} {g:β→δ} (hr:∀ a b,R a b→S (f a) (g b)):∀ {as1:List α} {bs:List β},Zz R as1 bs→Zz S (as1.map f) (bs.map g)
 | [],[],_=>trivial
 | _ :: _,_ :: _,h=>⟨hr _ _ h.1,Zz.map hr h.2⟩
 | [],_ :: _,h=>h.elim
 | _ :: _,[],h=>h.elim
theorem Zz.map_left {γ:Type} {S:γ→β→Prop} {f:α→γ} (hr:∀ a b,R a b→S (f a) b):∀ {as1:List α} {bs:List β},Zz R as1 bs→Zz S (as1.map f) bs
 | [],[],_=>trivial
 | _ :: _,_ :: _,h=>⟨hr _ _ h.1,Zz.map_left hr h.2⟩
 | [],_ :: _,h=>h.elim
 | _ :: _,[],h=>h.elim
theorem Zz.set {as1:List α} {bs:List β} (h:Zz R as1 bs) (i:Nat) {a:α} {b:β} (aa:R a b):Zz R (as1.set i a) (bs.set i b):=by
 refine Zz.of_get (by simp[h.length]) fun j a' b' ha hb=>?_;rw[LJ] at ha hb;rw[h.length] at ha;split at ha
 ·split at ha
  ·rename_i h1 h2;subst h1;simp[h2] at ha hb;subst ha;rw[← hb];exact aa
  ·cases ha
 ·rename_i h1;simp[h1] at hb;obtain⟨ab,h2,h3⟩:=h.get j a' ha;rw[hb] at h2;cases h2;exact h3
end
def Qz (w:World) (b o:Nat) (vs:List Value):Prop:=∀ j u,vs[j]?=some u→w.cell? ⟨b,o+j,none⟩=some u
theorem Qz.mono {w w' : World} {b o:Nat} {vs:List Value} (h:Qz w b o vs) (hb:w'.heap[b]?=w.heap[b]?):Qz w' b o vs:=
 fun j u hu=>(World.cell?_of_block (w:=w) (a:=⟨b,o+j,none⟩) hb).trans (h j u hu)
mutual
def ZQ (w:World) (S:Nat→Prop):D→List Value→Prop
 | .int k n,vs=>vs=[.int k n]
 | .bool b,vs=>vs=[.bool b]
 | .str s,vs=>∃ t:ByteArray,vs=[.string t]∧t.data.toList=s
 | .sl xs,vs=>∃ a c,vs=[.slice a xs.length c]∧xs.length≤c∧(xs=[]∨∃ b o sz,a=some ⟨b,o,none⟩∧S b∧0<sz∧WK w S b sz xs o)
 | .agg cs,vs=>Xf w S cs vs
def Xf (w:World) (S:Nat→Prop):List D→List Value→Prop
 | [],vs=>vs=[]
 | d :: ds,vs=>∃ v r,vs=v :: r∧d.one=true∧ZQ w S d [v]∧Xf w S ds r
def WK (w:World) (S:Nat→Prop) (b sz:Nat):List D→Nat→Prop
 | [],_=>True
 | d :: ds,o=>(∃ vs:List Value,vs.length=sz∧Qz w b o vs∧ZQ w S d vs)∧WK w S b sz ds (o+sz)
end
section
variable {w:World} {S:Nat→Prop}
theorem XB:∀ {ds:List D} {vs:List Value},Xf w S ds vs↔Zz (fun d v=>d.one=true∧ZQ w S d [v]) ds vs
 | [],[]=>by simp[Xf,Zz]
 | [],_ :: _=>by simp[Xf,Zz]
 | d :: ds,[]=>by simp[Xf,Zz]
 | d :: ds,v :: vs=>by
  simp only[Xf,Zz,XB (ds:=ds) (vs:=vs)];constructor
  ·rintro ⟨v',r,h,h1,h2,h3⟩
   cases h;exact⟨⟨h1,h2⟩,XB.1 h3⟩
  ·rintro ⟨⟨h1,h2⟩,h3⟩
   exact⟨v,vs,rfl,h1,h2,XB.2 h3⟩
theorem Yo {b sz:Nat}:∀ {xs:List D} {o:Nat},WK w S b sz xs o ↔
  ∀ i x,xs[i]?=some x→∃ vs:List Value,vs.length=sz∧Qz w b (o+i*sz) vs∧ZQ w S x vs
 | [],o=>by simp[WK]
 | d :: ds,o=>by
  simp only[WK,Yo (xs:=ds)];constructor
  ·rintro ⟨h1,h2⟩ i x hx
   cases i with
   | zero=>simp at hx;subst hx;simpa using h1
   | succ i=>
    simp at hx;obtain⟨vs,h3,h4,h5⟩:=h2 i x hx;refine⟨vs,h3,?_,h5⟩;have:o+(i+1)*sz=o+sz+i*sz:=by rw[KU];omega
    rw[this];exact h4
  ·intro h;refine⟨by simpa using h 0 d (by simp),fun i x hx=>?_⟩;obtain⟨vs,h3,h4,h5⟩:=h (i+1) x (by simpa using hx);refine⟨vs,h3,?_,h5⟩;have:o+(i+1)*sz=o+sz+i*sz:=by rw[KU];omega
   rw[← this];exact h4
structure ZP (S S' : Nat→Prop) (w w' : World):Prop where
 sub:∀ b,S b→S' b
 blk:∀ b,S b→w'.heap[b]?=w.heap[b]?
mutual
theorem ZQ.mono {w' : World} {S' : Nat→Prop} (hk:ZP S S' w w'):∀ {d:D} {vs:List Value},ZQ w S d vs→ZQ w' S' d vs
 | .int _ _,_,h=>by simpa [ZQ] using h
 | .bool _,_,h=>by simpa [ZQ] using h
 | .str _,_,h=>by simpa [ZQ] using h
 | .sl xs,vs,h=>by
  simp only[ZQ] at h ⊢;obtain⟨a,c,h1,h2,h3⟩:=h;refine⟨a,c,h1,h2,?_⟩;rcases h3 with h3 | ⟨b,o,sz,h4,h5,h6,h7⟩
  ·exact .inl h3
  ·exact .inr ⟨b,o,sz,h4,hk.sub b h5,h6,WK.mono hk h5 h7⟩
 | .agg cs,vs,h=>by
  simp only[ZQ] at h ⊢;exact Xf.mono hk h
theorem Xf.mono {w' : World} {S' : Nat→Prop} (hk:ZP S S' w w'):∀ {ds:List D} {vs:List Value},Xf w S ds vs→Xf w' S' ds vs
 | [],_,h=>by simpa [Xf] using h
 | d :: ds,vs,h=>by
  simp only[Xf] at h ⊢;obtain⟨v,r,h1,h2,h3,h4⟩:=h;exact⟨v,r,h1,h2,ZQ.mono hk h3,Xf.mono hk h4⟩
theorem WK.mono {w' : World} {S' : Nat→Prop} (hk:ZP S S' w w') {b sz:Nat} (hb:S b):∀ {ds:List D} {o:Nat},WK w S b sz ds o→WK w' S' b sz ds o
 | [],_,_=>by simp[WK]
 | d :: ds,o,h=>by
  simp only[WK] at h ⊢;obtain⟨⟨vs,h1,h2,h3⟩,h4⟩:=h;exact⟨⟨vs,h1,h2.mono (hk.blk b hb),ZQ.mono hk h3⟩,WK.mono hk hb h4⟩
end
theorem WK.mono' {w' : World} {S' : Nat→Prop} (hk:ZP S S' w w') {b sz:Nat} (hb:w'.heap[b]?=w.heap[b]?) {ds:List D} {o:Nat} (h:WK w S b sz ds o):WK w' S' b sz ds o:=by
 rw[Yo] at h ⊢;intro i x hx;obtain⟨vs,h1,h2,h3⟩:=h i x hx;exact⟨vs,h1,h2.mono hb,h3.mono hk⟩
theorem Xf.length {ds:List D} {vs:List Value} (h:Xf w S ds vs):ds.length=vs.length:=(XB.1 h).length
theorem ZQ.length {d:D} {vs:List Value} (h:ZQ w S d vs):vs.length=d.cells.length:=by
 cases d<;>simp only[ZQ] at h
 ·subst h;rfl
 ·subst h;rfl
 ·obtain⟨t,rfl,_⟩:=h;rfl
 ·obtain⟨a,c,rfl,_⟩:=h;rfl
 ·exact h.length.symm
theorem ZQ.cells {d:D} {vs:List Value} (h:ZQ w S d vs):Xf w S d.cells vs:=by
 cases d<;>simp only[D.cells,Xf]
 ·simp only[ZQ] at h;subst h;exact⟨_,[],rfl,rfl,by simp[ZQ],rfl⟩
 ·simp only[ZQ] at h;subst h;exact⟨_,[],rfl,rfl,by simp[ZQ],rfl⟩
 ·have h':=h;simp only[ZQ] at h;obtain⟨t,rfl,_⟩:=h;exact⟨_,[],rfl,rfl,h',rfl⟩
 ·have h':=h;simp only[ZQ] at h;obtain⟨a,c,rfl,_⟩:=h;exact⟨_,[],rfl,rfl,h',rfl⟩
 ·simpa [ZQ] using h
end
end Go.Abs
namespace Go.Abs
open Go
mutual
def Qu (w:World) (ns:Nat) (B:List Nat):D→Value→Prop
 | .int k n,v=>v=.int k n∧B=[]
 | .bool b,v=>v=.bool b∧B=[]
 | .str s,v=>(∃ t:ByteArray,v=.string t∧t.data.toList=s)∧B=[]
 | .sl xs,v=>∃ a c,v=.slice a xs.length c∧xs.length≤c∧((c=0∧B=[]) ∨
   ∃ g cur e Bs,a=some ⟨g,0,none⟩∧0<c∧w.heap[g]?=some (.cells cur e (0,0))∧c≤maxLen∧cur.size=c*ns∧0<ns∧B=g :: Bs∧Z1 w ns Bs g ns xs 0)
 | .agg _,_=>False
def Qm (w:World) (ns:Nat) (B:List Nat):List D→List Value→Prop
 | [],vs=>vs=[]∧B=[]
 | d :: ds,vs=>∃ v r B1 B2,vs=v :: r∧B=B1++B2∧Qu w ns B1 d v∧Qm w ns B2 ds r
def XC (w:World) (ns:Nat) (B:List Nat):D→List Value→Prop
 | .agg cs,vs=>Qm w ns B cs vs
 | .int k n,vs=>vs=[.int k n]∧B=[]
 | .bool b,vs=>vs=[.bool b]∧B=[]
 | .str s,vs=>(∃ t:ByteArray,vs=[.string t]∧t.data.toList=s)∧B=[]
 | .sl _,_=>False
def Z1 (w:World) (ns:Nat) (B:List Nat) (g sz:Nat):List D→Nat→Prop
 | [],_=>B=[]
 | d :: ds,o=>∃ vs B1 B2,B=B1++B2∧vs.length=sz∧Qz w g o vs∧XC w ns B1 d vs∧Z1 w ns B2 g sz ds (o+sz)
end
section
variable {w w' : World} {ns:Nat}
mutual
theorem Qu.mono:∀ {d:D} {B:List Nat} {v:Value},Qu w ns B d v→(∀ b∈B,w'.heap[b]?=w.heap[b]?)→Qu w' ns B d v
 | .int _ _,_,_,h,_=>by simpa only[Qu] using h
 | .bool _,_,_,h,_=>by simpa only[Qu] using h
 | .str _,_,_,h,_=>by simpa only[Qu] using h
 | .agg _,_,_,h,_=>by simp only[Qu] at h
 | .sl xs,B,v,h,hk=>by
  simp only[Qu] at h ⊢;obtain⟨a,c,h1,h2,h3⟩:=h;refine⟨a,c,h1,h2,?_⟩;rcases h3 with h3 | ⟨g,cur,e,Bs,h4,h5,h6,h7,h8,h9,rfl,aa⟩
  ·exact .inl h3
  ·exact .inr ⟨g,cur,e,Bs,h4,h5,(hk g (by simp)).trans h6,h7,h8,h9,rfl,Z1.mono aa (hk g (by simp)) fun b hb=>hk b (by simp[hb])⟩
theorem Qm.mono:∀ {ds:List D} {B:List Nat} {vs:List Value},Qm w ns B ds vs→(∀ b∈B,w'.heap[b]?=w.heap[b]?)→Qm w' ns B ds vs
 | [],_,_,h,_=>by simpa only[Qm] using h
 | d :: ds,B,vs,h,hk=>by
  simp only[Qm] at h ⊢;obtain⟨v,r,B1,B2,h1,rfl,h2,h3⟩:=h;exact⟨v,r,B1,B2,h1,rfl,Qu.mono h2 fun b hb=>hk b (by simp[hb]),Qm.mono h3 fun b hb=>hk b (by simp[hb])⟩
theorem XC.mono:∀ {d:D} {B:List Nat} {vs:List Value},XC w ns B d vs→(∀ b∈B,w'.heap[b]?=w.heap[b]?)→XC w' ns B d vs
 | .int _ _,_,_,h,_=>by simpa only[XC] using h
 | .bool _,_,_,h,_=>by simpa only[XC] using h
 | .str _,_,_,h,_=>by simpa only[XC] using h
 | .sl _,_,_,h,_=>by simp only[XC] at h
 | .agg cs,_,_,h,hk=>by
  simp only[XC] at h ⊢;exact Qm.mono h hk
theorem Z1.mono {g sz:Nat}:∀ {xs:List D} {B:List Nat} {o:Nat},Z1 w ns B g sz xs o→w'.heap[g]?=w.heap[g]?→(∀ b∈B,w'.heap[b]?=w.heap[b]?)→Z1 w' ns B g sz xs o
 | [],_,_,h,_,_=>by simpa only[Z1] using h
 | d :: ds,B,o,h,hg,hk=>by
  simp only[Z1] at h ⊢;obtain⟨vs,B1,B2,rfl,h1,h2,h3,h4⟩:=h;exact⟨vs,B1,B2,rfl,h1,h2.mono hg,XC.mono h3 fun b hb=>hk b (by simp[hb]),Z1.mono h4 hg fun b hb=>hk b (by simp[hb])⟩
end
mutual
theorem Qu.rep {S:Nat→Prop}:∀ {d:D} {B:List Nat} {v:Value},Qu w ns B d v→(∀ b∈B,S b)→d.one=true∧ZQ w S d [v]
 | .int _ _,_,_,h,_=>by simp only[Qu] at h;exact⟨rfl,by rw[h.1];rfl⟩
 | .bool _,_,_,h,_=>by simp only[Qu] at h;exact⟨rfl,by rw[h.1];rfl⟩
 | .str _,_,_,h,_=>by
  simp only[Qu] at h;obtain⟨⟨t,rfl,h⟩,_⟩:=h;exact⟨rfl,t,rfl,h⟩
 | .agg _,_,_,h,_=>by simp only[Qu] at h
 | .sl xs,B,v,h,hk=>by
  simp only[Qu] at h;obtain⟨a,c,rfl,h2,h3⟩:=h;refine⟨rfl,?_⟩;simp only[ZQ];refine⟨a,c,rfl,h2,?_⟩;rcases h3 with ⟨rfl,_⟩ | ⟨g,cur,e,Bs,h4,h5,h6,h7,h8,h9,rfl,aa⟩
  ·exact .inl (Kt o_)
  ·exact .inr ⟨g,0,ns,h4,hk g (by simp),h9,Z1.rep aa fun b hb=>hk b (by simp[hb])⟩
theorem Qm.rep {S:Nat→Prop}:∀ {ds:List D} {B:List Nat} {vs:List Value},Qm w ns B ds vs→(∀ b∈B,S b)→Xf w S ds vs
 | [],_,_,h,_=>by simp only[Qm] at h;simp only[Xf];exact h.1
 | d :: ds,B,vs,h,hk=>by
  simp only[Qm] at h;obtain⟨v,r,B1,B2,rfl,rfl,h2,h3⟩:=h;simp only[Xf];obtain⟨g1,g2⟩:=Qu.rep (S:=S) h2 fun b hb=>hk b (by simp[hb]);exact⟨v,r,rfl,g1,g2,Qm.rep h3 fun b hb=>hk b (by simp[hb])⟩
theorem XC.rep {S:Nat→Prop}:∀ {d:D} {B:List Nat} {vs:List Value},XC w ns B d vs→(∀ b∈B,S b)→ZQ w S d vs
 | .int _ _,_,_,h,_=>by simp only[XC] at h;simp only[ZQ];exact h.1
 | .bool _,_,_,h,_=>by simp only[XC] at h;simp only[ZQ];exact h.1
 | .str _,_,_,h,_=>by simp only[XC] at h;simp only[ZQ];exact h.1
 | .sl _,_,_,h,_=>by simp only[XC] at h
 | .agg cs,_,_,h,hk=>by
  simp only[XC] at h;simp only[ZQ];exact Qm.rep h hk
theorem Z1.rep {S:Nat→Prop} {g sz:Nat}:∀ {xs:List D} {B:List Nat} {o:Nat},Z1 w ns B g sz xs o→(∀ b∈B,S b)→WK w S g sz xs o
 | [],_,_,_,_=>by simp only[WK]
 | d :: ds,B,o,h,hk=>by
  simp only[Z1] at h;obtain⟨vs,B1,B2,rfl,h1,h2,h3,h4⟩:=h;simp only[WK];exact⟨⟨vs,h1,h2,XC.rep h3 fun b hb=>hk b (by simp[hb])⟩,Z1.rep h4 fun b hb=>hk b (by simp[hb])⟩
end
mutual
theorem Qu.lt:∀ {d:D} {B:List Nat} {v:Value},Qu w ns B d v→∀ b∈B,b<w.heap.size
 | .int _ _,_,_,h,b,hb=>by simp only[Qu] at h;rw[h.2] at hb;simp at hb
 | .bool _,_,_,h,b,hb=>by simp only[Qu] at h;rw[h.2] at hb;simp at hb
 | .str _,_,_,h,b,hb=>by simp only[Qu] at h;rw[h.2] at hb;simp at hb
 | .agg _,_,_,h,_,_=>by simp only[Qu] at h
 | .sl xs,B,v,h,b,hb=>by
  simp only[Qu] at h;obtain⟨a,c,_,_,h3⟩:=h;rcases h3 with ⟨_,rfl⟩ | ⟨g,cur,e,Bs,_,_,h6,_,_,_,rfl,aa⟩
  ·simp at hb
  ·rcases Ke.1 hb with rfl | hb
   ·exact(KP.1 h6).1
   ·exact Z1.lt aa b hb
theorem Qm.lt:∀ {ds:List D} {B:List Nat} {vs:List Value},Qm w ns B ds vs→∀ b∈B,b<w.heap.size
 | [],_,_,h,b,hb=>by simp only[Qm] at h;rw[h.2] at hb;simp at hb
 | d :: ds,_,_,h,b,hb=>by
  simp only[Qm] at h;obtain⟨v,r,B1,B2,rfl,rfl,h2,h3⟩:=h;rcases Kj.1 hb with hb | hb
  ·exact Qu.lt h2 b hb
  ·exact Qm.lt h3 b hb
theorem XC.lt:∀ {d:D} {B:List Nat} {vs:List Value},XC w ns B d vs→∀ b∈B,b<w.heap.size
 | .int _ _,_,_,h,b,hb=>by simp only[XC] at h;rw[h.2] at hb;simp at hb
 | .bool _,_,_,h,b,hb=>by simp only[XC] at h;rw[h.2] at hb;simp at hb
 | .str _,_,_,h,b,hb=>by simp only[XC] at h;rw[h.2] at hb;simp at hb
 | .sl _,_,_,h,_,_=>by simp only[XC] at h
 | .agg cs,_,_,h,b,hb=>by
  simp only[XC] at h;exact Qm.lt h b hb
theorem Z1.lt {g sz:Nat}:∀ {xs:List D} {B:List Nat} {o:Nat},Z1 w ns B g sz xs o→∀ b∈B,b<w.heap.size
 | [],_,_,h,b,hb=>by simp only[Z1] at h;rw[h] at hb;simp at hb
 | d :: ds,_,_,h,b,hb=>by
  simp only[Z1] at h;obtain⟨vs,B1,B2,rfl,h1,h2,h3,h4⟩:=h;rcases Kj.1 hb with hb | hb
  ·exact XC.lt h3 b hb
  ·exact Z1.lt h4 b hb
end
theorem Qz.uniq {b o:Nat}:∀ {vs us:List Value},Qz w b o vs→Qz w b o us→vs.length=us.length→vs=us:=by
 intro vs us h h' hl;refine LI fun j=>?_;rcases K7 j vs.length with hj | hj
 ·have h1:=h j _ (Kw hj);have h2:=h' j _ (Kw (by omega:j<us.length));rw[h1] at h2;rw[Kw hj,Kw (by omega:j<us.length)];exact h2
 ·rw[K8 hj,K8 o_]
mutual
theorem Qu.uniq:∀ {d:D} {B B' : List Nat} {v:Value},Qu w ns B d v→Qu w ns B' d v→B=B'
 | .int _ _,_,_,_,h,h'=>by simp only[Qu] at h h';rw[h.2,h'.2]
 | .bool _,_,_,_,h,h'=>by simp only[Qu] at h h';rw[h.2,h'.2]
 | .str _,_,_,_,h,h'=>by simp only[Qu] at h h';rw[h.2,h'.2]
 | .agg _,_,_,_,h,_=>by simp only[Qu] at h
 | .sl xs,B,B',v,h,h'=>by
  simp only[Qu] at h h';obtain⟨a,c,rfl,h2,h3⟩:=h;obtain⟨a',c',e,ag,ab⟩:=h';cases e;rcases h3 with ⟨hc,rfl⟩ | ⟨g,cur,e,Bs,rfl,hc,_,_,_,_,rfl,ad⟩<;>rcases ab with ⟨ae,rfl⟩ | ⟨g',af,e',ah,e1,ae,_,_,_,_,rfl,aa⟩
  ·rfl
  ·omega
  ·omega
  ·cases e1;rw[Z1.uniq ad aa]
theorem Qm.uniq:∀ {ds:List D} {B B' : List Nat} {vs:List Value},Qm w ns B ds vs→Qm w ns B' ds vs→B=B'
 | [],_,_,_,h,h'=>by simp only[Qm] at h h';rw[h.2,h'.2]
 | d :: ds,_,_,_,h,h'=>by
  simp only[Qm] at h h';obtain⟨v,r,B1,B2,rfl,rfl,h2,h3⟩:=h;obtain⟨v',r',ad,ae,e,rfl,aa,ab⟩:=h';cases e;rw[Qu.uniq h2 aa,Qm.uniq h3 ab]
theorem XC.uniq:∀ {d:D} {B B' : List Nat} {vs:List Value},XC w ns B d vs→XC w ns B' d vs→B=B'
 | .int _ _,_,_,_,h,h'=>by simp only[XC] at h h';rw[h.2,h'.2]
 | .bool _,_,_,_,h,h'=>by simp only[XC] at h h';rw[h.2,h'.2]
 | .str _,_,_,_,h,h'=>by simp only[XC] at h h';rw[h.2,h'.2]
 | .sl _,_,_,_,h,_=>by simp only[XC] at h
 | .agg cs,_,_,_,h,h'=>by
  simp only[XC] at h h';exact Qm.uniq h h'
theorem Z1.uniq {g sz:Nat}:∀ {xs:List D} {B B' : List Nat} {o:Nat},Z1 w ns B g sz xs o→Z1 w ns B' g sz xs o→B=B'
 | [],_,_,_,h,h'=>by simp only[Z1] at h h';rw[h,h']
 | d :: ds,_,_,_,h,h'=>by
  simp only[Z1] at h h';obtain⟨vs,B1,B2,rfl,h1,h2,h3,h4⟩:=h;obtain⟨ae,af,ag,rfl,ah,aa,ab,ad⟩:=h';cases Qz.uniq h2 aa o_;rw[XC.uniq h3 ab,Z1.uniq h4 ad]
end
theorem Qm.length:∀ {ds:List D} {B:List Nat} {vs:List Value},Qm w ns B ds vs→vs.length=ds.length
 | [],_,_,h=>by simp only[Qm] at h;rw[h.1];rfl
 | d :: ds,_,_,h=>by
  simp only[Qm] at h;obtain⟨v,r,B1,B2,rfl,rfl,_,h3⟩:=h;simp[Qm.length h3]
theorem Qm.append:∀ {ds es:List D} {B B' : List Nat} {vs us:List Value},Qm w ns B ds vs→Qm w ns B' es us→Qm w ns (B++B') (ds++es) (vs++us)
 | [],_,_,_,_,_,h,h'=>by
  simp only[Qm] at h;obtain⟨rfl,rfl⟩:=h;simpa using h'
 | d :: ds,es,B,B',vs,us,h,h'=>by
  simp only[Qm] at h;obtain⟨v,r,B1,B2,rfl,rfl,h2,h3⟩:=h;simp only[KF,Qm];exact⟨v,r++us,B1,B2++B',rfl,by simp,h2,Qm.append h3 h'⟩
theorem Qm.split:∀ {ds es:List D} {B:List Nat} {vs:List Value},Qm w ns B (ds++es) vs→∃ B1 B2,B=B1++B2∧Qm w ns B1 ds (vs.take ds.length)∧Qm w ns B2 es (vs.drop ds.length)
 | [],es,B,vs,h=>⟨[],B,rfl,by simp[Qm],by simpa using h⟩
 | d :: ds,es,B,vs,h=>by
  simp only[KF,Qm] at h;obtain⟨v,r,B1,B2,rfl,rfl,h2,h3⟩:=h;obtain⟨C1,C2,rfl,g1,g2⟩:=Qm.split h3;refine⟨B1++C1,C2,by simp,?_,by simpa using g2⟩;simp only[Kl,L0,Qm];exact⟨v,r.take ds.length,B1,C1,rfl,rfl,h2,g1⟩
theorem XC.cells:∀ {d:D} {B:List Nat} {vs:List Value},XC w ns B d vs→Qm w ns B d.cells vs
 | .int k n,B,vs,h=>by
  simp only[XC] at h;obtain⟨rfl,rfl⟩:=h;simp only[D.cells,Qm,Qu];exact⟨_,[],[],[],rfl,rfl,⟨rfl,rfl⟩,rfl,rfl⟩
 | .bool b,B,vs,h=>by
  simp only[XC] at h;obtain⟨rfl,rfl⟩:=h;simp only[D.cells,Qm,Qu];exact⟨_,[],[],[],rfl,rfl,⟨rfl,rfl⟩,rfl,rfl⟩
 | .str s,B,vs,h=>by
  simp only[XC] at h;obtain⟨⟨t,rfl,ht⟩,rfl⟩:=h;simp only[D.cells,Qm,Qu];exact⟨_,[],[],[],rfl,rfl,⟨⟨t,rfl,ht⟩,rfl⟩,rfl,rfl⟩
 | .sl _,_,_,h=>by simp only[XC] at h
 | .agg cs,B,vs,h=>by simp only[XC] at h;exact h
theorem Zq0 {cs:List D} {B:List Nat} {vs:List Value} (h:Qm w ns B cs vs):XC w ns B (.agg cs) vs:=by simp only[XC];exact h
theorem Z1.at {g sz:Nat}:∀ {xs:List D} {B:List Nat} {o i:Nat} {x:D},Z1 w ns B g sz xs o→xs[i]?=some x→∃ vs B1 Bn B2,B=B1++Bn++B2∧vs.length=sz∧Qz w g (o+i*sz) vs∧XC w ns Bn x vs ∧
  ∀ (w' : World) (aa : List Nat) (x' : D) (us:List Value),(∀ b∈B1++B2,w'.heap[b]?=w.heap[b]?)→(∀ p v,(p<o+i*sz∨o+i*sz+sz≤p)→w.cell? ⟨g,p,none⟩=some v→w'.cell? ⟨g,p,none⟩=some v) →
   us.length=sz→Qz w' g (o+i*sz) us→XC w' ns aa x' us→Z1 w' ns (B1++aa++B2) g sz (xs.set i x') o
 | [],_,_,_,_,_,hx=>by simp at hx
 | d :: ds,B,o,0,x,h,hx=>by
  simp only[KX,Option.some.injEq] at hx;subst hx;simp only[Z1] at h;obtain⟨vs,B1,B2,rfl,h1,h2,h3,h4⟩:=h;refine⟨vs,[],B1,B2,by simp,h1,by simpa using h2,h3,fun w' aa x' us hk hc hl ab ht=>?_⟩;simp only[KaC,K6,Z1];refine⟨us,aa,B2,rfl,hl,by simpa using ab,ht,?_⟩;have ad:∀ {ys:List D} {C:List Nat} {q:Nat},o+sz≤q→(∀ b∈C,b∈B2)→Z1 w ns C g sz ys q→Z1 w' ns C g sz ys q:=by
   intro ys
   induction ys with
   | nil=>intro C q _ _ h;simpa only[Z1] using h
   | cons y ys ih=>
    intro C q hq hC h;simp only[Z1] at h ⊢;obtain⟨ws,C1,C2,rfl,k1,k2,k3,k4⟩:=h;refine⟨ws,C1,C2,rfl,k1,fun j u hu=>?_,k3.mono fun b hb=>hk b (by simp[hC b (by simp[hb])]),ih o_ (fun b hb=>hC b (by simp[hb])) k4⟩;exact hc (q+j) u (.inr o_) (k2 j u hu)
  exact ad (Kr _) (fun _ hb=>hb) h4
 | d :: ds,B,o,i+1,x,h,hx=>by
  simp only[KY] at hx;simp only[Z1] at h;obtain⟨ws,C1,C2,rfl,h1,h2,h3,h4⟩:=h;obtain⟨vs,B1,Bn,B2,rfl,g1,g2,g3,g4⟩:=Z1.at h4 hx;have e:o+sz+i*sz=o+(i+1)*sz:=by rw[KU];omega
  rw[e] at g2 g4;refine⟨vs,C1++B1,Bn,B2,by simp,g1,g2,g3,fun w' aa x' us hk hc hl ab ht=>?_⟩;simp only[Kak,Z1];refine⟨ws,C1,B1++aa++B2,by simp,h1,fun j u hu=>?_,h3.mono fun b hb=>hk b (by simp[hb]),g4 w' aa x' us (fun b hb=>hk b (by
   simp only[Kj] at hb ⊢;rcases hb with hb | hb
   ·exact .inl (.inr hb)
   ·exact .inr hb)) hc hl ab ht⟩
  have hj:j<ws.length:=(Kc.1 hu).1;have:sz≤(i+1)*sz:=Nat.le_mul_of_pos_left sz o_;exact hc (o+j) u (.inl o_) (h2 j u hu)
theorem Z1.length_le {g sz:Nat}:∀ {xs:List D} {B:List Nat} {o:Nat},Z1 w ns B g sz xs o→∀ i,i<xs.length→∃ vs:List Value,vs.length=sz∧Qz w g (o+i*sz) vs
 | [],_,_,_,i,hi=>by simp at hi
 | d :: ds,B,o,h,0,_=>by
  simp only[Z1] at h;obtain⟨vs,B1,B2,rfl,h1,h2,_,_⟩:=h;exact⟨vs,h1,by simpa using h2⟩
 | d :: ds,B,o,h,i+1,hi=>by
  simp only[Z1] at h;obtain⟨vs,B1,B2,rfl,h1,h2,_,h4⟩:=h;obtain⟨us,g1,g2⟩:=Z1.length_le h4 i (by simpa using hi);refine⟨us,g1,?_⟩;have e:o+sz+i*sz=o+(i+1)*sz:=by rw[KU];omega
  rw[e] at g2;exact g2
theorem Z1.append {g sz:Nat}:∀ {xs ys:List D} {B B' : List Nat} {o:Nat},Z1 w ns B g sz xs o→Z1 w ns B' g sz ys (o+xs.length*sz)→Z1 w ns (B++B') g sz (xs++ys) o
 | [],ys,B,B',o,h,h'=>by
  simp only[Z1] at h;subst h;simpa using h'
 | d :: ds,ys,B,B',o,h,h'=>by
  simp only[Z1] at h;obtain⟨vs,B1,B2,rfl,h1,h2,h3,h4⟩:=h;simp only[KF,Z1];refine⟨vs,B1,B2++B',by simp,h1,h2,h3,Z1.append h4 ?_⟩;have e:o+(d :: ds).length*sz=o+sz+ds.length*sz:=by rw[Kl,KU];omega
  rwa [e] at h'
theorem Qm.get:∀ {ds:List D} {B:List Nat} {vs:List Value} {j:Nat} {d:D},Qm w ns B ds vs→ds[j]?=some d→∃ v B1 Bn B2,vs[j]?=some v∧B=B1++Bn++B2∧Qu w ns Bn d v
 | [],_,_,_,_,_,h=>by simp at h
 | e :: ds,B,vs,0,d,h,hd=>by
  simp only[KX,Option.some.injEq] at hd;subst hd;simp only[Qm] at h;obtain⟨v,r,B1,B2,rfl,rfl,h2,h3⟩:=h;exact⟨v,[],B1,B2,rfl,by simp,h2⟩
 | e :: ds,B,vs,j+1,d,h,hd=>by
  simp only[KY] at hd;simp only[Qm] at h;obtain⟨v,r,B1,B2,rfl,rfl,h2,h3⟩:=h;obtain⟨u,C1,Cn,C2,g1,rfl,g3⟩:=Qm.get h3 hd;exact⟨u,B1++C1,Cn,C2,by simpa using g1,by simp,g3⟩
theorem Qu.plain {S:Nat→Prop} {d:D} {B:List Nat} {v:Value} (h:Qu w ns B d v) (hd:∀ ys,d≠.sl ys):B=[]∧d.plain=true∧ZQ w S d [v]:=by
 cases d with
 | sl ys=>exact absurd rfl (hd ys)
 | agg cs=>simp only[Qu] at h
 | int k n=>simp only[Qu] at h;obtain⟨rfl,rfl⟩:=h;exact⟨rfl,rfl,rfl⟩
 | bool b=>simp only[Qu] at h;obtain⟨rfl,rfl⟩:=h;exact⟨rfl,rfl,rfl⟩
 | str s=>simp only[Qu] at h;obtain⟨⟨t,rfl,ht⟩,rfl⟩:=h;exact⟨rfl,rfl,t,rfl,ht⟩
end
end Go.Abs
namespace Go.Abs
open Go
def XD (w:World) (S:Nat→Prop):D→Value→Prop
 | .agg cs,v=>∃ vs,v=.agg vs∧Xf w S cs vs.toList
 | d,v=>ZQ w S d [v]
theorem XD.mono {w w' : World} {S S' : Nat→Prop} (hk:ZP S S' w w') {d:D} {v:Value} (h:XD w S d v):XD w' S' d v:=by
 cases d<;>simp only[XD] at h ⊢
 ·exact h.mono hk
 ·exact h.mono hk
 ·exact h.mono hk
 ·exact h.mono hk
 ·obtain⟨vs,h1,h2⟩:=h;exact⟨vs,h1,h2.mono hk⟩
theorem XD.cells {w:World} {S:Nat→Prop} {d:D} {v:Value} (h:XD w S d v):ZQ w S d v.cells.toList:=by
 cases d<;>simp only[XD] at h
 ·have:=h;simp only[ZQ] at h;simp at h;subst h;exact this
 ·have:=h;simp only[ZQ] at h;simp at h;subst h;exact this
 ·have:=h;simp only[ZQ] at h;obtain⟨t,h,_⟩:=h;simp at h;subst h;exact this
 ·have:=h;simp only[ZQ] at h;obtain⟨a,c,h,_⟩:=h;simp at h;subst h;exact this
 ·obtain⟨vs,rfl,h2⟩:=h;simpa [ZQ,Value.cells] using h2
theorem XD.one {w:World} {S:Nat→Prop} {d:D} {v:Value} (hd:d.one=true):XD w S d v↔ZQ w S d [v]:=by
 cases d<;>simp[XD,D.one] at hd ⊢
inductive Ref where
 | box (b:Nat×TypeId)
 | row (a:Option Addr) (n c sz:Nat)
abbrev Gh:=Nat→Option Ref
def YT (Γ:Gh) (w:World) (I:Nat→Prop):AV→Value→Prop
 | .d x,v=>x.one=true∧ZQ w I x [v]
 | .nil,v=>∃ a,v=.slice a 0 0
 | .nilp,v=>v=.pointer none
 | .nili,v=>v=.nilIface
 | .ptr id off,v=>∃ b,Γ id=some (.box b)∧v=.pointer (some ⟨b.1,off,none⟩)
 | .prow id sz i off,v=>∃ b o n c,Γ id=some (.row (some ⟨b,o,none⟩) n c sz)∧i<n∧v=.pointer (some ⟨b,o+(i*sz+off),none⟩)
 | .pim cs,v=>∃ b o vs,v=.pointer (some ⟨b,o,none⟩)∧I b∧Qz w b o vs∧Xf w I cs vs
 | .own id,v=>∃ a n c sz,Γ id=some (.row a n c sz)∧v=.slice a n c
 | .ownv id off n,v=>∃ a0 m c sz a,Γ id=some (.row a0 m c sz)∧off+n≤m∧m≤c∧v=.slice a n (c-off)∧(off=0→a=a0)∧(a=a0.map (·.add (off*sz))∨c=off)
 | .bnil id e,v=>∃ b,Γ id=some (.box (b,e))∧(v=.pointer none∨v=.pointer (some ⟨b,0,none⟩))
 | .bbuf _ _,v=>∃ a n c,v=.slice a n c
 | .agg _,_=>False
 | .tup _,_=>False
 | .clo _ _,_=>False
 | .junk,_=>True
def XK (Γ:Gh) (w:World) (I:Nat→Prop):AV→Value→Prop
 | .clo f cs,v=>∃ us,v=.func (.func f) #[] us∧Zz (YT Γ w I) cs us.toList
 | x,v=>YT Γ w I x v
def U7 (Γ:Gh) (w:World) (I:Nat→Prop):AV→Value→Prop
 | .agg cs,v=>∃ vs,v=.agg vs∧Zz (YT Γ w I) cs vs.toList
 | .clo f cs,v=>∃ us,v=.func (.func f) #[] us∧Zz (YT Γ w I) cs us.toList
 | .d (.agg ds),v=>∃ vs,v=.agg vs∧Xf w I ds vs.toList
 | x,v=>YT Γ w I x v
def Rep (Γ:Gh) (w:World) (I:Nat→Prop):AV→Value→Prop
 | .tup vs,v=>∃ us,v=.tuple us∧Zz (U7 Γ w I) vs us.toList
 | x,v=>U7 Γ w I x v
def Qj (Γ Γ' : Gh):Prop:=∀ id r,Γ id=some r→Γ' id=some r
section
variable {Γ Γ' : Gh} {w w' : World} {I I' : Nat→Prop}
theorem YT.mono (hg:Qj Γ Γ') (hk:ZP I I' w w') {x:AV} {v:Value} (h:YT Γ w I x v):YT Γ' w' I' x v:=by
 cases x<;>simp only[YT] at h ⊢
 ·exact⟨h.1,h.2.mono hk⟩
 ·exact h
 ·exact h
 ·exact h
 ·obtain⟨b,h1,h2⟩:=h;exact⟨b,hg _ _ h1,h2⟩
 ·obtain⟨b,o,n,c,h1,h2⟩:=h;exact⟨b,o,n,c,hg _ _ h1,h2⟩
 ·obtain⟨b,o,vs,h1,h2,h3,h4⟩:=h;exact⟨b,o,vs,h1,hk.sub b h2,h3.mono (hk.blk b h2),h4.mono hk⟩
 ·obtain⟨a,n,c,sz,h1,h2⟩:=h;exact⟨a,n,c,sz,hg _ _ h1,h2⟩
 ·obtain⟨a0,m,c,sz,a,h1,h2⟩:=h;exact⟨a0,m,c,sz,a,hg _ _ h1,h2⟩
 ·obtain⟨b,h1,h2⟩:=h;exact⟨b,hg _ _ h1,h2⟩
 ·exact h
theorem XK.mono (hg:Qj Γ Γ') (hk:ZP I I' w w') {x:AV} {v:Value} (h:XK Γ w I x v):XK Γ' w' I' x v:=by
 unfold XK at h ⊢;split at h
 ·obtain⟨vs,h1,h2⟩:=h;exact⟨vs,h1,h2.mono fun _ _ h=>h.mono hg hk⟩
 ·exact h.mono hg hk
theorem U7.mono (hg:Qj Γ Γ') (hk:ZP I I' w w') {x:AV} {v:Value} (h:U7 Γ w I x v):U7 Γ' w' I' x v:=by
 unfold U7 at h ⊢;split at h
 ·obtain⟨vs,h1,h2⟩:=h;exact⟨vs,h1,h2.mono fun _ _ h=>h.mono hg hk⟩
 ·obtain⟨vs,h1,h2⟩:=h;exact⟨vs,h1,h2.mono fun _ _ h=>h.mono hg hk⟩
 ·obtain⟨vs,h1,h2⟩:=h;exact⟨vs,h1,h2.mono hk⟩
 ·exact h.mono hg hk
theorem Rep.mono (hg:Qj Γ Γ') (hk:ZP I I' w w') {x:AV} {v:Value} (h:Rep Γ w I x v):Rep Γ' w' I' x v:=by
 unfold Rep at h ⊢;split at h
 ·obtain⟨vs,h1,h2⟩:=h;exact⟨vs,h1,h2.mono fun _ _ h=>h.mono hg hk⟩
 ·exact h.mono hg hk
theorem YT.repB {x:AV} {v:Value} (h:YT Γ w I x v):XK Γ w I x v:=by
 cases x<;>first | exact h | exact h.elim
theorem YT.rep2 {x:AV} {v:Value} (h:YT Γ w I x v):U7 Γ w I x v:=by
 cases x<;>first | exact h | exact h.elim | skip
 rename_i x;cases x<;>first | exact h | skip
 simp[YT,D.one] at h
theorem XK.rep2 {x:AV} {v:Value} (h:XK Γ w I x v):U7 Γ w I x v:=by
 cases x<;>first | exact YT.rep2 h | exact h
theorem U7.rep {x:AV} {v:Value} (h:U7 Γ w I x v):Rep Γ w I x v:=by
 cases x<;>first | exact h | exact h.elim
theorem Qo {x:D} {v:Value}:Rep Γ w I (.d x) v↔XD w I x v:=by
 cases x<;>simp[Rep,U7,YT,XD,D.one]
theorem Zq1 {x:D} {v:Value}:U7 Γ w I (.d x) v↔XD w I x v:=by
 cases x<;>simp[U7,YT,XD,D.one]
theorem Zw8:∀ {cs:List AV} {ds:List D} {vs:List Value},ZfA cs=some ds→Zz (XK Γ w I) cs vs→Xf w I ds vs
 | [],ds,[],h,_=>by simp[ZfA] at h;subst h;simp[Xf]
 | [],_,_ :: _,_,h=>h.elim
 | _ :: _,_,[],_,h=>h.elim
 | c :: cs,ds,v :: vs,h,hr=>by
  simp only[ZfA] at h;obtain⟨x,h1,h⟩:=Za h;obtain⟨aa,h2,h⟩:=Za h;cases h;refine⟨v,vs,rfl,?_,?_,Zw8 h2 hr.2⟩
  ·unfold Zq5 at h1;split at h1
   ·split at h1<;>cases h1;assumption
   ·cases h1
  ·unfold Zq5 at h1;split at h1
   ·split at h1<;>cases h1;exact hr.1.2
   ·cases h1
theorem Zuj:∀ {cs:List AV} {vs:List Value},ZdP cs=false→Zz (XK Γ w I) cs vs→Zz (YT Γ w I) cs vs
 | [],[],_,_=>trivial
 | [],_ :: _,_,h=>h.elim
 | _ :: _,[],_,h=>h.elim
 | c :: cs,v :: vs,h,hr=>by
  simp only[ZdP,Kar] at h;refine⟨?_,Zuj h.2 hr.2⟩;cases c<;>first | exact hr.1 | (simp[Zus] at h)
theorem Zi9 {cs:List AV} {vs:Array Value} (h:Zz (XK Γ w I) cs vs.toList):Rep Γ w I (U9 cs) (.agg vs):=by
 unfold U9;cases hd:ZfA cs with
 | some ds=>exact Qo.2 ⟨vs,rfl,Zw8 hd h⟩
 | none=>
  simp only[Uu];cases hc:ZdP cs
  ·exact⟨vs,rfl,Zuj hc h⟩
  ·exact trivial
theorem Rep.cells {x:AV} {v:Value} (hs:x.solid=true) (h:Rep Γ w I x v):Zz (XK Γ w I) x.cells v.cells.toList:=by
 cases x with
 | d x=>
  have h1:=(Qo.1 h).cells.cells;rw[XB] at h1;exact h1.map_left (f:=AV.d) (S:=XK Γ w I) fun a b aa=>aa
 | agg cs=>obtain⟨vs,rfl,h⟩:=h;exact h.mono fun _ _ h=>h.repB
 | clo f cs=>obtain⟨us,rfl,h⟩:=h;exact⟨⟨us,rfl,h⟩,trivial⟩
 | tup vs=>cases hs
 | junk=>cases hs
 | nil=>obtain⟨a,rfl⟩:=h;exact⟨⟨a,rfl⟩,trivial⟩
 | nilp=>obtain rfl:=h;exact⟨rfl,trivial⟩
 | nili=>obtain rfl:=h;exact⟨rfl,trivial⟩
 | ptr id off=>obtain⟨b,h1,rfl⟩:=h;exact⟨⟨b,h1,rfl⟩,trivial⟩
 | prow id sz i off=>obtain⟨b,o,n,c,h1,h2,rfl⟩:=h;exact⟨⟨b,o,n,c,h1,h2,rfl⟩,trivial⟩
 | pim cs=>obtain⟨b,o,vs,rfl,h⟩:=h;exact⟨⟨b,o,vs,rfl,h⟩,trivial⟩
 | own id=>
  obtain⟨a,n,c,sz,h1,rfl⟩:=h;exact⟨⟨a,n,c,sz,h1,rfl⟩,trivial⟩
 | ownv id off n=>obtain⟨a0,m,c,sz,a,h1,h2,h3,rfl,h4⟩:=h;exact⟨⟨a0,m,c,sz,a,h1,h2,h3,rfl,h4⟩,trivial⟩
 | bnil id e=>
  obtain⟨b,h1,h2⟩:=h;rcases h2 with rfl | rfl
  ·exact⟨⟨b,h1,.inl rfl⟩,trivial⟩
  ·exact⟨⟨b,h1,.inr rfl⟩,trivial⟩
 | bbuf a b=>cases hs
end
theorem ZeT {w w' : World} {S S' : Nat→Prop} {d:D} {vs:List Value} (hd:d.plain=true) (h:ZQ w S d vs):ZQ w' S' d vs:=by
 cases d<;>first | (simpa [ZQ] using h) | (simp[D.plain] at hd)
def ZlG (w:World) (I F A:Nat→Prop) (a:Option Addr) (n cap sz:Nat) (xs:List D) (ex fz:Bool):Prop:=
 n=xs.length∧((n=0∧cap=0) ∨
 ∃ g o cur e,a=some ⟨g,o,none⟩∧0<cap∧w.heap[g]?=some (.cells cur e (0,0))∧n≤cap∧cap≤maxLen∧(cur.size=o+cap*sz∧(ex=true→o=0))∧0<sz ∧
  (if fz then I g else ¬I g)∧F g∧WK w (if ex then fun b=>I b∧A b else I) g sz xs o)
def Zw9:Value→Option Nat
 | .slice (some ad) _ c=>if c=0 then none else some ad.block
 | _=>none
def ZlH (w:World) (g p:Nat):Option Nat:=match w.cell? ⟨g,p,none⟩ with
 | some v=>Zw9 v
 | none=>none
def Vq (sz:Nat):Option (Option Nat×Nat×Nat)→Option Nat
 | some (_,i,j)=>some (i*sz+j)
 | none=>none
def US (w:World) (g:Nat):Option Nat→World
 | some p=>w.setCell ⟨g,p,none⟩ (.slice none 0 0)
 | none=>w
theorem Zy4 (w:World) (g:Nat) (h:Option Nat):(US w g h).heap.size=w.heap.size:=by
 cases h with
 | none=>rfl
 | some p=>simp[US,World.setCell]
theorem Zja {w:World} {g:Nat} {cur:Array Value} {e:TypeId} {fr:Nat×Nat} (hg:w.heap[g]?=some (.cells cur e fr)) (p:Nat):US w g (some p)=w.setRow g (cur.setIfInBounds p (.slice none 0 0)):=
 setCell_eq_setRow w g p cur e fr _ hg
theorem Zfx {w w' : World} {g:Nat} (h:Option Nat) {k:Nat} (hk:w'.heap[k]?=w.heap[k]?):(US w' g h).heap[k]?=(US w g h).heap[k]?:=by
 cases h with
 | none=>exact hk
 | some p=>simp only[US,World.setCell,L9,hk]
theorem Zy5 {w:World} {g p:Nat} {h:Option Nat} (hp:h≠some p):(US w g h).cell? ⟨g,p,none⟩=w.cell? ⟨g,p,none⟩:=by
 cases h with
 | none=>rfl
 | some q=>
  have aa:q≠p:=fun e=>hp (e ▸ rfl);simp only[US];cases hg:w.heap[g]? with
  | none=>simp[World.setCell,World.cell?,L9,hg]
  | some b=>cases b<;>simp[World.setCell,World.cell?,L9,hg,Array.getElem?_setIfInBounds,aa]
def ZkI (w:World) (I F:Nat→Prop) (a:Option Addr) (n cap sz ns:Nat) (xs:List D) (hl:Option Nat):Prop:=
 n=xs.length∧((n=0∧cap=0∧hl=none) ∨
 ∃ g cur e B,a=some ⟨g,0,none⟩∧0<cap∧w.heap[g]?=some (.cells cur e (0,0))∧n≤cap∧cap≤maxLen∧cur.size=cap*sz∧0<sz∧Z1 (US w g hl) ns B g sz xs 0∧(g :: B).Nodup∧∀ b∈g :: B,¬I b∧F b)
def YE (Γ:Gh) (w:World) (a:Option Addr) (sz ns:Nat) (xs:List D):Option (Option Nat×Nat×Nat)→Prop
 | none=>True
 | some (nm,i,j)=>i<xs.length∧j<sz∧Ji xs i j=some []∧∀ k,nm=some k→∃ g a' n' c',a=some ⟨g,0,none⟩∧Γ k=some (.row a' n' c' ns)∧w.cell? ⟨g,i*sz+j,none⟩=some (.slice a' n' c')
def Zns (w:World) (I F:Nat→Prop) (b te:Nat) (l:List UInt8) (v:Value):Prop:=
 l=[]∧v=.slice none 0 0 ∨
 ∃ g cap cur,v=.slice (some ⟨g,0,none⟩) l.length cap∧0<l.length∧w.heap[g]?=some (.cells cur te (0,0))∧l.length≤cap∧cap≤maxLen∧cur.size=cap∧cur.toList.take l.length=l.map (fun x=>Value.int .u8 x.toNat)∧¬I g∧F g∧g≠b
def Zbm (w:World) (I F:Nat→Prop) (b:Nat):List AV→List Value→Prop
 | [_,.bbuf te l],[_,v]=>Zns w I F b te l v
 | cs,_=>X3 cs=true
def Y3 (Γ:Gh) (w:World) (I F A:Nat→Prop) (id:Nat):Zm→Prop
 | .box cs=>∃ b cur e,Γ id=some (.box (b,e))∧w.heap[b]?=some (.cells cur e (0,0))∧¬I b∧F b∧Zz (XK Γ w I) cs cur.toList∧Zbm w I F b cs cur.toList
 | .row sz xs ex fz=>∃ a n c,Γ id=some (.row a n c sz)∧ZlG w I F A a n c sz xs ex fz
 | .tree sz ns xs lk=>∃ a n c,Γ id=some (.row a n c sz)∧ZkI w I F a n c sz ns xs (Vq sz lk)∧YE Γ w a sz ns xs lk
 | .gone=>∃ r,Γ id=some r
def ZA:Option Ref→Option Nat
 | some (.box b)=>some b.1
 | some (.row (some a) _ c _)=>if c=0 then none else some a.block
 | some (.row none _ _ _)=>none
 | none=>none
def Zhj (r:Option Ref):Zm→Option Nat
 | .gone=>none
 | _=>ZA r
@[simp] theorem blkO_box (r:Option Ref) (cs:List AV):Zhj r (.box cs)=ZA r:=rfl
@[simp] theorem ZC6 (r:Option Ref) (s:Nat) (xs:List D) (e f:Bool):Zhj r (.row s xs e f)=ZA r:=rfl
@[simp] theorem J7 (r:Option Ref) (s n:Nat) (xs:List D) (l:Option (Option Nat×Nat×Nat)):Zhj r (.tree s n xs l)=ZA r:=rfl
@[simp] theorem blkO_gone (r:Option Ref):Zhj r .gone=none:=rfl
theorem Znt (r:Option Ref) (g:Nat→Nat) (o:Zm):Zhj r (ZlJ g o)=Zhj r o:=by cases o<;>rfl
theorem ZkJ (r:Option Ref) (bad:List Nat) (o:Zm):Zhj r (XE bad o)=Zhj r o:=by cases o<;>rfl
def ZgZ (Γ:Gh) (w:World) (id:Nat):Zm→Nat→Prop
 | .tree sz ns xs lk,b=>∃ g B,ZA (Γ id)=some g∧Z1 (US w g (Vq sz lk)) ns B g sz xs 0∧b∈B
 | _,_=>False
def Buf (Γ:Gh) (w:World) (id:Nat):Zm→Nat→Prop
 | .box [_,.bbuf _ _],b=>∃ g,ZA (Γ id)=some g∧ZlH w g 1=some b
 | _,_=>False
def Blk (Γ:Gh) (w:World) (id:Nat) (o:Zm) (b:Nat):Prop:=Zhj (Γ id) o=some b∨ZgZ Γ w id o b∨Buf Γ w id o b
def Xl (U:Nat→Prop) (base:Nat):Prop:=∀ id,base≤id→id<base+64→¬U id
def U8 (U:Nat→Prop) (base:Nat) (id:Nat):Prop:=U id∨(base≤id∧id<base+64)
theorem Xl.self {U:Nat→Prop} {base:Nat} (h:Xl U base):¬U base:=h base (Kr _) o_
def Zhy (I:Nat→Prop) (w:World):Prop:=∀ q∈ZC5,I q.1∧∃ e fr,w.heap[q.1]?=some (.cells q.2 e fr)
theorem Zhy.mono {I I' : Nat→Prop} {w w' : World} (h:Zhy I w) (hk:ZP I I' w w'):Zhy I' w':=fun q hq=>by
 obtain⟨h1,e,fr,h2⟩:=h q hq;exact⟨hk.sub _ h1,e,fr,by rw[hk.blk _ h1];exact h2⟩
structure Sim (nt:Nat) (F A I:Nat→Prop) (Γ:Gh) (U:Nat→Prop) (sl:Sl) (hp:Hp) (a:Act) (w:World):Prop where
 nt:a.tmps.size=nt
 dfr:a.defers=[]
 slots:∀ t,Rep Γ w I (gs sl t) (a.tmps.getD t undef)
 objs:∀ id o,lkp hp id=some o→Y3 Γ w I F A id o
 inj:∀ i j o o' b,lkp hp i=some o→lkp hp j=some o'→Blk Γ w i o b→Blk Γ w j o' b→i=j
 bound:∀ b,I b→b<w.heap.size
 fresh:∀ b,w.heap.size≤b→F b
 own:∀ b,F b→A b
 names:∀ id,¬U id→Γ id=none
 glob:Zhy I w
structure Fr (F:Nat→Prop) (w w' : World):Prop where
 os:w'.os=w.os
 tape:w'.tape=w.tape
 output:w'.output=w.output
 size:w.heap.size≤w'.heap.size
 block:∀ k,k<w.heap.size→¬F k→w'.heap[k]?=w.heap[k]?
theorem Fr.refl (F:Nat→Prop) (w:World):Fr F w w:=⟨rfl,rfl,rfl,Kr _,fun _ _ _=>rfl⟩
theorem Fr.trans {F:Nat→Prop} {a b c:World} (h:Fr F a b) (k:Fr F b c):Fr F a c:=
 ⟨k.os.trans h.os,k.tape.trans h.tape,k.output.trans h.output,Ky h.size k.size,fun i hi hf=>(k.block i (L7 hi h.size) hf).trans (h.block i hi hf)⟩
end Go.Abs
namespace Go.Abs
open Go
section
variable {P:Program}
theorem Q7 {t e:TypeId} (h:Yp P t=some e):P.underlying t=some (.slice e):=by
 unfold Yp at h;split at h
 ·cases h;assumption
 ·cases h
theorem UT {t:TypeId} (h:Zab P t=true):P.underlying t=some .string:=by
 unfold Zab at h;split at h
 ·assumption
 ·cases h
theorem Zuk {t:TypeId} {k:IntKind} (h:ZBR P t=some k):P.underlying t=some (.int k):=by
 unfold ZBR at h;split at h
 ·cases h;assumption
 ·cases h
theorem Zul {t:TypeId} {a:Nat×TypeId} (h:ZkN P t=some a):P.underlying t=some (.array a.1 a.2):=by
 unfold ZkN at h;split at h
 ·cases h;assumption
 ·cases h
theorem VF {t:TypeId} {g:Bool} (h:ZeX P t=some g) (w:World):(isAgg t).run P w=.ok g w:=by
 unfold ZeX at h;unfold isAgg;split at h
 ·cases h;rename_i hu;simp[run_underlying hu]
 ·cases h;rename_i hu;simp[run_underlying hu]
 ·cases h;rename_i d h1 h2 hu;simp only[Sem.run_bind,run_underlying hu,Result.andThen_ok];cases d<;>first | rfl | (exfalso;exact h1 _ hu) | (exfalso;exact h2 _ _ hu)
 ·cases h
theorem UJ {t:TypeId} {d:TypeDesc} (h:P.underlying t=some d):∃ i,P.info? t=some i:=by
 unfold Program.underlying at h;cases hi:P.info? t with
 | none=>rw[hi] at h;cases h
 | some i=>exact⟨i,rfl⟩
theorem Q8 {t:TypeId} {i:TypeInfo} (h:P.info? t=some i) (w:World):(sizeOf t).run P w=.ok (P.cellsOf t) w:=by
 simp[sizeOf,typeInfo,h,Program.cellsOf]
theorem ZjV {t:TypeId} (h:P.cellsOf t≠0):∃ i,P.info? t=some i:=by
 cases hi:P.info? t with
 | none=>simp[Program.cellsOf,hi] at h
 | some i=>exact⟨i,rfl⟩
theorem Zjb {t:TypeId} {g:Bool} (h:ZeX P t=some g):∃ i,P.info? t=some i:=by
 unfold ZeX at h;split at h
 ·rename_i hu;exact UJ hu
 ·rename_i hu;exact UJ hu
 ·rename_i hu;exact UJ hu
 ·cases h
theorem Zhz {s:TypeId} {f:Nat} {q:Nat×TypeId} (h:ZfI P s f=some q) :
  ∃ fs x,P.underlying s=some (.struct fs)∧fs[f]?=some x∧x.offset=q.1∧x.type=q.2∧P.cellsOf q.2≠0:=by
 unfold ZfI at h;split at h
 ·rename_i fs hu;split at h
  ·rename_i x hx;split at h
   ·cases h
   ·cases h;exact⟨fs,x,hu,hx,rfl,rfl,by assumption⟩
  ·cases h
 ·cases h
theorem Zfy {t:TypeId} {z:Value} (h:ZaK P t=some z):∃ i,P.info? t=some i∧i.zero=some z:=by
 unfold ZaK at h;split at h
 ·rename_i i hi;exact⟨i,hi,h⟩
 ·cases h
theorem ZeU {t:TypeId} {z:Value} (h:ZaK P t=some z) (w:World):(zeroValue t).run P w=.ok z w:=by
 obtain⟨i,hi,hz⟩:=Zfy h;simp[zeroValue,typeInfo,hi,hz]
theorem Vj {t:TypeId} (h:W5 P t=true):∃ i z,P.info? t=some i∧i.zero=some z∧z.cells.size=i.size∧0<i.size∧P.cellsOf t=i.size∧P.bytesOf t=i.bytes:=by
 unfold W5 at h;split at h
 ·rename_i i hi;split at h
  ·rename_i z hz;simp at h;exact⟨i,z,hi,hz,h.1,h.2,by simp[Program.cellsOf,hi],by simp[Program.bytesOf,hi]⟩
  ·cases h
 ·cases h
end
section
variable {P:Program} {Γ:Gh} {w:World} {I:Nat→Prop}
theorem Znu (v:Value):XK Γ w I (W1 v) v:=by
 cases v<;>try exact trivial
 ·exact⟨rfl,by simp[ZQ]⟩
 ·exact⟨rfl,by simp[ZQ]⟩
 ·exact⟨rfl,_,rfl,(ZC8 _).symm⟩
 ·rename_i a;cases a
  ·rfl
  ·exact trivial
 ·rename_i a n c;cases a
  ·cases n
   ·cases c
    ·exact⟨none,rfl⟩
    ·exact trivial
   ·exact trivial
  ·exact trivial
 ·rfl
theorem Zum:∀ (vs:List Value),Zz (XK Γ w I) (vs.map W1) vs
 | []=>trivial
 | v :: vs=>⟨Znu v,Zum vs⟩
theorem ZAA (v:Value):Rep Γ w I (evC v) v:=by
 cases v with
 | agg cs=>exact Zi9 (Zum cs.toList)
 | _=>simp only[evC];exact(Znu _).rep2.rep
def Zbt (Γ:Gh) (w:World) (I:Nat→Prop) (sl:Sl) (a:Act):Prop:=∀ t,Rep Γ w I (gs sl t) (a.tmps.getD t undef)
theorem Zbt.ev {sl:Sl} {a:Act} (h:Zbt Γ w I sl a) {x:Operand} {y:Opd} (hc:ZZ x=some y):Rep Γ w I (evO sl y) (a.eval x):=by
 cases x with
 | tmp t=>simp only[ZZ] at hc;cases hc;exact h t
 | const v=>simp only[ZZ] at hc;cases hc;exact ZAA v
 | global g=>simp only[ZZ] at hc;cases hc
 | func f=>simp only[ZZ] at hc;cases hc;exact⟨#[],rfl,trivial⟩
theorem Zbt.evL {sl:Sl} {a:Act} (h:Zbt Γ w I sl a):∀ {xs:List Operand} {ys:List Opd},QJ ZZ xs=some ys→Zz (Rep Γ w I) (evL sl ys) (xs.map a.eval)
 | [],ys,hc=>by simp only[QJ] at hc;cases hc;exact trivial
 | x :: xs,ys,hc=>by
  simp only[QJ] at hc;obtain⟨y,h1,hc⟩:=Za hc;obtain⟨aa,h2,hc⟩:=Za hc;cases hc;exact⟨h.ev h1,h.evL h2⟩
theorem rep_int {k:IntKind} {n:Int} {v:Value} (h:Rep Γ w I (.d (.int k n)) v):v=.int k n:=by
 have:=Qo.1 h;simpa [XD,ZQ] using this
theorem ZeV {b:Bool} {v:Value} (h:Rep Γ w I (.d (.bool b)) v):v=.bool b:=by
 have:=Qo.1 h;simpa [XD,ZQ] using this
theorem Zfz {s:List UInt8} {v:Value} (h:Rep Γ w I (.d (.str s)) v):∃ t:ByteArray,v=.string t∧t.data.toList=s:=by
 have:=Qo.1 h;simpa [XD,ZQ] using this
theorem Zq2 {ds:List D} {v:Value} (h:Rep Γ w I (.d (.agg ds)) v):∃ vs,v=.agg vs∧Xf w I ds vs.toList:=Qo.1 h
theorem Zb2 (k:IntKind) (n:Int):Rep Γ w I (.d (.int k n)) (.int k n):=Qo.2 (by simp[XD,ZQ])
theorem ZBG (b:Bool):Rep Γ w I (.d (.bool b)) (.bool b):=Qo.2 (by simp[XD,ZQ])
theorem Zxa {t:ByteArray} {s:List UInt8} (h:t.data.toList=s):Rep Γ w I (.d (.str s)) (.string t):=Qo.2 (by simp[XD,ZQ,h])
theorem V2 {x:AV} {n:Int} {v:Value} (hi:idx x=some n) (h:Rep Γ w I x v):∃ k,v=.int k n:=by
 unfold idx at hi;split at hi
 ·cases hi;exact⟨_,rep_int h⟩
 ·cases hi
theorem Zxb {R:AV→Value→Prop} {cs:List AV} {vs:Array Value} (h:Zz R cs vs.toList) (off s:Nat) :
  Zz R ((cs.drop off).take s) (vs.extract off (off+s)).toList:=by
 have:=(h.drop off).take s;simpa [Array.toList_extract,List.extract_eq_take_drop] using this
theorem Zxc {t:TypeId} {g:Bool} (hg:ZeX P t=some g) {off:Nat} {x r:AV} {v:Value} (h:Rep Γ w I x v) (hp:ZlR g (P.cellsOf t) off x=some r) :
  ∃ cs u,v=.agg cs∧(part t cs off).run P w=.ok u w∧Rep Γ w I r u:=by
 obtain⟨i,hi⟩:=Zjb hg;have hs:=Q8 hi w;unfold ZlR at hp;split at hp
 ·obtain⟨vs,rfl,hr⟩:=Zq2 h;unfold Zb6 at hp;cases g
  ·simp only[Ka,Kn,asD] at hp;obtain⟨d,hd,hp⟩:=Za hp;cases hp;obtain⟨u,hu,h1,h2⟩:=(XB.1 hr).get off d hd;refine⟨vs,u,rfl,?_,Qo.2 ((XD.one h1).2 h2)⟩;have aa : vs[off]?=some u:=by simpa using hu
   simp[part,VF hg,aa]
  ·simp only[Km] at hp;split at hp
   ·cases hp;refine⟨vs,.agg (vs.extract off (off+P.cellsOf t)),rfl,by simp[part,VF hg,hs],Qo.2 ⟨_,rfl,?_⟩⟩;rw[XB] at hr ⊢;have:=(hr.drop off).take (P.cellsOf t);simpa [Array.toList_extract,List.extract_eq_take_drop] using this
   ·cases hp
 ·obtain⟨vs,rfl,hr⟩:=h;cases g
  ·simp only[Ka,Kn] at hp;obtain⟨u,hu,h1⟩:=hr.get off r hp;have aa : vs[off]?=some u:=by simpa using hu
   exact⟨vs,u,rfl,by simp[part,VF hg,aa],h1.rep2.rep⟩
  ·simp only[Km] at hp;split at hp
   ·cases hp;exact⟨vs,.agg (vs.extract off (off+P.cellsOf t)),rfl,by simp[part,VF hg,hs],Zi9 (Zxb (hr.mono fun _ _ h=>h.repB) _ _)⟩
   ·cases hp
 ·cases hp
theorem Wl (b o n:Nat):(⟨b,o,none⟩:Addr).add n=⟨b,o+n,none⟩:=by unfold Addr.add;split<;>simp_all
theorem ZoN {t:TypeId} {g:Bool} (hg:ZeX P t=some g) {b o:Nat} {vs:List Value} (h:Qz w b o vs) (hl:vs.length=P.cellsOf t) (h1:g=false→∃ u,vs[0]?=some u) :
  ∃ u,(loadVar t ⟨b,o,none⟩).run P w=.ok u w∧(if g then u=.agg vs.toArray else vs[0]?=some u):=by
 obtain⟨i,hi⟩:=Zjb hg;cases g
 ·obtain⟨u,hu⟩:=h1 rfl;have:=h 0 u hu;exact⟨u,by simp[loadVar,VF hg,show w.cell? ⟨b,o,none⟩=some u from by simpa using this],by simpa using hu⟩
 ·refine⟨.agg vs.toArray,?_,by simp⟩;have hc:(loadCells ⟨b,o,none⟩ vs.length).run P w=.ok vs.toArray w:=run_loadCells_list (P:=P) w _ vs fun j u hu=>by
   rw[Wl];exact h j u hu
  rw[hl] at hc;simp[loadVar,VF hg,Q8 hi w,hc]
def J8 (Γ:Gh) (w:World) (I F A:Nat→Prop) (hp:Hp):Prop:=∀ id o,lkp hp id=some o→Y3 Γ w I F A id o
theorem Qz.drop {b o:Nat} {vs:List Value} (h:Qz w b o vs) (n:Nat):Qz w b (o+n) (vs.drop n):=fun j u hu=>by
 have:=h (n+j) u (by simpa [Lk] using hu);simpa [KW] using this
theorem Qz.take {b o:Nat} {vs:List Value} (h:Qz w b o vs) (n:Nat):Qz w b o (vs.take n):=fun j u hu=>by
 rw[Lq] at hu;split at hu
 ·exact h j u hu
 ·cases hu
theorem ZhA {b:Nat} {cur:Array Value} {e:TypeId} {fr:Nat×Nat} (h:w.heap[b]?=some (.cells cur e fr)):Qz w b 0 cur.toList:=fun j u hu=>by
 rw[cell_of_row w b _ cur e fr h];simpa using hu
theorem Xf.drop {S:Nat→Prop} {ds:List D} {vs:List Value} (h:Xf w S ds vs) (n:Nat):Xf w S (ds.drop n) (vs.drop n):=XB.2 ((XB.1 h).drop n)
theorem Xf.take {S:Nat→Prop} {ds:List D} {vs:List Value} (h:Xf w S ds vs) (n:Nat):Xf w S (ds.take n) (vs.take n):=XB.2 ((XB.1 h).take n)
theorem Zq3 {t:TypeId} {g:Bool} (hg:ZeX P t=some g) {b o off:Nat} {cs:List D} {vs:List Value} (hr:Xf w I cs vs) (h:Qz w b o vs) {r:AV} (hp:Zb6 g (P.cellsOf t) off cs=some r) :
  ∃ u,(loadVar t ⟨b,o+off,none⟩).run P w=.ok u w∧Rep Γ w I r u:=by
 unfold Zb6 at hp;cases g
 ·simp only[Ka,Kn,asD] at hp;obtain⟨d,hd,hp⟩:=Za hp;cases hp;obtain⟨u,hu,h1,h2⟩:=(XB.1 hr).get off d hd;have:=h off u hu;exact⟨u,by simp[loadVar,VF hg,this],Qo.2 ((XD.one h1).2 h2)⟩
 ·simp only[Km] at hp;split at hp
  ·rename_i hl;cases hp;obtain⟨u,h1,h2⟩:=ZoN (P:=P) hg (h:=(h.drop off).take (P.cellsOf t)) (by rw[LF,Lr,← hr.length];omega) (fun h=>by cases h);simp only[Km] at h2;subst h2;exact⟨_,h1,Qo.2 ⟨_,rfl,by simpa using (hr.drop off).take (P.cellsOf t)⟩⟩
  ·cases hp
variable {F A:Nat→Prop} {hp:Hp}
theorem Zq4 {id sz n c i:Nat} {a:Option Addr} {xs:List D} {ex fz:Bool} (h:ZlG w I F A a n c sz xs ex fz) {x:D} (hx:xs[i]?=some x) :
  ∃ g o vs,a=some ⟨g,o,none⟩∧vs.length=sz∧Qz w g (o+i*sz) vs∧ZQ w I x vs:=by
 obtain⟨h1,h2⟩:=h;rcases h2 with ⟨h2,_⟩ | ⟨g,o,cur,e,ha,_,_,_,_,_,_,_,_,hr⟩
 ·have:xs=[]:=Kt o_;subst this;simp at hx
 ·obtain⟨vs,h3,h4,h5⟩:=Yo.1 hr i x hx;refine⟨g,o,vs,ha,h3,h4,?_⟩;cases ex
  ·exact h5
  ·exact h5.mono ⟨fun b hb=>hb.1,fun _ _=>rfl⟩
theorem Zun {sz ns n c i:Nat} {a:Option Addr} {xs:List D} {hl:Option Nat} (h:ZkI w I F a n c sz ns xs hl) {x:D} (hx:xs[i]?=some x) :
  ∃ g vs B,a=some ⟨g,0,none⟩∧vs.length=sz∧Qz (US w g hl) g (i*sz) vs∧Qm (US w g hl) ns B x.cells vs:=by
 obtain⟨h1,h2⟩:=h;rcases h2 with ⟨h2,_⟩ | ⟨g,cur,e,B,ha,_,_,_,_,_,_,hr,_⟩
 ·have:xs=[]:=Kt o_;subst this;simp at hx
 ·obtain⟨vs,B1,Bn,B2,_,h3,h4,h5,_⟩:=hr.at hx;exact⟨g,vs,Bn,ha,h3,by simpa using h4,h5.cells⟩
theorem ZAB {sz i j i' j' : Nat} (hj:j<sz) (aa : j' < sz) (e:i*sz+j=i' * sz+j'):i=i'∧j=j':=by
 have k1:(i*sz+j) / sz=i:=by rw[Nat.mul_comm,Nat.mul_add_div o_,Nat.div_eq_of_lt hj];omega
 have k2:(i' * sz+j') / sz=i':=by rw[Nat.mul_comm,Nat.mul_add_div o_,Nat.div_eq_of_lt aa];omega
 rw[e,k2] at k1;subst k1;exact⟨rfl,o_⟩
theorem YE.away {a:Option Addr} {sz ns i off:Nat} {xs:List D} {lk:Option (Option Nat×Nat×Nat)} (h:YE Γ w a sz ns xs lk) (aa:off<sz) {x:D} (hx:xs[i]?=some x) (hc:∀ ys,x.cells[off]?≠some (.sl ys)) :
  Vq sz lk≠some (i*sz+off):=by
 cases lk with
 | none=>simp[Vq]
 | some q=>
  obtain⟨nm,i',j⟩:=q;obtain⟨h1,h2,h3,_⟩:=h;simp only[Vq,ne_eq,Option.some.injEq];intro e;obtain⟨rfl,rfl⟩:=ZAB h2 aa e;unfold Ji at h3;rw[hx,Zh] at h3;split at h3
  ·rename_i ys ab;exact hc ys ab
  ·cases h3
theorem ZBH {x:AV} {v:Value} (h:XK Γ w I x v):XK Γ w I (ZlL x) v:=by
 cases x with
 | bbuf _ _=>trivial
 | _=>exact h
theorem Zxd {t:TypeId} {g:Bool} (hg:ZeX P t=some g) (ho:J8 Γ w I F A hp) {x r:AV} {v:Value} (h:Rep Γ w I x v) (hp' : Ue hp g (P.cellsOf t) x=some r) :
  ∃ u,(Instr.loadAt t v).run P w=.ok u w∧Rep Γ w I r u:=by
 unfold Ue at hp';split at hp'
 ·rename_i id off;obtain⟨b,hb,rfl⟩:=h;unfold Zat at hp';split at hp'
  ·rename_i cs hl;obtain⟨b',cur,e,aa,hw,_,_,hc,_⟩:=ho id _ hl;rw[hb] at aa;cases aa;have ab:=ZhA hw;cases g
   ·simp only[Ka,Kn] at hp';obtain⟨r0,ai,rfl⟩:=Option.map_eq_some_iff.1 hp';obtain⟨u,hu,h1⟩:=hc.get off r0 ai;have:=ab off u hu;exact⟨u,by simp only[K0] at this;simp[Instr.loadAt,Instr.sureAddr,loadVar,VF hg,this],(ZBH h1).rep2.rep⟩
   ·simp only[Km] at hp';split at hp'
    ·cases hp';obtain⟨u,h1,h2⟩:=ZoN (P:=P) hg (h:=(ab.drop off).take (P.cellsOf t)) (by rw[LF,Lr,← hc.length];omega) (fun h=>by cases h);simp only[Km] at h2;subst h2;refine⟨_,by simpa [Instr.loadAt,Instr.sureAddr] using h1,Zi9 ?_⟩;simpa using (hc.drop off).take (P.cellsOf t)
    ·cases hp'
  ·cases hp'
 ·rename_i id sz i off;obtain⟨b,o0,n,c,hb,hi,rfl⟩:=h;unfold Je at hp';split at hp'
  ·rename_i aj xs ex fz hl;split at hp'
   ·rename_i ae;subst ae;obtain⟨a,n',c',aa,ak⟩:=ho id _ hl;rw[hb] at aa;cases aa;obtain⟨y,hy,hp'⟩:=Za hp';obtain⟨g',o1,vs,ha,h3,h4,h5⟩:=Zq4 (id:=id) ak hy;cases ha;unfold ZlM at hp';split at hp'
    ·have:=Zq3 (P:=P) (Γ:=Γ) hg h5.cells h4 hp';obtain⟨u,h6,h7⟩:=this;exact⟨u,by simpa [Instr.loadAt,Instr.sureAddr,KW] using h6,h7⟩
    ·cases hp'
   ·cases hp'
  ·rename_i aj ns xs lk hl;split at hp'
   ·rename_i ae;subst ae;cases g
    ·simp only[Ka,Kn] at hp';obtain⟨a,n',c',aa,hd,ad⟩:=ho id _ hl;rw[hb] at aa;cases aa;obtain⟨y,hy,hq⟩:=Za hp';clear hp';obtain⟨g',vs,B,ha,h3,h4,h5⟩:=Zun hd hy;cases ha;unfold Jd at hq;split at hq
     ·unfold ZoP at hq;split at hq
      ·split at hq
       ·rename_i hc;obtain⟨rfl,rfl⟩:=hc;cases hq;obtain⟨_,_,_,ad⟩:=ad;obtain⟨g2,a2,n2,c2,ha2,h6,h9⟩:=ad _ rfl;cases ha2;exact⟨_,by simp[Instr.loadAt,Instr.sureAddr,loadVar,VF hg,h9],⟨a2,n2,c2,_,h6,rfl⟩⟩
       ·cases hq
      ·cases hq
     ·rename_i y' ag ah;split at hq
      ·cases hq;obtain⟨u,_,_,_,hu,_,h6⟩:=h5.get ah;have af:off<sz:=by have:=(Kc.1 hu).1;omega
       have:=h4 off u hu;rw[Zy5 (ad.away af hy fun ys e=>ag ys (by rw[ah] at e;exact Option.some.inj e)) ] at this;have h7:=(h6.plain (S:=I) fun ys e=>ag ys e).2;exact⟨u,by simp[Instr.loadAt,Instr.sureAddr,loadVar,VF hg,this],Qo.2 ((XD.one (by cases y' <;> simp_all [D.plain,D.one])).2 (ZeT h7.1 h7.2))⟩
      ·cases hq
     ·cases hq
    ·simp only[Km] at hp';cases hp'
   ·cases hp'
  ·cases hp'
 ·rename_i cs;obtain⟨b,o,vs,rfl,hI,ab,hr⟩:=h;obtain⟨u,h6,h7⟩:=Zq3 (P:=P) (Γ:=Γ) hg hr ab hp';exact⟨u,by simpa [Instr.loadAt,Instr.sureAddr] using h6,h7⟩
 ·cases hp'
theorem Zuo {off:Nat} {x:AV} {v:Value} {ce:Zf} (h:Rep Γ w I x v) (hp:Wo off x=some ce) :
  ∃ b o r,v=.pointer (some ⟨b,o,none⟩)∧ce = { eff := { val:=r },gone:=[] }∧Rep Γ w I r (.pointer (some ⟨b,o+off,none⟩)):=by
 unfold Wo at hp;split at hp
 ·obtain⟨b,hb,rfl⟩:=h;cases hp;exact⟨b.1,_,_,rfl,rfl,b,hb,rfl⟩
 ·obtain⟨b,o,n,c,hb,hi,rfl⟩:=h;cases hp;exact⟨b,_,_,rfl,rfl,b,o,n,c,hb,hi,by simp only[KW]⟩
 ·obtain⟨b,o,vs,rfl,hI,aa,hr⟩:=h;cases hp;exact⟨b,_,_,rfl,rfl,b,o+off,vs.drop off,rfl,hI,aa.drop off,hr.drop off⟩
 ·cases hp
theorem ZBI {s:TypeId} {f:Nat} {q:Nat×TypeId} (hq:ZfI P s f=some q) {x:AV} {v:Value} {ce:Zf} (h:Rep Γ w I x v) (hp:Wo q.1 x=some ce) :
  ∃ u r,(Instr.fieldAt s v f).run P w=.ok u w∧ce = { eff := { val:=r },gone:=[] }∧Rep Γ w I r u:=by
 obtain⟨fs,y,h1,h2,h3,h4,h5⟩:=Zhz hq;obtain⟨b,o,r,rfl,h6,h7⟩:=Zuo h hp;obtain⟨i,hi⟩:=ZjV h5;refine⟨_,r,?_,h6,h7⟩;simp[Instr.fieldAt,run_underlying h1,h2,Instr.sureAddr,fieldPlace,h4,Q8 hi,h5,Wl,h3]
theorem ZBJ {t:TypeId} {a:Nat×TypeId} (ha:ZkN P t=some a) (hi:∃ i,P.info? a.2=some i) {x y:AV} {v k:Value} {n:Int} (h:Rep Γ w I x v) (hk:Rep Γ w I y k) (hn:idx y=some n) {ce:Zf}
  (hp:Zre x n a.1 (P.cellsOf a.2)=some ce):∃ u r,(Instr.indexAt t v k).run P w=.ok u w∧ce = { eff := { val:=r },gone:=[] }∧Rep Γ w I r u:=by
 obtain⟨kk,rfl⟩:=V2 hn hk;obtain⟨i,hi⟩:=hi;unfold Zre at hp;split at hp
 ·rename_i hb;obtain⟨b,o,r,rfl,h6,h7⟩:=Zuo h hp;refine⟨_,r,?_,h6,h7⟩;simp[Instr.indexAt,asIntOf,run_underlying (Zul ha),Instr.sureAddr,hb.1,hb.2,Q8 hi,Wl]
 ·cases hp
theorem Ztn {sz n:Nat} (ho:J8 Γ w I F A hp) {x r:AV} {v:Value} (h:Rep Γ w I x v) (hp' : QK hp sz n x=some r) :
  ∃ b o m c,v=.slice (some ⟨b,o,none⟩) m c∧n<m∧Rep Γ w I r (.pointer (some ⟨b,o+n*sz,none⟩)):=by
 unfold QK at hp';split at hp'
 ·rename_i xs;obtain⟨y,hy,hp'⟩:=Za hp';have:=Qo.1 h;simp only[XD,ZQ] at this;obtain⟨a,c,hv,hc,h1⟩:=this;simp at hv;subst hv;have ad:n<xs.length:=(Kc.1 hy).1;rcases h1 with h1 | ⟨b,o,af,rfl,hI,h0,hr⟩
  ·subst h1;simp at hy
  ·obtain⟨vs,h3,h4,h5⟩:=Yo.1 hr n y hy;unfold ZAD at hp';split at hp'
   ·rename_i ag;cases hp';have:af=sz:=by rw[← h3,h5.length,ag]
    subst this;exact⟨b,o,_,c,rfl,ad,b,_,vs,rfl,hI,h4,h5.cells⟩
   ·cases hp'
 ·rename_i id;obtain⟨a,m,c,af,hb,rfl⟩:=h;unfold Zdq at hp';split at hp'
  ·rename_i ae xs ex fz hl;split at hp'
   ·rename_i hc;cases hp';obtain⟨rfl,ad⟩:=hc;obtain⟨a',n',c',aa,ab⟩:=ho id _ hl;rw[hb] at aa;cases aa;obtain⟨y,hy⟩:∃ y,xs[n]?=some y:=⟨_,Kw ad⟩
    obtain⟨g',o1,vs,rfl,h3,h4,h5⟩:=Zq4 (id:=id) ab hy;have hm:m=xs.length:=ab.1;exact⟨g',o1,m,c,rfl,o_,g',o1,m,c,hb,o_,by simp⟩
   ·cases hp'
  ·rename_i ae ns xs lk hl;split at hp'
   ·rename_i hc;cases hp';obtain⟨rfl,ad⟩:=hc;obtain⟨a',n',c',aa,ab,_⟩:=ho id _ hl;rw[hb] at aa;cases aa;obtain⟨y,hy⟩:∃ y,xs[n]?=some y:=⟨_,Kw ad⟩
    obtain⟨g',vs,B,rfl,h3,h4,h5⟩:=Zun ab hy;have hm:m=xs.length:=ab.1;exact⟨g',0,m,c,rfl,o_,g',0,m,c,hb,o_,by simp⟩
   ·cases hp'
  ·cases hp'
 ·rename_i id off m;obtain⟨a0,m',c,af,a,hb,h1,h2,rfl,h3,h4⟩:=h;unfold Zb8 at hp';split at hp'
  ·rename_i ae xs ex fz hl;split at hp'
   ·rename_i hc;cases hp';obtain⟨rfl,ad⟩:=hc;obtain⟨a',n',c',aa,ab⟩:=ho id _ hl;rw[hb] at aa;cases aa;have hm:m'=xs.length:=ab.1;obtain⟨y,hy⟩:∃ y,xs[off+n]?=some y:=⟨_,Kw o_⟩
    obtain⟨g',o1,vs,rfl,h5,h6,h7⟩:=Zq4 (id:=id) ab hy;rcases h4 with h4 | h4
    ·subst h4;refine⟨g',o1+off*af,m,c-off,by simp[Wl],ad,g',o1,m',c,hb,o_,?_⟩;rw[KU];simp[KW]
    ·omega
   ·cases hp'
  ·cases hp'
 ·cases hp'
theorem ZBK {t e:TypeId} (he:Yp P t=some e) (hi:∃ i,P.info? e=some i) (ho:J8 Γ w I F A hp) {x y r:AV} {v k:Value} {n:Int} (h:Rep Γ w I x v) (hk:Rep Γ w I y k) (hn:idx y=some n)
  (h0:0≤n) (hp' : QK hp (P.cellsOf e) n.toNat x=some r):∃ u,(Instr.indexAt t v k).run P w=.ok u w∧Rep Γ w I r u:=by
 obtain⟨kk,rfl⟩:=V2 hn hk;obtain⟨i,hi⟩:=hi;obtain⟨b,o,m,c,rfl,ab,hr⟩:=Ztn ho h hp';have aa : n<(m:Int):=o_
 exact⟨_,by simp[Instr.indexAt,asIntOf,run_underlying (Q7 he),h0,aa,Q8 hi,Wl],hr⟩
end
end Go.Abs
