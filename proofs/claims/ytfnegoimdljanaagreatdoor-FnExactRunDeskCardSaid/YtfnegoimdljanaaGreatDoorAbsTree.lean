/- Own text. -/
import GoSem.Core.World
import Derived.Test.YtfnegoimdljanaaGreatDoorAbsRun
import Derived.Below
set_option linter.unusedVariables false
set_option linter.unusedSimpArgs false
namespace Go.Abs
open Go
def ZyJ:List Value:=(List.range 20).map fun i=>Value.int .u64 ((10 ^ i:Nat):Int)
def gtabs:List (Nat×Array Value):=[(1,ZyJ.toArray)]
end Go.Abs
set_option linter.unusedVariables false
set_option linter.unusedSimpArgs false
namespace Go.Abs
open Go
def ZA {α β:Type} (R:α→β→Prop):List α→List β→Prop
 | [],[]=>True
 | a :: as1,b :: bs=>R a b∧ZA R as1 bs
 | _,_=>False
section
variable {α β:Type} {R R' : α→β→Prop}
theorem ZA.length:∀ {as1:List α} {bs:List β},ZA R as1 bs→as1.length=bs.length
 | [],[],_=>rfl
 | _ :: _,_ :: _,h=>congrArg (·+1) (ZA.length h.2)
 | [],_ :: _,h=>h.elim
 | _ :: _,[],h=>h.elim
theorem ZA.mono (hr:∀ a b,R a b→R' a b):∀ {as1:List α} {bs:List β},ZA R as1 bs→ZA R' as1 bs
 | [],[],_=>trivial
 | _ :: _,_ :: _,h=>⟨hr _ _ h.1,ZA.mono hr h.2⟩
 | [],_ :: _,h=>h.elim
 | _ :: _,[],h=>h.elim
theorem ZA.get:∀ {as1:List α} {bs:List β},ZA R as1 bs→∀ (i:Nat) (a:α),as1[i]?=some a→∃ b,bs[i]?=some b∧R a b
 | [],[],_,i,a,h=>by simp at h
 | a :: as1,b :: bs,h,0,a',ha=>by simp at ha;subst ha;exact⟨b,by simp,h.1⟩
 | a :: as1,b :: bs,h,i+1,a',ha=>by simp at ha;obtain⟨b',h1,h2⟩:=ZA.get h.2 i a' ha;exact⟨b',by simp[h1],h2⟩
 | [],_ :: _,h,_,_,_=>h.elim
 | _ :: _,[],h,_,_,_=>h.elim
theorem ZA.get' : ∀ {as1:List α} {bs:List β},ZA R as1 bs→∀ (i:Nat) (b:β),bs[i]?=some b→∃ a,as1[i]?=some a∧R a b
 | [],[],_,i,a,h=>by simp at h
 | a :: as1,b :: bs,h,0,b',hb=>by simp at hb;subst hb;exact⟨a,by simp,h.1⟩
 | a :: as1,b :: bs,h,i+1,b',hb=>by simp at hb;obtain⟨a',h1,h2⟩:=ZA.get' h.2 i b' hb;exact⟨a',by simp[h1],h2⟩
 | [],_ :: _,h,_,_,_=>h.elim
 | _ :: _,[],h,_,_,_=>h.elim
theorem ZA.of_get:∀ {as1:List α} {bs:List β},as1.length=bs.length→(∀ (i:Nat) (a:α) (b:β),as1[i]?=some a→bs[i]?=some b→R a b)→ZA R as1 bs
 | [],[],_,_=>trivial
 | a :: as1,b :: bs,hl,h=>⟨h 0 a b (by simp) (by simp),ZA.of_get (by simpa using hl) fun i a' b' ha hb=>h (i+1) a' b' (by simpa using ha) (by simpa using hb)⟩
 | [],_ :: _,hl,_=>by simp at hl
 | _ :: _,[],hl,_=>by simp at hl
theorem ZA.append:∀ {as1 aa : List α} {bs ab : List β},ZA R as1 bs→ZA R aa ab→ZA R (as1++aa) (bs++ab)
 | [],_,[],_,_,h'=>h'
 | _ :: _,_,_ :: _,_,h,h'=>⟨h.1,ZA.append h.2 h'⟩
 | [],_,_ :: _,_,h,_=>h.elim
 | _ :: _,_,[],_,h,_=>h.elim
theorem ZA.take (n:Nat):∀ {as1:List α} {bs:List β},ZA R as1 bs→ZA R (as1.take n) (bs.take n):=by
 induction n with
 | zero=>intro as1 bs _;simp[ZA]
 | succ n ih=>
  intro as1 bs h;cases as1<;>cases bs
  ·simp[ZA]
  ·exact h.elim
  ·exact h.elim
  ·exact⟨h.1,ih h.2⟩
theorem ZA.drop (n:Nat):∀ {as1:List α} {bs:List β},ZA R as1 bs→ZA R (as1.drop n) (bs.drop n):=by
 induction n with
 | zero=>intro as1 bs h;simpa using h
 | succ n ih=>
  intro as1 bs h;cases as1<;>cases bs
  ·simp[ZA]
  ·exact h.elim
  ·exact h.elim
  ·simpa using ih h.2
theorem ZA.map {γ δ:Type} {S:γ→δ→Prop} {f:α→γ} {g:β→δ} (hr:∀ a b,R a b→S (f a) (g b)):∀ {as1:List α} {bs:List β},ZA R as1 bs→ZA S (as1.map f) (bs.map g)
 | [],[],_=>trivial
 | _ :: _,_ :: _,h=>⟨hr _ _ h.1,ZA.map hr h.2⟩
 | [],_ :: _,h=>h.elim
 | _ :: _,[],h=>h.elim
theorem ZA.map_left {γ:Type} {S:γ→β→Prop} {f:α→γ} (hr:∀ a b,R a b→S (f a) b):∀ {as1:List α} {bs:List β},ZA R as1 bs→ZA S (as1.map f) bs
 | [],[],_=>trivial
 | _ :: _,_ :: _,h=>⟨hr _ _ h.1,ZA.map_left hr h.2⟩
 | [],_ :: _,h=>h.elim
 | _ :: _,[],h=>h.elim
theorem ZA.set {as1:List α} {bs:List β} (h:ZA R as1 bs) (i:Nat) {a:α} {b:β} (aa:R a b):ZA R (as1.set i a) (bs.set i b):=by
 refine ZA.of_get (by simp[h.length]) fun j a' b' ha hb=>?_;rw[LV] at ha hb;rw[h.length] at ha;split at ha
 ·split at ha
  ·rename_i h1 h2;subst h1;simp[h2] at ha hb;subst ha;rw[← hb];exact aa
  ·cases ha
 ·rename_i h1;simp[h1] at hb;obtain⟨ab,h2,h3⟩:=h.get j a' ha;rw[hb] at h2;cases h2;exact h3
end
def QA (w:World) (b o:Nat) (vs:List Value):Prop:=∀ j u,vs[j]?=some u→w.cell? ⟨b,o+j,none⟩=some u
theorem QA.mono {w w' : World} {b o:Nat} {vs:List Value} (h:QA w b o vs) (hb:w'.heap[b]?=w.heap[b]?):QA w' b o vs:=
 fun j u hu=>(World.cell?_of_block (w:=w) (a:=⟨b,o+j,none⟩) hb).trans (h j u hu)
mutual
def ZQ (w:World) (S:Nat→Prop):D→List Value→Prop
 | .int k n,vs=>vs=[.int k n]
 | .bool b,vs=>vs=[.bool b]
 | .str s,vs=>∃ t:ByteArray,vs=[.string t]∧t.data.toList=s
 | .sl xs,vs=>∃ a c,vs=[.slice a xs.length c]∧xs.length≤c∧(xs=[]∨∃ b o sz,a=some ⟨b,o,none⟩∧S b∧0<sz∧Ut w S b sz xs o)
 | .agg cs,vs=>QT w S cs vs
def QT (w:World) (S:Nat→Prop):List D→List Value→Prop
 | [],vs=>vs=[]
 | d :: ds,vs=>∃ v r,vs=v :: r∧d.one=true∧ZQ w S d [v]∧QT w S ds r
def Ut (w:World) (S:Nat→Prop) (b sz:Nat):List D→Nat→Prop
 | [],_=>True
 | d :: ds,o=>(∃ vs:List Value,vs.length=sz∧QA w b o vs∧ZQ w S d vs)∧Ut w S b sz ds (o+sz)
end
section
variable {w:World} {S:Nat→Prop}
theorem Q8:∀ {ds:List D} {vs:List Value},QT w S ds vs↔ZA (fun d v=>d.one=true∧ZQ w S d [v]) ds vs
 | [],[]=>by simp[QT,ZA]
 | [],_ :: _=>by simp[QT,ZA]
 | d :: ds,[]=>by simp[QT,ZA]
 | d :: ds,v :: vs=>by
  simp only[QT,ZA,Q8 (ds:=ds) (vs:=vs)];constructor
  ·rintro ⟨v',r,h,h1,h2,h3⟩
   cases h;exact⟨⟨h1,h2⟩,Q8.1 h3⟩
  ·rintro ⟨⟨h1,h2⟩,h3⟩
   exact⟨v,vs,rfl,h1,h2,Q8.2 h3⟩
theorem Yh {b sz:Nat}:∀ {xs:List D} {o:Nat},Ut w S b sz xs o ↔
  ∀ i x,xs[i]?=some x→∃ vs:List Value,vs.length=sz∧QA w b (o+i*sz) vs∧ZQ w S x vs
 | [],o=>by simp[Ut]
 | d :: ds,o=>by
  simp only[Ut,Yh (xs:=ds)];constructor
  ·rintro ⟨h1,h2⟩ i x hx
   cases i with
   | zero=>simp at hx;subst hx;simpa using h1
   | succ i=>
    simp at hx;obtain⟨vs,h3,h4,h5⟩:=h2 i x hx;refine⟨vs,h3,?_,h5⟩;have:o+(i+1)*sz=o+sz+i*sz:=by rw[KV];omega
    rw[this];exact h4
  ·intro h;refine⟨by simpa using h 0 d (by simp),fun i x hx=>?_⟩;obtain⟨vs,h3,h4,h5⟩:=h (i+1) x (by simpa using hx);refine⟨vs,h3,?_,h5⟩;have:o+(i+1)*sz=o+sz+i*sz:=by rw[KV];omega
   rw[← this];exact h4
structure ZR (S S' : Nat→Prop) (w w' : World):Prop where
 sub:∀ b,S b→S' b
 blk:∀ b,S b→w'.heap[b]?=w.heap[b]?
mutual
theorem ZQ.mono {w' : World} {S' : Nat→Prop} (hk:ZR S S' w w'):∀ {d:D} {vs:List Value},ZQ w S d vs→ZQ w' S' d vs
 | .int _ _,_,h=>by simpa [ZQ] using h
 | .bool _,_,h=>by simpa [ZQ] using h
 | .str _,_,h=>by simpa [ZQ] using h
 | .sl xs,vs,h=>by
  simp only[ZQ] at h ⊢;obtain⟨a,c,h1,h2,h3⟩:=h;refine⟨a,c,h1,h2,?_⟩;rcases h3 with h3 | ⟨b,o,sz,h4,h5,h6,h7⟩
  ·exact .inl h3
  ·exact .inr ⟨b,o,sz,h4,hk.sub b h5,h6,Ut.mono hk h5 h7⟩
 | .agg cs,vs,h=>by
  simp only[ZQ] at h ⊢;exact QT.mono hk h
theorem QT.mono {w' : World} {S' : Nat→Prop} (hk:ZR S S' w w'):∀ {ds:List D} {vs:List Value},QT w S ds vs→QT w' S' ds vs
 | [],_,h=>by simpa [QT] using h
 | d :: ds,vs,h=>by
  simp only[QT] at h ⊢;obtain⟨v,r,h1,h2,h3,h4⟩:=h;exact⟨v,r,h1,h2,ZQ.mono hk h3,QT.mono hk h4⟩
theorem Ut.mono {w' : World} {S' : Nat→Prop} (hk:ZR S S' w w') {b sz:Nat} (hb:S b):∀ {ds:List D} {o:Nat},Ut w S b sz ds o→Ut w' S' b sz ds o
 | [],_,_=>by simp[Ut]
 | d :: ds,o,h=>by
  simp only[Ut] at h ⊢;obtain⟨⟨vs,h1,h2,h3⟩,h4⟩:=h;exact⟨⟨vs,h1,h2.mono (hk.blk b hb),ZQ.mono hk h3⟩,Ut.mono hk hb h4⟩
end
theorem Ut.mono' {w' : World} {S' : Nat→Prop} (hk:ZR S S' w w') {b sz:Nat} (hb:w'.heap[b]?=w.heap[b]?) {ds:List D} {o:Nat} (h:Ut w S b sz ds o):Ut w' S' b sz ds o:=by
 rw[Yh] at h ⊢;intro i x hx;obtain⟨vs,h1,h2,h3⟩:=h i x hx;exact⟨vs,h1,h2.mono hb,h3.mono hk⟩
theorem QT.length {ds:List D} {vs:List Value} (h:QT w S ds vs):ds.length=vs.length:=(Q8.1 h).length
theorem ZQ.length {d:D} {vs:List Value} (h:ZQ w S d vs):vs.length=d.cells.length:=by
 cases d<;>simp only[ZQ] at h
 ·subst h;rfl
 ·subst h;rfl
 ·obtain⟨t,rfl,_⟩:=h;rfl
 ·obtain⟨a,c,rfl,_⟩:=h;rfl
 ·exact h.length.symm
theorem ZQ.cells {d:D} {vs:List Value} (h:ZQ w S d vs):QT w S d.cells vs:=by
 cases d<;>simp only[D.cells,QT]
 ·simp only[ZQ] at h;subst h;exact⟨_,[],rfl,rfl,by simp[ZQ],rfl⟩
 ·simp only[ZQ] at h;subst h;exact⟨_,[],rfl,rfl,by simp[ZQ],rfl⟩
 ·have h':=h;simp only[ZQ] at h;obtain⟨t,rfl,_⟩:=h;exact⟨_,[],rfl,rfl,h',rfl⟩
 ·have h':=h;simp only[ZQ] at h;obtain⟨a,c,rfl,_⟩:=h;exact⟨_,[],rfl,rfl,h',rfl⟩
 ·simpa [ZQ] using h
end
end Go.Abs
set_option linter.unusedVariables false
set_option linter.unusedSimpArgs false
namespace Go.Abs
open Go
mutual
def Qw (w:World) (ns:Nat) (B:List Nat):D→Value→Prop
 | .int k n,v=>v=.int k n∧B=[]
 | .bool b,v=>v=.bool b∧B=[]
 | .str s,v=>(∃ t:ByteArray,v=.string t∧t.data.toList=s)∧B=[]
 | .sl xs,v=>∃ a c,v=.slice a xs.length c∧xs.length≤c∧((c=0∧B=[]) ∨
   ∃ g cur e Bs,a=some ⟨g,0,none⟩∧0<c∧w.heap[g]?=some (.cells cur e (0,0))∧c≤maxLen∧cur.size=c*ns∧0<ns∧B=g :: Bs∧Z1 w ns Bs g ns xs 0)
 | .agg _,_=>False
def Qj (w:World) (ns:Nat) (B:List Nat):List D→List Value→Prop
 | [],vs=>vs=[]∧B=[]
 | d :: ds,vs=>∃ v r B1 B2,vs=v :: r∧B=B1++B2∧Qw w ns B1 d v∧Qj w ns B2 ds r
def XH (w:World) (ns:Nat) (B:List Nat):D→List Value→Prop
 | .agg cs,vs=>Qj w ns B cs vs
 | .int k n,vs=>vs=[.int k n]∧B=[]
 | .bool b,vs=>vs=[.bool b]∧B=[]
 | .str s,vs=>(∃ t:ByteArray,vs=[.string t]∧t.data.toList=s)∧B=[]
 | .sl _,_=>False
def Z1 (w:World) (ns:Nat) (B:List Nat) (g sz:Nat):List D→Nat→Prop
 | [],_=>B=[]
 | d :: ds,o=>∃ vs B1 B2,B=B1++B2∧vs.length=sz∧QA w g o vs∧XH w ns B1 d vs∧Z1 w ns B2 g sz ds (o+sz)
end
section
variable {w w' : World} {ns:Nat}
mutual
theorem Qw.mono:∀ {d:D} {B:List Nat} {v:Value},Qw w ns B d v→(∀ b∈B,w'.heap[b]?=w.heap[b]?)→Qw w' ns B d v
 | .int _ _,_,_,h,_=>by simpa only[Qw] using h
 | .bool _,_,_,h,_=>by simpa only[Qw] using h
 | .str _,_,_,h,_=>by simpa only[Qw] using h
 | .agg _,_,_,h,_=>by simp only[Qw] at h
 | .sl xs,B,v,h,hk=>by
  simp only[Qw] at h ⊢;obtain⟨a,c,h1,h2,h3⟩:=h;refine⟨a,c,h1,h2,?_⟩;rcases h3 with h3 | ⟨g,cur,e,Bs,h4,h5,h6,h7,h8,h9,rfl,aa⟩
  ·exact .inl h3
  ·exact .inr ⟨g,cur,e,Bs,h4,h5,(hk g (by simp)).trans h6,h7,h8,h9,rfl,Z1.mono aa (hk g (by simp)) fun b hb=>hk b (by simp[hb])⟩
theorem Qj.mono:∀ {ds:List D} {B:List Nat} {vs:List Value},Qj w ns B ds vs→(∀ b∈B,w'.heap[b]?=w.heap[b]?)→Qj w' ns B ds vs
 | [],_,_,h,_=>by simpa only[Qj] using h
 | d :: ds,B,vs,h,hk=>by
  simp only[Qj] at h ⊢;obtain⟨v,r,B1,B2,h1,rfl,h2,h3⟩:=h;exact⟨v,r,B1,B2,h1,rfl,Qw.mono h2 fun b hb=>hk b (by simp[hb]),Qj.mono h3 fun b hb=>hk b (by simp[hb])⟩
theorem XH.mono:∀ {d:D} {B:List Nat} {vs:List Value},XH w ns B d vs→(∀ b∈B,w'.heap[b]?=w.heap[b]?)→XH w' ns B d vs
 | .int _ _,_,_,h,_=>by simpa only[XH] using h
 | .bool _,_,_,h,_=>by simpa only[XH] using h
 | .str _,_,_,h,_=>by simpa only[XH] using h
 | .sl _,_,_,h,_=>by simp only[XH] at h
 | .agg cs,_,_,h,hk=>by
  simp only[XH] at h ⊢;exact Qj.mono h hk
theorem Z1.mono {g sz:Nat}:∀ {xs:List D} {B:List Nat} {o:Nat},Z1 w ns B g sz xs o→w'.heap[g]?=w.heap[g]?→(∀ b∈B,w'.heap[b]?=w.heap[b]?)→Z1 w' ns B g sz xs o
 | [],_,_,h,_,_=>by simpa only[Z1] using h
 | d :: ds,B,o,h,hg,hk=>by
  simp only[Z1] at h ⊢;obtain⟨vs,B1,B2,rfl,h1,h2,h3,h4⟩:=h;exact⟨vs,B1,B2,rfl,h1,h2.mono hg,XH.mono h3 fun b hb=>hk b (by simp[hb]),Z1.mono h4 hg fun b hb=>hk b (by simp[hb])⟩
end
mutual
theorem Qw.rep {S:Nat→Prop}:∀ {d:D} {B:List Nat} {v:Value},Qw w ns B d v→(∀ b∈B,S b)→d.one=true∧ZQ w S d [v]
 | .int _ _,_,_,h,_=>by simp only[Qw] at h;exact⟨rfl,by rw[h.1];rfl⟩
 | .bool _,_,_,h,_=>by simp only[Qw] at h;exact⟨rfl,by rw[h.1];rfl⟩
 | .str _,_,_,h,_=>by
  simp only[Qw] at h;obtain⟨⟨t,rfl,h⟩,_⟩:=h;exact⟨rfl,t,rfl,h⟩
 | .agg _,_,_,h,_=>by simp only[Qw] at h
 | .sl xs,B,v,h,hk=>by
  simp only[Qw] at h;obtain⟨a,c,rfl,h2,h3⟩:=h;refine⟨rfl,?_⟩;simp only[ZQ];refine⟨a,c,rfl,h2,?_⟩;rcases h3 with ⟨rfl,_⟩ | ⟨g,cur,e,Bs,h4,h5,h6,h7,h8,h9,rfl,aa⟩
  ·exact .inl (Kt (by omega))
  ·exact .inr ⟨g,0,ns,h4,hk g (by simp),h9,Z1.rep aa fun b hb=>hk b (by simp[hb])⟩
theorem Qj.rep {S:Nat→Prop}:∀ {ds:List D} {B:List Nat} {vs:List Value},Qj w ns B ds vs→(∀ b∈B,S b)→QT w S ds vs
 | [],_,_,h,_=>by simp only[Qj] at h;simp only[QT];exact h.1
 | d :: ds,B,vs,h,hk=>by
  simp only[Qj] at h;obtain⟨v,r,B1,B2,rfl,rfl,h2,h3⟩:=h;simp only[QT];obtain⟨g1,g2⟩:=Qw.rep (S:=S) h2 fun b hb=>hk b (by simp[hb]);exact⟨v,r,rfl,g1,g2,Qj.rep h3 fun b hb=>hk b (by simp[hb])⟩
theorem XH.rep {S:Nat→Prop}:∀ {d:D} {B:List Nat} {vs:List Value},XH w ns B d vs→(∀ b∈B,S b)→ZQ w S d vs
 | .int _ _,_,_,h,_=>by simp only[XH] at h;simp only[ZQ];exact h.1
 | .bool _,_,_,h,_=>by simp only[XH] at h;simp only[ZQ];exact h.1
 | .str _,_,_,h,_=>by simp only[XH] at h;simp only[ZQ];exact h.1
 | .sl _,_,_,h,_=>by simp only[XH] at h
 | .agg cs,_,_,h,hk=>by
  simp only[XH] at h;simp only[ZQ];exact Qj.rep h hk
theorem Z1.rep {S:Nat→Prop} {g sz:Nat}:∀ {xs:List D} {B:List Nat} {o:Nat},Z1 w ns B g sz xs o→(∀ b∈B,S b)→Ut w S g sz xs o
 | [],_,_,_,_=>by simp only[Ut]
 | d :: ds,B,o,h,hk=>by
  simp only[Z1] at h;obtain⟨vs,B1,B2,rfl,h1,h2,h3,h4⟩:=h;simp only[Ut];exact⟨⟨vs,h1,h2,XH.rep h3 fun b hb=>hk b (by simp[hb])⟩,Z1.rep h4 fun b hb=>hk b (by simp[hb])⟩
end
mutual
theorem Qw.lt:∀ {d:D} {B:List Nat} {v:Value},Qw w ns B d v→∀ b∈B,b<w.heap.size
 | .int _ _,_,_,h,b,hb=>by simp only[Qw] at h;rw[h.2] at hb;simp at hb
 | .bool _,_,_,h,b,hb=>by simp only[Qw] at h;rw[h.2] at hb;simp at hb
 | .str _,_,_,h,b,hb=>by simp only[Qw] at h;rw[h.2] at hb;simp at hb
 | .agg _,_,_,h,_,_=>by simp only[Qw] at h
 | .sl xs,B,v,h,b,hb=>by
  simp only[Qw] at h;obtain⟨a,c,_,_,h3⟩:=h;rcases h3 with ⟨_,rfl⟩ | ⟨g,cur,e,Bs,_,_,h6,_,_,_,rfl,aa⟩
  ·simp at hb
  ·rcases Ke.1 hb with rfl | hb
   ·exact(KR.1 h6).1
   ·exact Z1.lt aa b hb
theorem Qj.lt:∀ {ds:List D} {B:List Nat} {vs:List Value},Qj w ns B ds vs→∀ b∈B,b<w.heap.size
 | [],_,_,h,b,hb=>by simp only[Qj] at h;rw[h.2] at hb;simp at hb
 | d :: ds,_,_,h,b,hb=>by
  simp only[Qj] at h;obtain⟨v,r,B1,B2,rfl,rfl,h2,h3⟩:=h;rcases Ki.1 hb with hb | hb
  ·exact Qw.lt h2 b hb
  ·exact Qj.lt h3 b hb
theorem XH.lt:∀ {d:D} {B:List Nat} {vs:List Value},XH w ns B d vs→∀ b∈B,b<w.heap.size
 | .int _ _,_,_,h,b,hb=>by simp only[XH] at h;rw[h.2] at hb;simp at hb
 | .bool _,_,_,h,b,hb=>by simp only[XH] at h;rw[h.2] at hb;simp at hb
 | .str _,_,_,h,b,hb=>by simp only[XH] at h;rw[h.2] at hb;simp at hb
 | .sl _,_,_,h,_,_=>by simp only[XH] at h
 | .agg cs,_,_,h,b,hb=>by
  simp only[XH] at h;exact Qj.lt h b hb
theorem Z1.lt {g sz:Nat}:∀ {xs:List D} {B:List Nat} {o:Nat},Z1 w ns B g sz xs o→∀ b∈B,b<w.heap.size
 | [],_,_,h,b,hb=>by simp only[Z1] at h;rw[h] at hb;simp at hb
 | d :: ds,_,_,h,b,hb=>by
  simp only[Z1] at h;obtain⟨vs,B1,B2,rfl,h1,h2,h3,h4⟩:=h;rcases Ki.1 hb with hb | hb
  ·exact XH.lt h3 b hb
  ·exact Z1.lt h4 b hb
end
theorem QA.uniq {b o:Nat}:∀ {vs us:List Value},QA w b o vs→QA w b o us→vs.length=us.length→vs=us:=by
 intro vs us h h' hl;refine LI fun j=>?_;rcases K3 j vs.length with hj | hj
 ·have h1:=h j _ (Kv hj);have h2:=h' j _ (Kv (by omega:j<us.length));rw[h1] at h2;rw[Kv hj,Kv (by omega:j<us.length)];exact h2
 ·rw[K8 hj,K8 (by omega)]
mutual
theorem Qw.uniq:∀ {d:D} {B B' : List Nat} {v:Value},Qw w ns B d v→Qw w ns B' d v→B=B'
 | .int _ _,_,_,_,h,h'=>by simp only[Qw] at h h';rw[h.2,h'.2]
 | .bool _,_,_,_,h,h'=>by simp only[Qw] at h h';rw[h.2,h'.2]
 | .str _,_,_,_,h,h'=>by simp only[Qw] at h h';rw[h.2,h'.2]
 | .agg _,_,_,_,h,_=>by simp only[Qw] at h
 | .sl xs,B,B',v,h,h'=>by
  simp only[Qw] at h h';obtain⟨a,c,rfl,h2,h3⟩:=h;obtain⟨a',c',e,ag,ab⟩:=h';cases e;rcases h3 with ⟨hc,rfl⟩ | ⟨g,cur,e,Bs,rfl,hc,_,_,_,_,rfl,ad⟩<;>rcases ab with ⟨ae,rfl⟩ | ⟨g',af,e',ah,e1,ae,_,_,_,_,rfl,aa⟩
  ·rfl
  ·omega
  ·omega
  ·cases e1;rw[Z1.uniq ad aa]
theorem Qj.uniq:∀ {ds:List D} {B B' : List Nat} {vs:List Value},Qj w ns B ds vs→Qj w ns B' ds vs→B=B'
 | [],_,_,_,h,h'=>by simp only[Qj] at h h';rw[h.2,h'.2]
 | d :: ds,_,_,_,h,h'=>by
  simp only[Qj] at h h';obtain⟨v,r,B1,B2,rfl,rfl,h2,h3⟩:=h;obtain⟨v',r',ad,ae,e,rfl,aa,ab⟩:=h';cases e;rw[Qw.uniq h2 aa,Qj.uniq h3 ab]
theorem XH.uniq:∀ {d:D} {B B' : List Nat} {vs:List Value},XH w ns B d vs→XH w ns B' d vs→B=B'
 | .int _ _,_,_,_,h,h'=>by simp only[XH] at h h';rw[h.2,h'.2]
 | .bool _,_,_,_,h,h'=>by simp only[XH] at h h';rw[h.2,h'.2]
 | .str _,_,_,_,h,h'=>by simp only[XH] at h h';rw[h.2,h'.2]
 | .sl _,_,_,_,h,_=>by simp only[XH] at h
 | .agg cs,_,_,_,h,h'=>by
  simp only[XH] at h h';exact Qj.uniq h h'
theorem Z1.uniq {g sz:Nat}:∀ {xs:List D} {B B' : List Nat} {o:Nat},Z1 w ns B g sz xs o→Z1 w ns B' g sz xs o→B=B'
 | [],_,_,_,h,h'=>by simp only[Z1] at h h';rw[h,h']
 | d :: ds,_,_,_,h,h'=>by
  simp only[Z1] at h h';obtain⟨vs,B1,B2,rfl,h1,h2,h3,h4⟩:=h;obtain⟨ae,af,ag,rfl,ah,aa,ab,ad⟩:=h';cases QA.uniq h2 aa (by omega);rw[XH.uniq h3 ab,Z1.uniq h4 ad]
end
theorem Qj.length:∀ {ds:List D} {B:List Nat} {vs:List Value},Qj w ns B ds vs→vs.length=ds.length
 | [],_,_,h=>by simp only[Qj] at h;rw[h.1];rfl
 | d :: ds,_,_,h=>by
  simp only[Qj] at h;obtain⟨v,r,B1,B2,rfl,rfl,_,h3⟩:=h;simp[Qj.length h3]
theorem Qj.append:∀ {ds es:List D} {B B' : List Nat} {vs us:List Value},Qj w ns B ds vs→Qj w ns B' es us→Qj w ns (B++B') (ds++es) (vs++us)
 | [],_,_,_,_,_,h,h'=>by
  simp only[Qj] at h;obtain⟨rfl,rfl⟩:=h;simpa using h'
 | d :: ds,es,B,B',vs,us,h,h'=>by
  simp only[Qj] at h;obtain⟨v,r,B1,B2,rfl,rfl,h2,h3⟩:=h;simp only[KD,Qj];exact⟨v,r++us,B1,B2++B',rfl,by simp,h2,Qj.append h3 h'⟩
theorem Qj.split:∀ {ds es:List D} {B:List Nat} {vs:List Value},Qj w ns B (ds++es) vs→∃ B1 B2,B=B1++B2∧Qj w ns B1 ds (vs.take ds.length)∧Qj w ns B2 es (vs.drop ds.length)
 | [],es,B,vs,h=>⟨[],B,rfl,by simp[Qj],by simpa using h⟩
 | d :: ds,es,B,vs,h=>by
  simp only[KD,Qj] at h;obtain⟨v,r,B1,B2,rfl,rfl,h2,h3⟩:=h;obtain⟨C1,C2,rfl,g1,g2⟩:=Qj.split h3;refine⟨B1++C1,C2,by simp,?_,by simpa using g2⟩;simp only[Kl,LY,Qj];exact⟨v,r.take ds.length,B1,C1,rfl,rfl,h2,g1⟩
theorem XH.cells:∀ {d:D} {B:List Nat} {vs:List Value},XH w ns B d vs→Qj w ns B d.cells vs
 | .int k n,B,vs,h=>by
  simp only[XH] at h;obtain⟨rfl,rfl⟩:=h;simp only[D.cells,Qj,Qw];exact⟨_,[],[],[],rfl,rfl,⟨rfl,rfl⟩,rfl,rfl⟩
 | .bool b,B,vs,h=>by
  simp only[XH] at h;obtain⟨rfl,rfl⟩:=h;simp only[D.cells,Qj,Qw];exact⟨_,[],[],[],rfl,rfl,⟨rfl,rfl⟩,rfl,rfl⟩
 | .str s,B,vs,h=>by
  simp only[XH] at h;obtain⟨⟨t,rfl,ht⟩,rfl⟩:=h;simp only[D.cells,Qj,Qw];exact⟨_,[],[],[],rfl,rfl,⟨⟨t,rfl,ht⟩,rfl⟩,rfl,rfl⟩
 | .sl _,_,_,h=>by simp only[XH] at h
 | .agg cs,B,vs,h=>by simp only[XH] at h;exact h
theorem Zud {cs:List D} {B:List Nat} {vs:List Value} (h:Qj w ns B cs vs):XH w ns B (.agg cs) vs:=by simp only[XH];exact h
theorem Z1.at {g sz:Nat}:∀ {xs:List D} {B:List Nat} {o i:Nat} {x:D},Z1 w ns B g sz xs o→xs[i]?=some x→∃ vs B1 Bn B2,B=B1++Bn++B2∧vs.length=sz∧QA w g (o+i*sz) vs∧XH w ns Bn x vs ∧
  ∀ (w' : World) (aa : List Nat) (x' : D) (us:List Value),(∀ b∈B1++B2,w'.heap[b]?=w.heap[b]?)→(∀ p v,(p<o+i*sz∨o+i*sz+sz≤p)→w.cell? ⟨g,p,none⟩=some v→w'.cell? ⟨g,p,none⟩=some v) →
   us.length=sz→QA w' g (o+i*sz) us→XH w' ns aa x' us→Z1 w' ns (B1++aa++B2) g sz (xs.set i x') o
 | [],_,_,_,_,_,hx=>by simp at hx
 | d :: ds,B,o,0,x,h,hx=>by
  simp only[KX,Option.some.injEq] at hx;subst hx;simp only[Z1] at h;obtain⟨vs,B1,B2,rfl,h1,h2,h3,h4⟩:=h;refine⟨vs,[],B1,B2,by simp,h1,by simpa using h2,h3,fun w' aa x' us hk hc hl ab ht=>?_⟩;simp only[Kah,Ll,Z1];refine⟨us,aa,B2,rfl,hl,by simpa using ab,ht,?_⟩;have ad:∀ {ys:List D} {C:List Nat} {q:Nat},o+sz≤q→(∀ b∈C,b∈B2)→Z1 w ns C g sz ys q→Z1 w' ns C g sz ys q:=by
   intro ys
   induction ys with
   | nil=>intro C q _ _ h;simpa only[Z1] using h
   | cons y ys ih=>
    intro C q hq hC h;simp only[Z1] at h ⊢;obtain⟨ws,C1,C2,rfl,k1,k2,k3,k4⟩:=h;refine⟨ws,C1,C2,rfl,k1,fun j u hu=>?_,k3.mono fun b hb=>hk b (by simp[hC b (by simp[hb])]),ih (by omega) (fun b hb=>hC b (by simp[hb])) k4⟩;exact hc (q+j) u (.inr (by omega)) (k2 j u hu)
  exact ad (Kp _) (fun _ hb=>hb) h4
 | d :: ds,B,o,i+1,x,h,hx=>by
  simp only[KY] at hx;simp only[Z1] at h;obtain⟨ws,C1,C2,rfl,h1,h2,h3,h4⟩:=h;obtain⟨vs,B1,Bn,B2,rfl,g1,g2,g3,g4⟩:=Z1.at h4 hx;have e:o+sz+i*sz=o+(i+1)*sz:=by rw[KV];omega
  rw[e] at g2 g4;refine⟨vs,C1++B1,Bn,B2,by simp,g1,g2,g3,fun w' aa x' us hk hc hl ab ht=>?_⟩;simp only[Kaj,Z1];refine⟨ws,C1,B1++aa++B2,by simp,h1,fun j u hu=>?_,h3.mono fun b hb=>hk b (by simp[hb]),g4 w' aa x' us (fun b hb=>hk b (by
   simp only[Ki] at hb ⊢;rcases hb with hb | hb
   ·exact .inl (.inr hb)
   ·exact .inr hb)) hc hl ab ht⟩
  have hj:j<ws.length:=(Kb.1 hu).1;have:sz≤(i+1)*sz:=Nat.le_mul_of_pos_left sz (by omega);exact hc (o+j) u (.inl (by omega)) (h2 j u hu)
theorem Z1.length_le {g sz:Nat}:∀ {xs:List D} {B:List Nat} {o:Nat},Z1 w ns B g sz xs o→∀ i,i<xs.length→∃ vs:List Value,vs.length=sz∧QA w g (o+i*sz) vs
 | [],_,_,_,i,hi=>by simp at hi
 | d :: ds,B,o,h,0,_=>by
  simp only[Z1] at h;obtain⟨vs,B1,B2,rfl,h1,h2,_,_⟩:=h;exact⟨vs,h1,by simpa using h2⟩
 | d :: ds,B,o,h,i+1,hi=>by
  simp only[Z1] at h;obtain⟨vs,B1,B2,rfl,h1,h2,_,h4⟩:=h;obtain⟨us,g1,g2⟩:=Z1.length_le h4 i (by simpa using hi);refine⟨us,g1,?_⟩;have e:o+sz+i*sz=o+(i+1)*sz:=by rw[KV];omega
  rw[e] at g2;exact g2
theorem Z1.append {g sz:Nat}:∀ {xs ys:List D} {B B' : List Nat} {o:Nat},Z1 w ns B g sz xs o→Z1 w ns B' g sz ys (o+xs.length*sz)→Z1 w ns (B++B') g sz (xs++ys) o
 | [],ys,B,B',o,h,h'=>by
  simp only[Z1] at h;subst h;simpa using h'
 | d :: ds,ys,B,B',o,h,h'=>by
  simp only[Z1] at h;obtain⟨vs,B1,B2,rfl,h1,h2,h3,h4⟩:=h;simp only[KD,Z1];refine⟨vs,B1,B2++B',by simp,h1,h2,h3,Z1.append h4 ?_⟩;have e:o+(d :: ds).length*sz=o+sz+ds.length*sz:=by rw[Kl,KV];omega
  rwa [e] at h'
theorem Qj.get:∀ {ds:List D} {B:List Nat} {vs:List Value} {j:Nat} {d:D},Qj w ns B ds vs→ds[j]?=some d→∃ v B1 Bn B2,vs[j]?=some v∧B=B1++Bn++B2∧Qw w ns Bn d v
 | [],_,_,_,_,_,h=>by simp at h
 | e :: ds,B,vs,0,d,h,hd=>by
  simp only[KX,Option.some.injEq] at hd;subst hd;simp only[Qj] at h;obtain⟨v,r,B1,B2,rfl,rfl,h2,h3⟩:=h;exact⟨v,[],B1,B2,rfl,by simp,h2⟩
 | e :: ds,B,vs,j+1,d,h,hd=>by
  simp only[KY] at hd;simp only[Qj] at h;obtain⟨v,r,B1,B2,rfl,rfl,h2,h3⟩:=h;obtain⟨u,C1,Cn,C2,g1,rfl,g3⟩:=Qj.get h3 hd;exact⟨u,B1++C1,Cn,C2,by simpa using g1,by simp,g3⟩
theorem Qw.plain {S:Nat→Prop} {d:D} {B:List Nat} {v:Value} (h:Qw w ns B d v) (hd:∀ ys,d≠.sl ys):B=[]∧d.plain=true∧ZQ w S d [v]:=by
 cases d with
 | sl ys=>exact absurd rfl (hd ys)
 | agg cs=>simp only[Qw] at h
 | int k n=>simp only[Qw] at h;obtain⟨rfl,rfl⟩:=h;exact⟨rfl,rfl,rfl⟩
 | bool b=>simp only[Qw] at h;obtain⟨rfl,rfl⟩:=h;exact⟨rfl,rfl,rfl⟩
 | str s=>simp only[Qw] at h;obtain⟨⟨t,rfl,ht⟩,rfl⟩:=h;exact⟨rfl,rfl,t,rfl,ht⟩
end
end Go.Abs
