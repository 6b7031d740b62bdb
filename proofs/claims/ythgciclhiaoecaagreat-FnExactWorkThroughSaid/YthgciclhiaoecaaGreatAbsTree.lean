/- Own text. -/
import GoSem.Core.World
import Derived.Test.YthgciclhiaoecaaGreatAbsRun
import Derived.Below
set_option linter.unusedVariables false
set_option linter.unusedSimpArgs false
namespace Go.Abs
open Go
def gtabs:List (Nat×Array Value):=[]
end Go.Abs
set_option linter.unusedVariables false
set_option linter.unusedSimpArgs false
namespace Go.Abs
open Go
def Zx {α β:Type} (R:α→β→Prop):List α→List β→Prop
 | [],[]=>True
 | a :: as,b :: bs=>R a b∧Zx R as bs
 | _,_=>False
section
variable {α β:Type} {R R' : α→β→Prop}
theorem Zx.length:∀ {as:List α} {bs:List β},Zx R as bs→as.length=bs.length
 | [],[],_=>rfl
 | _ :: _,_ :: _,h=>congrArg (·+1) (Zx.length h.2)
 | [],_ :: _,h=>h.elim
 | _ :: _,[],h=>h.elim
theorem Zx.mono (hr:∀ a b,R a b→R' a b):∀ {as:List α} {bs:List β},Zx R as bs→Zx R' as bs
 | [],[],_=>trivial
 | _ :: _,_ :: _,h=>⟨hr _ _ h.1,Zx.mono hr h.2⟩
 | [],_ :: _,h=>h.elim
 | _ :: _,[],h=>h.elim
theorem Zx.get:∀ {as:List α} {bs:List β},Zx R as bs→∀ (i:Nat) (a:α),as[i]?=some a→∃ b,bs[i]?=some b∧R a b
 | [],[],_,i,a,h=>by simp at h
 | a :: as,b :: bs,h,0,a',ha=>by simp at ha;subst ha;exact⟨b,by simp,h.1⟩
 | a :: as,b :: bs,h,i+1,a',ha=>by simp at ha;obtain⟨b',h1,h2⟩:=Zx.get h.2 i a' ha;exact⟨b',by simp[h1],h2⟩
 | [],_ :: _,h,_,_,_=>h.elim
 | _ :: _,[],h,_,_,_=>h.elim
theorem Zx.get' : ∀ {as:List α} {bs:List β},Zx R as bs→∀ (i:Nat) (b:β),bs[i]?=some b→∃ a,as[i]?=some a∧R a b
 | [],[],_,i,a,h=>by simp at h
 | a :: as,b :: bs,h,0,b',hb=>by simp at hb;subst hb;exact⟨a,by simp,h.1⟩
 | a :: as,b :: bs,h,i+1,b',hb=>by simp at hb;obtain⟨a',h1,h2⟩:=Zx.get' h.2 i b' hb;exact⟨a',by simp[h1],h2⟩
 | [],_ :: _,h,_,_,_=>h.elim
 | _ :: _,[],h,_,_,_=>h.elim
theorem Zx.of_get:∀ {as:List α} {bs:List β},as.length=bs.length→(∀ (i:Nat) (a:α) (b:β),as[i]?=some a→bs[i]?=some b→R a b)→Zx R as bs
 | [],[],_,_=>trivial
 | a :: as,b :: bs,hl,h=>⟨h 0 a b (by simp) (by simp),Zx.of_get (by simpa using hl) fun i a' b' ha hb=>h (i+1) a' b' (by simpa using ha) (by simpa using hb)⟩
 | [],_ :: _,hl,_=>by simp at hl
 | _ :: _,[],hl,_=>by simp at hl
theorem Zx.append:∀ {as aa : List α} {bs ab : List β},Zx R as bs→Zx R aa ab→Zx R (as++aa) (bs++ab)
 | [],_,[],_,_,h'=>h'
 | _ :: _,_,_ :: _,_,h,h'=>⟨h.1,Zx.append h.2 h'⟩
 | [],_,_ :: _,_,h,_=>h.elim
 | _ :: _,_,[],_,h,_=>h.elim
theorem Zx.take (n:Nat):∀ {as:List α} {bs:List β},Zx R as bs→Zx R (as.take n) (bs.take n):=by
 induction n with
 | zero=>intro as bs _;simp[Zx]
 | succ n ih=>
  intro as bs h;cases as<;>cases bs
  ·simp[Zx]
  ·exact h.elim
  ·exact h.elim
  ·exact⟨h.1,ih h.2⟩
theorem Zx.drop (n:Nat):∀ {as:List α} {bs:List β},Zx R as bs→Zx R (as.drop n) (bs.drop n):=by
 induction n with
 | zero=>intro as bs h;simpa using h
 | succ n ih=>
  intro as bs h;cases as<;>cases bs
  ·simp[Zx]
  ·exact h.elim
  ·exact h.elim
  ·simpa using ih h.2
theorem Zx.map {γ δ:Type} {S:γ→δ→Prop} {f:α→γ} {g:β→δ} (hr:∀ a b,R a b→S (f a) (g b)):∀ {as:List α} {bs:List β},Zx R as bs→Zx S (as.map f) (bs.map g)
 | [],[],_=>trivial
 | _ :: _,_ :: _,h=>⟨hr _ _ h.1,Zx.map hr h.2⟩
 | [],_ :: _,h=>h.elim
 | _ :: _,[],h=>h.elim
theorem Zx.map_left {γ:Type} {S:γ→β→Prop} {f:α→γ} (hr:∀ a b,R a b→S (f a) b):∀ {as:List α} {bs:List β},Zx R as bs→Zx S (as.map f) bs
 | [],[],_=>trivial
 | _ :: _,_ :: _,h=>⟨hr _ _ h.1,Zx.map_left hr h.2⟩
 | [],_ :: _,h=>h.elim
 | _ :: _,[],h=>h.elim
theorem Zx.set {as:List α} {bs:List β} (h:Zx R as bs) (i:Nat) {a:α} {b:β} (aa:R a b):Zx R (as.set i a) (bs.set i b):=by
 refine Zx.of_get (by simp[h.length]) fun j a' b' ha hb=>?_;rw[LQ] at ha hb;rw[h.length] at ha;split at ha
 ·split at ha
  ·rename_i h1 h2;subst h1;simp[h2] at ha hb;subst ha;rw[← hb];exact aa
  ·cases ha
 ·rename_i h1;simp[h1] at hb;obtain⟨ab,h2,h3⟩:=h.get j a' ha;rw[hb] at h2;cases h2;exact h3
end
def QL (w:World) (b o:Nat) (vs:List Value):Prop:=∀ j u,vs[j]?=some u→w.cell? ⟨b,o+j,none⟩=some u
theorem QL.mono {w w' : World} {b o:Nat} {vs:List Value} (h:QL w b o vs) (hb:w'.heap[b]?=w.heap[b]?):QL w' b o vs:=
 fun j u hu=>(World.cell?_of_block (w:=w) (a:=⟨b,o+j,none⟩) hb).trans (h j u hu)
mutual
def ZR (w:World) (S:Nat→Prop):D→List Value→Prop
 | .int k n,vs=>vs=[.int k n]
 | .bool b,vs=>vs=[.bool b]
 | .str s,vs=>∃ t:ByteArray,vs=[.string t]∧t.data.toList=s
 | .sl xs,vs=>∃ a c,vs=[.slice a xs.length c]∧xs.length≤c∧(xs=[]∨∃ b o sz,a=some ⟨b,o,none⟩∧S b∧0<sz∧W6 w S b sz xs o)
 | .agg cs,vs=>QH w S cs vs
def QH (w:World) (S:Nat→Prop):List D→List Value→Prop
 | [],vs=>vs=[]
 | d :: ds,vs=>∃ v r,vs=v :: r∧d.one=true∧ZR w S d [v]∧QH w S ds r
def W6 (w:World) (S:Nat→Prop) (b sz:Nat):List D→Nat→Prop
 | [],_=>True
 | d :: ds,o=>(∃ vs:List Value,vs.length=sz∧QL w b o vs∧ZR w S d vs)∧W6 w S b sz ds (o+sz)
end
section
variable {w:World} {S:Nat→Prop}
theorem QQ:∀ {ds:List D} {vs:List Value},QH w S ds vs↔Zx (fun d v=>d.one=true∧ZR w S d [v]) ds vs
 | [],[]=>by simp[QH,Zx]
 | [],_ :: _=>by simp[QH,Zx]
 | d :: ds,[]=>by simp[QH,Zx]
 | d :: ds,v :: vs=>by
  simp only[QH,Zx,QQ (ds:=ds) (vs:=vs)];constructor
  ·rintro ⟨v',r,h,h1,h2,h3⟩
   cases h;exact⟨⟨h1,h2⟩,QQ.1 h3⟩
  ·rintro ⟨⟨h1,h2⟩,h3⟩
   exact⟨v,vs,rfl,h1,h2,QQ.2 h3⟩
theorem XW {b sz:Nat}:∀ {xs:List D} {o:Nat},W6 w S b sz xs o ↔
  ∀ i x,xs[i]?=some x→∃ vs:List Value,vs.length=sz∧QL w b (o+i*sz) vs∧ZR w S x vs
 | [],o=>by simp[W6]
 | d :: ds,o=>by
  simp only[W6,XW (xs:=ds)];constructor
  ·rintro ⟨h1,h2⟩ i x hx
   cases i with
   | zero=>simp at hx;subst hx;simpa using h1
   | succ i=>
    simp at hx;obtain⟨vs,h3,h4,h5⟩:=h2 i x hx;refine⟨vs,h3,?_,h5⟩;have:o+(i+1)*sz=o+sz+i*sz:=by rw[KO];omega
    rw[this];exact h4
  ·intro h;refine⟨by simpa using h 0 d (by simp),fun i x hx=>?_⟩;obtain⟨vs,h3,h4,h5⟩:=h (i+1) x (by simpa using hx);refine⟨vs,h3,?_,h5⟩;have:o+(i+1)*sz=o+sz+i*sz:=by rw[KO];omega
   rw[← this];exact h4
structure ZT (S S' : Nat→Prop) (w w' : World):Prop where
 sub:∀ b,S b→S' b
 blk:∀ b,S b→w'.heap[b]?=w.heap[b]?
mutual
theorem ZR.mono {w' : World} {S' : Nat→Prop} (hk:ZT S S' w w'):∀ {d:D} {vs:List Value},ZR w S d vs→ZR w' S' d vs
 | .int _ _,_,h=>by simpa [ZR] using h
 | .bool _,_,h=>by simpa [ZR] using h
 | .str _,_,h=>by simpa [ZR] using h
 | .sl xs,vs,h=>by
  simp only[ZR] at h ⊢;obtain⟨a,c,h1,h2,h3⟩:=h;refine⟨a,c,h1,h2,?_⟩;rcases h3 with h3 | ⟨b,o,sz,h4,h5,h6,h7⟩
  ·exact .inl h3
  ·exact .inr ⟨b,o,sz,h4,hk.sub b h5,h6,W6.mono hk h5 h7⟩
 | .agg cs,vs,h=>by
  simp only[ZR] at h ⊢;exact QH.mono hk h
theorem QH.mono {w' : World} {S' : Nat→Prop} (hk:ZT S S' w w'):∀ {ds:List D} {vs:List Value},QH w S ds vs→QH w' S' ds vs
 | [],_,h=>by simpa [QH] using h
 | d :: ds,vs,h=>by
  simp only[QH] at h ⊢;obtain⟨v,r,h1,h2,h3,h4⟩:=h;exact⟨v,r,h1,h2,ZR.mono hk h3,QH.mono hk h4⟩
theorem W6.mono {w' : World} {S' : Nat→Prop} (hk:ZT S S' w w') {b sz:Nat} (hb:S b):∀ {ds:List D} {o:Nat},W6 w S b sz ds o→W6 w' S' b sz ds o
 | [],_,_=>by simp[W6]
 | d :: ds,o,h=>by
  simp only[W6] at h ⊢;obtain⟨⟨vs,h1,h2,h3⟩,h4⟩:=h;exact⟨⟨vs,h1,h2.mono (hk.blk b hb),ZR.mono hk h3⟩,W6.mono hk hb h4⟩
end
theorem W6.mono' {w' : World} {S' : Nat→Prop} (hk:ZT S S' w w') {b sz:Nat} (hb:w'.heap[b]?=w.heap[b]?) {ds:List D} {o:Nat} (h:W6 w S b sz ds o):W6 w' S' b sz ds o:=by
 rw[XW] at h ⊢;intro i x hx;obtain⟨vs,h1,h2,h3⟩:=h i x hx;exact⟨vs,h1,h2.mono hb,h3.mono hk⟩
theorem QH.length {ds:List D} {vs:List Value} (h:QH w S ds vs):ds.length=vs.length:=(QQ.1 h).length
theorem ZR.length {d:D} {vs:List Value} (h:ZR w S d vs):vs.length=d.cells.length:=by
 cases d<;>simp only[ZR] at h
 ·subst h;rfl
 ·subst h;rfl
 ·obtain⟨t,rfl,_⟩:=h;rfl
 ·obtain⟨a,c,rfl,_⟩:=h;rfl
 ·exact h.length.symm
theorem ZR.cells {d:D} {vs:List Value} (h:ZR w S d vs):QH w S d.cells vs:=by
 cases d<;>simp only[D.cells,QH]
 ·simp only[ZR] at h;subst h;exact⟨_,[],rfl,rfl,by simp[ZR],rfl⟩
 ·simp only[ZR] at h;subst h;exact⟨_,[],rfl,rfl,by simp[ZR],rfl⟩
 ·have h':=h;simp only[ZR] at h;obtain⟨t,rfl,_⟩:=h;exact⟨_,[],rfl,rfl,h',rfl⟩
 ·have h':=h;simp only[ZR] at h;obtain⟨a,c,rfl,_⟩:=h;exact⟨_,[],rfl,rfl,h',rfl⟩
 ·simpa [ZR] using h
end
end Go.Abs
set_option linter.unusedVariables false
set_option linter.unusedSimpArgs false
namespace Go.Abs
open Go
def plainV:D→Option Value
 | .int k n=>some (.int k n)
 | .bool b=>some (.bool b)
 | _=>none
mutual
def Qq (w:World) (ns:Nat) (B:List Nat):D→Value→Prop
 | .int k n,v=>v=.int k n∧B=[]
 | .bool b,v=>v=.bool b∧B=[]
 | .str s,v=>(∃ t:ByteArray,v=.string t∧t.data.toList=s)∧B=[]
 | .sl xs,v=>∃ a c,v=.slice a xs.length c∧xs.length≤c∧((c=0∧B=[]) ∨
   ∃ g cur e Bs,a=some ⟨g,0,none⟩∧0<c∧w.heap[g]?=some (.cells cur e (0,0))∧c≤maxLen∧cur.size=c*ns∧0<ns∧B=g :: Bs∧ZZ w ns Bs g ns xs 0)
 | .agg _,_=>False
def Qg (w:World) (ns:Nat) (B:List Nat):List D→List Value→Prop
 | [],vs=>vs=[]∧B=[]
 | d :: ds,vs=>∃ v r B1 B2,vs=v :: r∧B=B1++B2∧Qq w ns B1 d v∧Qg w ns B2 ds r
def Xj (w:World) (ns:Nat) (B:List Nat):D→List Value→Prop
 | .agg cs,vs=>Qg w ns B cs vs
 | .int k n,vs=>vs=[.int k n]∧B=[]
 | .bool b,vs=>vs=[.bool b]∧B=[]
 | .str s,vs=>(∃ t:ByteArray,vs=[.string t]∧t.data.toList=s)∧B=[]
 | .sl _,_=>False
def ZZ (w:World) (ns:Nat) (B:List Nat) (g sz:Nat):List D→Nat→Prop
 | [],_=>B=[]
 | d :: ds,o=>∃ vs B1 B2,B=B1++B2∧vs.length=sz∧QL w g o vs∧Xj w ns B1 d vs∧ZZ w ns B2 g sz ds (o+sz)
end
section
variable {w w' : World} {ns:Nat}
mutual
theorem Qq.mono:∀ {d:D} {B:List Nat} {v:Value},Qq w ns B d v→(∀ b∈B,w'.heap[b]?=w.heap[b]?)→Qq w' ns B d v
 | .int _ _,_,_,h,_=>by simpa only[Qq] using h
 | .bool _,_,_,h,_=>by simpa only[Qq] using h
 | .str _,_,_,h,_=>by simpa only[Qq] using h
 | .agg _,_,_,h,_=>by simp only[Qq] at h
 | .sl xs,B,v,h,hk=>by
  simp only[Qq] at h ⊢;obtain⟨a,c,h1,h2,h3⟩:=h;refine⟨a,c,h1,h2,?_⟩;rcases h3 with h3 | ⟨g,cur,e,Bs,h4,h5,h6,h7,h8,h9,rfl,aa⟩
  ·exact .inl h3
  ·exact .inr ⟨g,cur,e,Bs,h4,h5,(hk g (by simp)).trans h6,h7,h8,h9,rfl,ZZ.mono aa (hk g (by simp)) fun b hb=>hk b (by simp[hb])⟩
theorem Qg.mono:∀ {ds:List D} {B:List Nat} {vs:List Value},Qg w ns B ds vs→(∀ b∈B,w'.heap[b]?=w.heap[b]?)→Qg w' ns B ds vs
 | [],_,_,h,_=>by simpa only[Qg] using h
 | d :: ds,B,vs,h,hk=>by
  simp only[Qg] at h ⊢;obtain⟨v,r,B1,B2,h1,rfl,h2,h3⟩:=h;exact⟨v,r,B1,B2,h1,rfl,Qq.mono h2 fun b hb=>hk b (by simp[hb]),Qg.mono h3 fun b hb=>hk b (by simp[hb])⟩
theorem Xj.mono:∀ {d:D} {B:List Nat} {vs:List Value},Xj w ns B d vs→(∀ b∈B,w'.heap[b]?=w.heap[b]?)→Xj w' ns B d vs
 | .int _ _,_,_,h,_=>by simpa only[Xj] using h
 | .bool _,_,_,h,_=>by simpa only[Xj] using h
 | .str _,_,_,h,_=>by simpa only[Xj] using h
 | .sl _,_,_,h,_=>by simp only[Xj] at h
 | .agg cs,_,_,h,hk=>by
  simp only[Xj] at h ⊢;exact Qg.mono h hk
theorem ZZ.mono {g sz:Nat}:∀ {xs:List D} {B:List Nat} {o:Nat},ZZ w ns B g sz xs o→w'.heap[g]?=w.heap[g]?→(∀ b∈B,w'.heap[b]?=w.heap[b]?)→ZZ w' ns B g sz xs o
 | [],_,_,h,_,_=>by simpa only[ZZ] using h
 | d :: ds,B,o,h,hg,hk=>by
  simp only[ZZ] at h ⊢;obtain⟨vs,B1,B2,rfl,h1,h2,h3,h4⟩:=h;exact⟨vs,B1,B2,rfl,h1,h2.mono hg,Xj.mono h3 fun b hb=>hk b (by simp[hb]),ZZ.mono h4 hg fun b hb=>hk b (by simp[hb])⟩
end
mutual
theorem Qq.rep {S:Nat→Prop}:∀ {d:D} {B:List Nat} {v:Value},Qq w ns B d v→(∀ b∈B,S b)→d.one=true∧ZR w S d [v]
 | .int _ _,_,_,h,_=>by simp only[Qq] at h;exact⟨rfl,by rw[h.1];rfl⟩
 | .bool _,_,_,h,_=>by simp only[Qq] at h;exact⟨rfl,by rw[h.1];rfl⟩
 | .str _,_,_,h,_=>by
  simp only[Qq] at h;obtain⟨⟨t,rfl,h⟩,_⟩:=h;exact⟨rfl,t,rfl,h⟩
 | .agg _,_,_,h,_=>by simp only[Qq] at h
 | .sl xs,B,v,h,hk=>by
  simp only[Qq] at h;obtain⟨a,c,rfl,h2,h3⟩:=h;refine⟨rfl,?_⟩;simp only[ZR];refine⟨a,c,rfl,h2,?_⟩;rcases h3 with ⟨rfl,_⟩ | ⟨g,cur,e,Bs,h4,h5,h6,h7,h8,h9,rfl,aa⟩
  ·exact .inl (Kp (by omega))
  ·exact .inr ⟨g,0,ns,h4,hk g (by simp),h9,ZZ.rep aa fun b hb=>hk b (by simp[hb])⟩
theorem Qg.rep {S:Nat→Prop}:∀ {ds:List D} {B:List Nat} {vs:List Value},Qg w ns B ds vs→(∀ b∈B,S b)→QH w S ds vs
 | [],_,_,h,_=>by simp only[Qg] at h;simp only[QH];exact h.1
 | d :: ds,B,vs,h,hk=>by
  simp only[Qg] at h;obtain⟨v,r,B1,B2,rfl,rfl,h2,h3⟩:=h;simp only[QH];obtain⟨g1,g2⟩:=Qq.rep (S:=S) h2 fun b hb=>hk b (by simp[hb]);exact⟨v,r,rfl,g1,g2,Qg.rep h3 fun b hb=>hk b (by simp[hb])⟩
theorem Xj.rep {S:Nat→Prop}:∀ {d:D} {B:List Nat} {vs:List Value},Xj w ns B d vs→(∀ b∈B,S b)→ZR w S d vs
 | .int _ _,_,_,h,_=>by simp only[Xj] at h;simp only[ZR];exact h.1
 | .bool _,_,_,h,_=>by simp only[Xj] at h;simp only[ZR];exact h.1
 | .str _,_,_,h,_=>by simp only[Xj] at h;simp only[ZR];exact h.1
 | .sl _,_,_,h,_=>by simp only[Xj] at h
 | .agg cs,_,_,h,hk=>by
  simp only[Xj] at h;simp only[ZR];exact Qg.rep h hk
theorem ZZ.rep {S:Nat→Prop} {g sz:Nat}:∀ {xs:List D} {B:List Nat} {o:Nat},ZZ w ns B g sz xs o→(∀ b∈B,S b)→W6 w S g sz xs o
 | [],_,_,_,_=>by simp only[W6]
 | d :: ds,B,o,h,hk=>by
  simp only[ZZ] at h;obtain⟨vs,B1,B2,rfl,h1,h2,h3,h4⟩:=h;simp only[W6];exact⟨⟨vs,h1,h2,Xj.rep h3 fun b hb=>hk b (by simp[hb])⟩,ZZ.rep h4 fun b hb=>hk b (by simp[hb])⟩
end
mutual
theorem Qq.lt:∀ {d:D} {B:List Nat} {v:Value},Qq w ns B d v→∀ b∈B,b<w.heap.size
 | .int _ _,_,_,h,b,hb=>by simp only[Qq] at h;rw[h.2] at hb;simp at hb
 | .bool _,_,_,h,b,hb=>by simp only[Qq] at h;rw[h.2] at hb;simp at hb
 | .str _,_,_,h,b,hb=>by simp only[Qq] at h;rw[h.2] at hb;simp at hb
 | .agg _,_,_,h,_,_=>by simp only[Qq] at h
 | .sl xs,B,v,h,b,hb=>by
  simp only[Qq] at h;obtain⟨a,c,_,_,h3⟩:=h;rcases h3 with ⟨_,rfl⟩ | ⟨g,cur,e,Bs,_,_,h6,_,_,_,rfl,aa⟩
  ·simp at hb
  ·rcases Kf.1 hb with rfl | hb
   ·exact(KK.1 h6).1
   ·exact ZZ.lt aa b hb
theorem Qg.lt:∀ {ds:List D} {B:List Nat} {vs:List Value},Qg w ns B ds vs→∀ b∈B,b<w.heap.size
 | [],_,_,h,b,hb=>by simp only[Qg] at h;rw[h.2] at hb;simp at hb
 | d :: ds,_,_,h,b,hb=>by
  simp only[Qg] at h;obtain⟨v,r,B1,B2,rfl,rfl,h2,h3⟩:=h;rcases Ke.1 hb with hb | hb
  ·exact Qq.lt h2 b hb
  ·exact Qg.lt h3 b hb
theorem Xj.lt:∀ {d:D} {B:List Nat} {vs:List Value},Xj w ns B d vs→∀ b∈B,b<w.heap.size
 | .int _ _,_,_,h,b,hb=>by simp only[Xj] at h;rw[h.2] at hb;simp at hb
 | .bool _,_,_,h,b,hb=>by simp only[Xj] at h;rw[h.2] at hb;simp at hb
 | .str _,_,_,h,b,hb=>by simp only[Xj] at h;rw[h.2] at hb;simp at hb
 | .sl _,_,_,h,_,_=>by simp only[Xj] at h
 | .agg cs,_,_,h,b,hb=>by
  simp only[Xj] at h;exact Qg.lt h b hb
theorem ZZ.lt {g sz:Nat}:∀ {xs:List D} {B:List Nat} {o:Nat},ZZ w ns B g sz xs o→∀ b∈B,b<w.heap.size
 | [],_,_,h,b,hb=>by simp only[ZZ] at h;rw[h] at hb;simp at hb
 | d :: ds,_,_,h,b,hb=>by
  simp only[ZZ] at h;obtain⟨vs,B1,B2,rfl,h1,h2,h3,h4⟩:=h;rcases Ke.1 hb with hb | hb
  ·exact Xj.lt h3 b hb
  ·exact ZZ.lt h4 b hb
end
theorem QL.uniq {b o:Nat}:∀ {vs us:List Value},QL w b o vs→QL w b o us→vs.length=us.length→vs=us:=by
 intro vs us h h' hl;refine Lt fun j=>?_;rcases KY j vs.length with hj | hj
 ·have h1:=h j _ (Kw hj);have h2:=h' j _ (Kw (by omega:j<us.length));rw[h1] at h2;rw[Kw hj,Kw (by omega:j<us.length)];exact h2
 ·rw[KN hj,KN (by omega)]
mutual
theorem Qq.uniq:∀ {d:D} {B B' : List Nat} {v:Value},Qq w ns B d v→Qq w ns B' d v→B=B'
 | .int _ _,_,_,_,h,h'=>by simp only[Qq] at h h';rw[h.2,h'.2]
 | .bool _,_,_,_,h,h'=>by simp only[Qq] at h h';rw[h.2,h'.2]
 | .str _,_,_,_,h,h'=>by simp only[Qq] at h h';rw[h.2,h'.2]
 | .agg _,_,_,_,h,_=>by simp only[Qq] at h
 | .sl xs,B,B',v,h,h'=>by
  simp only[Qq] at h h';obtain⟨a,c,rfl,h2,h3⟩:=h;obtain⟨a',c',e,ag,ab⟩:=h';cases e;rcases h3 with ⟨hc,rfl⟩ | ⟨g,cur,e,Bs,rfl,hc,_,_,_,_,rfl,ad⟩<;>rcases ab with ⟨ae,rfl⟩ | ⟨g',af,e',ah,e1,ae,_,_,_,_,rfl,aa⟩
  ·rfl
  ·omega
  ·omega
  ·cases e1;rw[ZZ.uniq ad aa]
theorem Qg.uniq:∀ {ds:List D} {B B' : List Nat} {vs:List Value},Qg w ns B ds vs→Qg w ns B' ds vs→B=B'
 | [],_,_,_,h,h'=>by simp only[Qg] at h h';rw[h.2,h'.2]
 | d :: ds,_,_,_,h,h'=>by
  simp only[Qg] at h h';obtain⟨v,r,B1,B2,rfl,rfl,h2,h3⟩:=h;obtain⟨v',r',ad,ae,e,rfl,aa,ab⟩:=h';cases e;rw[Qq.uniq h2 aa,Qg.uniq h3 ab]
theorem Xj.uniq:∀ {d:D} {B B' : List Nat} {vs:List Value},Xj w ns B d vs→Xj w ns B' d vs→B=B'
 | .int _ _,_,_,_,h,h'=>by simp only[Xj] at h h';rw[h.2,h'.2]
 | .bool _,_,_,_,h,h'=>by simp only[Xj] at h h';rw[h.2,h'.2]
 | .str _,_,_,_,h,h'=>by simp only[Xj] at h h';rw[h.2,h'.2]
 | .sl _,_,_,_,h,_=>by simp only[Xj] at h
 | .agg cs,_,_,_,h,h'=>by
  simp only[Xj] at h h';exact Qg.uniq h h'
theorem ZZ.uniq {g sz:Nat}:∀ {xs:List D} {B B' : List Nat} {o:Nat},ZZ w ns B g sz xs o→ZZ w ns B' g sz xs o→B=B'
 | [],_,_,_,h,h'=>by simp only[ZZ] at h h';rw[h,h']
 | d :: ds,_,_,_,h,h'=>by
  simp only[ZZ] at h h';obtain⟨vs,B1,B2,rfl,h1,h2,h3,h4⟩:=h;obtain⟨ae,af,ag,rfl,ah,aa,ab,ad⟩:=h';cases QL.uniq h2 aa (by omega);rw[Xj.uniq h3 ab,ZZ.uniq h4 ad]
end
theorem Qg.length:∀ {ds:List D} {B:List Nat} {vs:List Value},Qg w ns B ds vs→vs.length=ds.length
 | [],_,_,h=>by simp only[Qg] at h;rw[h.1];rfl
 | d :: ds,_,_,h=>by
  simp only[Qg] at h;obtain⟨v,r,B1,B2,rfl,rfl,_,h3⟩:=h;simp[Qg.length h3]
theorem Qg.append:∀ {ds es:List D} {B B' : List Nat} {vs us:List Value},Qg w ns B ds vs→Qg w ns B' es us→Qg w ns (B++B') (ds++es) (vs++us)
 | [],_,_,_,_,_,h,h'=>by
  simp only[Qg] at h;obtain⟨rfl,rfl⟩:=h;simpa using h'
 | d :: ds,es,B,B',vs,us,h,h'=>by
  simp only[Qg] at h;obtain⟨v,r,B1,B2,rfl,rfl,h2,h3⟩:=h;simp only[KJ,Qg];exact⟨v,r++us,B1,B2++B',rfl,by simp,h2,Qg.append h3 h'⟩
theorem Qg.split:∀ {ds es:List D} {B:List Nat} {vs:List Value},Qg w ns B (ds++es) vs→∃ B1 B2,B=B1++B2∧Qg w ns B1 ds (vs.take ds.length)∧Qg w ns B2 es (vs.drop ds.length)
 | [],es,B,vs,h=>⟨[],B,rfl,by simp[Qg],by simpa using h⟩
 | d :: ds,es,B,vs,h=>by
  simp only[KJ,Qg] at h;obtain⟨v,r,B1,B2,rfl,rfl,h2,h3⟩:=h;obtain⟨C1,C2,rfl,g1,g2⟩:=Qg.split h3;refine⟨B1++C1,C2,by simp,?_,by simpa using g2⟩;simp only[Kq,L7,Qg];exact⟨v,r.take ds.length,B1,C1,rfl,rfl,h2,g1⟩
theorem Xj.cells:∀ {d:D} {B:List Nat} {vs:List Value},Xj w ns B d vs→Qg w ns B d.cells vs
 | .int k n,B,vs,h=>by
  simp only[Xj] at h;obtain⟨rfl,rfl⟩:=h;simp only[D.cells,Qg,Qq];exact⟨_,[],[],[],rfl,rfl,⟨rfl,rfl⟩,rfl,rfl⟩
 | .bool b,B,vs,h=>by
  simp only[Xj] at h;obtain⟨rfl,rfl⟩:=h;simp only[D.cells,Qg,Qq];exact⟨_,[],[],[],rfl,rfl,⟨rfl,rfl⟩,rfl,rfl⟩
 | .str s,B,vs,h=>by
  simp only[Xj] at h;obtain⟨⟨t,rfl,ht⟩,rfl⟩:=h;simp only[D.cells,Qg,Qq];exact⟨_,[],[],[],rfl,rfl,⟨⟨t,rfl,ht⟩,rfl⟩,rfl,rfl⟩
 | .sl _,_,_,h=>by simp only[Xj] at h
 | .agg cs,B,vs,h=>by simp only[Xj] at h;exact h
theorem ZwT {cs:List D} {B:List Nat} {vs:List Value} (h:Qg w ns B cs vs):Xj w ns B (.agg cs) vs:=by simp only[Xj];exact h
theorem ZZ.at {g sz:Nat}:∀ {xs:List D} {B:List Nat} {o i:Nat} {x:D},ZZ w ns B g sz xs o→xs[i]?=some x→∃ vs B1 Bn B2,B=B1++Bn++B2∧vs.length=sz∧QL w g (o+i*sz) vs∧Xj w ns Bn x vs ∧
  ∀ (w' : World) (aa : List Nat) (x' : D) (us:List Value),(∀ b∈B1++B2,w'.heap[b]?=w.heap[b]?)→(∀ p v,(p<o+i*sz∨o+i*sz+sz≤p)→w.cell? ⟨g,p,none⟩=some v→w'.cell? ⟨g,p,none⟩=some v) →
   us.length=sz→QL w' g (o+i*sz) us→Xj w' ns aa x' us→ZZ w' ns (B1++aa++B2) g sz (xs.set i x') o
 | [],_,_,_,_,_,hx=>by simp at hx
 | d :: ds,B,o,0,x,h,hx=>by
  simp only[KL,Option.some.injEq] at hx;subst hx;simp only[ZZ] at h;obtain⟨vs,B1,B2,rfl,h1,h2,h3,h4⟩:=h;refine⟨vs,[],B1,B2,by simp,h1,by simpa using h2,h3,fun w' aa x' us hk hc hl ab ht=>?_⟩;simp only[Kab,LS,ZZ];refine⟨us,aa,B2,rfl,hl,by simpa using ab,ht,?_⟩;have ad:∀ {ys:List D} {C:List Nat} {q:Nat},o+sz≤q→(∀ b∈C,b∈B2)→ZZ w ns C g sz ys q→ZZ w' ns C g sz ys q:=by
   intro ys
   induction ys with
   | nil=>intro C q _ _ h;simpa only[ZZ] using h
   | cons y ys ih=>
    intro C q hq hC h;simp only[ZZ] at h ⊢;obtain⟨ws,C1,C2,rfl,k1,k2,k3,k4⟩:=h;refine⟨ws,C1,C2,rfl,k1,fun j u hu=>?_,k3.mono fun b hb=>hk b (by simp[hC b (by simp[hb])]),ih (by omega) (fun b hb=>hC b (by simp[hb])) k4⟩;exact hc (q+j) u (.inr (by omega)) (k2 j u hu)
  exact ad (Kl _) (fun _ hb=>hb) h4
 | d :: ds,B,o,i+1,x,h,hx=>by
  simp only[KH] at hx;simp only[ZZ] at h;obtain⟨ws,C1,C2,rfl,h1,h2,h3,h4⟩:=h;obtain⟨vs,B1,Bn,B2,rfl,g1,g2,g3,g4⟩:=ZZ.at h4 hx;have e:o+sz+i*sz=o+(i+1)*sz:=by rw[KO];omega
  rw[e] at g2 g4;refine⟨vs,C1++B1,Bn,B2,by simp,g1,g2,g3,fun w' aa x' us hk hc hl ab ht=>?_⟩;simp only[Kad,ZZ];refine⟨ws,C1,B1++aa++B2,by simp,h1,fun j u hu=>?_,h3.mono fun b hb=>hk b (by simp[hb]),g4 w' aa x' us (fun b hb=>hk b (by
   simp only[Ke] at hb ⊢;rcases hb with hb | hb
   ·exact .inl (.inr hb)
   ·exact .inr hb)) hc hl ab ht⟩
  have hj:j<ws.length:=(Kc.1 hu).1;have:sz≤(i+1)*sz:=Nat.le_mul_of_pos_left sz (by omega);exact hc (o+j) u (.inl (by omega)) (h2 j u hu)
theorem ZZ.length_le {g sz:Nat}:∀ {xs:List D} {B:List Nat} {o:Nat},ZZ w ns B g sz xs o→∀ i,i<xs.length→∃ vs:List Value,vs.length=sz∧QL w g (o+i*sz) vs
 | [],_,_,_,i,hi=>by simp at hi
 | d :: ds,B,o,h,0,_=>by
  simp only[ZZ] at h;obtain⟨vs,B1,B2,rfl,h1,h2,_,_⟩:=h;exact⟨vs,h1,by simpa using h2⟩
 | d :: ds,B,o,h,i+1,hi=>by
  simp only[ZZ] at h;obtain⟨vs,B1,B2,rfl,h1,h2,_,h4⟩:=h;obtain⟨us,g1,g2⟩:=ZZ.length_le h4 i (by simpa using hi);refine⟨us,g1,?_⟩;have e:o+sz+i*sz=o+(i+1)*sz:=by rw[KO];omega
  rw[e] at g2;exact g2
theorem ZZ.append {g sz:Nat}:∀ {xs ys:List D} {B B' : List Nat} {o:Nat},ZZ w ns B g sz xs o→ZZ w ns B' g sz ys (o+xs.length*sz)→ZZ w ns (B++B') g sz (xs++ys) o
 | [],ys,B,B',o,h,h'=>by
  simp only[ZZ] at h;subst h;simpa using h'
 | d :: ds,ys,B,B',o,h,h'=>by
  simp only[ZZ] at h;obtain⟨vs,B1,B2,rfl,h1,h2,h3,h4⟩:=h;simp only[KJ,ZZ];refine⟨vs,B1,B2++B',by simp,h1,h2,h3,ZZ.append h4 ?_⟩;have e:o+(d :: ds).length*sz=o+sz+ds.length*sz:=by rw[Kq,KO];omega
  rwa [e] at h'
theorem Qg.get:∀ {ds:List D} {B:List Nat} {vs:List Value} {j:Nat} {d:D},Qg w ns B ds vs→ds[j]?=some d→∃ v B1 Bn B2,vs[j]?=some v∧B=B1++Bn++B2∧Qq w ns Bn d v
 | [],_,_,_,_,_,h=>by simp at h
 | e :: ds,B,vs,0,d,h,hd=>by
  simp only[KL,Option.some.injEq] at hd;subst hd;simp only[Qg] at h;obtain⟨v,r,B1,B2,rfl,rfl,h2,h3⟩:=h;exact⟨v,[],B1,B2,rfl,by simp,h2⟩
 | e :: ds,B,vs,j+1,d,h,hd=>by
  simp only[KH] at hd;simp only[Qg] at h;obtain⟨v,r,B1,B2,rfl,rfl,h2,h3⟩:=h;obtain⟨u,C1,Cn,C2,g1,rfl,g3⟩:=Qg.get h3 hd;exact⟨u,B1++C1,Cn,C2,by simpa using g1,by simp,g3⟩
theorem Qq.plain {S:Nat→Prop} {d:D} {B:List Nat} {v:Value} (h:Qq w ns B d v) (hd:∀ ys,d≠.sl ys):B=[]∧d.plain=true∧ZR w S d [v]:=by
 cases d with
 | sl ys=>exact absurd rfl (hd ys)
 | agg cs=>simp only[Qq] at h
 | int k n=>simp only[Qq] at h;obtain⟨rfl,rfl⟩:=h;exact⟨rfl,rfl,rfl⟩
 | bool b=>simp only[Qq] at h;obtain⟨rfl,rfl⟩:=h;exact⟨rfl,rfl,rfl⟩
 | str s=>simp only[Qq] at h;obtain⟨⟨t,rfl,ht⟩,rfl⟩:=h;exact⟨rfl,rfl,t,rfl,ht⟩
end
end Go.Abs
