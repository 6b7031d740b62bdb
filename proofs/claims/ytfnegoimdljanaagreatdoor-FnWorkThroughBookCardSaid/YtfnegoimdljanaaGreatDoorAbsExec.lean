import GoSem.Core.World
import Derived.Test.YtfnegoimdljanaaGreatDoorAbsRun
import Derived.Below
import Derived.Laws.MakeOwn
import Derived.Laws.StructEq
import Derived.Laws.Concat
import Derived.Laws.Slices
set_option linter.unusedSimpArgs false
set_option linter.unusedVariables false
namespace Go.Abs
open Go
def Zui:List Value:=(List.range 20).map fun i=>Value.int .u64 ((10 ^ i:Nat):Int)
def gtabs:List (Nat×Array Value):=[(1,Zui.toArray)]
end Go.Abs
namespace Go.Abs
open Go
def Zy {α β:Type} (R:α→β→Prop):List α→List β→Prop
 | [],[]=>True
 | a :: as1,b :: bs=>R a b∧Zy R as1 bs
 | _,_=>False
section
variable {α β:Type} {R R' : α→β→Prop}
theorem Zy.length:∀ {as1:List α} {bs:List β},Zy R as1 bs→as1.length=bs.length
 | [],[],_=>rfl
 | _ :: _,_ :: _,h=>congrArg (·+1) (Zy.length h.2)
 | [],_ :: _,h=>h.elim
 | _ :: _,[],h=>h.elim
theorem Zy.mono (hr:∀ a b,R a b→R' a b):∀ {as1:List α} {bs:List β},Zy R as1 bs→Zy R' as1 bs
 | [],[],_=>trivial
 | _ :: _,_ :: _,h=>⟨hr _ _ h.1,Zy.mono hr h.2⟩
 | [],_ :: _,h=>h.elim
 | _ :: _,[],h=>h.elim
theorem Zy.get:∀ {as1:List α} {bs:List β},Zy R as1 bs→∀ (i:Nat) (a:α),as1[i]?=some a→∃ b,bs[i]?=some b∧R a b
 | [],[],_,i,a,h=>by simp at h
 | a :: as1,b :: bs,h,0,a',ha=>by simp at ha;subst ha;exact⟨b,by simp,h.1⟩
 | a :: as1,b :: bs,h,i+1,a',ha=>by simp at ha;obtain⟨b',h1,h2⟩:=Zy.get h.2 i a' ha;exact⟨b',by simp[h1],h2⟩
 | [],_ :: _,h,_,_,_=>h.elim
 | _ :: _,[],h,_,_,_=>h.elim
theorem Zy.get' : ∀ {as1:List α} {bs:List β},Zy R as1 bs→∀ (i:Nat) (b:β),bs[i]?=some b→∃ a,as1[i]?=some a∧R a b
 | [],[],_,i,a,h=>by simp at h
 | a :: as1,b :: bs,h,0,b',hb=>by simp at hb;subst hb;exact⟨a,by simp,h.1⟩
 | a :: as1,b :: bs,h,i+1,b',hb=>by simp at hb;obtain⟨a',h1,h2⟩:=Zy.get' h.2 i b' hb;exact⟨a',by simp[h1],h2⟩
 | [],_ :: _,h,_,_,_=>h.elim
 | _ :: _,[],h,_,_,_=>h.elim
theorem Zy.of_get:∀ {as1:List α} {bs:List β},as1.length=bs.length→(∀ (i:Nat) (a:α) (b:β),as1[i]?=some a→bs[i]?=some b→R a b)→Zy R as1 bs
 | [],[],_,_=>trivial
 | a :: as1,b :: bs,hl,h=>⟨h 0 a b (by simp) (by simp),Zy.of_get (by simpa using hl) fun i a' b' ha hb=>h (i+1) a' b' (by simpa using ha) (by simpa using hb)⟩
 | [],_ :: _,hl,_=>by simp at hl
 | _ :: _,[],hl,_=>by simp at hl
theorem Zy.append:∀ {as1 aa : List α} {bs ab : List β},Zy R as1 bs→Zy R aa ab→Zy R (as1++aa) (bs++ab)
 | [],_,[],_,_,h'=>h'
 | _ :: _,_,_ :: _,_,h,h'=>⟨h.1,Zy.append h.2 h'⟩
 | [],_,_ :: _,_,h,_=>h.elim
 | _ :: _,_,[],_,h,_=>h.elim
theorem Zy.take (n:Nat):∀ {as1:List α} {bs:List β},Zy R as1 bs→Zy R (as1.take n) (bs.take n):=by
 induction n with
 | zero=>intro as1 bs _;simp[Zy]
 | succ n ih=>
  intro as1 bs h;cases as1<;>cases bs
  ·simp[Zy]
  ·exact h.elim
  ·exact h.elim
  ·exact⟨h.1,ih h.2⟩
theorem Zy.drop (n:Nat):∀ {as1:List α} {bs:List β},Zy R as1 bs→Zy R (as1.drop n) (bs.drop n):=by
 induction n with
 | zero=>intro as1 bs h;simpa using h
 | succ n ih=>
  intro as1 bs h;cases as1<;>cases bs
  ·simp[Zy]
  ·exact h.elim
  ·exact h.elim
  ·simpa using ih h.2
theorem Zy.map {γ δ:Type} {S:γ→δ→Prop} {f:α→γ} {g:β→δ} (hr:∀ a b,R a b→S (f a) (g b)):∀ {as1:List α} {bs:List β},Zy R as1 bs→Zy S (as1.map f) (bs.map g)
 | [],[],_=>trivial
 | _ :: _,_ :: _,h=>⟨hr _ _ h.1,Zy.map hr h.2⟩
 | [],_ :: _,h=>h.elim
 | _ :: _,[],h=>h.elim
theorem Zy.map_left {γ:Type} {S:γ→β→Prop} {f:α→γ} (hr:∀ a b,R a b→S (f a) b):∀ {as1:List α} {bs:List β},Zy R as1 bs→Zy S (as1.map f) bs
 | [],[],_=>trivial
 | _ :: _,_ :: _,h=>⟨hr _ _ h.1,Zy.map_left hr h.2⟩
 | [],_ :: _,h=>h.elim
 | _ :: _,[],h=>h.elim
theorem Zy.set {as1:List α} {bs:List β} (h:Zy R as1 bs) (i:Nat) {a:α} {b:β} (aa:R a b):Zy R (as1.set i a) (bs.set i b):=by
 refine Zy.of_get (by simp[h.length]) fun j a' b' ha hb=>?_;rw[LR] at ha hb;rw[h.length] at ha;split at ha
 ·split at ha
  ·rename_i h1 h2;subst h1;simp[h2] at ha hb;subst ha;rw[← hb];exact aa
  ·cases ha
 ·rename_i h1;simp[h1] at hb;obtain⟨ab,h2,h3⟩:=h.get j a' ha;rw[hb] at h2;cases h2;exact h3
end
def Qv (w:World) (b o:Nat) (vs:List Value):Prop:=∀ j u,vs[j]?=some u→w.cell? ⟨b,o+j,none⟩=some u
theorem Qv.mono {w w' : World} {b o:Nat} {vs:List Value} (h:Qv w b o vs) (hb:w'.heap[b]?=w.heap[b]?):Qv w' b o vs:=
 fun j u hu=>(World.cell?_of_block (w:=w) (a:=⟨b,o+j,none⟩) hb).trans (h j u hu)
mutual
def ZP (w:World) (S:Nat→Prop):D→List Value→Prop
 | .int k n,vs=>vs=[.int k n]
 | .bool b,vs=>vs=[.bool b]
 | .str s,vs=>∃ t:ByteArray,vs=[.string t]∧t.data.toList=s
 | .sl xs,vs=>∃ a c,vs=[.slice a xs.length c]∧xs.length≤c∧(xs=[]∨∃ b o sz,a=some ⟨b,o,none⟩∧S b∧0<sz∧Wj w S b sz xs o)
 | .agg cs,vs=>Q4 w S cs vs
def Q4 (w:World) (S:Nat→Prop):List D→List Value→Prop
 | [],vs=>vs=[]
 | d :: ds,vs=>∃ v r,vs=v :: r∧d.one=true∧ZP w S d [v]∧Q4 w S ds r
def Wj (w:World) (S:Nat→Prop) (b sz:Nat):List D→Nat→Prop
 | [],_=>True
 | d :: ds,o=>(∃ vs:List Value,vs.length=sz∧Qv w b o vs∧ZP w S d vs)∧Wj w S b sz ds (o+sz)
end
section
variable {w:World} {S:Nat→Prop}
theorem Xm:∀ {ds:List D} {vs:List Value},Q4 w S ds vs↔Zy (fun d v=>d.one=true∧ZP w S d [v]) ds vs
 | [],[]=>by simp[Q4,Zy]
 | [],_ :: _=>by simp[Q4,Zy]
 | d :: ds,[]=>by simp[Q4,Zy]
 | d :: ds,v :: vs=>by
  simp only[Q4,Zy,Xm (ds:=ds) (vs:=vs)];constructor
  ·rintro ⟨v',r,h,h1,h2,h3⟩
   cases h;exact⟨⟨h1,h2⟩,Xm.1 h3⟩
  ·rintro ⟨⟨h1,h2⟩,h3⟩
   exact⟨v,vs,rfl,h1,h2,Xm.2 h3⟩
theorem X3 {b sz:Nat}:∀ {xs:List D} {o:Nat},Wj w S b sz xs o ↔
  ∀ i x,xs[i]?=some x→∃ vs:List Value,vs.length=sz∧Qv w b (o+i*sz) vs∧ZP w S x vs
 | [],o=>by simp[Wj]
 | d :: ds,o=>by
  simp only[Wj,X3 (xs:=ds)];constructor
  ·rintro ⟨h1,h2⟩ i x hx
   cases i with
   | zero=>simp at hx;subst hx;simpa using h1
   | succ i=>
    simp at hx;obtain⟨vs,h3,h4,h5⟩:=h2 i x hx;refine⟨vs,h3,?_,h5⟩;have:o+(i+1)*sz=o+sz+i*sz:=by rw[KR];omega
    rw[this];exact h4
  ·intro h;refine⟨by simpa using h 0 d (by simp),fun i x hx=>?_⟩;obtain⟨vs,h3,h4,h5⟩:=h (i+1) x (by simpa using hx);refine⟨vs,h3,?_,h5⟩;have:o+(i+1)*sz=o+sz+i*sz:=by rw[KR];omega
   rw[← this];exact h4
structure ZO (S S' : Nat→Prop) (w w' : World):Prop where
 sub:∀ b,S b→S' b
 blk:∀ b,S b→w'.heap[b]?=w.heap[b]?
mutual
theorem ZP.mono {w' : World} {S' : Nat→Prop} (hk:ZO S S' w w'):∀ {d:D} {vs:List Value},ZP w S d vs→ZP w' S' d vs
 | .int _ _,_,h=>by simpa [ZP] using h
 | .bool _,_,h=>by simpa [ZP] using h
 | .str _,_,h=>by simpa [ZP] using h
 | .sl xs,vs,h=>by
  simp only[ZP] at h ⊢;obtain⟨a,c,h1,h2,h3⟩:=h;refine⟨a,c,h1,h2,?_⟩;rcases h3 with h3 | ⟨b,o,sz,h4,h5,h6,h7⟩
  ·exact .inl h3
  ·exact .inr ⟨b,o,sz,h4,hk.sub b h5,h6,Wj.mono hk h5 h7⟩
 | .agg cs,vs,h=>by
  simp only[ZP] at h ⊢;exact Q4.mono hk h
theorem Q4.mono {w' : World} {S' : Nat→Prop} (hk:ZO S S' w w'):∀ {ds:List D} {vs:List Value},Q4 w S ds vs→Q4 w' S' ds vs
 | [],_,h=>by simpa [Q4] using h
 | d :: ds,vs,h=>by
  simp only[Q4] at h ⊢;obtain⟨v,r,h1,h2,h3,h4⟩:=h;exact⟨v,r,h1,h2,ZP.mono hk h3,Q4.mono hk h4⟩
theorem Wj.mono {w' : World} {S' : Nat→Prop} (hk:ZO S S' w w') {b sz:Nat} (hb:S b):∀ {ds:List D} {o:Nat},Wj w S b sz ds o→Wj w' S' b sz ds o
 | [],_,_=>by simp[Wj]
 | d :: ds,o,h=>by
  simp only[Wj] at h ⊢;obtain⟨⟨vs,h1,h2,h3⟩,h4⟩:=h;exact⟨⟨vs,h1,h2.mono (hk.blk b hb),ZP.mono hk h3⟩,Wj.mono hk hb h4⟩
end
theorem Wj.mono' {w' : World} {S' : Nat→Prop} (hk:ZO S S' w w') {b sz:Nat} (hb:w'.heap[b]?=w.heap[b]?) {ds:List D} {o:Nat} (h:Wj w S b sz ds o):Wj w' S' b sz ds o:=by
 rw[X3] at h ⊢;intro i x hx;obtain⟨vs,h1,h2,h3⟩:=h i x hx;exact⟨vs,h1,h2.mono hb,h3.mono hk⟩
theorem Q4.length {ds:List D} {vs:List Value} (h:Q4 w S ds vs):ds.length=vs.length:=(Xm.1 h).length
theorem ZP.length {d:D} {vs:List Value} (h:ZP w S d vs):vs.length=d.cells.length:=by
 cases d<;>simp only[ZP] at h
 ·subst h;rfl
 ·subst h;rfl
 ·obtain⟨t,rfl,_⟩:=h;rfl
 ·obtain⟨a,c,rfl,_⟩:=h;rfl
 ·exact h.length.symm
theorem ZP.cells {d:D} {vs:List Value} (h:ZP w S d vs):Q4 w S d.cells vs:=by
 cases d<;>simp only[D.cells,Q4]
 ·simp only[ZP] at h;subst h;exact⟨_,[],rfl,rfl,by simp[ZP],rfl⟩
 ·simp only[ZP] at h;subst h;exact⟨_,[],rfl,rfl,by simp[ZP],rfl⟩
 ·have h':=h;simp only[ZP] at h;obtain⟨t,rfl,_⟩:=h;exact⟨_,[],rfl,rfl,h',rfl⟩
 ·have h':=h;simp only[ZP] at h;obtain⟨a,c,rfl,_⟩:=h;exact⟨_,[],rfl,rfl,h',rfl⟩
 ·simpa [ZP] using h
end
end Go.Abs
namespace Go.Abs
open Go
mutual
def Qq (w:World) (ns:Nat) (B:List Nat):D→Value→Prop
 | .int k n,v=>v=.int k n∧B=[]
 | .bool b,v=>v=.bool b∧B=[]
 | .str s,v=>(∃ t:ByteArray,v=.string t∧t.data.toList=s)∧B=[]
 | .sl xs,v=>∃ a c,v=.slice a xs.length c∧xs.length≤c∧((c=0∧B=[]) ∨
   ∃ g cur e Bs,a=some ⟨g,0,none⟩∧0<c∧w.heap[g]?=some (.cells cur e (0,0))∧c≤maxLen∧cur.size=c*ns∧0<ns∧B=g :: Bs∧ZY w ns Bs g ns xs 0)
 | .agg _,_=>False
def Qd (w:World) (ns:Nat) (B:List Nat):List D→List Value→Prop
 | [],vs=>vs=[]∧B=[]
 | d :: ds,vs=>∃ v r B1 B2,vs=v :: r∧B=B1++B2∧Qq w ns B1 d v∧Qd w ns B2 ds r
def Xn (w:World) (ns:Nat) (B:List Nat):D→List Value→Prop
 | .agg cs,vs=>Qd w ns B cs vs
 | .int k n,vs=>vs=[.int k n]∧B=[]
 | .bool b,vs=>vs=[.bool b]∧B=[]
 | .str s,vs=>(∃ t:ByteArray,vs=[.string t]∧t.data.toList=s)∧B=[]
 | .sl _,_=>False
def ZY (w:World) (ns:Nat) (B:List Nat) (g sz:Nat):List D→Nat→Prop
 | [],_=>B=[]
 | d :: ds,o=>∃ vs B1 B2,B=B1++B2∧vs.length=sz∧Qv w g o vs∧Xn w ns B1 d vs∧ZY w ns B2 g sz ds (o+sz)
end
section
variable {w w' : World} {ns:Nat}
mutual
theorem Qq.mono:∀ {d:D} {B:List Nat} {v:Value},Qq w ns B d v→(∀ b∈B,w'.heap[b]?=w.heap[b]?)→Qq w' ns B d v
 | .int _ _,_,_,h,_=>by simpa only[Qq] using h
 | .bool _,_,_,h,_=>by simpa only[Qq] using h
 | .str _,_,_,h,_=>by simpa only[Qq] using h
 | .agg _,_,_,h,_=>by simp only[Qq] at h
 | .sl xs,B,v,h,hk=>by
  simp only[Qq] at h ⊢;obtain⟨a,c,h1,h2,h3⟩:=h;refine⟨a,c,h1,h2,?_⟩;rcases h3 with h3 | ⟨g,cur,e,Bs,h4,h5,h6,h7,h8,h9,rfl,aa⟩
  ·exact .inl h3
  ·exact .inr ⟨g,cur,e,Bs,h4,h5,(hk g (by simp)).trans h6,h7,h8,h9,rfl,ZY.mono aa (hk g (by simp)) fun b hb=>hk b (by simp[hb])⟩
theorem Qd.mono:∀ {ds:List D} {B:List Nat} {vs:List Value},Qd w ns B ds vs→(∀ b∈B,w'.heap[b]?=w.heap[b]?)→Qd w' ns B ds vs
 | [],_,_,h,_=>by simpa only[Qd] using h
 | d :: ds,B,vs,h,hk=>by
  simp only[Qd] at h ⊢;obtain⟨v,r,B1,B2,h1,rfl,h2,h3⟩:=h;exact⟨v,r,B1,B2,h1,rfl,Qq.mono h2 fun b hb=>hk b (by simp[hb]),Qd.mono h3 fun b hb=>hk b (by simp[hb])⟩
theorem Xn.mono:∀ {d:D} {B:List Nat} {vs:List Value},Xn w ns B d vs→(∀ b∈B,w'.heap[b]?=w.heap[b]?)→Xn w' ns B d vs
 | .int _ _,_,_,h,_=>by simpa only[Xn] using h
 | .bool _,_,_,h,_=>by simpa only[Xn] using h
 | .str _,_,_,h,_=>by simpa only[Xn] using h
 | .sl _,_,_,h,_=>by simp only[Xn] at h
 | .agg cs,_,_,h,hk=>by
  simp only[Xn] at h ⊢;exact Qd.mono h hk
theorem ZY.mono {g sz:Nat}:∀ {xs:List D} {B:List Nat} {o:Nat},ZY w ns B g sz xs o→w'.heap[g]?=w.heap[g]?→(∀ b∈B,w'.heap[b]?=w.heap[b]?)→ZY w' ns B g sz xs o
 | [],_,_,h,_,_=>by simpa only[ZY] using h
 | d :: ds,B,o,h,hg,hk=>by
  simp only[ZY] at h ⊢;obtain⟨vs,B1,B2,rfl,h1,h2,h3,h4⟩:=h;exact⟨vs,B1,B2,rfl,h1,h2.mono hg,Xn.mono h3 fun b hb=>hk b (by simp[hb]),ZY.mono h4 hg fun b hb=>hk b (by simp[hb])⟩
end
mutual
theorem Qq.rep {S:Nat→Prop}:∀ {d:D} {B:List Nat} {v:Value},Qq w ns B d v→(∀ b∈B,S b)→d.one=true∧ZP w S d [v]
 | .int _ _,_,_,h,_=>by simp only[Qq] at h;exact⟨rfl,by rw[h.1];rfl⟩
 | .bool _,_,_,h,_=>by simp only[Qq] at h;exact⟨rfl,by rw[h.1];rfl⟩
 | .str _,_,_,h,_=>by
  simp only[Qq] at h;obtain⟨⟨t,rfl,h⟩,_⟩:=h;exact⟨rfl,t,rfl,h⟩
 | .agg _,_,_,h,_=>by simp only[Qq] at h
 | .sl xs,B,v,h,hk=>by
  simp only[Qq] at h;obtain⟨a,c,rfl,h2,h3⟩:=h;refine⟨rfl,?_⟩;simp only[ZP];refine⟨a,c,rfl,h2,?_⟩;rcases h3 with ⟨rfl,_⟩ | ⟨g,cur,e,Bs,h4,h5,h6,h7,h8,h9,rfl,aa⟩
  ·exact .inl (Ks o_)
  ·exact .inr ⟨g,0,ns,h4,hk g (by simp),h9,ZY.rep aa fun b hb=>hk b (by simp[hb])⟩
theorem Qd.rep {S:Nat→Prop}:∀ {ds:List D} {B:List Nat} {vs:List Value},Qd w ns B ds vs→(∀ b∈B,S b)→Q4 w S ds vs
 | [],_,_,h,_=>by simp only[Qd] at h;simp only[Q4];exact h.1
 | d :: ds,B,vs,h,hk=>by
  simp only[Qd] at h;obtain⟨v,r,B1,B2,rfl,rfl,h2,h3⟩:=h;simp only[Q4];obtain⟨g1,g2⟩:=Qq.rep (S:=S) h2 fun b hb=>hk b (by simp[hb]);exact⟨v,r,rfl,g1,g2,Qd.rep h3 fun b hb=>hk b (by simp[hb])⟩
theorem Xn.rep {S:Nat→Prop}:∀ {d:D} {B:List Nat} {vs:List Value},Xn w ns B d vs→(∀ b∈B,S b)→ZP w S d vs
 | .int _ _,_,_,h,_=>by simp only[Xn] at h;simp only[ZP];exact h.1
 | .bool _,_,_,h,_=>by simp only[Xn] at h;simp only[ZP];exact h.1
 | .str _,_,_,h,_=>by simp only[Xn] at h;simp only[ZP];exact h.1
 | .sl _,_,_,h,_=>by simp only[Xn] at h
 | .agg cs,_,_,h,hk=>by
  simp only[Xn] at h;simp only[ZP];exact Qd.rep h hk
theorem ZY.rep {S:Nat→Prop} {g sz:Nat}:∀ {xs:List D} {B:List Nat} {o:Nat},ZY w ns B g sz xs o→(∀ b∈B,S b)→Wj w S g sz xs o
 | [],_,_,_,_=>by simp only[Wj]
 | d :: ds,B,o,h,hk=>by
  simp only[ZY] at h;obtain⟨vs,B1,B2,rfl,h1,h2,h3,h4⟩:=h;simp only[Wj];exact⟨⟨vs,h1,h2,Xn.rep h3 fun b hb=>hk b (by simp[hb])⟩,ZY.rep h4 fun b hb=>hk b (by simp[hb])⟩
end
mutual
theorem Qq.lt:∀ {d:D} {B:List Nat} {v:Value},Qq w ns B d v→∀ b∈B,b<w.heap.size
 | .int _ _,_,_,h,b,hb=>by simp only[Qq] at h;rw[h.2] at hb;simp at hb
 | .bool _,_,_,h,b,hb=>by simp only[Qq] at h;rw[h.2] at hb;simp at hb
 | .str _,_,_,h,b,hb=>by simp only[Qq] at h;rw[h.2] at hb;simp at hb
 | .agg _,_,_,h,_,_=>by simp only[Qq] at h
 | .sl xs,B,v,h,b,hb=>by
  simp only[Qq] at h;obtain⟨a,c,_,_,h3⟩:=h;rcases h3 with ⟨_,rfl⟩ | ⟨g,cur,e,Bs,_,_,h6,_,_,_,rfl,aa⟩
  ·simp at hb
  ·rcases Kd.1 hb with rfl | hb
   ·exact(KO.1 h6).1
   ·exact ZY.lt aa b hb
theorem Qd.lt:∀ {ds:List D} {B:List Nat} {vs:List Value},Qd w ns B ds vs→∀ b∈B,b<w.heap.size
 | [],_,_,h,b,hb=>by simp only[Qd] at h;rw[h.2] at hb;simp at hb
 | d :: ds,_,_,h,b,hb=>by
  simp only[Qd] at h;obtain⟨v,r,B1,B2,rfl,rfl,h2,h3⟩:=h;rcases Kh.1 hb with hb | hb
  ·exact Qq.lt h2 b hb
  ·exact Qd.lt h3 b hb
theorem Xn.lt:∀ {d:D} {B:List Nat} {vs:List Value},Xn w ns B d vs→∀ b∈B,b<w.heap.size
 | .int _ _,_,_,h,b,hb=>by simp only[Xn] at h;rw[h.2] at hb;simp at hb
 | .bool _,_,_,h,b,hb=>by simp only[Xn] at h;rw[h.2] at hb;simp at hb
 | .str _,_,_,h,b,hb=>by simp only[Xn] at h;rw[h.2] at hb;simp at hb
 | .sl _,_,_,h,_,_=>by simp only[Xn] at h
 | .agg cs,_,_,h,b,hb=>by
  simp only[Xn] at h;exact Qd.lt h b hb
theorem ZY.lt {g sz:Nat}:∀ {xs:List D} {B:List Nat} {o:Nat},ZY w ns B g sz xs o→∀ b∈B,b<w.heap.size
 | [],_,_,h,b,hb=>by simp only[ZY] at h;rw[h] at hb;simp at hb
 | d :: ds,_,_,h,b,hb=>by
  simp only[ZY] at h;obtain⟨vs,B1,B2,rfl,h1,h2,h3,h4⟩:=h;rcases Kh.1 hb with hb | hb
  ·exact Xn.lt h3 b hb
  ·exact ZY.lt h4 b hb
end
theorem Qv.uniq {b o:Nat}:∀ {vs us:List Value},Qv w b o vs→Qv w b o us→vs.length=us.length→vs=us:=by
 intro vs us h h' hl;refine LD fun j=>?_;rcases K7 j vs.length with hj | hj
 ·have h1:=h j _ (KK hj);have h2:=h' j _ (KK (by omega:j<us.length));rw[h1] at h2;rw[KK hj,KK (by omega:j<us.length)];exact h2
 ·rw[KZ hj,KZ o_]
mutual
theorem Qq.uniq:∀ {d:D} {B B' : List Nat} {v:Value},Qq w ns B d v→Qq w ns B' d v→B=B'
 | .int _ _,_,_,_,h,h'=>by simp only[Qq] at h h';rw[h.2,h'.2]
 | .bool _,_,_,_,h,h'=>by simp only[Qq] at h h';rw[h.2,h'.2]
 | .str _,_,_,_,h,h'=>by simp only[Qq] at h h';rw[h.2,h'.2]
 | .agg _,_,_,_,h,_=>by simp only[Qq] at h
 | .sl xs,B,B',v,h,h'=>by
  simp only[Qq] at h h';obtain⟨a,c,rfl,h2,h3⟩:=h;obtain⟨a',c',e,ag,ab⟩:=h';cases e;rcases h3 with ⟨hc,rfl⟩ | ⟨g,cur,e,Bs,rfl,hc,_,_,_,_,rfl,ad⟩<;>rcases ab with ⟨ae,rfl⟩ | ⟨g',af,e',ah,e1,ae,_,_,_,_,rfl,aa⟩
  ·rfl
  ·omega
  ·omega
  ·cases e1;rw[ZY.uniq ad aa]
theorem Qd.uniq:∀ {ds:List D} {B B' : List Nat} {vs:List Value},Qd w ns B ds vs→Qd w ns B' ds vs→B=B'
 | [],_,_,_,h,h'=>by simp only[Qd] at h h';rw[h.2,h'.2]
 | d :: ds,_,_,_,h,h'=>by
  simp only[Qd] at h h';obtain⟨v,r,B1,B2,rfl,rfl,h2,h3⟩:=h;obtain⟨v',r',ad,ae,e,rfl,aa,ab⟩:=h';cases e;rw[Qq.uniq h2 aa,Qd.uniq h3 ab]
theorem Xn.uniq:∀ {d:D} {B B' : List Nat} {vs:List Value},Xn w ns B d vs→Xn w ns B' d vs→B=B'
 | .int _ _,_,_,_,h,h'=>by simp only[Xn] at h h';rw[h.2,h'.2]
 | .bool _,_,_,_,h,h'=>by simp only[Xn] at h h';rw[h.2,h'.2]
 | .str _,_,_,_,h,h'=>by simp only[Xn] at h h';rw[h.2,h'.2]
 | .sl _,_,_,_,h,_=>by simp only[Xn] at h
 | .agg cs,_,_,_,h,h'=>by
  simp only[Xn] at h h';exact Qd.uniq h h'
theorem ZY.uniq {g sz:Nat}:∀ {xs:List D} {B B' : List Nat} {o:Nat},ZY w ns B g sz xs o→ZY w ns B' g sz xs o→B=B'
 | [],_,_,_,h,h'=>by simp only[ZY] at h h';rw[h,h']
 | d :: ds,_,_,_,h,h'=>by
  simp only[ZY] at h h';obtain⟨vs,B1,B2,rfl,h1,h2,h3,h4⟩:=h;obtain⟨ae,af,ag,rfl,ah,aa,ab,ad⟩:=h';cases Qv.uniq h2 aa o_;rw[Xn.uniq h3 ab,ZY.uniq h4 ad]
end
theorem Qd.length:∀ {ds:List D} {B:List Nat} {vs:List Value},Qd w ns B ds vs→vs.length=ds.length
 | [],_,_,h=>by simp only[Qd] at h;rw[h.1];rfl
 | d :: ds,_,_,h=>by
  simp only[Qd] at h;obtain⟨v,r,B1,B2,rfl,rfl,_,h3⟩:=h;simp[Qd.length h3]
theorem Qd.append:∀ {ds es:List D} {B B' : List Nat} {vs us:List Value},Qd w ns B ds vs→Qd w ns B' es us→Qd w ns (B++B') (ds++es) (vs++us)
 | [],_,_,_,_,_,h,h'=>by
  simp only[Qd] at h;obtain⟨rfl,rfl⟩:=h;simpa using h'
 | d :: ds,es,B,B',vs,us,h,h'=>by
  simp only[Qd] at h;obtain⟨v,r,B1,B2,rfl,rfl,h2,h3⟩:=h;simp only[KA,Qd];exact⟨v,r++us,B1,B2++B',rfl,by simp,h2,Qd.append h3 h'⟩
theorem Qd.split:∀ {ds es:List D} {B:List Nat} {vs:List Value},Qd w ns B (ds++es) vs→∃ B1 B2,B=B1++B2∧Qd w ns B1 ds (vs.take ds.length)∧Qd w ns B2 es (vs.drop ds.length)
 | [],es,B,vs,h=>⟨[],B,rfl,by simp[Qd],by simpa using h⟩
 | d :: ds,es,B,vs,h=>by
  simp only[KA,Qd] at h;obtain⟨v,r,B1,B2,rfl,rfl,h2,h3⟩:=h;obtain⟨C1,C2,rfl,g1,g2⟩:=Qd.split h3;refine⟨B1++C1,C2,by simp,?_,by simpa using g2⟩;simp only[Kn,Lu,Qd];exact⟨v,r.take ds.length,B1,C1,rfl,rfl,h2,g1⟩
theorem Xn.cells:∀ {d:D} {B:List Nat} {vs:List Value},Xn w ns B d vs→Qd w ns B d.cells vs
 | .int k n,B,vs,h=>by
  simp only[Xn] at h;obtain⟨rfl,rfl⟩:=h;simp only[D.cells,Qd,Qq];exact⟨_,[],[],[],rfl,rfl,⟨rfl,rfl⟩,rfl,rfl⟩
 | .bool b,B,vs,h=>by
  simp only[Xn] at h;obtain⟨rfl,rfl⟩:=h;simp only[D.cells,Qd,Qq];exact⟨_,[],[],[],rfl,rfl,⟨rfl,rfl⟩,rfl,rfl⟩
 | .str s,B,vs,h=>by
  simp only[Xn] at h;obtain⟨⟨t,rfl,ht⟩,rfl⟩:=h;simp only[D.cells,Qd,Qq];exact⟨_,[],[],[],rfl,rfl,⟨⟨t,rfl,ht⟩,rfl⟩,rfl,rfl⟩
 | .sl _,_,_,h=>by simp only[Xn] at h
 | .agg cs,B,vs,h=>by simp only[Xn] at h;exact h
theorem ZpG {cs:List D} {B:List Nat} {vs:List Value} (h:Qd w ns B cs vs):Xn w ns B (.agg cs) vs:=by simp only[Xn];exact h
theorem ZY.at {g sz:Nat}:∀ {xs:List D} {B:List Nat} {o i:Nat} {x:D},ZY w ns B g sz xs o→xs[i]?=some x→∃ vs B1 Bn B2,B=B1++Bn++B2∧vs.length=sz∧Qv w g (o+i*sz) vs∧Xn w ns Bn x vs ∧
  ∀ (w' : World) (aa : List Nat) (x' : D) (us:List Value),(∀ b∈B1++B2,w'.heap[b]?=w.heap[b]?)→(∀ p v,(p<o+i*sz∨o+i*sz+sz≤p)→w.cell? ⟨g,p,none⟩=some v→w'.cell? ⟨g,p,none⟩=some v) →
   us.length=sz→Qv w' g (o+i*sz) us→Xn w' ns aa x' us→ZY w' ns (B1++aa++B2) g sz (xs.set i x') o
 | [],_,_,_,_,_,hx=>by simp at hx
 | d :: ds,B,o,0,x,h,hx=>by
  simp only[KT,Option.some.injEq] at hx;subst hx;simp only[ZY] at h;obtain⟨vs,B1,B2,rfl,h1,h2,h3,h4⟩:=h;refine⟨vs,[],B1,B2,by simp,h1,by simpa using h2,h3,fun w' aa x' us hk hc hl ab ht=>?_⟩;simp only[Kaw,Lm,ZY];refine⟨us,aa,B2,rfl,hl,by simpa using ab,ht,?_⟩;have ad:∀ {ys:List D} {C:List Nat} {q:Nat},o+sz≤q→(∀ b∈C,b∈B2)→ZY w ns C g sz ys q→ZY w' ns C g sz ys q:=by
   intro ys
   induction ys with
   | nil=>intro C q _ _ h;simpa only[ZY] using h
   | cons y ys ih=>
    intro C q hq hC h;simp only[ZY] at h ⊢;obtain⟨ws,C1,C2,rfl,k1,k2,k3,k4⟩:=h;refine⟨ws,C1,C2,rfl,k1,fun j u hu=>?_,k3.mono fun b hb=>hk b (by simp[hC b (by simp[hb])]),ih o_ (fun b hb=>hC b (by simp[hb])) k4⟩;exact hc (q+j) u (.inr o_) (k2 j u hu)
  exact ad (Kp _) (fun _ hb=>hb) h4
 | d :: ds,B,o,i+1,x,h,hx=>by
  simp only[KU] at hx;simp only[ZY] at h;obtain⟨ws,C1,C2,rfl,h1,h2,h3,h4⟩:=h;obtain⟨vs,B1,Bn,B2,rfl,g1,g2,g3,g4⟩:=ZY.at h4 hx;have e:o+sz+i*sz=o+(i+1)*sz:=by rw[KR];omega
  rw[e] at g2 g4;refine⟨vs,C1++B1,Bn,B2,by simp,g1,g2,g3,fun w' aa x' us hk hc hl ab ht=>?_⟩;simp only[Kad,ZY];refine⟨ws,C1,B1++aa++B2,by simp,h1,fun j u hu=>?_,h3.mono fun b hb=>hk b (by simp[hb]),g4 w' aa x' us (fun b hb=>hk b (by
   simp only[Kh] at hb ⊢;rcases hb with hb | hb
   ·exact .inl (.inr hb)
   ·exact .inr hb)) hc hl ab ht⟩
  have hj:j<ws.length:=(Kc.1 hu).1;have:sz≤(i+1)*sz:=Nat.le_mul_of_pos_left sz o_;exact hc (o+j) u (.inl o_) (h2 j u hu)
theorem ZY.length_le {g sz:Nat}:∀ {xs:List D} {B:List Nat} {o:Nat},ZY w ns B g sz xs o→∀ i,i<xs.length→∃ vs:List Value,vs.length=sz∧Qv w g (o+i*sz) vs
 | [],_,_,_,i,hi=>by simp at hi
 | d :: ds,B,o,h,0,_=>by
  simp only[ZY] at h;obtain⟨vs,B1,B2,rfl,h1,h2,_,_⟩:=h;exact⟨vs,h1,by simpa using h2⟩
 | d :: ds,B,o,h,i+1,hi=>by
  simp only[ZY] at h;obtain⟨vs,B1,B2,rfl,h1,h2,_,h4⟩:=h;obtain⟨us,g1,g2⟩:=ZY.length_le h4 i (by simpa using hi);refine⟨us,g1,?_⟩;have e:o+sz+i*sz=o+(i+1)*sz:=by rw[KR];omega
  rw[e] at g2;exact g2
theorem ZY.append {g sz:Nat}:∀ {xs ys:List D} {B B' : List Nat} {o:Nat},ZY w ns B g sz xs o→ZY w ns B' g sz ys (o+xs.length*sz)→ZY w ns (B++B') g sz (xs++ys) o
 | [],ys,B,B',o,h,h'=>by
  simp only[ZY] at h;subst h;simpa using h'
 | d :: ds,ys,B,B',o,h,h'=>by
  simp only[ZY] at h;obtain⟨vs,B1,B2,rfl,h1,h2,h3,h4⟩:=h;simp only[KA,ZY];refine⟨vs,B1,B2++B',by simp,h1,h2,h3,ZY.append h4 ?_⟩;have e:o+(d :: ds).length*sz=o+sz+ds.length*sz:=by rw[Kn,KR];omega
  rwa [e] at h'
theorem Qd.get:∀ {ds:List D} {B:List Nat} {vs:List Value} {j:Nat} {d:D},Qd w ns B ds vs→ds[j]?=some d→∃ v B1 Bn B2,vs[j]?=some v∧B=B1++Bn++B2∧Qq w ns Bn d v
 | [],_,_,_,_,_,h=>by simp at h
 | e :: ds,B,vs,0,d,h,hd=>by
  simp only[KT,Option.some.injEq] at hd;subst hd;simp only[Qd] at h;obtain⟨v,r,B1,B2,rfl,rfl,h2,h3⟩:=h;exact⟨v,[],B1,B2,rfl,by simp,h2⟩
 | e :: ds,B,vs,j+1,d,h,hd=>by
  simp only[KU] at hd;simp only[Qd] at h;obtain⟨v,r,B1,B2,rfl,rfl,h2,h3⟩:=h;obtain⟨u,C1,Cn,C2,g1,rfl,g3⟩:=Qd.get h3 hd;exact⟨u,B1++C1,Cn,C2,by simpa using g1,by simp,g3⟩
theorem Qq.plain {S:Nat→Prop} {d:D} {B:List Nat} {v:Value} (h:Qq w ns B d v) (hd:∀ ys,d≠.sl ys):B=[]∧d.plain=true∧ZP w S d [v]:=by
 cases d with
 | sl ys=>exact absurd rfl (hd ys)
 | agg cs=>simp only[Qq] at h
 | int k n=>simp only[Qq] at h;obtain⟨rfl,rfl⟩:=h;exact⟨rfl,rfl,rfl⟩
 | bool b=>simp only[Qq] at h;obtain⟨rfl,rfl⟩:=h;exact⟨rfl,rfl,rfl⟩
 | str s=>simp only[Qq] at h;obtain⟨⟨t,rfl,ht⟩,rfl⟩:=h;exact⟨rfl,rfl,t,rfl,ht⟩
end
end Go.Abs
namespace Go.Abs
open Go
def Xo (w:World) (S:Nat→Prop):D→Value→Prop
 | .agg cs,v=>∃ vs,v=.agg vs∧Q4 w S cs vs.toList
 | d,v=>ZP w S d [v]
theorem Xo.mono {w w' : World} {S S' : Nat→Prop} (hk:ZO S S' w w') {d:D} {v:Value} (h:Xo w S d v):Xo w' S' d v:=by
 cases d<;>simp only[Xo] at h ⊢
 ·exact h.mono hk
 ·exact h.mono hk
 ·exact h.mono hk
 ·exact h.mono hk
 ·obtain⟨vs,h1,h2⟩:=h;exact⟨vs,h1,h2.mono hk⟩
theorem Xo.cells {w:World} {S:Nat→Prop} {d:D} {v:Value} (h:Xo w S d v):ZP w S d v.cells.toList:=by
 cases d<;>simp only[Xo] at h
 ·have:=h;simp only[ZP] at h;simp at h;subst h;exact this
 ·have:=h;simp only[ZP] at h;simp at h;subst h;exact this
 ·have:=h;simp only[ZP] at h;obtain⟨t,h,_⟩:=h;simp at h;subst h;exact this
 ·have:=h;simp only[ZP] at h;obtain⟨a,c,h,_⟩:=h;simp at h;subst h;exact this
 ·obtain⟨vs,rfl,h2⟩:=h;simpa [ZP,Value.cells] using h2
theorem Xo.one {w:World} {S:Nat→Prop} {d:D} {v:Value} (hd:d.one=true):Xo w S d v↔ZP w S d [v]:=by
 cases d<;>simp[Xo,D.one] at hd ⊢
inductive Ref where
 | box (b:Nat×TypeId)
 | row (a:Option Addr) (n c sz:Nat)
abbrev Gh:=Nat→Option Ref
def Yw (Γ:Gh) (w:World) (I:Nat→Prop):AV→Value→Prop
 | .d x,v=>x.one=true∧ZP w I x [v]
 | .nil,v=>∃ a,v=.slice a 0 0
 | .nilp,v=>v=.pointer none
 | .nili,v=>v=.nilIface
 | .ptr id off,v=>∃ b,Γ id=some (.box b)∧v=.pointer (some ⟨b.1,off,none⟩)
 | .prow id sz i off,v=>∃ b o n c,Γ id=some (.row (some ⟨b,o,none⟩) n c sz)∧i<n∧v=.pointer (some ⟨b,o+(i*sz+off),none⟩)
 | .pim cs,v=>∃ b o vs,v=.pointer (some ⟨b,o,none⟩)∧I b∧Qv w b o vs∧Q4 w I cs vs
 | .own id,v=>∃ a n c sz,Γ id=some (.row a n c sz)∧v=.slice a n c
 | .ownv id off n,v=>∃ a0 m c sz a,Γ id=some (.row a0 m c sz)∧off+n≤m∧m≤c∧v=.slice a n (c-off)∧(off=0→a=a0)∧(a=a0.map (·.add (off*sz))∨c=off)
 | .bnil id e,v=>∃ b,Γ id=some (.box (b,e))∧(v=.pointer none∨v=.pointer (some ⟨b,0,none⟩))
 | .bbuf _ _,v=>∃ a n c,v=.slice a n c
 | .agg _,_=>False
 | .tup _,_=>False
 | .clo _ _,_=>False
 | .junk,_=>True
def Xw (Γ:Gh) (w:World) (I:Nat→Prop):AV→Value→Prop
 | .clo f cs,v=>∃ us,v=.func (.func f) #[] us∧Zy (Yw Γ w I) cs us.toList
 | x,v=>Yw Γ w I x v
def UD (Γ:Gh) (w:World) (I:Nat→Prop):AV→Value→Prop
 | .agg cs,v=>∃ vs,v=.agg vs∧Zy (Yw Γ w I) cs vs.toList
 | .clo f cs,v=>∃ us,v=.func (.func f) #[] us∧Zy (Yw Γ w I) cs us.toList
 | .d (.agg ds),v=>∃ vs,v=.agg vs∧Q4 w I ds vs.toList
 | x,v=>Yw Γ w I x v
def Rep (Γ:Gh) (w:World) (I:Nat→Prop):AV→Value→Prop
 | .tup vs,v=>∃ us,v=.tuple us∧Zy (UD Γ w I) vs us.toList
 | x,v=>UD Γ w I x v
def Qa (Γ Γ' : Gh):Prop:=∀ id r,Γ id=some r→Γ' id=some r
section
variable {Γ Γ' : Gh} {w w' : World} {I I' : Nat→Prop}
theorem Yw.mono (hg:Qa Γ Γ') (hk:ZO I I' w w') {x:AV} {v:Value} (h:Yw Γ w I x v):Yw Γ' w' I' x v:=by
 cases x<;>simp only[Yw] at h ⊢
 ·exact⟨h.1,h.2.mono hk⟩
 ·exact h
 ·exact h
 ·exact h
 ·obtain⟨b,h1,h2⟩:=h;exact⟨b,hg _ _ h1,h2⟩
 ·obtain⟨b,o,n,c,h1,h2⟩:=h;exact⟨b,o,n,c,hg _ _ h1,h2⟩
 ·obtain⟨b,o,vs,h1,h2,h3,h4⟩:=h;exact⟨b,o,vs,h1,hk.sub b h2,h3.mono (hk.blk b h2),h4.mono hk⟩
 ·obtain⟨a,n,c,sz,h1,h2⟩:=h;exact⟨a,n,c,sz,hg _ _ h1,h2⟩
 ·obtain⟨a0,m,c,sz,a,h1,h2⟩:=h;exact⟨a0,m,c,sz,a,hg _ _ h1,h2⟩
 ·obtain⟨b,h1,h2⟩:=h;exact⟨b,hg _ _ h1,h2⟩
 ·exact h
theorem Xw.mono (hg:Qa Γ Γ') (hk:ZO I I' w w') {x:AV} {v:Value} (h:Xw Γ w I x v):Xw Γ' w' I' x v:=by
 unfold Xw at h ⊢;split at h
 ·obtain⟨vs,h1,h2⟩:=h;exact⟨vs,h1,h2.mono fun _ _ h=>h.mono hg hk⟩
 ·exact h.mono hg hk
theorem UD.mono (hg:Qa Γ Γ') (hk:ZO I I' w w') {x:AV} {v:Value} (h:UD Γ w I x v):UD Γ' w' I' x v:=by
 unfold UD at h ⊢;split at h
 ·obtain⟨vs,h1,h2⟩:=h;exact⟨vs,h1,h2.mono fun _ _ h=>h.mono hg hk⟩
 ·obtain⟨vs,h1,h2⟩:=h;exact⟨vs,h1,h2.mono fun _ _ h=>h.mono hg hk⟩
 ·obtain⟨vs,h1,h2⟩:=h;exact⟨vs,h1,h2.mono hk⟩
 ·exact h.mono hg hk
theorem Rep.mono (hg:Qa Γ Γ') (hk:ZO I I' w w') {x:AV} {v:Value} (h:Rep Γ w I x v):Rep Γ' w' I' x v:=by
 unfold Rep at h ⊢;split at h
 ·obtain⟨vs,h1,h2⟩:=h;exact⟨vs,h1,h2.mono fun _ _ h=>h.mono hg hk⟩
 ·exact h.mono hg hk
theorem Yw.repB {x:AV} {v:Value} (h:Yw Γ w I x v):Xw Γ w I x v:=by
 cases x<;>first | exact h | exact h.elim
theorem Yw.rep2 {x:AV} {v:Value} (h:Yw Γ w I x v):UD Γ w I x v:=by
 cases x<;>first | exact h | exact h.elim | skip
 rename_i x;cases x<;>first | exact h | skip
 simp[Yw,D.one] at h
theorem Xw.rep2 {x:AV} {v:Value} (h:Xw Γ w I x v):UD Γ w I x v:=by
 cases x<;>first | exact Yw.rep2 h | exact h
theorem UD.rep {x:AV} {v:Value} (h:UD Γ w I x v):Rep Γ w I x v:=by
 cases x<;>first | exact h | exact h.elim
theorem Qi {x:D} {v:Value}:Rep Γ w I (.d x) v↔Xo w I x v:=by
 cases x<;>simp[Rep,UD,Yw,Xo,D.one]
theorem ZpH {x:D} {v:Value}:UD Γ w I (.d x) v↔Xo w I x v:=by
 cases x<;>simp[UD,Yw,Xo,D.one]
theorem Zvy:∀ {cs:List AV} {ds:List D} {vs:List Value},ZeP cs=some ds→Zy (Xw Γ w I) cs vs→Q4 w I ds vs
 | [],ds,[],h,_=>by simp[ZeP] at h;subst h;simp[Q4]
 | [],_,_ :: _,_,h=>h.elim
 | _ :: _,_,[],_,h=>h.elim
 | c :: cs,ds,v :: vs,h,hr=>by
  simp only[ZeP] at h;obtain⟨x,h1,h⟩:=Za h;obtain⟨aa,h2,h⟩:=Za h;cases h;refine⟨v,vs,rfl,?_,?_,Zvy h2 hr.2⟩
  ·unfold ZpL at h1;split at h1
   ·split at h1<;>cases h1;assumption
   ·cases h1
  ·unfold ZpL at h1;split at h1
   ·split at h1<;>cases h1;exact hr.1.2
   ·cases h1
theorem ZsI:∀ {cs:List AV} {vs:List Value},Zdp cs=false→Zy (Xw Γ w I) cs vs→Zy (Yw Γ w I) cs vs
 | [],[],_,_=>trivial
 | [],_ :: _,_,h=>h.elim
 | _ :: _,[],_,h=>h.elim
 | c :: cs,v :: vs,h,hr=>by
  simp only[Zdp,Kak] at h;refine⟨?_,ZsI h.2 hr.2⟩;cases c<;>first | exact hr.1 | (simp[ZsP] at h)
theorem Zib {cs:List AV} {vs:Array Value} (h:Zy (Xw Γ w I) cs vs.toList):Rep Γ w I (UG cs) (.agg vs):=by
 unfold UG;cases hd:ZeP cs with
 | some ds=>exact Qi.2 ⟨vs,rfl,Zvy hd h⟩
 | none=>
  simp only[W1];cases hc:Zdp cs
  ·exact⟨vs,rfl,ZsI hc h⟩
  ·exact trivial
theorem Rep.cells {x:AV} {v:Value} (hs:x.solid=true) (h:Rep Γ w I x v):Zy (Xw Γ w I) x.cells v.cells.toList:=by
 cases x with
 | d x=>
  have h1:=(Qi.1 h).cells.cells;rw[Xm] at h1;exact h1.map_left (f:=AV.d) (S:=Xw Γ w I) fun a b aa=>aa
 | agg cs=>obtain⟨vs,rfl,h⟩:=h;exact h.mono fun _ _ h=>h.repB
 | clo f cs=>obtain⟨us,rfl,h⟩:=h;exact⟨⟨us,rfl,h⟩,trivial⟩
 | tup vs=>cases hs
 | junk=>cases hs
 | nil=>obtain⟨a,rfl⟩:=h;exact⟨⟨a,rfl⟩,trivial⟩
 | nilp=>obtain rfl:=h;exact⟨rfl,trivial⟩
 | nili=>obtain rfl:=h;exact⟨rfl,trivial⟩
 | ptr id off=>obtain⟨b,h1,rfl⟩:=h;exact⟨⟨b,h1,rfl⟩,trivial⟩
 | prow id sz i off=>obtain⟨b,o,n,c,h1,h2,rfl⟩:=h;exact⟨⟨b,o,n,c,h1,h2,rfl⟩,trivial⟩
 | pim cs=>obtain⟨b,o,vs,rfl,h⟩:=h;exact⟨⟨b,o,vs,rfl,h⟩,trivial⟩
 | own id=>
  obtain⟨a,n,c,sz,h1,rfl⟩:=h;exact⟨⟨a,n,c,sz,h1,rfl⟩,trivial⟩
 | ownv id off n=>obtain⟨a0,m,c,sz,a,h1,h2,h3,rfl,h4⟩:=h;exact⟨⟨a0,m,c,sz,a,h1,h2,h3,rfl,h4⟩,trivial⟩
 | bnil id e=>
  obtain⟨b,h1,h2⟩:=h;rcases h2 with rfl | rfl
  ·exact⟨⟨b,h1,.inl rfl⟩,trivial⟩
  ·exact⟨⟨b,h1,.inr rfl⟩,trivial⟩
 | bbuf a b=>cases hs
end
theorem Zei {w w' : World} {S S' : Nat→Prop} {d:D} {vs:List Value} (hd:d.plain=true) (h:ZP w S d vs):ZP w' S' d vs:=by
 cases d<;>first | (simpa [ZP] using h) | (simp[D.plain] at hd)
def Zkt (w:World) (I F A:Nat→Prop) (a:Option Addr) (n cap sz:Nat) (xs:List D) (ex fz:Bool):Prop:=
 n=xs.length∧((n=0∧cap=0) ∨
 ∃ g o cur e,a=some ⟨g,o,none⟩∧0<cap∧w.heap[g]?=some (.cells cur e (0,0))∧n≤cap∧cap≤maxLen∧(cur.size=o+cap*sz∧(ex=true→o=0))∧0<sz ∧
  (if fz then I g else ¬I g)∧F g∧Wj w (if ex then fun b=>I b∧A b else I) g sz xs o)
def Zvz:Value→Option Nat
 | .slice (some ad) _ c=>if c=0 then none else some ad.block
 | _=>none
def Zku (w:World) (g p:Nat):Option Nat:=match w.cell? ⟨g,p,none⟩ with
 | some v=>Zvz v
 | none=>none
def Y4 (sz:Nat):Option (Option Nat×Nat×Nat)→Option Nat
 | some (_,i,j)=>some (i*sz+j)
 | none=>none
def Up (w:World) (g:Nat):Option Nat→World
 | some p=>w.setCell ⟨g,p,none⟩ (.slice none 0 0)
 | none=>w
theorem Zxh (w:World) (g:Nat) (h:Option Nat):(Up w g h).heap.size=w.heap.size:=by
 cases h with
 | none=>rfl
 | some p=>simp[Up,World.setCell]
theorem Zic {w:World} {g:Nat} {cur:Array Value} {e:TypeId} {fr:Nat×Nat} (hg:w.heap[g]?=some (.cells cur e fr)) (p:Nat):Up w g (some p)=w.setRow g (cur.setIfInBounds p (.slice none 0 0)):=
 setCell_eq_setRow w g p cur e fr _ hg
theorem ZeM {w w' : World} {g:Nat} (h:Option Nat) {k:Nat} (hk:w'.heap[k]?=w.heap[k]?):(Up w' g h).heap[k]?=(Up w g h).heap[k]?:=by
 cases h with
 | none=>exact hk
 | some p=>simp only[Up,World.setCell,L0,hk]
theorem Zxi {w:World} {g p:Nat} {h:Option Nat} (hp:h≠some p):(Up w g h).cell? ⟨g,p,none⟩=w.cell? ⟨g,p,none⟩:=by
 cases h with
 | none=>rfl
 | some q=>
  have aa:q≠p:=fun e=>hp (e ▸ rfl);simp only[Up];cases hg:w.heap[g]? with
  | none=>simp[World.setCell,World.cell?,L0,hg]
  | some b=>cases b<;>simp[World.setCell,World.cell?,L0,hg,Array.getElem?_setIfInBounds,aa]
def ZjD (w:World) (I F:Nat→Prop) (a:Option Addr) (n cap sz ns:Nat) (xs:List D) (hl:Option Nat):Prop:=
 n=xs.length∧((n=0∧cap=0∧hl=none) ∨
 ∃ g cur e B,a=some ⟨g,0,none⟩∧0<cap∧w.heap[g]?=some (.cells cur e (0,0))∧n≤cap∧cap≤maxLen∧cur.size=cap*sz∧0<sz∧ZY (Up w g hl) ns B g sz xs 0∧(g :: B).Nodup∧∀ b∈g :: B,¬I b∧F b)
def Yj (Γ:Gh) (w:World) (a:Option Addr) (sz ns:Nat) (xs:List D):Option (Option Nat×Nat×Nat)→Prop
 | none=>True
 | some (nm,i,j)=>i<xs.length∧j<sz∧UQ xs i j=some []∧∀ k,nm=some k→∃ g a' n' c',a=some ⟨g,0,none⟩∧Γ k=some (.row a' n' c' ns)∧w.cell? ⟨g,i*sz+j,none⟩=some (.slice a' n' c')
def Zmd (w:World) (I F:Nat→Prop) (b te:Nat) (l:List UInt8) (v:Value):Prop:=
 l=[]∧v=.slice none 0 0 ∨
 ∃ g cap cur,v=.slice (some ⟨g,0,none⟩) l.length cap∧0<l.length∧w.heap[g]?=some (.cells cur te (0,0))∧l.length≤cap∧cap≤maxLen∧cur.size=cap∧cur.toList.take l.length=l.map (fun x=>Value.int .u8 x.toNat)∧¬I g∧F g∧g≠b
def ZaT (w:World) (I F:Nat→Prop) (b:Nat):List AV→List Value→Prop
 | [_,.bbuf te l],[_,v]=>Zmd w I F b te l v
 | cs,_=>XK cs=true
def YF (Γ:Gh) (w:World) (I F A:Nat→Prop) (id:Nat):Zk→Prop
 | .box cs=>∃ b cur e,Γ id=some (.box (b,e))∧w.heap[b]?=some (.cells cur e (0,0))∧¬I b∧F b∧Zy (Xw Γ w I) cs cur.toList∧ZaT w I F b cs cur.toList
 | .row sz xs ex fz=>∃ a n c,Γ id=some (.row a n c sz)∧Zkt w I F A a n c sz xs ex fz
 | .tree sz ns xs lk=>∃ a n c,Γ id=some (.row a n c sz)∧ZjD w I F a n c sz ns xs (Y4 sz lk)∧Yj Γ w a sz ns xs lk
 | .gone=>∃ r,Γ id=some r
def Zz:Option Ref→Option Nat
 | some (.box b)=>some b.1
 | some (.row (some a) _ c _)=>if c=0 then none else some a.block
 | some (.row none _ _ _)=>none
 | none=>none
def Zgq (r:Option Ref):Zk→Option Nat
 | .gone=>none
 | _=>Zz r
@[simp] theorem blkO_box (r:Option Ref) (cs:List AV):Zgq r (.box cs)=Zz r:=rfl
@[simp] theorem ZA2 (r:Option Ref) (s:Nat) (xs:List D) (e f:Bool):Zgq r (.row s xs e f)=Zz r:=rfl
@[simp] theorem JE (r:Option Ref) (s n:Nat) (xs:List D) (l:Option (Option Nat×Nat×Nat)):Zgq r (.tree s n xs l)=Zz r:=rfl
@[simp] theorem blkO_gone (r:Option Ref):Zgq r .gone=none:=rfl
theorem Zme (r:Option Ref) (g:Nat→Nat) (o:Zk):Zgq r (Zkx g o)=Zgq r o:=by cases o<;>rfl
theorem ZjE (r:Option Ref) (bad:List Nat) (o:Zk):Zgq r (Xp bad o)=Zgq r o:=by cases o<;>rfl
def Zf7 (Γ:Gh) (w:World) (id:Nat):Zk→Nat→Prop
 | .tree sz ns xs lk,b=>∃ g B,Zz (Γ id)=some g∧ZY (Up w g (Y4 sz lk)) ns B g sz xs 0∧b∈B
 | _,_=>False
def Buf (Γ:Gh) (w:World) (id:Nat):Zk→Nat→Prop
 | .box [_,.bbuf _ _],b=>∃ g,Zz (Γ id)=some g∧Zku w g 1=some b
 | _,_=>False
def Blk (Γ:Gh) (w:World) (id:Nat) (o:Zk) (b:Nat):Prop:=Zgq (Γ id) o=some b∨Zf7 Γ w id o b∨Buf Γ w id o b
def Xa (U:Nat→Prop) (base:Nat):Prop:=∀ id,base≤id→id<base+64→¬U id
def UE (U:Nat→Prop) (base:Nat) (id:Nat):Prop:=U id∨(base≤id∧id<base+64)
theorem Xa.self {U:Nat→Prop} {base:Nat} (h:Xa U base):¬U base:=h base (Kp _) o_
def ZjF (I:Nat→Prop) (w:World):Prop:=∀ q∈gtabs,I q.1∧∃ e fr,w.heap[q.1]?=some (.cells q.2 e fr)
theorem ZjF.mono {I I' : Nat→Prop} {w w' : World} (h:ZjF I w) (hk:ZO I I' w w'):ZjF I' w':=fun q hq=>by
 obtain⟨h1,e,fr,h2⟩:=h q hq;exact⟨hk.sub _ h1,e,fr,by rw[hk.blk _ h1];exact h2⟩
structure Sim (nt:Nat) (F A I:Nat→Prop) (Γ:Gh) (U:Nat→Prop) (sl:Sl) (hp:Hp) (a:Act) (w:World):Prop where
 nt:a.tmps.size=nt
 dfr:a.defers=[]
 slots:∀ t,Rep Γ w I (gs sl t) (a.tmps.getD t undef)
 objs:∀ id o,lkp hp id=some o→YF Γ w I F A id o
 inj:∀ i j o o' b,lkp hp i=some o→lkp hp j=some o'→Blk Γ w i o b→Blk Γ w j o' b→i=j
 bound:∀ b,I b→b<w.heap.size
 fresh:∀ b,w.heap.size≤b→F b
 own:∀ b,F b→A b
 names:∀ id,¬U id→Γ id=none
 glob:ZjF I w
structure Fr (F:Nat→Prop) (w w' : World):Prop where
 os:w'.os=w.os
 tape:w'.tape=w.tape
 output:w'.output=w.output
 size:w.heap.size≤w'.heap.size
 block:∀ k,k<w.heap.size→¬F k→w'.heap[k]?=w.heap[k]?
theorem Fr.refl (F:Nat→Prop) (w:World):Fr F w w:=⟨rfl,rfl,rfl,Kp _,fun _ _ _=>rfl⟩
theorem Fr.trans {F:Nat→Prop} {a b c:World} (h:Fr F a b) (k:Fr F b c):Fr F a c:=
 ⟨k.os.trans h.os,k.tape.trans h.tape,k.output.trans h.output,Ku h.size k.size,fun i hi hf=>(k.block i (LZ hi h.size) hf).trans (h.block i hi hf)⟩
end Go.Abs
namespace Go.Abs
open Go
section
variable {P:Program}
theorem QV {t e:TypeId} (h:X4 P t=some e):P.underlying t=some (.slice e):=by
 unfold X4 at h;split at h
 ·cases h;assumption
 ·cases h
theorem Uq {t:TypeId} (h:JI P t=true):P.underlying t=some .string:=by
 unfold JI at h;split at h
 ·assumption
 ·cases h
theorem ZsJ {t:TypeId} {k:IntKind} (h:ZzT P t=some k):P.underlying t=some (.int k):=by
 unfold ZzT at h;split at h
 ·cases h;assumption
 ·cases h
theorem ZsK {t:TypeId} {a:Nat×TypeId} (h:ZjJ P t=some a):P.underlying t=some (.array a.1 a.2):=by
 unfold ZjJ at h;split at h
 ·cases h;assumption
 ·cases h
theorem Vf {t:TypeId} {g:Bool} (h:Zem P t=some g) (w:World):(isAgg t).run P w=.ok g w:=by
 unfold Zem at h;unfold isAgg;split at h
 ·cases h;rename_i hu;simp[run_underlying hu]
 ·cases h;rename_i hu;simp[run_underlying hu]
 ·cases h;rename_i d h1 h2 hu;simp only[Sem.run_bind,run_underlying hu,Result.andThen_ok];cases d<;>first | rfl | (exfalso;exact h1 _ hu) | (exfalso;exact h2 _ _ hu)
 ·cases h
theorem Uf {t:TypeId} {d:TypeDesc} (h:P.underlying t=some d):∃ i,P.info? t=some i:=by
 unfold Program.underlying at h;cases hi:P.info? t with
 | none=>rw[hi] at h;cases h
 | some i=>exact⟨i,rfl⟩
theorem QW {t:TypeId} {i:TypeInfo} (h:P.info? t=some i) (w:World):(sizeOf t).run P w=.ok (P.cellsOf t) w:=by
 simp[sizeOf,typeInfo,h,Program.cellsOf]
theorem ZiT {t:TypeId} (h:P.cellsOf t≠0):∃ i,P.info? t=some i:=by
 cases hi:P.info? t with
 | none=>simp[Program.cellsOf,hi] at h
 | some i=>exact⟨i,rfl⟩
theorem Zid {t:TypeId} {g:Bool} (h:Zem P t=some g):∃ i,P.info? t=some i:=by
 unfold Zem at h;split at h
 ·rename_i hu;exact Uf hu
 ·rename_i hu;exact Uf hu
 ·rename_i hu;exact Uf hu
 ·cases h
theorem ZgF {s:TypeId} {f:Nat} {q:Nat×TypeId} (h:ZeX P s f=some q) :
  ∃ fs x,P.underlying s=some (.struct fs)∧fs[f]?=some x∧x.offset=q.1∧x.type=q.2∧P.cellsOf q.2≠0:=by
 unfold ZeX at h;split at h
 ·rename_i fs hu;split at h
  ·rename_i x hx;split at h
   ·cases h
   ·cases h;exact⟨fs,x,hu,hx,rfl,rfl,by assumption⟩
  ·cases h
 ·cases h
theorem ZeN {t:TypeId} {z:Value} (h:Zan P t=some z):∃ i,P.info? t=some i∧i.zero=some z:=by
 unfold Zan at h;split at h
 ·rename_i i hi;exact⟨i,hi,h⟩
 ·cases h
theorem Zej {t:TypeId} {z:Value} (h:Zan P t=some z) (w:World):(zeroValue t).run P w=.ok z w:=by
 obtain⟨i,hi,hz⟩:=ZeN h;simp[zeroValue,typeInfo,hi,hz]
theorem YX {t:TypeId} (h:WC P t=true):∃ i z,P.info? t=some i∧i.zero=some z∧z.cells.size=i.size∧0<i.size∧P.cellsOf t=i.size∧P.bytesOf t=i.bytes:=by
 unfold WC at h;split at h
 ·rename_i i hi;split at h
  ·rename_i z hz;simp at h;exact⟨i,z,hi,hz,h.1,h.2,by simp[Program.cellsOf,hi],by simp[Program.bytesOf,hi]⟩
  ·cases h
 ·cases h
end
section
variable {P:Program} {Γ:Gh} {w:World} {I:Nat→Prop}
theorem Zmf (v:Value):Xw Γ w I (Wz v) v:=by
 cases v<;>try exact trivial
 ·exact⟨rfl,by simp[ZP]⟩
 ·exact⟨rfl,by simp[ZP]⟩
 ·exact⟨rfl,_,rfl,(ZA4 _).symm⟩
 ·rename_i a;cases a
  ·rfl
  ·exact trivial
 ·rename_i a n c;cases a
  ·cases n
   ·cases c
    ·exact⟨none,rfl⟩
    ·exact trivial
   ·exact trivial
  ·exact trivial
 ·rfl
theorem ZsL:∀ (vs:List Value),Zy (Xw Γ w I) (vs.map Wz) vs
 | []=>trivial
 | v :: vs=>⟨Zmf v,ZsL vs⟩
theorem ZyF (v:Value):Rep Γ w I (evC v) v:=by
 cases v with
 | agg cs=>exact Zib (ZsL cs.toList)
 | _=>simp only[evC];exact(Zmf _).rep2.rep
def Za2 (Γ:Gh) (w:World) (I:Nat→Prop) (sl:Sl) (a:Act):Prop:=∀ t,Rep Γ w I (gs sl t) (a.tmps.getD t undef)
theorem Za2.ev {sl:Sl} {a:Act} (h:Za2 Γ w I sl a) {x:Operand} {y:Opd} (hc:ZW x=some y):Rep Γ w I (evO sl y) (a.eval x):=by
 cases x with
 | tmp t=>simp only[ZW] at hc;cases hc;exact h t
 | const v=>simp only[ZW] at hc;cases hc;exact ZyF v
 | global g=>simp only[ZW] at hc;cases hc
 | func f=>simp only[ZW] at hc;cases hc;exact⟨#[],rfl,trivial⟩
theorem Za2.evL {sl:Sl} {a:Act} (h:Za2 Γ w I sl a):∀ {xs:List Operand} {ys:List Opd},QF ZW xs=some ys→Zy (Rep Γ w I) (evL sl ys) (xs.map a.eval)
 | [],ys,hc=>by simp only[QF] at hc;cases hc;exact trivial
 | x :: xs,ys,hc=>by
  simp only[QF] at hc;obtain⟨y,h1,hc⟩:=Za hc;obtain⟨aa,h2,hc⟩:=Za hc;cases hc;exact⟨h.ev h1,h.evL h2⟩
theorem rep_int {k:IntKind} {n:Int} {v:Value} (h:Rep Γ w I (.d (.int k n)) v):v=.int k n:=by
 have:=Qi.1 h;simpa [Xo,ZP] using this
theorem Zek {b:Bool} {v:Value} (h:Rep Γ w I (.d (.bool b)) v):v=.bool b:=by
 have:=Qi.1 h;simpa [Xo,ZP] using this
theorem ZeO {s:List UInt8} {v:Value} (h:Rep Γ w I (.d (.str s)) v):∃ t:ByteArray,v=.string t∧t.data.toList=s:=by
 have:=Qi.1 h;simpa [Xo,ZP] using this
theorem ZpI {ds:List D} {v:Value} (h:Rep Γ w I (.d (.agg ds)) v):∃ vs,v=.agg vs∧Q4 w I ds vs.toList:=Qi.1 h
theorem ZbC (k:IntKind) (n:Int):Rep Γ w I (.d (.int k n)) (.int k n):=Qi.2 (by simp[Xo,ZP])
theorem ZzG (b:Bool):Rep Γ w I (.d (.bool b)) (.bool b):=Qi.2 (by simp[Xo,ZP])
theorem ZvA {t:ByteArray} {s:List UInt8} (h:t.data.toList=s):Rep Γ w I (.d (.str s)) (.string t):=Qi.2 (by simp[Xo,ZP,h])
theorem VF {x:AV} {n:Int} {v:Value} (hi:idx x=some n) (h:Rep Γ w I x v):∃ k,v=.int k n:=by
 unfold idx at hi;split at hi
 ·cases hi;exact⟨_,rep_int h⟩
 ·cases hi
theorem ZvB {R:AV→Value→Prop} {cs:List AV} {vs:Array Value} (h:Zy R cs vs.toList) (off s:Nat) :
  Zy R ((cs.drop off).take s) (vs.extract off (off+s)).toList:=by
 have:=(h.drop off).take s;simpa [Array.toList_extract,List.extract_eq_take_drop] using this
theorem ZvC {t:TypeId} {g:Bool} (hg:Zem P t=some g) {off:Nat} {x r:AV} {v:Value} (h:Rep Γ w I x v) (hp:ZkF g (P.cellsOf t) off x=some r) :
  ∃ cs u,v=.agg cs∧(part t cs off).run P w=.ok u w∧Rep Γ w I r u:=by
 obtain⟨i,hi⟩:=Zid hg;have hs:=QW hi w;unfold ZkF at hp;split at hp
 ·obtain⟨vs,rfl,hr⟩:=ZpI h;unfold ZbF at hp;cases g
  ·simp only[Ka,Km,asD] at hp;obtain⟨d,hd,hp⟩:=Za hp;cases hp;obtain⟨u,hu,h1,h2⟩:=(Xm.1 hr).get off d hd;refine⟨vs,u,rfl,?_,Qi.2 ((Xo.one h1).2 h2)⟩;have aa : vs[off]?=some u:=by simpa using hu
   simp[part,Vf hg,aa]
  ·simp only[Kl] at hp;split at hp
   ·cases hp;refine⟨vs,.agg (vs.extract off (off+P.cellsOf t)),rfl,by simp[part,Vf hg,hs],Qi.2 ⟨_,rfl,?_⟩⟩;rw[Xm] at hr ⊢;have:=(hr.drop off).take (P.cellsOf t);simpa [Array.toList_extract,List.extract_eq_take_drop] using this
   ·cases hp
 ·obtain⟨vs,rfl,hr⟩:=h;cases g
  ·simp only[Ka,Km] at hp;obtain⟨u,hu,h1⟩:=hr.get off r hp;have aa : vs[off]?=some u:=by simpa using hu
   exact⟨vs,u,rfl,by simp[part,Vf hg,aa],h1.rep2.rep⟩
  ·simp only[Kl] at hp;split at hp
   ·cases hp;exact⟨vs,.agg (vs.extract off (off+P.cellsOf t)),rfl,by simp[part,Vf hg,hs],Zib (ZvB (hr.mono fun _ _ h=>h.repB) _ _)⟩
   ·cases hp
 ·cases hp
theorem VX (b o n:Nat):(⟨b,o,none⟩:Addr).add n=⟨b,o+n,none⟩:=by unfold Addr.add;split<;>simp_all
theorem ZnA {t:TypeId} {g:Bool} (hg:Zem P t=some g) {b o:Nat} {vs:List Value} (h:Qv w b o vs) (hl:vs.length=P.cellsOf t) (h1:g=false→∃ u,vs[0]?=some u) :
  ∃ u,(loadVar t ⟨b,o,none⟩).run P w=.ok u w∧(if g then u=.agg vs.toArray else vs[0]?=some u):=by
 obtain⟨i,hi⟩:=Zid hg;cases g
 ·obtain⟨u,hu⟩:=h1 rfl;have:=h 0 u hu;exact⟨u,by simp[loadVar,Vf hg,show w.cell? ⟨b,o,none⟩=some u from by simpa using this],by simpa using hu⟩
 ·refine⟨.agg vs.toArray,?_,by simp⟩;have hc:(loadCells ⟨b,o,none⟩ vs.length).run P w=.ok vs.toArray w:=run_loadCells_list (P:=P) w _ vs fun j u hu=>by
   rw[VX];exact h j u hu
  rw[hl] at hc;simp[loadVar,Vf hg,QW hi w,hc]
def JF (Γ:Gh) (w:World) (I F A:Nat→Prop) (hp:Hp):Prop:=∀ id o,lkp hp id=some o→YF Γ w I F A id o
theorem Qv.drop {b o:Nat} {vs:List Value} (h:Qv w b o vs) (n:Nat):Qv w b (o+n) (vs.drop n):=fun j u hu=>by
 have:=h (n+j) u (by simpa [Lo] using hu);simpa [KS] using this
theorem Qv.take {b o:Nat} {vs:List Value} (h:Qv w b o vs) (n:Nat):Qv w b o (vs.take n):=fun j u hu=>by
 rw[Lp] at hu;split at hu
 ·exact h j u hu
 ·cases hu
theorem ZgG {b:Nat} {cur:Array Value} {e:TypeId} {fr:Nat×Nat} (h:w.heap[b]?=some (.cells cur e fr)):Qv w b 0 cur.toList:=fun j u hu=>by
 rw[cell_of_row w b _ cur e fr h];simpa using hu
theorem Q4.drop {S:Nat→Prop} {ds:List D} {vs:List Value} (h:Q4 w S ds vs) (n:Nat):Q4 w S (ds.drop n) (vs.drop n):=Xm.2 ((Xm.1 h).drop n)
theorem Q4.take {S:Nat→Prop} {ds:List D} {vs:List Value} (h:Q4 w S ds vs) (n:Nat):Q4 w S (ds.take n) (vs.take n):=Xm.2 ((Xm.1 h).take n)
theorem ZpJ {t:TypeId} {g:Bool} (hg:Zem P t=some g) {b o off:Nat} {cs:List D} {vs:List Value} (hr:Q4 w I cs vs) (h:Qv w b o vs) {r:AV} (hp:ZbF g (P.cellsOf t) off cs=some r) :
  ∃ u,(loadVar t ⟨b,o+off,none⟩).run P w=.ok u w∧Rep Γ w I r u:=by
 unfold ZbF at hp;cases g
 ·simp only[Ka,Km,asD] at hp;obtain⟨d,hd,hp⟩:=Za hp;cases hp;obtain⟨u,hu,h1,h2⟩:=(Xm.1 hr).get off d hd;have:=h off u hu;exact⟨u,by simp[loadVar,Vf hg,this],Qi.2 ((Xo.one h1).2 h2)⟩
 ·simp only[Kl] at hp;split at hp
  ·rename_i hl;cases hp;obtain⟨u,h1,h2⟩:=ZnA (P:=P) hg (h:=(h.drop off).take (P.cellsOf t)) (by rw[LB,LV,← hr.length];omega) (fun h=>by cases h);simp only[Kl] at h2;subst h2;exact⟨_,h1,Qi.2 ⟨_,rfl,by simpa using (hr.drop off).take (P.cellsOf t)⟩⟩
  ·cases hp
variable {F A:Nat→Prop} {hp:Hp}
theorem ZpK {id sz n c i:Nat} {a:Option Addr} {xs:List D} {ex fz:Bool} (h:Zkt w I F A a n c sz xs ex fz) {x:D} (hx:xs[i]?=some x) :
  ∃ g o vs,a=some ⟨g,o,none⟩∧vs.length=sz∧Qv w g (o+i*sz) vs∧ZP w I x vs:=by
 obtain⟨h1,h2⟩:=h;rcases h2 with ⟨h2,_⟩ | ⟨g,o,cur,e,ha,_,_,_,_,_,_,_,_,hr⟩
 ·have:xs=[]:=Ks o_;subst this;simp at hx
 ·obtain⟨vs,h3,h4,h5⟩:=X3.1 hr i x hx;refine⟨g,o,vs,ha,h3,h4,?_⟩;cases ex
  ·exact h5
  ·exact h5.mono ⟨fun b hb=>hb.1,fun _ _=>rfl⟩
theorem ZsM {sz ns n c i:Nat} {a:Option Addr} {xs:List D} {hl:Option Nat} (h:ZjD w I F a n c sz ns xs hl) {x:D} (hx:xs[i]?=some x) :
  ∃ g vs B,a=some ⟨g,0,none⟩∧vs.length=sz∧Qv (Up w g hl) g (i*sz) vs∧Qd (Up w g hl) ns B x.cells vs:=by
 obtain⟨h1,h2⟩:=h;rcases h2 with ⟨h2,_⟩ | ⟨g,cur,e,B,ha,_,_,_,_,_,_,hr,_⟩
 ·have:xs=[]:=Ks o_;subst this;simp at hx
 ·obtain⟨vs,B1,Bn,B2,_,h3,h4,h5,_⟩:=hr.at hx;exact⟨g,vs,Bn,ha,h3,by simpa using h4,h5.cells⟩
theorem ZyG {sz i j i' j' : Nat} (hj:j<sz) (aa : j' < sz) (e:i*sz+j=i' * sz+j'):i=i'∧j=j':=by
 have k1:(i*sz+j) / sz=i:=by rw[Nat.mul_comm,Nat.mul_add_div o_,Nat.div_eq_of_lt hj];omega
 have k2:(i' * sz+j') / sz=i':=by rw[Nat.mul_comm,Nat.mul_add_div o_,Nat.div_eq_of_lt aa];omega
 rw[e,k2] at k1;subst k1;exact⟨rfl,o_⟩
theorem Yj.away {a:Option Addr} {sz ns i off:Nat} {xs:List D} {lk:Option (Option Nat×Nat×Nat)} (h:Yj Γ w a sz ns xs lk) (aa:off<sz) {x:D} (hx:xs[i]?=some x) (hc:∀ ys,x.cells[off]?≠some (.sl ys)) :
  Y4 sz lk≠some (i*sz+off):=by
 cases lk with
 | none=>simp[Y4]
 | some q=>
  obtain⟨nm,i',j⟩:=q;obtain⟨h1,h2,h3,_⟩:=h;simp only[Y4,ne_eq,Option.some.injEq];intro e;obtain⟨rfl,rfl⟩:=ZyG h2 aa e;unfold UQ at h3;rw[hx,Zg] at h3;split at h3
  ·rename_i ys ab;exact hc ys ab
  ·cases h3
theorem ZzH {x:AV} {v:Value} (h:Xw Γ w I x v):Xw Γ w I (Zkz x) v:=by
 cases x with
 | bbuf _ _=>trivial
 | _=>exact h
theorem ZvD {t:TypeId} {g:Bool} (hg:Zem P t=some g) (ho:JF Γ w I F A hp) {x r:AV} {v:Value} (h:Rep Γ w I x v) (hp' : WJ hp g (P.cellsOf t) x=some r) :
  ∃ u,(Instr.loadAt t v).run P w=.ok u w∧Rep Γ w I r u:=by
 unfold WJ at hp';split at hp'
 ·rename_i id off;obtain⟨b,hb,rfl⟩:=h;unfold J3 at hp';split at hp'
  ·rename_i cs hl;obtain⟨b',cur,e,aa,hw,_,_,hc,_⟩:=ho id _ hl;rw[hb] at aa;cases aa;have ab:=ZgG hw;cases g
   ·simp only[Ka,Km] at hp';obtain⟨r0,ai,rfl⟩:=Option.map_eq_some_iff.1 hp';obtain⟨u,hu,h1⟩:=hc.get off r0 ai;have:=ab off u hu;exact⟨u,by simp only[K8] at this;simp[Instr.loadAt,Instr.sureAddr,loadVar,Vf hg,this],(ZzH h1).rep2.rep⟩
   ·simp only[Kl] at hp';split at hp'
    ·cases hp';obtain⟨u,h1,h2⟩:=ZnA (P:=P) hg (h:=(ab.drop off).take (P.cellsOf t)) (by rw[LB,LV,← hc.length];omega) (fun h=>by cases h);simp only[Kl] at h2;subst h2;refine⟨_,by simpa [Instr.loadAt,Instr.sureAddr] using h1,Zib ?_⟩;simpa using (hc.drop off).take (P.cellsOf t)
    ·cases hp'
  ·cases hp'
 ·rename_i id sz i off;obtain⟨b,o0,n,c,hb,hi,rfl⟩:=h;unfold UM at hp';split at hp'
  ·rename_i aj xs ex fz hl;split at hp'
   ·rename_i ae;subst ae;obtain⟨a,n',c',aa,ak⟩:=ho id _ hl;rw[hb] at aa;cases aa;obtain⟨y,hy,hp'⟩:=Za hp';obtain⟨g',o1,vs,ha,h3,h4,h5⟩:=ZpK (id:=id) ak hy;cases ha;unfold ZkA at hp';split at hp'
    ·have:=ZpJ (P:=P) (Γ:=Γ) hg h5.cells h4 hp';obtain⟨u,h6,h7⟩:=this;exact⟨u,by simpa [Instr.loadAt,Instr.sureAddr,KS] using h6,h7⟩
    ·cases hp'
   ·cases hp'
  ·rename_i aj ns xs lk hl;split at hp'
   ·rename_i ae;subst ae;cases g
    ·simp only[Ka,Km] at hp';obtain⟨a,n',c',aa,hd,ad⟩:=ho id _ hl;rw[hb] at aa;cases aa;obtain⟨y,hy,hq⟩:=Za hp';clear hp';obtain⟨g',vs,B,ha,h3,h4,h5⟩:=ZsM hd hy;cases ha;unfold UK at hq;split at hq
     ·unfold ZnC at hq;split at hq
      ·split at hq
       ·rename_i hc;obtain⟨rfl,rfl⟩:=hc;cases hq;obtain⟨_,_,_,ad⟩:=ad;obtain⟨g2,a2,n2,c2,ha2,h6,h9⟩:=ad _ rfl;cases ha2;exact⟨_,by simp[Instr.loadAt,Instr.sureAddr,loadVar,Vf hg,h9],⟨a2,n2,c2,_,h6,rfl⟩⟩
       ·cases hq
      ·cases hq
     ·rename_i y' ag ah;split at hq
      ·cases hq;obtain⟨u,_,_,_,hu,_,h6⟩:=h5.get ah;have af:off<sz:=by have:=(Kc.1 hu).1;omega
       have:=h4 off u hu;rw[Zxi (ad.away af hy fun ys e=>ag ys (by rw[ah] at e;exact Option.some.inj e)) ] at this;have h7:=(h6.plain (S:=I) fun ys e=>ag ys e).2;exact⟨u,by simp[Instr.loadAt,Instr.sureAddr,loadVar,Vf hg,this],Qi.2 ((Xo.one (by cases y' <;> simp_all [D.plain,D.one])).2 (Zei h7.1 h7.2))⟩
      ·cases hq
     ·cases hq
    ·simp only[Kl] at hp';cases hp'
   ·cases hp'
  ·cases hp'
 ·rename_i cs;obtain⟨b,o,vs,rfl,hI,ab,hr⟩:=h;obtain⟨u,h6,h7⟩:=ZpJ (P:=P) (Γ:=Γ) hg hr ab hp';exact⟨u,by simpa [Instr.loadAt,Instr.sureAddr] using h6,h7⟩
 ·cases hp'
theorem ZsN {off:Nat} {x:AV} {v:Value} {ce:Ze} (h:Rep Γ w I x v) (hp:V0 off x=some ce) :
  ∃ b o r,v=.pointer (some ⟨b,o,none⟩)∧ce = { eff := { val:=r },gone:=[] }∧Rep Γ w I r (.pointer (some ⟨b,o+off,none⟩)):=by
 unfold V0 at hp;split at hp
 ·obtain⟨b,hb,rfl⟩:=h;cases hp;exact⟨b.1,_,_,rfl,rfl,b,hb,rfl⟩
 ·obtain⟨b,o,n,c,hb,hi,rfl⟩:=h;cases hp;exact⟨b,_,_,rfl,rfl,b,o,n,c,hb,hi,by simp only[KS]⟩
 ·obtain⟨b,o,vs,rfl,hI,aa,hr⟩:=h;cases hp;exact⟨b,_,_,rfl,rfl,b,o+off,vs.drop off,rfl,hI,aa.drop off,hr.drop off⟩
 ·cases hp
theorem ZzI {s:TypeId} {f:Nat} {q:Nat×TypeId} (hq:ZeX P s f=some q) {x:AV} {v:Value} {ce:Ze} (h:Rep Γ w I x v) (hp:V0 q.1 x=some ce) :
  ∃ u r,(Instr.fieldAt s v f).run P w=.ok u w∧ce = { eff := { val:=r },gone:=[] }∧Rep Γ w I r u:=by
 obtain⟨fs,y,h1,h2,h3,h4,h5⟩:=ZgF hq;obtain⟨b,o,r,rfl,h6,h7⟩:=ZsN h hp;obtain⟨i,hi⟩:=ZiT h5;refine⟨_,r,?_,h6,h7⟩;simp[Instr.fieldAt,run_underlying h1,h2,Instr.sureAddr,fieldPlace,h4,QW hi,h5,VX,h3]
theorem ZzJ {t:TypeId} {a:Nat×TypeId} (ha:ZjJ P t=some a) (hi:∃ i,P.info? a.2=some i) {x y:AV} {v k:Value} {n:Int} (h:Rep Γ w I x v) (hk:Rep Γ w I y k) (hn:idx y=some n) {ce:Ze}
  (hp:ZpU x n a.1 (P.cellsOf a.2)=some ce):∃ u r,(Instr.indexAt t v k).run P w=.ok u w∧ce = { eff := { val:=r },gone:=[] }∧Rep Γ w I r u:=by
 obtain⟨kk,rfl⟩:=VF hn hk;obtain⟨i,hi⟩:=hi;unfold ZpU at hp;split at hp
 ·rename_i hb;obtain⟨b,o,r,rfl,h6,h7⟩:=ZsN h hp;refine⟨_,r,?_,h6,h7⟩;simp[Instr.indexAt,asIntOf,run_underlying (ZsK ha),Instr.sureAddr,hb.1,hb.2,QW hi,VX]
 ·cases hp
theorem ZrR {sz n:Nat} (ho:JF Γ w I F A hp) {x r:AV} {v:Value} (h:Rep Γ w I x v) (hp' : QG hp sz n x=some r) :
  ∃ b o m c,v=.slice (some ⟨b,o,none⟩) m c∧n<m∧Rep Γ w I r (.pointer (some ⟨b,o+n*sz,none⟩)):=by
 unfold QG at hp';split at hp'
 ·rename_i xs;obtain⟨y,hy,hp'⟩:=Za hp';have:=Qi.1 h;simp only[Xo,ZP] at this;obtain⟨a,c,hv,hc,h1⟩:=this;simp at hv;subst hv;have ad:n<xs.length:=(Kc.1 hy).1;rcases h1 with h1 | ⟨b,o,af,rfl,hI,h0,hr⟩
  ·subst h1;simp at hy
  ·obtain⟨vs,h3,h4,h5⟩:=X3.1 hr n y hy;unfold ZyI at hp';split at hp'
   ·rename_i ag;cases hp';have:af=sz:=by rw[← h3,h5.length,ag]
    subst this;exact⟨b,o,_,c,rfl,ad,b,_,vs,rfl,hI,h4,h5.cells⟩
   ·cases hp'
 ·rename_i id;obtain⟨a,m,c,af,hb,rfl⟩:=h;unfold ZcW at hp';split at hp'
  ·rename_i ae xs ex fz hl;split at hp'
   ·rename_i hc;cases hp';obtain⟨rfl,ad⟩:=hc;obtain⟨a',n',c',aa,ab⟩:=ho id _ hl;rw[hb] at aa;cases aa;obtain⟨y,hy⟩:∃ y,xs[n]?=some y:=⟨_,KK ad⟩
    obtain⟨g',o1,vs,rfl,h3,h4,h5⟩:=ZpK (id:=id) ab hy;have hm:m=xs.length:=ab.1;exact⟨g',o1,m,c,rfl,o_,g',o1,m,c,hb,o_,by simp⟩
   ·cases hp'
  ·rename_i ae ns xs lk hl;split at hp'
   ·rename_i hc;cases hp';obtain⟨rfl,ad⟩:=hc;obtain⟨a',n',c',aa,ab,_⟩:=ho id _ hl;rw[hb] at aa;cases aa;obtain⟨y,hy⟩:∃ y,xs[n]?=some y:=⟨_,KK ad⟩
    obtain⟨g',vs,B,rfl,h3,h4,h5⟩:=ZsM ab hy;have hm:m=xs.length:=ab.1;exact⟨g',0,m,c,rfl,o_,g',0,m,c,hb,o_,by simp⟩
   ·cases hp'
  ·cases hp'
 ·rename_i id off m;obtain⟨a0,m',c,af,a,hb,h1,h2,rfl,h3,h4⟩:=h;unfold ZbH at hp';split at hp'
  ·rename_i ae xs ex fz hl;split at hp'
   ·rename_i hc;cases hp';obtain⟨rfl,ad⟩:=hc;obtain⟨a',n',c',aa,ab⟩:=ho id _ hl;rw[hb] at aa;cases aa;have hm:m'=xs.length:=ab.1;obtain⟨y,hy⟩:∃ y,xs[off+n]?=some y:=⟨_,KK o_⟩
    obtain⟨g',o1,vs,rfl,h5,h6,h7⟩:=ZpK (id:=id) ab hy;rcases h4 with h4 | h4
    ·subst h4;refine⟨g',o1+off*af,m,c-off,by simp[VX],ad,g',o1,m',c,hb,o_,?_⟩;rw[KR];simp[KS]
    ·omega
   ·cases hp'
  ·cases hp'
 ·cases hp'
theorem ZzK {t e:TypeId} (he:X4 P t=some e) (hi:∃ i,P.info? e=some i) (ho:JF Γ w I F A hp) {x y r:AV} {v k:Value} {n:Int} (h:Rep Γ w I x v) (hk:Rep Γ w I y k) (hn:idx y=some n)
  (h0:0≤n) (hp' : QG hp (P.cellsOf e) n.toNat x=some r):∃ u,(Instr.indexAt t v k).run P w=.ok u w∧Rep Γ w I r u:=by
 obtain⟨kk,rfl⟩:=VF hn hk;obtain⟨i,hi⟩:=hi;obtain⟨b,o,m,c,rfl,ab,hr⟩:=ZrR ho h hp';have aa : n<(m:Int):=o_
 exact⟨_,by simp[Instr.indexAt,asIntOf,run_underlying (QV he),h0,aa,QW hi,VX],hr⟩
end
end Go.Abs
