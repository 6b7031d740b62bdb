/- Own text. -/
import GoSem.Core.World
import Derived.Test.YtcefneehgbiebaaGreatDoorAbsRun
import Derived.Below
set_option linter.unusedVariables false
set_option linter.unusedSimpArgs false
namespace Go.Abs
open Go
def Zue:List Value:=(List.range 20).map fun i=>Value.int .u64 ((10 ^ i:Nat):Int)
def gtabs:List (Nat×Array Value):=[(3,Zue.toArray)]
end Go.Abs
set_option linter.unusedVariables false
set_option linter.unusedSimpArgs false
namespace Go.Abs
open Go
def Zu {α β:Type} (R:α→β→Prop):List α→List β→Prop
 | [],[]=>True
 | a :: as,b :: bs=>R a b∧Zu R as bs
 | _,_=>False
section
variable {α β:Type} {R R' : α→β→Prop}
theorem Zu.length:∀ {as:List α} {bs:List β},Zu R as bs→as.length=bs.length
 | [],[],_=>rfl
 | _ :: _,_ :: _,h=>congrArg (·+1) (Zu.length h.2)
 | [],_ :: _,h=>h.elim
 | _ :: _,[],h=>h.elim
theorem Zu.mono (hr:∀ a b,R a b→R' a b):∀ {as:List α} {bs:List β},Zu R as bs→Zu R' as bs
 | [],[],_=>trivial
 | _ :: _,_ :: _,h=>⟨hr _ _ h.1,Zu.mono hr h.2⟩
 | [],_ :: _,h=>h.elim
 | _ :: _,[],h=>h.elim
theorem Zu.get:∀ {as:List α} {bs:List β},Zu R as bs→∀ (i:Nat) (a:α),as[i]?=some a→∃ b,bs[i]?=some b∧R a b
 | [],[],_,i,a,h=>by simp at h
 | a :: as,b :: bs,h,0,a',ha=>by simp at ha;subst ha;exact⟨b,by simp,h.1⟩
 | a :: as,b :: bs,h,i+1,a',ha=>by simp at ha;obtain⟨b',h1,h2⟩:=Zu.get h.2 i a' ha;exact⟨b',by simp[h1],h2⟩
 | [],_ :: _,h,_,_,_=>h.elim
 | _ :: _,[],h,_,_,_=>h.elim
theorem Zu.get' : ∀ {as:List α} {bs:List β},Zu R as bs→∀ (i:Nat) (b:β),bs[i]?=some b→∃ a,as[i]?=some a∧R a b
 | [],[],_,i,a,h=>by simp at h
 | a :: as,b :: bs,h,0,b',hb=>by simp at hb;subst hb;exact⟨a,by simp,h.1⟩
 | a :: as,b :: bs,h,i+1,b',hb=>by simp at hb;obtain⟨a',h1,h2⟩:=Zu.get' h.2 i b' hb;exact⟨a',by simp[h1],h2⟩
 | [],_ :: _,h,_,_,_=>h.elim
 | _ :: _,[],h,_,_,_=>h.elim
theorem Zu.of_get:∀ {as:List α} {bs:List β},as.length=bs.length→(∀ (i:Nat) (a:α) (b:β),as[i]?=some a→bs[i]?=some b→R a b)→Zu R as bs
 | [],[],_,_=>trivial
 | a :: as,b :: bs,hl,h=>⟨h 0 a b (by simp) (by simp),Zu.of_get (by simpa using hl) fun i a' b' ha hb=>h (i+1) a' b' (by simpa using ha) (by simpa using hb)⟩
 | [],_ :: _,hl,_=>by simp at hl
 | _ :: _,[],hl,_=>by simp at hl
theorem Zu.append:∀ {as aa : List α} {bs ab : List β},Zu R as bs→Zu R aa ab→Zu R (as++aa) (bs++ab)
 | [],_,[],_,_,h'=>h'
 | _ :: _,_,_ :: _,_,h,h'=>⟨h.1,Zu.append h.2 h'⟩
 | [],_,_ :: _,_,h,_=>h.elim
 | _ :: _,_,[],_,h,_=>h.elim
theorem Zu.take (n:Nat):∀ {as:List α} {bs:List β},Zu R as bs→Zu R (as.take n) (bs.take n):=by
 induction n with
 | zero=>intro as bs _;simp[Zu]
 | succ n ih=>
  intro as bs h;cases as<;>cases bs
  ·simp[Zu]
  ·exact h.elim
  ·exact h.elim
  ·exact⟨h.1,ih h.2⟩
theorem Zu.drop (n:Nat):∀ {as:List α} {bs:List β},Zu R as bs→Zu R (as.drop n) (bs.drop n):=by
 induction n with
 | zero=>intro as bs h;simpa using h
 | succ n ih=>
  intro as bs h;cases as<;>cases bs
  ·simp[Zu]
  ·exact h.elim
  ·exact h.elim
  ·simpa using ih h.2
theorem Zu.map {γ δ:Type} {S:γ→δ→Prop} {f:α→γ} {g:β→δ} (hr:∀ a b,R a b→S (f a) (g b)):∀ {as:List α} {bs:List β},Zu R as bs→Zu S (as.map f) (bs.map g)
 | [],[],_=>trivial
 | _ :: _,_ :: _,h=>⟨hr _ _ h.1,Zu.map hr h.2⟩
 | [],_ :: _,h=>h.elim
 | _ :: _,[],h=>h.elim
theorem Zu.map_left {γ:Type} {S:γ→β→Prop} {f:α→γ} (hr:∀ a b,R a b→S (f a) b):∀ {as:List α} {bs:List β},Zu R as bs→Zu S (as.map f) bs
 | [],[],_=>trivial
 | _ :: _,_ :: _,h=>⟨hr _ _ h.1,Zu.map_left hr h.2⟩
 | [],_ :: _,h=>h.elim
 | _ :: _,[],h=>h.elim
theorem Zu.set {as:List α} {bs:List β} (h:Zu R as bs) (i:Nat) {a:α} {b:β} (aa:R a b):Zu R (as.set i a) (bs.set i b):=by
 refine Zu.of_get (by simp[h.length]) fun j a' b' ha hb=>?_;rw[LB] at ha hb;rw[h.length] at ha;split at ha
 ·split at ha
  ·rename_i h1 h2;subst h1;simp[h2] at ha hb;subst ha;rw[← hb];exact aa
  ·cases ha
 ·rename_i h1;simp[h1] at hb;obtain⟨ab,h2,h3⟩:=h.get j a' ha;rw[hb] at h2;cases h2;exact h3
end
def QE (w:World) (b o:Nat) (vs:List Value):Prop:=∀ j u,vs[j]?=some u→w.cell? ⟨b,o+j,none⟩=some u
theorem QE.mono {w w' : World} {b o:Nat} {vs:List Value} (h:QE w b o vs) (hb:w'.heap[b]?=w.heap[b]?):QE w' b o vs:=
 fun j u hu=>(World.cell?_of_block (w:=w) (a:=⟨b,o+j,none⟩) hb).trans (h j u hu)
mutual
def ZQ (w:World) (S:Nat→Prop):D→List Value→Prop
 | .int k n,vs=>vs=[.int k n]
 | .bool b,vs=>vs=[.bool b]
 | .str s,vs=>∃ t:ByteArray,vs=[.string t]∧t.data.toList=s
 | .sl xs,vs=>∃ a c,vs=[.slice a xs.length c]∧xs.length≤c∧(xs=[]∨∃ b o sz,a=some ⟨b,o,none⟩∧S b∧0<sz∧JY w S b sz xs o)
 | .agg cs,vs=>Xy w S cs vs
def Xy (w:World) (S:Nat→Prop):List D→List Value→Prop
 | [],vs=>vs=[]
 | d :: ds,vs=>∃ v r,vs=v :: r∧d.one=true∧ZQ w S d [v]∧Xy w S ds r
def JY (w:World) (S:Nat→Prop) (b sz:Nat):List D→Nat→Prop
 | [],_=>True
 | d :: ds,o=>(∃ vs:List Value,vs.length=sz∧QE w b o vs∧ZQ w S d vs)∧JY w S b sz ds (o+sz)
end
section
variable {w:World} {S:Nat→Prop}
theorem Xu:∀ {ds:List D} {vs:List Value},Xy w S ds vs↔Zu (fun d v=>d.one=true∧ZQ w S d [v]) ds vs
 | [],[]=>by simp[Xy,Zu]
 | [],_ :: _=>by simp[Xy,Zu]
 | d :: ds,[]=>by simp[Xy,Zu]
 | d :: ds,v :: vs=>by
  simp only[Xy,Zu,Xu (ds:=ds) (vs:=vs)];constructor
  ·rintro ⟨v',r,h,h1,h2,h3⟩
   cases h;exact⟨⟨h1,h2⟩,Xu.1 h3⟩
  ·rintro ⟨⟨h1,h2⟩,h3⟩
   exact⟨v,vs,rfl,h1,h2,Xu.2 h3⟩
theorem Ya {b sz:Nat}:∀ {xs:List D} {o:Nat},JY w S b sz xs o ↔
  ∀ i x,xs[i]?=some x→∃ vs:List Value,vs.length=sz∧QE w b (o+i*sz) vs∧ZQ w S x vs
 | [],o=>by simp[JY]
 | d :: ds,o=>by
  simp only[JY,Ya (xs:=ds)];constructor
  ·rintro ⟨h1,h2⟩ i x hx
   cases i with
   | zero=>simp at hx;subst hx;simpa using h1
   | succ i=>
    simp at hx;obtain⟨vs,h3,h4,h5⟩:=h2 i x hx;refine⟨vs,h3,?_,h5⟩;have:o+(i+1)*sz=o+sz+i*sz:=by rw[KH];omega
    rw[this];exact h4
  ·intro h;refine⟨by simpa using h 0 d (by simp),fun i x hx=>?_⟩;obtain⟨vs,h3,h4,h5⟩:=h (i+1) x (by simpa using hx);refine⟨vs,h3,?_,h5⟩;have:o+(i+1)*sz=o+sz+i*sz:=by rw[KH];omega
   rw[← this];exact h4
structure ZR (S S' : Nat→Prop) (w w' : World):Prop where
 sub:∀ b,S b→S' b
 blk:∀ b,S b→w'.heap[b]?=w.heap[b]?
mutual
theorem ZQ.mono {w' : World} {S' : Nat→Prop} (hk:ZR S S' w w'):∀ {d:D} {vs:List Value},ZQ w S d vs→ZQ w' S' d vs
 | .int _ _,_,h=>by simpa [ZQ] using h
 | .bool _,_,h=>by simpa [ZQ] using h
 | .str _,_,h=>by simpa [ZQ] using h
 | .sl xs,vs,h=>by
  simp only[ZQ] at h ⊢;obtain⟨a,c,h1,h2,h3⟩:=h;refine⟨a,c,h1,h2,?_⟩;rcases h3 with h3 | ⟨b,o,sz,h4,h5,h6,h7⟩
  ·exact .inl h3
  ·exact .inr ⟨b,o,sz,h4,hk.sub b h5,h6,JY.mono hk h5 h7⟩
 | .agg cs,vs,h=>by
  simp only[ZQ] at h ⊢;exact Xy.mono hk h
theorem Xy.mono {w' : World} {S' : Nat→Prop} (hk:ZR S S' w w'):∀ {ds:List D} {vs:List Value},Xy w S ds vs→Xy w' S' ds vs
 | [],_,h=>by simpa [Xy] using h
 | d :: ds,vs,h=>by
  simp only[Xy] at h ⊢;obtain⟨v,r,h1,h2,h3,h4⟩:=h;exact⟨v,r,h1,h2,ZQ.mono hk h3,Xy.mono hk h4⟩
theorem JY.mono {w' : World} {S' : Nat→Prop} (hk:ZR S S' w w') {b sz:Nat} (hb:S b):∀ {ds:List D} {o:Nat},JY w S b sz ds o→JY w' S' b sz ds o
 | [],_,_=>by simp[JY]
 | d :: ds,o,h=>by
  simp only[JY] at h ⊢;obtain⟨⟨vs,h1,h2,h3⟩,h4⟩:=h;exact⟨⟨vs,h1,h2.mono (hk.blk b hb),ZQ.mono hk h3⟩,JY.mono hk hb h4⟩
end
theorem JY.mono' {w' : World} {S' : Nat→Prop} (hk:ZR S S' w w') {b sz:Nat} (hb:w'.heap[b]?=w.heap[b]?) {ds:List D} {o:Nat} (h:JY w S b sz ds o):JY w' S' b sz ds o:=by
 rw[Ya] at h ⊢;intro i x hx;obtain⟨vs,h1,h2,h3⟩:=h i x hx;exact⟨vs,h1,h2.mono hb,h3.mono hk⟩
theorem Xy.length {ds:List D} {vs:List Value} (h:Xy w S ds vs):ds.length=vs.length:=(Xu.1 h).length
theorem ZQ.length {d:D} {vs:List Value} (h:ZQ w S d vs):vs.length=d.cells.length:=by
 cases d<;>simp only[ZQ] at h
 ·subst h;rfl
 ·subst h;rfl
 ·obtain⟨t,rfl,_⟩:=h;rfl
 ·obtain⟨a,c,rfl,_⟩:=h;rfl
 ·exact h.length.symm
theorem ZQ.cells {d:D} {vs:List Value} (h:ZQ w S d vs):Xy w S d.cells vs:=by
 cases d<;>simp only[D.cells,Xy]
 ·simp only[ZQ] at h;subst h;exact⟨_,[],rfl,rfl,by simp[ZQ],rfl⟩
 ·simp only[ZQ] at h;subst h;exact⟨_,[],rfl,rfl,by simp[ZQ],rfl⟩
 ·have h':=h;simp only[ZQ] at h;obtain⟨t,rfl,_⟩:=h;exact⟨_,[],rfl,rfl,h',rfl⟩
 ·have h':=h;simp only[ZQ] at h;obtain⟨a,c,rfl,_⟩:=h;exact⟨_,[],rfl,rfl,h',rfl⟩
 ·simpa [ZQ] using h
end
def XE (w:World) (S:Nat→Prop):D→Value→Prop
 | .agg cs,v=>∃ vs,v=.agg vs∧Xy w S cs vs.toList
 | d,v=>ZQ w S d [v]
theorem XE.mono {w w' : World} {S S' : Nat→Prop} (hk:ZR S S' w w') {d:D} {v:Value} (h:XE w S d v):XE w' S' d v:=by
 cases d<;>simp only[XE] at h ⊢
 ·exact h.mono hk
 ·exact h.mono hk
 ·exact h.mono hk
 ·exact h.mono hk
 ·obtain⟨vs,h1,h2⟩:=h;exact⟨vs,h1,h2.mono hk⟩
theorem XE.cells {w:World} {S:Nat→Prop} {d:D} {v:Value} (h:XE w S d v):ZQ w S d v.cells.toList:=by
 cases d<;>simp only[XE] at h
 ·have:=h;simp only[ZQ] at h;simp at h;subst h;exact this
 ·have:=h;simp only[ZQ] at h;simp at h;subst h;exact this
 ·have:=h;simp only[ZQ] at h;obtain⟨t,h,_⟩:=h;simp at h;subst h;exact this
 ·have:=h;simp only[ZQ] at h;obtain⟨a,c,h,_⟩:=h;simp at h;subst h;exact this
 ·obtain⟨vs,rfl,h2⟩:=h;simpa [ZQ,Value.cells] using h2
theorem XE.one {w:World} {S:Nat→Prop} {d:D} {v:Value} (hd:d.one=true):XE w S d v↔ZQ w S d [v]:=by
 cases d<;>simp[XE,D.one] at hd ⊢
inductive Ref where
 | box (b:Nat×TypeId)
 | row (a:Option Addr) (n c sz:Nat)
abbrev Gh:=Nat→Option Ref
def Vj (Γ:Gh) (w:World) (I:Nat→Prop):AV→Value→Prop
 | .d x,v=>x.one=true∧ZQ w I x [v]
 | .nil,v=>∃ a,v=.slice a 0 0
 | .nilp,v=>v=.pointer none
 | .nili,v=>v=.nilIface
 | .ptr id off,v=>∃ b,Γ id=some (.box b)∧v=.pointer (some ⟨b.1,off,none⟩)
 | .prow id sz i off,v=>∃ b n c,Γ id=some (.row (some ⟨b,0,none⟩) n c sz)∧i<n∧v=.pointer (some ⟨b,i*sz+off,none⟩)
 | .pim cs,v=>∃ b o vs,v=.pointer (some ⟨b,o,none⟩)∧I b∧QE w b o vs∧Xy w I cs vs
 | .own id,v=>∃ a n c sz,Γ id=some (.row a n c sz)∧v=.slice a n c
 | .ownv id off n,v=>∃ a0 m c sz a,Γ id=some (.row a0 m c sz)∧off+n≤m∧m≤c∧v=.slice a n (c-off)∧(off=0→a=a0)∧(a=a0.map (·.add (off*sz))∨c=off)
 | .sub id nm,v=>(∃ r,Γ id=some r)∧∃ a n c sz,Γ nm=some (.row a n c sz)∧v=.slice a n c
 | .bnil id e,v=>∃ b,Γ id=some (.box (b,e))∧(v=.pointer none∨v=.pointer (some ⟨b,0,none⟩))
 | .bbuf _ _,v=>∃ a n c,v=.slice a n c
 | .agg _,_=>False
 | .tup _,_=>False
 | .clo _ _,_=>False
 | .junk,_=>True
def XO (Γ:Gh) (w:World) (I:Nat→Prop):AV→Value→Prop
 | .clo f cs,v=>∃ us,v=.func (.func f) #[] us∧Zu (Vj Γ w I) cs us.toList
 | x,v=>Vj Γ w I x v
def Zac (Γ:Gh) (w:World) (I:Nat→Prop):AV→Value→Prop
 | .agg cs,v=>∃ vs,v=.agg vs∧Zu (Vj Γ w I) cs vs.toList
 | .clo f cs,v=>∃ us,v=.func (.func f) #[] us∧Zu (Vj Γ w I) cs us.toList
 | .d (.agg ds),v=>∃ vs,v=.agg vs∧Xy w I ds vs.toList
 | x,v=>Vj Γ w I x v
def Rep (Γ:Gh) (w:World) (I:Nat→Prop):AV→Value→Prop
 | .tup vs,v=>∃ us,v=.tuple us∧Zu (Zac Γ w I) vs us.toList
 | x,v=>Zac Γ w I x v
def Q9 (Γ Γ' : Gh):Prop:=∀ id r,Γ id=some r→Γ' id=some r
section
variable {Γ Γ' : Gh} {w w' : World} {I I' : Nat→Prop}
theorem Vj.mono (hg:Q9 Γ Γ') (hk:ZR I I' w w') {x:AV} {v:Value} (h:Vj Γ w I x v):Vj Γ' w' I' x v:=by
 cases x<;>simp only[Vj] at h ⊢
 ·exact⟨h.1,h.2.mono hk⟩
 ·exact h
 ·exact h
 ·exact h
 ·obtain⟨b,h1,h2⟩:=h;exact⟨b,hg _ _ h1,h2⟩
 ·obtain⟨b,n,c,h1,h2⟩:=h;exact⟨b,n,c,hg _ _ h1,h2⟩
 ·obtain⟨b,o,vs,h1,h2,h3,h4⟩:=h;exact⟨b,o,vs,h1,hk.sub b h2,h3.mono (hk.blk b h2),h4.mono hk⟩
 ·obtain⟨a,n,c,sz,h1,h2⟩:=h;exact⟨a,n,c,sz,hg _ _ h1,h2⟩
 ·obtain⟨a0,m,c,sz,a,h1,h2⟩:=h;exact⟨a0,m,c,sz,a,hg _ _ h1,h2⟩
 ·obtain⟨⟨r,h0⟩,a,n,c,sz,h1,h2⟩:=h;exact⟨⟨r,hg _ _ h0⟩,a,n,c,sz,hg _ _ h1,h2⟩
 ·obtain⟨b,h1,h2⟩:=h;exact⟨b,hg _ _ h1,h2⟩
 ·exact h
theorem XO.mono (hg:Q9 Γ Γ') (hk:ZR I I' w w') {x:AV} {v:Value} (h:XO Γ w I x v):XO Γ' w' I' x v:=by
 unfold XO at h ⊢;split at h
 ·obtain⟨vs,h1,h2⟩:=h;exact⟨vs,h1,h2.mono fun _ _ h=>h.mono hg hk⟩
 ·exact h.mono hg hk
theorem Zac.mono (hg:Q9 Γ Γ') (hk:ZR I I' w w') {x:AV} {v:Value} (h:Zac Γ w I x v):Zac Γ' w' I' x v:=by
 unfold Zac at h ⊢;split at h
 ·obtain⟨vs,h1,h2⟩:=h;exact⟨vs,h1,h2.mono fun _ _ h=>h.mono hg hk⟩
 ·obtain⟨vs,h1,h2⟩:=h;exact⟨vs,h1,h2.mono fun _ _ h=>h.mono hg hk⟩
 ·obtain⟨vs,h1,h2⟩:=h;exact⟨vs,h1,h2.mono hk⟩
 ·exact h.mono hg hk
theorem Rep.mono (hg:Q9 Γ Γ') (hk:ZR I I' w w') {x:AV} {v:Value} (h:Rep Γ w I x v):Rep Γ' w' I' x v:=by
 unfold Rep at h ⊢;split at h
 ·obtain⟨vs,h1,h2⟩:=h;exact⟨vs,h1,h2.mono fun _ _ h=>h.mono hg hk⟩
 ·exact h.mono hg hk
theorem Vj.repB {x:AV} {v:Value} (h:Vj Γ w I x v):XO Γ w I x v:=by
 cases x<;>first | exact h | exact h.elim
theorem Vj.rep2 {x:AV} {v:Value} (h:Vj Γ w I x v):Zac Γ w I x v:=by
 cases x<;>first | exact h | exact h.elim | skip
 rename_i x;cases x<;>first | exact h | skip
 simp[Vj,D.one] at h
theorem XO.rep2 {x:AV} {v:Value} (h:XO Γ w I x v):Zac Γ w I x v:=by
 cases x<;>first | exact Vj.rep2 h | exact h
theorem Zac.rep {x:AV} {v:Value} (h:Zac Γ w I x v):Rep Γ w I x v:=by
 cases x<;>first | exact h | exact h.elim
theorem QF {x:D} {v:Value}:Rep Γ w I (.d x) v↔XE w I x v:=by
 cases x<;>simp[Rep,Zac,Vj,XE,D.one]
theorem Zpg {x:D} {v:Value}:Zac Γ w I (.d x) v↔XE w I x v:=by
 cases x<;>simp[Zac,Vj,XE,D.one]
theorem ZvU:∀ {cs:List AV} {ds:List D} {vs:List Value},Zfz cs=some ds→Zu (XO Γ w I) cs vs→Xy w I ds vs
 | [],ds,[],h,_=>by simp[Zfz] at h;subst h;simp[Xy]
 | [],_,_ :: _,_,h=>h.elim
 | _ :: _,_,[],_,h=>h.elim
 | c :: cs,ds,v :: vs,h,hr=>by
  simp only[Zfz] at h;obtain⟨x,h1,h⟩:=Za h;obtain⟨aa,h2,h⟩:=Za h;cases h;refine⟨v,vs,rfl,?_,?_,ZvU h2 hr.2⟩
  ·unfold Zoo at h1;split at h1
   ·split at h1<;>cases h1;assumption
   ·cases h1
  ·unfold Zoo at h1;split at h1
   ·split at h1<;>cases h1;exact hr.1.2
   ·cases h1
theorem ZsT:∀ {cs:List AV} {vs:List Value},ZfA cs=false→Zu (XO Γ w I) cs vs→Zu (Vj Γ w I) cs vs
 | [],[],_,_=>trivial
 | [],_ :: _,_,h=>h.elim
 | _ :: _,[],_,h=>h.elim
 | c :: cs,v :: vs,h,hr=>by
  simp only[ZfA,L3] at h;refine⟨?_,ZsT h.2 hr.2⟩;cases c<;>first | exact hr.1 | (simp[Zsn] at h)
theorem Zif {cs:List AV} {vs:Array Value} (h:Zu (XO Γ w I) cs vs.toList):Rep Γ w I (J1 cs) (.agg vs):=by
 unfold J1;cases hd:Zfz cs with
 | some ds=>exact QF.2 ⟨vs,rfl,ZvU hd h⟩
 | none=>
  simp only[Jl];cases hc:ZfA cs
  ·exact⟨vs,rfl,ZsT hc h⟩
  ·exact trivial
theorem Rep.cells {x:AV} {v:Value} (hs:x.solid=true) (h:Rep Γ w I x v):Zu (XO Γ w I) x.cells v.cells.toList:=by
 cases x with
 | d x=>
  have h1:=(QF.1 h).cells.cells;rw[Xu] at h1;exact h1.map_left (f:=AV.d) (S:=XO Γ w I) fun a b aa=>aa
 | agg cs=>obtain⟨vs,rfl,h⟩:=h;exact h.mono fun _ _ h=>h.repB
 | clo f cs=>obtain⟨us,rfl,h⟩:=h;exact⟨⟨us,rfl,h⟩,trivial⟩
 | tup vs=>cases hs
 | junk=>cases hs
 | nil=>obtain⟨a,rfl⟩:=h;exact⟨⟨a,rfl⟩,trivial⟩
 | nilp=>obtain rfl:=h;exact⟨rfl,trivial⟩
 | nili=>obtain rfl:=h;exact⟨rfl,trivial⟩
 | ptr id off=>obtain⟨b,h1,rfl⟩:=h;exact⟨⟨b,h1,rfl⟩,trivial⟩
 | prow id sz i off=>obtain⟨b,n,c,h1,h2,rfl⟩:=h;exact⟨⟨b,n,c,h1,h2,rfl⟩,trivial⟩
 | pim cs=>obtain⟨b,o,vs,rfl,h⟩:=h;exact⟨⟨b,o,vs,rfl,h⟩,trivial⟩
 | own id=>
  obtain⟨a,n,c,sz,h1,rfl⟩:=h;exact⟨⟨a,n,c,sz,h1,rfl⟩,trivial⟩
 | ownv id off n=>obtain⟨a0,m,c,sz,a,h1,h2,h3,rfl,h4⟩:=h;exact⟨⟨a0,m,c,sz,a,h1,h2,h3,rfl,h4⟩,trivial⟩
 | sub id nm=>obtain⟨h0,a,n,c,sz,h1,rfl⟩:=h;exact⟨⟨h0,a,n,c,sz,h1,rfl⟩,trivial⟩
 | bnil id e=>
  obtain⟨b,h1,h2⟩:=h;rcases h2 with rfl | rfl
  ·exact⟨⟨b,h1,.inl rfl⟩,trivial⟩
  ·exact⟨⟨b,h1,.inr rfl⟩,trivial⟩
 | bbuf a b=>cases hs
end
def Zfe (w:World) (I F A:Nat→Prop) (a:Option Addr) (n cap sz:Nat) (xs:List D) (ex fz:Bool):Prop:=
 n=xs.length∧((n=0∧cap=0) ∨
 ∃ g cur e,a=some ⟨g,0,none⟩∧0<cap∧w.heap[g]?=some (.cells cur e (0,0))∧n≤cap∧cap≤maxLen∧cur.size=cap*sz∧0<sz ∧
  (if fz then I g else ¬I g)∧F g∧JY w (if ex then fun b=>I b∧A b else I) g sz xs 0)
def WK (w:World) (I F A:Nat→Prop) (ns:Nat):D→Value→Prop
 | .sl ys,v=>∃ a c,v=.slice a ys.length c∧Zfe w I F A a ys.length c ns ys true false∧Zb0 D.flat ys=true
 | y,v=>y.plain=true∧ZQ w I y [v]
def YB:Value→Option Nat
 | .slice (some ad) _ c=>if c=0 then none else some ad.block
 | _=>none
def YP (w:World) (g p:Nat):Option Nat:=match w.cell? ⟨g,p,none⟩ with
 | some v=>YB v
 | none=>none
def Zdf (w:World) (I F A:Nat→Prop) (a:Option Addr) (n cap sz ns:Nat) (xs:List D):Prop:=
 n=xs.length∧((n=0∧cap=0) ∨
 ∃ g cur e,a=some ⟨g,0,none⟩∧0<cap∧w.heap[g]?=some (.cells cur e (0,0))∧n≤cap∧cap≤maxLen∧cur.size=cap*sz∧0<sz∧¬I g∧F g ∧
  (∀ i x,xs[i]?=some x→∃ vs:List Value,vs.length=sz∧QE w g (i*sz) vs∧Zu (WK w I F A ns) x.cells vs) ∧
  (∀ p q b,p<n*sz→q<n*sz→YP w g p=some b→YP w g q=some b→p=q)∧∀ p,p<n*sz→YP w g p≠some g)
def Zuf (Γ:Gh) (w:World) (a:Option Addr) (sz:Nat) (xs:List D):Option (Nat×Nat×Nat)→Prop
 | none=>True
 | some (nm,i,j)=>∃ g a' n' c' sz',a=some ⟨g,0,none⟩∧Γ nm=some (.row a' n' c' sz')∧i<xs.length∧j<sz∧w.cell? ⟨g,i*sz+j,none⟩=some (.slice a' n' c')
def Zlt (w:World) (I F:Nat→Prop) (b te:Nat) (l:List UInt8) (v:Value):Prop:=
 l=[]∧v=.slice none 0 0 ∨
 ∃ g cap cur,v=.slice (some ⟨g,0,none⟩) l.length cap∧0<l.length∧w.heap[g]?=some (.cells cur te (0,0))∧l.length≤cap∧cap≤maxLen∧cur.size=cap∧cur.toList.take l.length=l.map (fun x=>Value.int .u8 x.toNat)∧¬I g∧F g∧g≠b
def Zcp (w:World) (I F:Nat→Prop) (b:Nat):List AV→List Value→Prop
 | [_,.bbuf te l],[_,v]=>Zlt w I F b te l v
 | cs,_=>XY cs=true
def Wa (Γ:Gh) (w:World) (I F A:Nat→Prop) (id:Nat):Zm→Prop
 | .box cs=>∃ b cur e,Γ id=some (.box (b,e))∧w.heap[b]?=some (.cells cur e (0,0))∧¬I b∧F b∧Zu (XO Γ w I) cs cur.toList∧Zcp w I F b cs cur.toList
 | .row sz xs ex fz=>∃ a n c,Γ id=some (.row a n c sz)∧Zfe w I F A a n c sz xs ex fz
 | .deep sz ns xs lk=>∃ a n c,Γ id=some (.row a n c sz)∧Zdf w I F A a n c sz ns xs∧Zuf Γ w a sz xs lk
def ZB:Option Ref→Option Nat
 | some (.box b)=>some b.1
 | some (.row (some a) _ c _)=>if c=0 then none else some a.block
 | some (.row none _ _ _)=>none
 | none=>none
def Ye (Γ:Gh) (w:World) (id:Nat):Zm→Nat→Prop
 | .deep sz _ xs _,b=>∃ g p,ZB (Γ id)=some g∧p<xs.length*sz∧YP w g p=some b
 | _,_=>False
def Buf (Γ:Gh) (w:World) (id:Nat):Zm→Nat→Prop
 | .box [_,.bbuf _ _],b=>∃ g,ZB (Γ id)=some g∧YP w g 1=some b
 | _,_=>False
def Blk (Γ:Gh) (w:World) (id:Nat) (o:Zm) (b:Nat):Prop:=ZB (Γ id)=some b∨Ye Γ w id o b∨Buf Γ w id o b
def Xp (U:Nat→Prop) (base:Nat):Prop:=∀ id,base≤id→id<base+64→¬U id
def Zad (U:Nat→Prop) (base:Nat) (id:Nat):Prop:=U id∨(base≤id∧id<base+64)
theorem Xp.self {U:Nat→Prop} {base:Nat} (h:Xp U base):¬U base:=h base (Kt _) (by omega)
def Zjl (I:Nat→Prop) (w:World):Prop:=∀ q∈gtabs,I q.1∧∃ e fr,w.heap[q.1]?=some (.cells q.2 e fr)
theorem Zjl.mono {I I' : Nat→Prop} {w w' : World} (h:Zjl I w) (hk:ZR I I' w w'):Zjl I' w':=fun q hq=>by
 obtain⟨h1,e,fr,h2⟩:=h q hq;exact⟨hk.sub _ h1,e,fr,by rw[hk.blk _ h1];exact h2⟩
structure Sim (nt:Nat) (F A I:Nat→Prop) (Γ:Gh) (U:Nat→Prop) (sl:Sl) (hp:Hp) (a:Act) (w:World):Prop where
 nt:a.tmps.size=nt
 dfr:a.defers=[]
 slots:∀ t,Rep Γ w I (gs sl t) (a.tmps.getD t undef)
 objs:∀ id o,lkp hp id=some o→Wa Γ w I F A id o
 inj:∀ i j o o' b,lkp hp i=some o→lkp hp j=some o'→Blk Γ w i o b→Blk Γ w j o' b→i=j
 bound:∀ b,I b→b<w.heap.size
 fresh:∀ b,w.heap.size≤b→F b
 own:∀ b,F b→A b
 names:∀ id,¬U id→Γ id=none
 glob:Zjl I w
structure Fr (F:Nat→Prop) (w w' : World):Prop where
 os:w'.os=w.os
 tape:w'.tape=w.tape
 output:w'.output=w.output
 size:w.heap.size≤w'.heap.size
 block:∀ k,k<w.heap.size→¬F k→w'.heap[k]?=w.heap[k]?
theorem Fr.refl (F:Nat→Prop) (w:World):Fr F w w:=⟨rfl,rfl,rfl,Kt _,fun _ _ _=>rfl⟩
theorem Fr.trans {F:Nat→Prop} {a b c:World} (h:Fr F a b) (k:Fr F b c):Fr F a c:=
 ⟨k.os.trans h.os,k.tape.trans h.tape,k.output.trans h.output,Kz h.size k.size,fun i hi hf=>(k.block i (LV hi h.size) hf).trans (h.block i hi hf)⟩
end Go.Abs
