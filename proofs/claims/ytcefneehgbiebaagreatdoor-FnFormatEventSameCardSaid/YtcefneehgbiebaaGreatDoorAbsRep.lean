/- Own text. -/
import GoSem.Core.World
import Derived.Test.YtcefneehgbiebaaGreatDoorAbsRun
import Derived.Below
set_option linter.unusedVariables false
set_option linter.unusedSimpArgs false
namespace Go.Abs
open Go
def Zs9:List Value:=(List.range 20).map fun i=>Value.int .u64 ((10 ^ i:Nat):Int)
def gtabs:List (Nat×Array Value):=[(3,Zs9.toArray)]
end Go.Abs
set_option linter.unusedVariables false
set_option linter.unusedSimpArgs false
namespace Go.Abs
open Go
def Zt {α β:Type} (R:α→β→Prop):List α→List β→Prop
 | [],[]=>True
 | a :: as,b :: bs=>R a b∧Zt R as bs
 | _,_=>False
section
variable {α β:Type} {R R' : α→β→Prop}
theorem Zt.length:∀ {as:List α} {bs:List β},Zt R as bs→as.length=bs.length
 | [],[],_=>rfl
 | _ :: _,_ :: _,h=>congrArg (·+1) (Zt.length h.2)
 | [],_ :: _,h=>h.elim
 | _ :: _,[],h=>h.elim
theorem Zt.mono (hr:∀ a b,R a b→R' a b):∀ {as:List α} {bs:List β},Zt R as bs→Zt R' as bs
 | [],[],_=>trivial
 | _ :: _,_ :: _,h=>⟨hr _ _ h.1,Zt.mono hr h.2⟩
 | [],_ :: _,h=>h.elim
 | _ :: _,[],h=>h.elim
theorem Zt.get:∀ {as:List α} {bs:List β},Zt R as bs→∀ (i:Nat) (a:α),as[i]?=some a→∃ b,bs[i]?=some b∧R a b
 | [],[],_,i,a,h=>by simp at h
 | a :: as,b :: bs,h,0,a',ha=>by simp at ha;subst ha;exact⟨b,by simp,h.1⟩
 | a :: as,b :: bs,h,i+1,a',ha=>by simp at ha;obtain⟨b',h1,h2⟩:=Zt.get h.2 i a' ha;exact⟨b',by simp[h1],h2⟩
 | [],_ :: _,h,_,_,_=>h.elim
 | _ :: _,[],h,_,_,_=>h.elim
theorem Zt.get' : ∀ {as:List α} {bs:List β},Zt R as bs→∀ (i:Nat) (b:β),bs[i]?=some b→∃ a,as[i]?=some a∧R a b
 | [],[],_,i,a,h=>by simp at h
 | a :: as,b :: bs,h,0,b',hb=>by simp at hb;subst hb;exact⟨a,by simp,h.1⟩
 | a :: as,b :: bs,h,i+1,b',hb=>by simp at hb;obtain⟨a',h1,h2⟩:=Zt.get' h.2 i b' hb;exact⟨a',by simp[h1],h2⟩
 | [],_ :: _,h,_,_,_=>h.elim
 | _ :: _,[],h,_,_,_=>h.elim
theorem Zt.of_get:∀ {as:List α} {bs:List β},as.length=bs.length→(∀ (i:Nat) (a:α) (b:β),as[i]?=some a→bs[i]?=some b→R a b)→Zt R as bs
 | [],[],_,_=>trivial
 | a :: as,b :: bs,hl,h=>⟨h 0 a b (by simp) (by simp),Zt.of_get (by simpa using hl) fun i a' b' ha hb=>h (i+1) a' b' (by simpa using ha) (by simpa using hb)⟩
 | [],_ :: _,hl,_=>by simp at hl
 | _ :: _,[],hl,_=>by simp at hl
theorem Zt.append:∀ {as aa : List α} {bs ab : List β},Zt R as bs→Zt R aa ab→Zt R (as++aa) (bs++ab)
 | [],_,[],_,_,h'=>h'
 | _ :: _,_,_ :: _,_,h,h'=>⟨h.1,Zt.append h.2 h'⟩
 | [],_,_ :: _,_,h,_=>h.elim
 | _ :: _,_,[],_,h,_=>h.elim
theorem Zt.take (n:Nat):∀ {as:List α} {bs:List β},Zt R as bs→Zt R (as.take n) (bs.take n):=by
 induction n with
 | zero=>intro as bs _;simp[Zt]
 | succ n ih=>
  intro as bs h;cases as<;>cases bs
  ·simp[Zt]
  ·exact h.elim
  ·exact h.elim
  ·exact⟨h.1,ih h.2⟩
theorem Zt.drop (n:Nat):∀ {as:List α} {bs:List β},Zt R as bs→Zt R (as.drop n) (bs.drop n):=by
 induction n with
 | zero=>intro as bs h;simpa using h
 | succ n ih=>
  intro as bs h;cases as<;>cases bs
  ·simp[Zt]
  ·exact h.elim
  ·exact h.elim
  ·simpa using ih h.2
theorem Zt.map {γ δ:Type} {S:γ→δ→Prop} {f:α→γ} {g:β→δ} (hr:∀ a b,R a b→S (f a) (g b)):∀ {as:List α} {bs:List β},Zt R as bs→Zt S (as.map f) (bs.map g)
 | [],[],_=>trivial
 | _ :: _,_ :: _,h=>⟨hr _ _ h.1,Zt.map hr h.2⟩
 | [],_ :: _,h=>h.elim
 | _ :: _,[],h=>h.elim
theorem Zt.map_left {γ:Type} {S:γ→β→Prop} {f:α→γ} (hr:∀ a b,R a b→S (f a) b):∀ {as:List α} {bs:List β},Zt R as bs→Zt S (as.map f) bs
 | [],[],_=>trivial
 | _ :: _,_ :: _,h=>⟨hr _ _ h.1,Zt.map_left hr h.2⟩
 | [],_ :: _,h=>h.elim
 | _ :: _,[],h=>h.elim
theorem Zt.set {as:List α} {bs:List β} (h:Zt R as bs) (i:Nat) {a:α} {b:β} (aa:R a b):Zt R (as.set i a) (bs.set i b):=by
 refine Zt.of_get (by simp[h.length]) fun j a' b' ha hb=>?_;rw[LC] at ha hb;rw[h.length] at ha;split at ha
 ·split at ha
  ·rename_i h1 h2;subst h1;simp[h2] at ha hb;subst ha;rw[← hb];exact aa
  ·cases ha
 ·rename_i h1;simp[h1] at hb;obtain⟨ab,h2,h3⟩:=h.get j a' ha;rw[hb] at h2;cases h2;exact h3
end
def QD (w:World) (b o:Nat) (vs:List Value):Prop:=∀ j u,vs[j]?=some u→w.cell? ⟨b,o+j,none⟩=some u
theorem QD.mono {w w' : World} {b o:Nat} {vs:List Value} (h:QD w b o vs) (hb:w'.heap[b]?=w.heap[b]?):QD w' b o vs:=
 fun j u hu=>(World.cell?_of_block (w:=w) (a:=⟨b,o+j,none⟩) hb).trans (h j u hu)
mutual
def ZO (w:World) (S:Nat→Prop):D→List Value→Prop
 | .int k n,vs=>vs=[.int k n]
 | .bool b,vs=>vs=[.bool b]
 | .str s,vs=>∃ t:ByteArray,vs=[.string t]∧t.data.toList=s
 | .sl xs,vs=>∃ a c,vs=[.slice a xs.length c]∧xs.length≤c∧(xs=[]∨∃ b o sz,a=some ⟨b,o,none⟩∧S b∧0<sz∧Jt w S b sz xs o)
 | .agg cs,vs=>Xr w S cs vs
def Xr (w:World) (S:Nat→Prop):List D→List Value→Prop
 | [],vs=>vs=[]
 | d :: ds,vs=>∃ v r,vs=v :: r∧d.one=true∧ZO w S d [v]∧Xr w S ds r
def Jt (w:World) (S:Nat→Prop) (b sz:Nat):List D→Nat→Prop
 | [],_=>True
 | d :: ds,o=>(∃ vs:List Value,vs.length=sz∧QD w b o vs∧ZO w S d vs)∧Jt w S b sz ds (o+sz)
end
section
variable {w:World} {S:Nat→Prop}
theorem Xn:∀ {ds:List D} {vs:List Value},Xr w S ds vs↔Zt (fun d v=>d.one=true∧ZO w S d [v]) ds vs
 | [],[]=>by simp[Xr,Zt]
 | [],_ :: _=>by simp[Xr,Zt]
 | d :: ds,[]=>by simp[Xr,Zt]
 | d :: ds,v :: vs=>by
  simp only[Xr,Zt,Xn (ds:=ds) (vs:=vs)];constructor
  ·rintro ⟨v',r,h,h1,h2,h3⟩
   cases h;exact⟨⟨h1,h2⟩,Xn.1 h3⟩
  ·rintro ⟨⟨h1,h2⟩,h3⟩
   exact⟨v,vs,rfl,h1,h2,Xn.2 h3⟩
theorem X5 {b sz:Nat}:∀ {xs:List D} {o:Nat},Jt w S b sz xs o ↔
  ∀ i x,xs[i]?=some x→∃ vs:List Value,vs.length=sz∧QD w b (o+i*sz) vs∧ZO w S x vs
 | [],o=>by simp[Jt]
 | d :: ds,o=>by
  simp only[Jt,X5 (xs:=ds)];constructor
  ·rintro ⟨h1,h2⟩ i x hx
   cases i with
   | zero=>simp at hx;subst hx;simpa using h1
   | succ i=>
    simp at hx;obtain⟨vs,h3,h4,h5⟩:=h2 i x hx;refine⟨vs,h3,?_,h5⟩;have:o+(i+1)*sz=o+sz+i*sz:=by rw[KE];omega
    rw[this];exact h4
  ·intro h;refine⟨by simpa using h 0 d (by simp),fun i x hx=>?_⟩;obtain⟨vs,h3,h4,h5⟩:=h (i+1) x (by simpa using hx);refine⟨vs,h3,?_,h5⟩;have:o+(i+1)*sz=o+sz+i*sz:=by rw[KE];omega
   rw[← this];exact h4
structure ZP (S S' : Nat→Prop) (w w' : World):Prop where
 sub:∀ b,S b→S' b
 blk:∀ b,S b→w'.heap[b]?=w.heap[b]?
mutual
theorem ZO.mono {w' : World} {S' : Nat→Prop} (hk:ZP S S' w w'):∀ {d:D} {vs:List Value},ZO w S d vs→ZO w' S' d vs
 | .int _ _,_,h=>by simpa [ZO] using h
 | .bool _,_,h=>by simpa [ZO] using h
 | .str _,_,h=>by simpa [ZO] using h
 | .sl xs,vs,h=>by
  simp only[ZO] at h ⊢;obtain⟨a,c,h1,h2,h3⟩:=h;refine⟨a,c,h1,h2,?_⟩;rcases h3 with h3 | ⟨b,o,sz,h4,h5,h6,h7⟩
  ·exact .inl h3
  ·exact .inr ⟨b,o,sz,h4,hk.sub b h5,h6,Jt.mono hk h5 h7⟩
 | .agg cs,vs,h=>by
  simp only[ZO] at h ⊢;exact Xr.mono hk h
theorem Xr.mono {w' : World} {S' : Nat→Prop} (hk:ZP S S' w w'):∀ {ds:List D} {vs:List Value},Xr w S ds vs→Xr w' S' ds vs
 | [],_,h=>by simpa [Xr] using h
 | d :: ds,vs,h=>by
  simp only[Xr] at h ⊢;obtain⟨v,r,h1,h2,h3,h4⟩:=h;exact⟨v,r,h1,h2,ZO.mono hk h3,Xr.mono hk h4⟩
theorem Jt.mono {w' : World} {S' : Nat→Prop} (hk:ZP S S' w w') {b sz:Nat} (hb:S b):∀ {ds:List D} {o:Nat},Jt w S b sz ds o→Jt w' S' b sz ds o
 | [],_,_=>by simp[Jt]
 | d :: ds,o,h=>by
  simp only[Jt] at h ⊢;obtain⟨⟨vs,h1,h2,h3⟩,h4⟩:=h;exact⟨⟨vs,h1,h2.mono (hk.blk b hb),ZO.mono hk h3⟩,Jt.mono hk hb h4⟩
end
theorem Jt.mono' {w' : World} {S' : Nat→Prop} (hk:ZP S S' w w') {b sz:Nat} (hb:w'.heap[b]?=w.heap[b]?) {ds:List D} {o:Nat} (h:Jt w S b sz ds o):Jt w' S' b sz ds o:=by
 rw[X5] at h ⊢;intro i x hx;obtain⟨vs,h1,h2,h3⟩:=h i x hx;exact⟨vs,h1,h2.mono hb,h3.mono hk⟩
theorem Xr.length {ds:List D} {vs:List Value} (h:Xr w S ds vs):ds.length=vs.length:=(Xn.1 h).length
theorem ZO.length {d:D} {vs:List Value} (h:ZO w S d vs):vs.length=d.cells.length:=by
 cases d<;>simp only[ZO] at h
 ·subst h;rfl
 ·subst h;rfl
 ·obtain⟨t,rfl,_⟩:=h;rfl
 ·obtain⟨a,c,rfl,_⟩:=h;rfl
 ·exact h.length.symm
theorem ZO.cells {d:D} {vs:List Value} (h:ZO w S d vs):Xr w S d.cells vs:=by
 cases d<;>simp only[D.cells,Xr]
 ·simp only[ZO] at h;subst h;exact⟨_,[],rfl,rfl,by simp[ZO],rfl⟩
 ·simp only[ZO] at h;subst h;exact⟨_,[],rfl,rfl,by simp[ZO],rfl⟩
 ·have h':=h;simp only[ZO] at h;obtain⟨t,rfl,_⟩:=h;exact⟨_,[],rfl,rfl,h',rfl⟩
 ·have h':=h;simp only[ZO] at h;obtain⟨a,c,rfl,_⟩:=h;exact⟨_,[],rfl,rfl,h',rfl⟩
 ·simpa [ZO] using h
end
def Xy (w:World) (S:Nat→Prop):D→Value→Prop
 | .agg cs,v=>∃ vs,v=.agg vs∧Xr w S cs vs.toList
 | d,v=>ZO w S d [v]
theorem Xy.mono {w w' : World} {S S' : Nat→Prop} (hk:ZP S S' w w') {d:D} {v:Value} (h:Xy w S d v):Xy w' S' d v:=by
 cases d<;>simp only[Xy] at h ⊢
 ·exact h.mono hk
 ·exact h.mono hk
 ·exact h.mono hk
 ·exact h.mono hk
 ·obtain⟨vs,h1,h2⟩:=h;exact⟨vs,h1,h2.mono hk⟩
theorem Xy.cells {w:World} {S:Nat→Prop} {d:D} {v:Value} (h:Xy w S d v):ZO w S d v.cells.toList:=by
 cases d<;>simp only[Xy] at h
 ·have:=h;simp only[ZO] at h;simp at h;subst h;exact this
 ·have:=h;simp only[ZO] at h;simp at h;subst h;exact this
 ·have:=h;simp only[ZO] at h;obtain⟨t,h,_⟩:=h;simp at h;subst h;exact this
 ·have:=h;simp only[ZO] at h;obtain⟨a,c,h,_⟩:=h;simp at h;subst h;exact this
 ·obtain⟨vs,rfl,h2⟩:=h;simpa [ZO,Value.cells] using h2
theorem Xy.one {w:World} {S:Nat→Prop} {d:D} {v:Value} (hd:d.one=true):Xy w S d v↔ZO w S d [v]:=by
 cases d<;>simp[Xy,D.one] at hd ⊢
inductive Ref where
 | box (b:Nat×TypeId)
 | row (a:Option Addr) (n c sz:Nat)
abbrev Gh:=Nat→Option Ref
def Y9 (Γ:Gh) (w:World) (I:Nat→Prop):AV→Value→Prop
 | .d x,v=>x.one=true∧ZO w I x [v]
 | .nil,v=>∃ a,v=.slice a 0 0
 | .nilp,v=>v=.pointer none
 | .nili,v=>v=.nilIface
 | .ptr id off,v=>∃ b,Γ id=some (.box b)∧v=.pointer (some ⟨b.1,off,none⟩)
 | .prow id sz i off,v=>∃ b n c,Γ id=some (.row (some ⟨b,0,none⟩) n c sz)∧i<n∧v=.pointer (some ⟨b,i*sz+off,none⟩)
 | .pim cs,v=>∃ b o vs,v=.pointer (some ⟨b,o,none⟩)∧I b∧QD w b o vs∧Xr w I cs vs
 | .own id,v=>∃ a n c sz,Γ id=some (.row a n c sz)∧v=.slice a n c
 | .ownv id off n,v=>∃ a0 m c sz a,Γ id=some (.row a0 m c sz)∧off+n≤m∧m≤c∧v=.slice a n (c-off)∧(off=0→a=a0)∧(a=a0.map (·.add (off*sz))∨c=off)
 | .sub id nm,v=>(∃ r,Γ id=some r)∧∃ a n c sz,Γ nm=some (.row a n c sz)∧v=.slice a n c
 | .bnil id e,v=>∃ b,Γ id=some (.box (b,e))∧(v=.pointer none∨v=.pointer (some ⟨b,0,none⟩))
 | .bbuf _ _,v=>∃ a n c,v=.slice a n c
 | .agg _,_=>False
 | .tup _,_=>False
 | .clo _ _,_=>False
 | .junk,_=>True
def XJ (Γ:Gh) (w:World) (I:Nat→Prop):AV→Value→Prop
 | .clo f cs,v=>∃ us,v=.func (.func f) #[] us∧Zt (Y9 Γ w I) cs us.toList
 | x,v=>Y9 Γ w I x v
def JI (Γ:Gh) (w:World) (I:Nat→Prop):AV→Value→Prop
 | .agg cs,v=>∃ vs,v=.agg vs∧Zt (Y9 Γ w I) cs vs.toList
 | .clo f cs,v=>∃ us,v=.func (.func f) #[] us∧Zt (Y9 Γ w I) cs us.toList
 | .d (.agg ds),v=>∃ vs,v=.agg vs∧Xr w I ds vs.toList
 | x,v=>Y9 Γ w I x v
def Rep (Γ:Gh) (w:World) (I:Nat→Prop):AV→Value→Prop
 | .tup vs,v=>∃ us,v=.tuple us∧Zt (JI Γ w I) vs us.toList
 | x,v=>JI Γ w I x v
def Q4 (Γ Γ' : Gh):Prop:=∀ id r,Γ id=some r→Γ' id=some r
section
variable {Γ Γ' : Gh} {w w' : World} {I I' : Nat→Prop}
theorem Y9.mono (hg:Q4 Γ Γ') (hk:ZP I I' w w') {x:AV} {v:Value} (h:Y9 Γ w I x v):Y9 Γ' w' I' x v:=by
 cases x<;>simp only[Y9] at h ⊢
 ·exact⟨h.1,h.2.mono hk⟩
 ·exact h
 ·exact h
 ·exact h
 ·obtain⟨b,h1,h2⟩:=h;exact⟨b,hg _ _ h1,h2⟩
 ·obtain⟨b,n,c,h1,h2⟩:=h;exact⟨b,n,c,hg _ _ h1,h2⟩
 ·obtain⟨b,o,vs,h1,h2,h3,h4⟩:=h;exact⟨b,o,vs,h1,hk.sub b h2,h3.mono (hk.blk b h2),h4.mono hk⟩
 ·obtain⟨a,n,c,sz,h1,h2⟩:=h;exact⟨a,n,c,sz,hg _ _ h1,h2⟩
 ·obtain⟨a0,m,c,sz,a,h1,h2⟩:=h;exact⟨a0,m,c,sz,a,hg _ _ h1,h2⟩
 ·obtain⟨⟨r,h0⟩,a,n,c,sz,h1,h2⟩:=h;exact⟨⟨r,hg _ _ h0⟩,a,n,c,sz,hg _ _ h1,h2⟩
 ·obtain⟨b,h1,h2⟩:=h;exact⟨b,hg _ _ h1,h2⟩
 ·exact h
theorem XJ.mono (hg:Q4 Γ Γ') (hk:ZP I I' w w') {x:AV} {v:Value} (h:XJ Γ w I x v):XJ Γ' w' I' x v:=by
 unfold XJ at h ⊢;split at h
 ·obtain⟨vs,h1,h2⟩:=h;exact⟨vs,h1,h2.mono fun _ _ h=>h.mono hg hk⟩
 ·exact h.mono hg hk
theorem JI.mono (hg:Q4 Γ Γ') (hk:ZP I I' w w') {x:AV} {v:Value} (h:JI Γ w I x v):JI Γ' w' I' x v:=by
 unfold JI at h ⊢;split at h
 ·obtain⟨vs,h1,h2⟩:=h;exact⟨vs,h1,h2.mono fun _ _ h=>h.mono hg hk⟩
 ·obtain⟨vs,h1,h2⟩:=h;exact⟨vs,h1,h2.mono fun _ _ h=>h.mono hg hk⟩
 ·obtain⟨vs,h1,h2⟩:=h;exact⟨vs,h1,h2.mono hk⟩
 ·exact h.mono hg hk
theorem Rep.mono (hg:Q4 Γ Γ') (hk:ZP I I' w w') {x:AV} {v:Value} (h:Rep Γ w I x v):Rep Γ' w' I' x v:=by
 unfold Rep at h ⊢;split at h
 ·obtain⟨vs,h1,h2⟩:=h;exact⟨vs,h1,h2.mono fun _ _ h=>h.mono hg hk⟩
 ·exact h.mono hg hk
theorem Y9.repB {x:AV} {v:Value} (h:Y9 Γ w I x v):XJ Γ w I x v:=by
 cases x<;>first | exact h | exact h.elim
theorem Y9.rep2 {x:AV} {v:Value} (h:Y9 Γ w I x v):JI Γ w I x v:=by
 cases x<;>first | exact h | exact h.elim | skip
 rename_i x;cases x<;>first | exact h | skip
 simp[Y9,D.one] at h
theorem XJ.rep2 {x:AV} {v:Value} (h:XJ Γ w I x v):JI Γ w I x v:=by
 cases x<;>first | exact Y9.rep2 h | exact h
theorem JI.rep {x:AV} {v:Value} (h:JI Γ w I x v):Rep Γ w I x v:=by
 cases x<;>first | exact h | exact h.elim
theorem QE {x:D} {v:Value}:Rep Γ w I (.d x) v↔Xy w I x v:=by
 cases x<;>simp[Rep,JI,Y9,Xy,D.one]
theorem Zop {x:D} {v:Value}:JI Γ w I (.d x) v↔Xy w I x v:=by
 cases x<;>simp[JI,Y9,Xy,D.one]
theorem ZuP:∀ {cs:List AV} {ds:List D} {vs:List Value},ZeX cs=some ds→Zt (XJ Γ w I) cs vs→Xr w I ds vs
 | [],ds,[],h,_=>by simp[ZeX] at h;subst h;simp[Xr]
 | [],_,_ :: _,_,h=>h.elim
 | _ :: _,_,[],_,h=>h.elim
 | c :: cs,ds,v :: vs,h,hr=>by
  simp only[ZeX] at h;obtain⟨x,h1,h⟩:=Za h;obtain⟨aa,h2,h⟩:=Za h;cases h;refine⟨v,vs,rfl,?_,?_,ZuP h2 hr.2⟩
  ·unfold Znx at h1;split at h1
   ·split at h1<;>cases h1;assumption
   ·cases h1
  ·unfold Znx at h1;split at h1
   ·split at h1<;>cases h1;exact hr.1.2
   ·cases h1
theorem ZrS:∀ {cs:List AV} {vs:List Value},ZeY cs=false→Zt (XJ Γ w I) cs vs→Zt (Y9 Γ w I) cs vs
 | [],[],_,_=>trivial
 | [],_ :: _,_,h=>h.elim
 | _ :: _,[],_,h=>h.elim
 | c :: cs,v :: vs,h,hr=>by
  simp only[ZeY,LT] at h;refine⟨?_,ZrS h.2 hr.2⟩;cases c<;>first | exact hr.1 | (simp[Zrm] at h)
theorem ZhF {cs:List AV} {vs:Array Value} (h:Zt (XJ Γ w I) cs vs.toList):Rep Γ w I (Jw cs) (.agg vs):=by
 unfold Jw;cases hd:ZeX cs with
 | some ds=>exact QE.2 ⟨vs,rfl,ZuP hd h⟩
 | none=>
  simp only[UV];cases hc:ZeY cs
  ·exact⟨vs,rfl,ZrS hc h⟩
  ·exact trivial
theorem Rep.cells {x:AV} {v:Value} (hs:x.solid=true) (h:Rep Γ w I x v):Zt (XJ Γ w I) x.cells v.cells.toList:=by
 cases x with
 | d x=>
  have h1:=(QE.1 h).cells.cells;rw[Xn] at h1;exact h1.map_left (f:=AV.d) (S:=XJ Γ w I) fun a b aa=>aa
 | agg cs=>obtain⟨vs,rfl,h⟩:=h;exact h.mono fun _ _ h=>h.repB
 | clo f cs=>obtain⟨us,rfl,h⟩:=h;exact⟨⟨us,rfl,h⟩,trivial⟩
 | tup vs=>cases hs
 | junk=>cases hs
 | nil=>obtain⟨a,rfl⟩:=h;exact⟨⟨a,rfl⟩,trivial⟩
 | nilp=>obtain rfl:=h;exact⟨rfl,trivial⟩
 | nili=>obtain rfl:=h;exact⟨rfl,trivial⟩
 | ptr id off=>obtain⟨b,h1,rfl⟩:=h;exact⟨⟨b,h1,rfl⟩,trivial⟩
 | prow id sz i off=>obtain⟨b,n,c,h1,h2,rfl⟩:=h;exact⟨⟨b,n,c,h1,h2,rfl⟩,trivial⟩
 | pim cs=>obtain⟨b,o,vs,rfl,h⟩:=h;exact⟨⟨b,o,vs,rfl,h⟩,trivial⟩
 | own id=>
  obtain⟨a,n,c,sz,h1,rfl⟩:=h;exact⟨⟨a,n,c,sz,h1,rfl⟩,trivial⟩
 | ownv id off n=>obtain⟨a0,m,c,sz,a,h1,h2,h3,rfl,h4⟩:=h;exact⟨⟨a0,m,c,sz,a,h1,h2,h3,rfl,h4⟩,trivial⟩
 | sub id nm=>obtain⟨h0,a,n,c,sz,h1,rfl⟩:=h;exact⟨⟨h0,a,n,c,sz,h1,rfl⟩,trivial⟩
 | bnil id e=>
  obtain⟨b,h1,h2⟩:=h;rcases h2 with rfl | rfl
  ·exact⟨⟨b,h1,.inl rfl⟩,trivial⟩
  ·exact⟨⟨b,h1,.inr rfl⟩,trivial⟩
 | bbuf a b=>cases hs
end
def ZeC (w:World) (I F A:Nat→Prop) (a:Option Addr) (n cap sz:Nat) (xs:List D) (ex fz:Bool):Prop:=
 n=xs.length∧((n=0∧cap=0) ∨
 ∃ g cur e,a=some ⟨g,0,none⟩∧0<cap∧w.heap[g]?=some (.cells cur e (0,0))∧n≤cap∧cap≤maxLen∧cur.size=cap*sz∧0<sz ∧
  (if fz then I g else ¬I g)∧F g∧Jt w (if ex then fun b=>I b∧A b else I) g sz xs 0)
def Wu (w:World) (I F A:Nat→Prop) (ns:Nat):D→Value→Prop
 | .sl ys,v=>∃ a c,v=.slice a ys.length c∧ZeC w I F A a ys.length c ns ys true false∧Zbw D.flat ys=true
 | y,v=>y.plain=true∧ZO w I y [v]
def Yt:Value→Option Nat
 | .slice (some ad) _ c=>if c=0 then none else some ad.block
 | _=>none
def YG (w:World) (g p:Nat):Option Nat:=match w.cell? ⟨g,p,none⟩ with
 | some v=>Yt v
 | none=>none
def ZcF (w:World) (I F A:Nat→Prop) (a:Option Addr) (n cap sz ns:Nat) (xs:List D):Prop:=
 n=xs.length∧((n=0∧cap=0) ∨
 ∃ g cur e,a=some ⟨g,0,none⟩∧0<cap∧w.heap[g]?=some (.cells cur e (0,0))∧n≤cap∧cap≤maxLen∧cur.size=cap*sz∧0<sz∧¬I g∧F g ∧
  (∀ i x,xs[i]?=some x→∃ vs:List Value,vs.length=sz∧QD w g (i*sz) vs∧Zt (Wu w I F A ns) x.cells vs) ∧
  (∀ p q b,p<n*sz→q<n*sz→YG w g p=some b→YG w g q=some b→p=q)∧∀ p,p<n*sz→YG w g p≠some g)
def Zta (Γ:Gh) (w:World) (a:Option Addr) (sz:Nat) (xs:List D):Option (Nat×Nat×Nat)→Prop
 | none=>True
 | some (nm,i,j)=>∃ g a' n' c' sz',a=some ⟨g,0,none⟩∧Γ nm=some (.row a' n' c' sz')∧i<xs.length∧j<sz∧w.cell? ⟨g,i*sz+j,none⟩=some (.slice a' n' c')
def ZkN (w:World) (I F:Nat→Prop) (b te:Nat) (l:List UInt8) (v:Value):Prop:=
 l=[]∧v=.slice none 0 0 ∨
 ∃ g cap cur,v=.slice (some ⟨g,0,none⟩) l.length cap∧0<l.length∧w.heap[g]?=some (.cells cur te (0,0))∧l.length≤cap∧cap≤maxLen∧cur.size=cap∧cur.toList.take l.length=l.map (fun x=>Value.int .u8 x.toNat)∧¬I g∧F g∧g≠b
def ZbT (w:World) (I F:Nat→Prop) (b:Nat):List AV→List Value→Prop
 | [_,.bbuf te l],[_,v]=>ZkN w I F b te l v
 | cs,_=>XU cs=true
def VY (Γ:Gh) (w:World) (I F A:Nat→Prop) (id:Nat):Zl→Prop
 | .box cs=>∃ b cur e,Γ id=some (.box (b,e))∧w.heap[b]?=some (.cells cur e (0,0))∧¬I b∧F b∧Zt (XJ Γ w I) cs cur.toList∧ZbT w I F b cs cur.toList
 | .row sz xs ex fz=>∃ a n c,Γ id=some (.row a n c sz)∧ZeC w I F A a n c sz xs ex fz
 | .deep sz ns xs lk=>∃ a n c,Γ id=some (.row a n c sz)∧ZcF w I F A a n c sz ns xs∧Zta Γ w a sz xs lk
def Zy:Option Ref→Option Nat
 | some (.box b)=>some b.1
 | some (.row (some a) _ c _)=>if c=0 then none else some a.block
 | some (.row none _ _ _)=>none
 | none=>none
def X8 (Γ:Gh) (w:World) (id:Nat):Zl→Nat→Prop
 | .deep sz _ xs _,b=>∃ g p,Zy (Γ id)=some g∧p<xs.length*sz∧YG w g p=some b
 | _,_=>False
def Buf (Γ:Gh) (w:World) (id:Nat):Zl→Nat→Prop
 | .box [_,.bbuf _ _],b=>∃ g,Zy (Γ id)=some g∧YG w g 1=some b
 | _,_=>False
def Blk (Γ:Gh) (w:World) (id:Nat) (o:Zl) (b:Nat):Prop:=Zy (Γ id)=some b∨X8 Γ w id o b∨Buf Γ w id o b
def Xk (U:Nat→Prop) (base:Nat):Prop:=∀ id,base≤id→id<base+64→¬U id
def JJ (U:Nat→Prop) (base:Nat) (id:Nat):Prop:=U id∨(base≤id∧id<base+64)
theorem Xk.self {U:Nat→Prop} {base:Nat} (h:Xk U base):¬U base:=h base (Kr _) (by omega)
def ZiJ (I:Nat→Prop) (w:World):Prop:=∀ q∈gtabs,I q.1∧∃ e fr,w.heap[q.1]?=some (.cells q.2 e fr)
theorem ZiJ.mono {I I' : Nat→Prop} {w w' : World} (h:ZiJ I w) (hk:ZP I I' w w'):ZiJ I' w':=fun q hq=>by
 obtain⟨h1,e,fr,h2⟩:=h q hq;exact⟨hk.sub _ h1,e,fr,by rw[hk.blk _ h1];exact h2⟩
structure Sim (nt:Nat) (F A I:Nat→Prop) (Γ:Gh) (U:Nat→Prop) (sl:Sl) (hp:Hp) (a:Act) (w:World):Prop where
 nt:a.tmps.size=nt
 dfr:a.defers=[]
 slots:∀ t,Rep Γ w I (gs sl t) (a.tmps.getD t undef)
 objs:∀ id o,lkp hp id=some o→VY Γ w I F A id o
 inj:∀ i j o o' b,lkp hp i=some o→lkp hp j=some o'→Blk Γ w i o b→Blk Γ w j o' b→i=j
 bound:∀ b,I b→b<w.heap.size
 fresh:∀ b,w.heap.size≤b→F b
 own:∀ b,F b→A b
 names:∀ id,¬U id→Γ id=none
 glob:ZiJ I w
structure Fr (F:Nat→Prop) (w w' : World):Prop where
 os:w'.os=w.os
 tape:w'.tape=w.tape
 output:w'.output=w.output
 size:w.heap.size≤w'.heap.size
 block:∀ k,k<w.heap.size→¬F k→w'.heap[k]?=w.heap[k]?
theorem Fr.refl (F:Nat→Prop) (w:World):Fr F w w:=⟨rfl,rfl,rfl,Kr _,fun _ _ _=>rfl⟩
theorem Fr.trans {F:Nat→Prop} {a b c:World} (h:Fr F a b) (k:Fr F b c):Fr F a c:=
 ⟨k.os.trans h.os,k.tape.trans h.tape,k.output.trans h.output,Kx h.size k.size,fun i hi hf=>(k.block i (LM hi h.size) hf).trans (h.block i hi hf)⟩
end Go.Abs
