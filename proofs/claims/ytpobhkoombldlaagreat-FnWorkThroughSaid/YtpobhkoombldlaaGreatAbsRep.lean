/- The abstract semantics and the model: what an abstract value,object,state stands for. Own text. -/
import Derived.Test.YtpobhkoombldlaaGreatAbsRun
import Derived.Below
import Derived.Test.YtpobhkoombldlaaGreatAbsTab
set_option linter.unusedVariables false
set_option linter.unusedSimpArgs false
namespace Go.Abs
open Go
def ZB {α β:Type} (R:α→β→Prop):List α→List β→Prop
 | [],[]=>True
 | a :: as,b :: bs=>R a b∧ZB R as bs
 | _,_=>False
section
variable {α β:Type} {R R' : α→β→Prop}
theorem ZB.length:∀ {as:List α} {bs:List β},ZB R as bs→as.length=bs.length
 | [],[],_=>rfl
 | _ :: _,_ :: _,h=>congrArg (·+1) (ZB.length h.2)
 | [],_ :: _,h=>h.elim
 | _ :: _,[],h=>h.elim
theorem ZB.mono (hr:∀ a b,R a b→R' a b):∀ {as:List α} {bs:List β},ZB R as bs→ZB R' as bs
 | [],[],_=>trivial
 | _ :: _,_ :: _,h=>⟨hr _ _ h.1,ZB.mono hr h.2⟩
 | [],_ :: _,h=>h.elim
 | _ :: _,[],h=>h.elim
theorem ZB.get:∀ {as:List α} {bs:List β},ZB R as bs→∀ (i:Nat) (a:α),as[i]?=some a→∃ b,bs[i]?=some b∧R a b
 | [],[],_,i,a,h=>by simp at h
 | a :: as,b :: bs,h,0,a',ha=>by simp at ha;subst ha;exact⟨b,by simp,h.1⟩
 | a :: as,b :: bs,h,i+1,a',ha=>by simp at ha;obtain⟨b',h1,h2⟩:=ZB.get h.2 i a' ha;exact⟨b',by simp[h1],h2⟩
 | [],_ :: _,h,_,_,_=>h.elim
 | _ :: _,[],h,_,_,_=>h.elim
theorem ZB.get' : ∀ {as:List α} {bs:List β},ZB R as bs→∀ (i:Nat) (b:β),bs[i]?=some b→∃ a,as[i]?=some a∧R a b
 | [],[],_,i,a,h=>by simp at h
 | a :: as,b :: bs,h,0,b',hb=>by simp at hb;subst hb;exact⟨a,by simp,h.1⟩
 | a :: as,b :: bs,h,i+1,b',hb=>by simp at hb;obtain⟨a',h1,h2⟩:=ZB.get' h.2 i b' hb;exact⟨a',by simp[h1],h2⟩
 | [],_ :: _,h,_,_,_=>h.elim
 | _ :: _,[],h,_,_,_=>h.elim
theorem ZB.of_get:∀ {as:List α} {bs:List β},as.length=bs.length→(∀ (i:Nat) (a:α) (b:β),as[i]?=some a→bs[i]?=some b→R a b)→ZB R as bs
 | [],[],_,_=>trivial
 | a :: as,b :: bs,hl,h=>⟨h 0 a b (by simp) (by simp),ZB.of_get (by simpa using hl) fun i a' b' ha hb=>h (i+1) a' b' (by simpa using ha) (by simpa using hb)⟩
 | [],_ :: _,hl,_=>by simp at hl
 | _ :: _,[],hl,_=>by simp at hl
theorem ZB.append:∀ {as as' : List α} {bs bs' : List β},ZB R as bs→ZB R as' bs'→ZB R (as++as') (bs++bs')
 | [],_,[],_,_,h'=>h'
 | _ :: _,_,_ :: _,_,h,h'=>⟨h.1,ZB.append h.2 h'⟩
 | [],_,_ :: _,_,h,_=>h.elim
 | _ :: _,_,[],_,h,_=>h.elim
theorem ZB.take (n:Nat):∀ {as:List α} {bs:List β},ZB R as bs→ZB R (as.take n) (bs.take n):=by
 induction n with
 | zero=>intro as bs _;simp[ZB]
 | succ n ih=>
  intro as bs h
  cases as<;>cases bs
  ·simp[ZB]
  ·exact h.elim
  ·exact h.elim
  ·exact⟨h.1,ih h.2⟩
theorem ZB.drop (n:Nat):∀ {as:List α} {bs:List β},ZB R as bs→ZB R (as.drop n) (bs.drop n):=by
 induction n with
 | zero=>intro as bs h;simpa using h
 | succ n ih=>
  intro as bs h
  cases as<;>cases bs
  ·simp[ZB]
  ·exact h.elim
  ·exact h.elim
  ·simpa using ih h.2
theorem ZB.map {γ δ:Type} {S:γ→δ→Prop} {f:α→γ} {g:β→δ} (hr:∀ a b,R a b→S (f a) (g b)):∀ {as:List α} {bs:List β},ZB R as bs→ZB S (as.map f) (bs.map g)
 | [],[],_=>trivial
 | _ :: _,_ :: _,h=>⟨hr _ _ h.1,ZB.map hr h.2⟩
 | [],_ :: _,h=>h.elim
 | _ :: _,[],h=>h.elim
theorem ZB.map_left {γ:Type} {S:γ→β→Prop} {f:α→γ} (hr:∀ a b,R a b→S (f a) b):∀ {as:List α} {bs:List β},ZB R as bs→ZB S (as.map f) bs
 | [],[],_=>trivial
 | _ :: _,_ :: _,h=>⟨hr _ _ h.1,ZB.map_left hr h.2⟩
 | [],_ :: _,h=>h.elim
 | _ :: _,[],h=>h.elim
theorem ZB.set {as:List α} {bs:List β} (h:ZB R as bs) (i:Nat) {a:α} {b:β} (hab:R a b):ZB R (as.set i a) (bs.set i b):=by
 refine ZB.of_get (by simp[h.length]) fun j a' b' ha hb=>?_
 rw[List.getElem?_set] at ha hb
 rw[h.length] at ha
 split at ha
 ·split at ha
  ·rename_i h1 h2
   subst h1
   simp[h2] at ha hb
   subst ha;rw[← hb];exact hab
  ·cases ha
 ·rename_i h1
  simp[h1] at hb
  obtain⟨b'',h2,h3⟩:=h.get j a' ha
  rw[hb] at h2;cases h2;exact h3
end
def QU (w:World) (b o:Nat) (vs:List Value):Prop:=∀ j u,vs[j]?=some u→w.cell? ⟨b,o+j,none⟩=some u
theorem QU.mono {w w' : World} {b o:Nat} {vs:List Value} (h:QU w b o vs) (hb:w'.heap[b]?=w.heap[b]?):QU w' b o vs:=
 fun j u hu=>(World.cell?_of_block (w:=w) (a:=⟨b,o+j,none⟩) hb).trans (h j u hu)
mutual
def Z1 (w:World) (S:Nat→Prop):D→List Value→Prop
 | .int k n,vs=>vs=[.int k n]
 | .bool b,vs=>vs=[.bool b]
 | .str s,vs=>∃ t:ByteArray,vs=[.string t]∧t.data.toList=s
 | .sl xs,vs=>∃ a c,vs=[.slice a xs.length c]∧xs.length≤c∧(xs=[]∨∃ b o sz,a=some ⟨b,o,none⟩∧S b∧0<sz∧Za0 w S b sz xs o)
 | .agg cs,vs=>Ye w S cs vs
def Ye (w:World) (S:Nat→Prop):List D→List Value→Prop
 | [],vs=>vs=[]
 | d :: ds,vs=>∃ v r,vs=v :: r∧d.one=true∧Z1 w S d [v]∧Ye w S ds r
def Za0 (w:World) (S:Nat→Prop) (b sz:Nat):List D→Nat→Prop
 | [],_=>True
 | d :: ds,o=>(∃ vs:List Value,vs.length=sz∧QU w b o vs∧Z1 w S d vs)∧Za0 w S b sz ds (o+sz)
end
section
variable {w:World} {S:Nat→Prop}
theorem Ya:∀ {ds:List D} {vs:List Value},Ye w S ds vs↔ZB (fun d v=>d.one=true∧Z1 w S d [v]) ds vs
 | [],[]=>by simp[Ye,ZB]
 | [],_ :: _=>by simp[Ye,ZB]
 | d :: ds,[]=>by simp[Ye,ZB]
 | d :: ds,v :: vs=>by
  simp only[Ye,ZB,Ya (ds:=ds) (vs:=vs)]
  constructor
  ·rintro ⟨v',r,h,h1,h2,h3⟩
   cases h
   exact⟨⟨h1,h2⟩,Ya.1 h3⟩
  ·rintro ⟨⟨h1,h2⟩,h3⟩
   exact⟨v,vs,rfl,h1,h2,Ya.2 h3⟩
theorem YN {b sz:Nat}:∀ {xs:List D} {o:Nat},Za0 w S b sz xs o ↔
  ∀ i x,xs[i]?=some x→∃ vs:List Value,vs.length=sz∧QU w b (o+i*sz) vs∧Z1 w S x vs
 | [],o=>by simp[Za0]
 | d :: ds,o=>by
  simp only[Za0,YN (xs:=ds)]
  constructor
  ·rintro ⟨h1,h2⟩ i x hx
   cases i with
   | zero=>simp at hx;subst hx;simpa using h1
   | succ i=>
    simp at hx
    obtain⟨vs,h3,h4,h5⟩:=h2 i x hx
    refine⟨vs,h3,?_,h5⟩
    have:o+(i+1)*sz=o+sz+i*sz:=by rw[Nat.add_mul];omega
    rw[this];exact h4
  ·intro h
   refine⟨by simpa using h 0 d (by simp),fun i x hx=>?_⟩
   obtain⟨vs,h3,h4,h5⟩:=h (i+1) x (by simpa using hx)
   refine⟨vs,h3,?_,h5⟩
   have:o+(i+1)*sz=o+sz+i*sz:=by rw[Nat.add_mul];omega
   rw[← this];exact h4
structure ZY (S S' : Nat→Prop) (w w' : World):Prop where
 sub:∀ b,S b→S' b
 blk:∀ b,S b→w'.heap[b]?=w.heap[b]?
mutual
theorem Z1.mono {w' : World} {S' : Nat→Prop} (hk:ZY S S' w w'):∀ {d:D} {vs:List Value},Z1 w S d vs→Z1 w' S' d vs
 | .int _ _,_,h=>by simpa [Z1] using h
 | .bool _,_,h=>by simpa [Z1] using h
 | .str _,_,h=>by simpa [Z1] using h
 | .sl xs,vs,h=>by
  simp only[Z1] at h ⊢
  obtain⟨a,c,h1,h2,h3⟩:=h
  refine⟨a,c,h1,h2,?_⟩
  rcases h3 with h3 | ⟨b,o,sz,h4,h5,h6,h7⟩
  ·exact .inl h3
  ·exact .inr ⟨b,o,sz,h4,hk.sub b h5,h6,Za0.mono hk h5 h7⟩
 | .agg cs,vs,h=>by
  simp only[Z1] at h ⊢
  exact Ye.mono hk h
theorem Ye.mono {w' : World} {S' : Nat→Prop} (hk:ZY S S' w w'):∀ {ds:List D} {vs:List Value},Ye w S ds vs→Ye w' S' ds vs
 | [],_,h=>by simpa [Ye] using h
 | d :: ds,vs,h=>by
  simp only[Ye] at h ⊢
  obtain⟨v,r,h1,h2,h3,h4⟩:=h
  exact⟨v,r,h1,h2,Z1.mono hk h3,Ye.mono hk h4⟩
theorem Za0.mono {w' : World} {S' : Nat→Prop} (hk:ZY S S' w w') {b sz:Nat} (hb:S b):∀ {ds:List D} {o:Nat},Za0 w S b sz ds o→Za0 w' S' b sz ds o
 | [],_,_=>by simp[Za0]
 | d :: ds,o,h=>by
  simp only[Za0] at h ⊢
  obtain⟨⟨vs,h1,h2,h3⟩,h4⟩:=h
  exact⟨⟨vs,h1,h2.mono (hk.blk b hb),Z1.mono hk h3⟩,Za0.mono hk hb h4⟩
end
theorem Za0.mono' {w' : World} {S' : Nat→Prop} (hk:ZY S S' w w') {b sz:Nat} (hb:w'.heap[b]?=w.heap[b]?) {ds:List D} {o:Nat} (h:Za0 w S b sz ds o):Za0 w' S' b sz ds o:=by
 rw[YN] at h ⊢
 intro i x hx
 obtain⟨vs,h1,h2,h3⟩:=h i x hx
 exact⟨vs,h1,h2.mono hb,h3.mono hk⟩
theorem Ye.length {ds:List D} {vs:List Value} (h:Ye w S ds vs):ds.length=vs.length:=(Ya.1 h).length
theorem Z1.length {d:D} {vs:List Value} (h:Z1 w S d vs):vs.length=d.cells.length:=by
 cases d<;>simp only[Z1] at h
 ·subst h;rfl
 ·subst h;rfl
 ·obtain⟨t,rfl,_⟩:=h;rfl
 ·obtain⟨a,c,rfl,_⟩:=h;rfl
 ·exact h.length.symm
theorem Z1.cells {d:D} {vs:List Value} (h:Z1 w S d vs):Ye w S d.cells vs:=by
 cases d<;>simp only[D.cells,Ye]
 ·simp only[Z1] at h;subst h;exact⟨_,[],rfl,rfl,by simp[Z1],rfl⟩
 ·simp only[Z1] at h;subst h;exact⟨_,[],rfl,rfl,by simp[Z1],rfl⟩
 ·have h':=h
  simp only[Z1] at h;obtain⟨t,rfl,_⟩:=h;exact⟨_,[],rfl,rfl,h',rfl⟩
 ·have h':=h
  simp only[Z1] at h;obtain⟨a,c,rfl,_⟩:=h;exact⟨_,[],rfl,rfl,h',rfl⟩
 ·simpa [Z1] using h
end
def YQ (w:World) (S:Nat→Prop):D→Value→Prop
 | .agg cs,v=>∃ vs,v=.agg vs∧Ye w S cs vs.toList
 | d,v=>Z1 w S d [v]
theorem YQ.mono {w w' : World} {S S' : Nat→Prop} (hk:ZY S S' w w') {d:D} {v:Value} (h:YQ w S d v):YQ w' S' d v:=by
 cases d<;>simp only[YQ] at h ⊢
 ·exact h.mono hk
 ·exact h.mono hk
 ·exact h.mono hk
 ·exact h.mono hk
 ·obtain⟨vs,h1,h2⟩:=h;exact⟨vs,h1,h2.mono hk⟩
theorem YQ.cells {w:World} {S:Nat→Prop} {d:D} {v:Value} (h:YQ w S d v):Z1 w S d v.cells.toList:=by
 cases d<;>simp only[YQ] at h
 ·have:=h;simp only[Z1] at h;simp at h;subst h;exact this
 ·have:=h;simp only[Z1] at h;simp at h;subst h;exact this
 ·have:=h;simp only[Z1] at h;obtain⟨t,h,_⟩:=h;simp at h;subst h;exact this
 ·have:=h;simp only[Z1] at h;obtain⟨a,c,h,_⟩:=h;simp at h;subst h;exact this
 ·obtain⟨vs,rfl,h2⟩:=h;simpa [Z1,Value.cells] using h2
theorem YQ.one {w:World} {S:Nat→Prop} {d:D} {v:Value} (hd:d.one=true):YQ w S d v↔Z1 w S d [v]:=by
 cases d<;>simp[YQ,D.one] at hd ⊢
inductive Ref where
 | box (b:Nat)
 | row (a:Option Addr) (n c sz:Nat)
abbrev Gh:=Nat→Option Ref
def Wn (Γ:Gh) (w:World) (I:Nat→Prop):AV→Value→Prop
 | .d x,v=>x.one=true∧Z1 w I x [v]
 | .nil,v=>∃ a,v=.slice a 0 0
 | .nilp,v=>v=.pointer none
 | .nili,v=>v=.nilIface
 | .ptr id off,v=>∃ b,Γ id=some (.box b)∧v=.pointer (some ⟨b,off,none⟩)
 | .prow id sz i off,v=>∃ b n c,Γ id=some (.row (some ⟨b,0,none⟩) n c sz)∧i<n∧v=.pointer (some ⟨b,i*sz+off,none⟩)
 | .pim cs,v=>∃ b o vs,v=.pointer (some ⟨b,o,none⟩)∧I b∧QU w b o vs∧Ye w I cs vs
 | .own id,v=>∃ a n c sz,Γ id=some (.row a n c sz)∧v=.slice a n c
 | .ownv id off n,v=>∃ a0 m c sz a,Γ id=some (.row a0 m c sz)∧off+n≤m∧m≤c∧v=.slice a n (c-off)∧(off=0→a=a0)∧(a=a0.map (·.add (off*sz))∨c=off)
 | .sub id nm,v=>(∃ r,Γ id=some r)∧∃ a n c sz,Γ nm=some (.row a n c sz)∧v=.slice a n c
 | .agg _,_=>False
 | .tup _,_=>False
 | .clo _ _,_=>False
 | .junk,_=>True
def Vm (Γ:Gh) (w:World) (I:Nat→Prop):AV→Value→Prop
 | .clo f cs,v=>∃ us,v=.func (.func f) #[] us∧ZB (Wn Γ w I) cs us.toList
 | x,v=>Wn Γ w I x v
def Za1 (Γ:Gh) (w:World) (I:Nat→Prop):AV→Value→Prop
 | .agg cs,v=>∃ vs,v=.agg vs∧ZB (Wn Γ w I) cs vs.toList
 | .clo f cs,v=>∃ us,v=.func (.func f) #[] us∧ZB (Wn Γ w I) cs us.toList
 | .d (.agg ds),v=>∃ vs,v=.agg vs∧Ye w I ds vs.toList
 | x,v=>Wn Γ w I x v
def Rep (Γ:Gh) (w:World) (I:Nat→Prop):AV→Value→Prop
 | .tup vs,v=>∃ us,v=.tuple us∧ZB (Za1 Γ w I) vs us.toList
 | x,v=>Za1 Γ w I x v
def Xt (Γ Γ' : Gh):Prop:=∀ id r,Γ id=some r→Γ' id=some r
section
variable {Γ Γ' : Gh} {w w' : World} {I I' : Nat→Prop}
theorem Wn.mono (hg:Xt Γ Γ') (hk:ZY I I' w w') {x:AV} {v:Value} (h:Wn Γ w I x v):Wn Γ' w' I' x v:=by
 cases x<;>simp only[Wn] at h ⊢
 ·exact⟨h.1,h.2.mono hk⟩
 ·exact h
 ·exact h
 ·exact h
 ·obtain⟨b,h1,h2⟩:=h;exact⟨b,hg _ _ h1,h2⟩
 ·obtain⟨b,n,c,h1,h2⟩:=h;exact⟨b,n,c,hg _ _ h1,h2⟩
 ·obtain⟨b,o,vs,h1,h2,h3,h4⟩:=h;exact⟨b,o,vs,h1,hk.sub b h2,h3.mono (hk.blk b h2),h4.mono hk⟩
 ·obtain⟨a,n,c,sz,h1,h2⟩:=h;exact⟨a,n,c,sz,hg _ _ h1,h2⟩
 ·obtain⟨a0,m,c,sz,a,h1,h2⟩:=h;exact⟨a0,m,c,sz,a,hg _ _ h1,h2⟩
 ·obtain⟨⟨r,h0⟩,a,n,c,sz,h1,h2⟩:=h;exact⟨⟨r,hg _ _ h0⟩,a,n,c,sz,hg _ _ h1,h2⟩
theorem Vm.mono (hg:Xt Γ Γ') (hk:ZY I I' w w') {x:AV} {v:Value} (h:Vm Γ w I x v):Vm Γ' w' I' x v:=by
 unfold Vm at h ⊢
 split at h
 ·obtain⟨vs,h1,h2⟩:=h;exact⟨vs,h1,h2.mono fun _ _ h=>h.mono hg hk⟩
 ·exact h.mono hg hk
theorem Za1.mono (hg:Xt Γ Γ') (hk:ZY I I' w w') {x:AV} {v:Value} (h:Za1 Γ w I x v):Za1 Γ' w' I' x v:=by
 unfold Za1 at h ⊢
 split at h
 ·obtain⟨vs,h1,h2⟩:=h;exact⟨vs,h1,h2.mono fun _ _ h=>h.mono hg hk⟩
 ·obtain⟨vs,h1,h2⟩:=h;exact⟨vs,h1,h2.mono fun _ _ h=>h.mono hg hk⟩
 ·obtain⟨vs,h1,h2⟩:=h;exact⟨vs,h1,h2.mono hk⟩
 ·exact h.mono hg hk
theorem Rep.mono (hg:Xt Γ Γ') (hk:ZY I I' w w') {x:AV} {v:Value} (h:Rep Γ w I x v):Rep Γ' w' I' x v:=by
 unfold Rep at h ⊢
 split at h
 ·obtain⟨vs,h1,h2⟩:=h;exact⟨vs,h1,h2.mono fun _ _ h=>h.mono hg hk⟩
 ·exact h.mono hg hk
theorem Wn.repB {x:AV} {v:Value} (h:Wn Γ w I x v):Vm Γ w I x v:=by
 cases x<;>first | exact h | exact h.elim
theorem Wn.rep2 {x:AV} {v:Value} (h:Wn Γ w I x v):Za1 Γ w I x v:=by
 cases x<;>first | exact h | exact h.elim | skip
 rename_i x
 cases x<;>first | exact h | skip
 simp[Wn,D.one] at h
theorem Vm.rep2 {x:AV} {v:Value} (h:Vm Γ w I x v):Za1 Γ w I x v:=by
 cases x<;>first | exact Wn.rep2 h | exact h
theorem Za1.rep {x:AV} {v:Value} (h:Za1 Γ w I x v):Rep Γ w I x v:=by
 cases x<;>first | exact h | exact h.elim
theorem YO {x:D} {v:Value}:Rep Γ w I (.d x) v↔YQ w I x v:=by
 cases x<;>simp[Rep,Za1,Wn,YQ,D.one]
theorem ZtZ {x:D} {v:Value}:Za1 Γ w I (.d x) v↔YQ w I x v:=by
 cases x<;>simp[Za1,Wn,YQ,D.one]
theorem ZvD:∀ {cs:List AV} {ds:List D} {vs:List Value},Zjl cs=some ds→ZB (Vm Γ w I) cs vs→Ye w I ds vs
 | [],ds,[],h,_=>by simp[Zjl] at h;subst h;simp[Ye]
 | [],_,_ :: _,_,h=>h.elim
 | _ :: _,_,[],_,h=>h.elim
 | c :: cs,ds,v :: vs,h,hr=>by
  simp only[Zjl] at h
  obtain⟨x,h1,h⟩:=Za h
  obtain⟨ds',h2,h⟩:=Za h
  cases h
  refine⟨v,vs,rfl,?_,?_,ZvD h2 hr.2⟩
  ·unfold Zo3 at h1
   split at h1
   ·split at h1<;>cases h1;assumption
   ·cases h1
  ·unfold Zo3 at h1
   split at h1
   ·split at h1<;>cases h1;exact hr.1.2
   ·cases h1
theorem ZsS:∀ {cs:List AV} {vs:List Value},Zf0 cs=false→ZB (Vm Γ w I) cs vs→ZB (Wn Γ w I) cs vs
 | [],[],_,_=>trivial
 | [],_ :: _,_,h=>h.elim
 | _ :: _,[],_,h=>h.elim
 | c :: cs,v :: vs,h,hr=>by
  simp only[Zf0,Bool.or_eq_false_iff] at h
  refine⟨?_,ZsS h.2 hr.2⟩
  cases c<;>first | exact hr.1 | (simp[Zsl] at h)
theorem Zi8 {cs:List AV} {vs:Array Value} (h:ZB (Vm Γ w I) cs vs.toList):Rep Γ w I (Zc9 cs) (.agg vs):=by
 unfold Zc9
 cases hd:Zjl cs with
 | some ds=>exact YO.2 ⟨vs,rfl,ZvD hd h⟩
 | none=>
  simp only[ZiQ]
  cases hc:Zf0 cs
  ·exact⟨vs,rfl,ZsS hc h⟩
  ·exact trivial
theorem Rep.cells {x:AV} {v:Value} (hs:x.solid=true) (h:Rep Γ w I x v):ZB (Vm Γ w I) x.cells v.cells.toList:=by
 cases x with
 | d x=>
  have h1:=(YO.1 h).cells.cells
  rw[Ya] at h1
  exact h1.map_left (f:=AV.d) (S:=Vm Γ w I) fun a b hab=>hab
 | agg cs=>obtain⟨vs,rfl,h⟩:=h;exact h.mono fun _ _ h=>h.repB
 | clo f cs=>obtain⟨us,rfl,h⟩:=h;exact⟨⟨us,rfl,h⟩,trivial⟩
 | tup vs=>cases hs
 | junk=>cases hs
 | nil=>obtain⟨a,rfl⟩:=h;exact⟨⟨a,rfl⟩,trivial⟩
 | nilp=>obtain rfl:=h;exact⟨rfl,trivial⟩
 | nili=>obtain rfl:=h;exact⟨rfl,trivial⟩
 | ptr id off=>obtain⟨b,h1,rfl⟩:=h;exact⟨⟨b,h1,rfl⟩,trivial⟩
 | prow id sz i off=>obtain⟨b,n,c,h1,h2,rfl⟩:=h;exact⟨⟨b,n,c,h1,h2,rfl⟩,trivial⟩
 | pim cs=>obtain⟨b,o,vs,rfl,h⟩:=h;exact⟨⟨b,o,vs,rfl,h⟩,trivial⟩
 | own id=>
  obtain⟨a,n,c,sz,h1,rfl⟩:=h;exact⟨⟨a,n,c,sz,h1,rfl⟩,trivial⟩
 | ownv id off n=>obtain⟨a0,m,c,sz,a,h1,h2,h3,rfl,h4⟩:=h;exact⟨⟨a0,m,c,sz,a,h1,h2,h3,rfl,h4⟩,trivial⟩
 | sub id nm=>obtain⟨h0,a,n,c,sz,h1,rfl⟩:=h;exact⟨⟨h0,a,n,c,sz,h1,rfl⟩,trivial⟩
end
def Zfw (w:World) (I F A:Nat→Prop) (a:Option Addr) (n cap sz:Nat) (xs:List D) (ex fz:Bool):Prop:=
 n=xs.length∧((n=0∧cap=0) ∨
 ∃ g cur e,a=some ⟨g,0,none⟩∧0<cap∧w.heap[g]?=some (.cells cur e (0,0))∧n≤cap∧cap≤maxLen∧cur.size=cap*sz∧0<sz ∧
  (if fz then I g else ¬I g)∧F g∧Za0 w (if ex then fun b=>I b∧A b else I) g sz xs 0)
def UA (w:World) (I F A:Nat→Prop) (ns:Nat):D→Value→Prop
 | .sl ys,v=>∃ a c,v=.slice a ys.length c∧Zfw w I F A a ys.length c ns ys true false∧ZcV D.flat ys=true
 | y,v=>y.plain=true∧Z1 w I y [v]
def WD:Value→Option Nat
 | .slice (some ad) _ c=>if c=0 then none else some ad.block
 | _=>none
def JK (w:World) (g p:Nat):Option Nat:=match w.cell? ⟨g,p,none⟩ with
 | some v=>WD v
 | none=>none
def Zd4 (w:World) (I F A:Nat→Prop) (a:Option Addr) (n cap sz ns:Nat) (xs:List D):Prop:=
 n=xs.length∧((n=0∧cap=0) ∨
 ∃ g cur e,a=some ⟨g,0,none⟩∧0<cap∧w.heap[g]?=some (.cells cur e (0,0))∧n≤cap∧cap≤maxLen∧cur.size=cap*sz∧0<sz∧¬I g∧F g ∧
  (∀ i x,xs[i]?=some x→∃ vs:List Value,vs.length=sz∧QU w g (i*sz) vs∧ZB (UA w I F A ns) x.cells vs) ∧
  (∀ p q b,p<n*sz→q<n*sz→JK w g p=some b→JK w g q=some b→p=q)∧∀ p,p<n*sz→JK w g p≠some g)
def Zt0 (Γ:Gh) (w:World) (a:Option Addr) (sz:Nat) (xs:List D):Option (Nat×Nat×Nat)→Prop
 | none=>True
 | some (nm,i,j)=>∃ g a' n' c' sz',a=some ⟨g,0,none⟩∧Γ nm=some (.row a' n' c' sz')∧i<xs.length∧j<sz∧w.cell? ⟨g,i*sz+j,none⟩=some (.slice a' n' c')
def UB (Γ:Gh) (w:World) (I F A:Nat→Prop) (id:Nat):Zt→Prop
 | .box cs=>∃ b cur e,Γ id=some (.box b)∧w.heap[b]?=some (.cells cur e (0,0))∧¬I b∧F b∧ZB (Vm Γ w I) cs cur.toList
 | .row sz xs ex fz=>∃ a n c,Γ id=some (.row a n c sz)∧Zfw w I F A a n c sz xs ex fz
 | .deep sz ns xs lk=>∃ a n c,Γ id=some (.row a n c sz)∧Zd4 w I F A a n c sz ns xs∧Zt0 Γ w a sz xs lk
def ZL:Option Ref→Option Nat
 | some (.box b)=>some b
 | some (.row (some a) _ c _)=>if c=0 then none else some a.block
 | some (.row none _ _ _)=>none
 | none=>none
def YT (Γ:Gh) (w:World) (id:Nat):Zt→Nat→Prop
 | .deep sz _ xs _,b=>∃ g p,ZL (Γ id)=some g∧p<xs.length*sz∧JK w g p=some b
 | _,_=>False
def Blk (Γ:Gh) (w:World) (id:Nat) (o:Zt) (b:Nat):Prop:=ZL (Γ id)=some b∨YT Γ w id o b
def X8 (U:Nat→Prop) (base:Nat):Prop:=∀ id,base≤id→id<base+64→¬U id
def Za2 (U:Nat→Prop) (base:Nat) (id:Nat):Prop:=U id∨(base≤id∧id<base+64)
theorem X8.self {U:Nat→Prop} {base:Nat} (h:X8 U base):¬U base:=h base (Nat.le_refl _) (by omega)
def ZmW (I:Nat→Prop) (w:World):Prop:=∀ q∈gtabs,I q.1∧∃ e fr,w.heap[q.1]?=some (.cells q.2 e fr)
theorem ZmW.mono {I I' : Nat→Prop} {w w' : World} (h:ZmW I w) (hk:ZY I I' w w'):ZmW I' w':=fun q hq=>by
 obtain⟨h1,e,fr,h2⟩:=h q hq
 exact⟨hk.sub _ h1,e,fr,by rw[hk.blk _ h1];exact h2⟩
structure Sim (nt:Nat) (F A I:Nat→Prop) (Γ:Gh) (U:Nat→Prop) (sl:Sl) (hp:Hp) (a:Act) (w:World):Prop where
 nt:a.tmps.size=nt
 dfr:a.defers=[]
 slots:∀ t,Rep Γ w I (gs sl t) (a.tmps.getD t undef)
 objs:∀ id o,lkp hp id=some o→UB Γ w I F A id o
 inj:∀ i j o o' b,lkp hp i=some o→lkp hp j=some o'→Blk Γ w i o b→Blk Γ w j o' b→i=j
 bound:∀ b,I b→b<w.heap.size
 fresh:∀ b,w.heap.size≤b→F b
 own:∀ b,F b→A b
 names:∀ id,¬U id→Γ id=none
 glob:ZmW I w
structure Fr (F:Nat→Prop) (w w' : World):Prop where
 os:w'.os=w.os
 tape:w'.tape=w.tape
 output:w'.output=w.output
 size:w.heap.size≤w'.heap.size
 block:∀ k,k<w.heap.size→¬F k→w'.heap[k]?=w.heap[k]?
theorem Fr.refl (F:Nat→Prop) (w:World):Fr F w w:=⟨rfl,rfl,rfl,Nat.le_refl _,fun _ _ _=>rfl⟩
theorem Fr.trans {F:Nat→Prop} {a b c:World} (h:Fr F a b) (k:Fr F b c):Fr F a c:=
 ⟨k.os.trans h.os,k.tape.trans h.tape,k.output.trans h.output,Nat.le_trans h.size k.size,fun i hi hf=>(k.block i (Nat.lt_of_lt_of_le hi h.size) hf).trans (h.block i hi hf)⟩
end Go.Abs
