/- Own text. -/
import Derived.Test.YtdhgppkldoopaaaGreatAbsTree
set_option linter.unusedVariables false
set_option linter.unusedSimpArgs false
namespace Go.Abs
open Go
def Q4 (w:World) (S:Nat→Prop):D→Value→Prop
 | .agg cs,v=>∃ vs,v=.agg vs∧QB w S cs vs.toList
 | d,v=>ZQ w S d [v]
theorem Q4.mono {w w' : World} {S S' : Nat→Prop} (hk:ZS S S' w w') {d:D} {v:Value} (h:Q4 w S d v):Q4 w' S' d v:=by
 cases d<;>simp only[Q4] at h ⊢
 ·exact h.mono hk
 ·exact h.mono hk
 ·exact h.mono hk
 ·exact h.mono hk
 ·obtain⟨vs,h1,h2⟩:=h;exact⟨vs,h1,h2.mono hk⟩
theorem Q4.cells {w:World} {S:Nat→Prop} {d:D} {v:Value} (h:Q4 w S d v):ZQ w S d v.cells.toList:=by
 cases d<;>simp only[Q4] at h
 ·have:=h;simp only[ZQ] at h;simp at h;subst h;exact this
 ·have:=h;simp only[ZQ] at h;simp at h;subst h;exact this
 ·have:=h;simp only[ZQ] at h;obtain⟨t,h,_⟩:=h;simp at h;subst h;exact this
 ·have:=h;simp only[ZQ] at h;obtain⟨a,c,h,_⟩:=h;simp at h;subst h;exact this
 ·obtain⟨vs,rfl,h2⟩:=h;simpa [ZQ,Value.cells] using h2
theorem Q4.one {w:World} {S:Nat→Prop} {d:D} {v:Value} (hd:d.one=true):Q4 w S d v↔ZQ w S d [v]:=by
 cases d<;>simp[Q4,D.one] at hd ⊢
inductive Ref where
 | box (b:Nat×TypeId)
 | row (a:Option Addr) (n c sz:Nat)
abbrev Gh:=Nat→Option Ref
def YB (Γ:Gh) (w:World) (I:Nat→Prop):AV→Value→Prop
 | .d x,v=>x.one=true∧ZQ w I x [v]
 | .nil,v=>∃ a,v=.slice a 0 0
 | .nilp,v=>v=.pointer none
 | .nili,v=>v=.nilIface
 | .ptr id off,v=>∃ b,Γ id=some (.box b)∧v=.pointer (some ⟨b.1,off,none⟩)
 | .prow id sz i off,v=>∃ b n c,Γ id=some (.row (some ⟨b,0,none⟩) n c sz)∧i<n∧v=.pointer (some ⟨b,i*sz+off,none⟩)
 | .pim cs,v=>∃ b o vs,v=.pointer (some ⟨b,o,none⟩)∧I b∧QD w b o vs∧QB w I cs vs
 | .own id,v=>∃ a n c sz,Γ id=some (.row a n c sz)∧v=.slice a n c
 | .ownv id off n,v=>∃ a0 m c sz a,Γ id=some (.row a0 m c sz)∧off+n≤m∧m≤c∧v=.slice a n (c-off)∧(off=0→a=a0)∧(a=a0.map (·.add (off*sz))∨c=off)
 | .bnil id e,v=>∃ b,Γ id=some (.box (b,e))∧(v=.pointer none∨v=.pointer (some ⟨b,0,none⟩))
 | .bbuf _ _,v=>∃ a n c,v=.slice a n c
 | .agg _,_=>False
 | .tup _,_=>False
 | .clo _ _,_=>False
 | .junk,_=>True
def Xx (Γ:Gh) (w:World) (I:Nat→Prop):AV→Value→Prop
 | .clo f cs,v=>∃ us,v=.func (.func f) #[] us∧Zy (YB Γ w I) cs us.toList
 | x,v=>YB Γ w I x v
def Jv (Γ:Gh) (w:World) (I:Nat→Prop):AV→Value→Prop
 | .agg cs,v=>∃ vs,v=.agg vs∧Zy (YB Γ w I) cs vs.toList
 | .clo f cs,v=>∃ us,v=.func (.func f) #[] us∧Zy (YB Γ w I) cs us.toList
 | .d (.agg ds),v=>∃ vs,v=.agg vs∧QB w I ds vs.toList
 | x,v=>YB Γ w I x v
def Rep (Γ:Gh) (w:World) (I:Nat→Prop):AV→Value→Prop
 | .tup vs,v=>∃ us,v=.tuple us∧Zy (Jv Γ w I) vs us.toList
 | x,v=>Jv Γ w I x v
def Qg (Γ Γ' : Gh):Prop:=∀ id r,Γ id=some r→Γ' id=some r
section
variable {Γ Γ' : Gh} {w w' : World} {I I' : Nat→Prop}
theorem YB.mono (hg:Qg Γ Γ') (hk:ZS I I' w w') {x:AV} {v:Value} (h:YB Γ w I x v):YB Γ' w' I' x v:=by
 cases x<;>simp only[YB] at h ⊢
 ·exact⟨h.1,h.2.mono hk⟩
 ·exact h
 ·exact h
 ·exact h
 ·obtain⟨b,h1,h2⟩:=h;exact⟨b,hg _ _ h1,h2⟩
 ·obtain⟨b,n,c,h1,h2⟩:=h;exact⟨b,n,c,hg _ _ h1,h2⟩
 ·obtain⟨b,o,vs,h1,h2,h3,h4⟩:=h;exact⟨b,o,vs,h1,hk.sub b h2,h3.mono (hk.blk b h2),h4.mono hk⟩
 ·obtain⟨a,n,c,sz,h1,h2⟩:=h;exact⟨a,n,c,sz,hg _ _ h1,h2⟩
 ·obtain⟨a0,m,c,sz,a,h1,h2⟩:=h;exact⟨a0,m,c,sz,a,hg _ _ h1,h2⟩
 ·obtain⟨b,h1,h2⟩:=h;exact⟨b,hg _ _ h1,h2⟩
 ·exact h
theorem Xx.mono (hg:Qg Γ Γ') (hk:ZS I I' w w') {x:AV} {v:Value} (h:Xx Γ w I x v):Xx Γ' w' I' x v:=by
 unfold Xx at h ⊢;split at h
 ·obtain⟨vs,h1,h2⟩:=h;exact⟨vs,h1,h2.mono fun _ _ h=>h.mono hg hk⟩
 ·exact h.mono hg hk
theorem Jv.mono (hg:Qg Γ Γ') (hk:ZS I I' w w') {x:AV} {v:Value} (h:Jv Γ w I x v):Jv Γ' w' I' x v:=by
 unfold Jv at h ⊢;split at h
 ·obtain⟨vs,h1,h2⟩:=h;exact⟨vs,h1,h2.mono fun _ _ h=>h.mono hg hk⟩
 ·obtain⟨vs,h1,h2⟩:=h;exact⟨vs,h1,h2.mono fun _ _ h=>h.mono hg hk⟩
 ·obtain⟨vs,h1,h2⟩:=h;exact⟨vs,h1,h2.mono hk⟩
 ·exact h.mono hg hk
theorem Rep.mono (hg:Qg Γ Γ') (hk:ZS I I' w w') {x:AV} {v:Value} (h:Rep Γ w I x v):Rep Γ' w' I' x v:=by
 unfold Rep at h ⊢;split at h
 ·obtain⟨vs,h1,h2⟩:=h;exact⟨vs,h1,h2.mono fun _ _ h=>h.mono hg hk⟩
 ·exact h.mono hg hk
theorem YB.repB {x:AV} {v:Value} (h:YB Γ w I x v):Xx Γ w I x v:=by
 cases x<;>first | exact h | exact h.elim
theorem YB.rep2 {x:AV} {v:Value} (h:YB Γ w I x v):Jv Γ w I x v:=by
 cases x<;>first | exact h | exact h.elim | skip
 rename_i x;cases x<;>first | exact h | skip
 simp[YB,D.one] at h
theorem Xx.rep2 {x:AV} {v:Value} (h:Xx Γ w I x v):Jv Γ w I x v:=by
 cases x<;>first | exact YB.rep2 h | exact h
theorem Jv.rep {x:AV} {v:Value} (h:Jv Γ w I x v):Rep Γ w I x v:=by
 cases x<;>first | exact h | exact h.elim
theorem Xf {x:D} {v:Value}:Rep Γ w I (.d x) v↔Q4 w I x v:=by
 cases x<;>simp[Rep,Jv,YB,Q4,D.one]
theorem ZsU {x:D} {v:Value}:Jv Γ w I (.d x) v↔Q4 w I x v:=by
 cases x<;>simp[Jv,YB,Q4,D.one]
theorem Zuv:∀ {cs:List AV} {ds:List D} {vs:List Value},Zex cs=some ds→Zy (Xx Γ w I) cs vs→QB w I ds vs
 | [],ds,[],h,_=>by simp[Zex] at h;subst h;simp[QB]
 | [],_,_ :: _,_,h=>h.elim
 | _ :: _,_,[],_,h=>h.elim
 | c :: cs,ds,v :: vs,h,hr=>by
  simp only[Zex] at h;obtain⟨x,h1,h⟩:=Za h;obtain⟨aa,h2,h⟩:=Za h;cases h;refine⟨v,vs,rfl,?_,?_,Zuv h2 hr.2⟩
  ·unfold ZoN at h1;split at h1
   ·split at h1<;>cases h1;assumption
   ·cases h1
  ·unfold ZoN at h1;split at h1
   ·split at h1<;>cases h1;exact hr.1.2
   ·cases h1
theorem ZrC:∀ {cs:List AV} {vs:List Value},Zc4 cs=false→Zy (Xx Γ w I) cs vs→Zy (YB Γ w I) cs vs
 | [],[],_,_=>trivial
 | [],_ :: _,_,h=>h.elim
 | _ :: _,[],_,h=>h.elim
 | c :: cs,v :: vs,h,hr=>by
  simp only[Zc4,L9] at h;refine⟨?_,ZrC h.2 hr.2⟩;cases c<;>first | exact hr.1 | (simp[Zq6] at h)
theorem Zhy {cs:List AV} {vs:Array Value} (h:Zy (Xx Γ w I) cs vs.toList):Rep Γ w I (Jh cs) (.agg vs):=by
 unfold Jh;cases hd:Zex cs with
 | some ds=>exact Xf.2 ⟨vs,rfl,Zuv hd h⟩
 | none=>
  simp only[W7];cases hc:Zc4 cs
  ·exact⟨vs,rfl,ZrC hc h⟩
  ·exact trivial
theorem Rep.cells {x:AV} {v:Value} (hs:x.solid=true) (h:Rep Γ w I x v):Zy (Xx Γ w I) x.cells v.cells.toList:=by
 cases x with
 | d x=>
  have h1:=(Xf.1 h).cells.cells;rw[QK] at h1;exact h1.map_left (f:=AV.d) (S:=Xx Γ w I) fun a b aa=>aa
 | agg cs=>obtain⟨vs,rfl,h⟩:=h;exact h.mono fun _ _ h=>h.repB
 | clo f cs=>obtain⟨us,rfl,h⟩:=h;exact⟨⟨us,rfl,h⟩,trivial⟩
 | tup vs=>cases hs
 | junk=>cases hs
 | nil=>obtain⟨a,rfl⟩:=h;exact⟨⟨a,rfl⟩,trivial⟩
 | nilp=>obtain rfl:=h;exact⟨rfl,trivial⟩
 | nili=>obtain rfl:=h;exact⟨rfl,trivial⟩
 | ptr id off=>obtain⟨b,h1,rfl⟩:=h;exact⟨⟨b,h1,rfl⟩,trivial⟩
 | prow id sz i off=>obtain⟨b,n,c,h1,h2,rfl⟩:=h;exact⟨⟨b,n,c,h1,h2,rfl⟩,trivial⟩
 | pim cs=>obtain⟨b,o,vs,rfl,h⟩:=h;exact⟨⟨b,o,vs,rfl,h⟩,trivial⟩
 | own id=>
  obtain⟨a,n,c,sz,h1,rfl⟩:=h;exact⟨⟨a,n,c,sz,h1,rfl⟩,trivial⟩
 | ownv id off n=>obtain⟨a0,m,c,sz,a,h1,h2,h3,rfl,h4⟩:=h;exact⟨⟨a0,m,c,sz,a,h1,h2,h3,rfl,h4⟩,trivial⟩
 | bnil id e=>
  obtain⟨b,h1,h2⟩:=h;rcases h2 with rfl | rfl
  ·exact⟨⟨b,h1,.inl rfl⟩,trivial⟩
  ·exact⟨⟨b,h1,.inr rfl⟩,trivial⟩
 | bbuf a b=>cases hs
end
theorem ZdO {w w' : World} {S S' : Nat→Prop} {d:D} {vs:List Value} (hd:d.plain=true) (h:ZQ w S d vs):ZQ w' S' d vs:=by
 cases d<;>first | (simpa [ZQ] using h) | (simp[D.plain] at hd)
def ZkX (w:World) (I F A:Nat→Prop) (a:Option Addr) (n cap sz:Nat) (xs:List D) (ex fz:Bool):Prop:=
 n=xs.length∧((n=0∧cap=0) ∨
 ∃ g cur e,a=some ⟨g,0,none⟩∧0<cap∧w.heap[g]?=some (.cells cur e (0,0))∧n≤cap∧cap≤maxLen∧cur.size=cap*sz∧0<sz ∧
  (if fz then I g else ¬I g)∧F g∧WL w (if ex then fun b=>I b∧A b else I) g sz xs 0)
def Zuw:Value→Option Nat
 | .slice (some ad) _ c=>if c=0 then none else some ad.block
 | _=>none
def ZkY (w:World) (g p:Nat):Option Nat:=match w.cell? ⟨g,p,none⟩ with
 | some v=>Zuw v
 | none=>none
def Y7 (sz:Nat):Option (Option Nat×Nat×Nat)→Option Nat
 | some (_,i,j)=>some (i*sz+j)
 | none=>none
def Ux (w:World) (g:Nat):Option Nat→World
 | some p=>w.setCell ⟨g,p,none⟩ (.slice none 0 0)
 | none=>w
theorem ZAY (w:World) (g:Nat) (h:Option Nat) {k:Nat} (hk:k≠g):(Ux w g h).heap[k]?=w.heap[k]?:=by
 cases h with
 | none=>rfl
 | some p=>simp[Ux,World.setCell,L6,Ne.symm hk]
theorem ZvF (w:World) (g:Nat) (h:Option Nat):(Ux w g h).heap.size=w.heap.size:=by
 cases h with
 | none=>rfl
 | some p=>simp[Ux,World.setCell]
theorem Zhz {w:World} {g:Nat} {cur:Array Value} {e:TypeId} {fr:Nat×Nat} (hg:w.heap[g]?=some (.cells cur e fr)) (p:Nat):Ux w g (some p)=w.setRow g (cur.setIfInBounds p (.slice none 0 0)):=
 setCell_eq_setRow w g p cur e fr _ hg
theorem ZeR {w w' : World} {g:Nat} (h:Option Nat) {k:Nat} (hk:w'.heap[k]?=w.heap[k]?):(Ux w' g h).heap[k]?=(Ux w g h).heap[k]?:=by
 cases h with
 | none=>exact hk
 | some p=>simp only[Ux,World.setCell,L6,hk]
theorem ZvG {w:World} {g p:Nat} {h:Option Nat} (hp:h≠some p):(Ux w g h).cell? ⟨g,p,none⟩=w.cell? ⟨g,p,none⟩:=by
 cases h with
 | none=>rfl
 | some q=>
  have aa:q≠p:=fun e=>hp (e ▸ rfl);simp only[Ux];cases hg:w.heap[g]? with
  | none=>simp[World.setCell,World.cell?,L6,hg]
  | some b=>cases b<;>simp[World.setCell,World.cell?,L6,hg,Array.getElem?_setIfInBounds,aa]
def Zjw (w:World) (I F:Nat→Prop) (a:Option Addr) (n cap sz ns:Nat) (xs:List D) (hl:Option Nat):Prop:=
 n=xs.length∧((n=0∧cap=0∧hl=none) ∨
 ∃ g cur e B,a=some ⟨g,0,none⟩∧0<cap∧w.heap[g]?=some (.cells cur e (0,0))∧n≤cap∧cap≤maxLen∧cur.size=cap*sz∧0<sz∧ZZ (Ux w g hl) ns B g sz xs 0∧(g :: B).Nodup∧∀ b∈g :: B,¬I b∧F b)
def X8 (Γ:Gh) (w:World) (a:Option Addr) (sz ns:Nat) (xs:List D):Option (Option Nat×Nat×Nat)→Prop
 | none=>True
 | some (nm,i,j)=>i<xs.length∧j<sz∧Js xs i j=some []∧∀ k,nm=some k→∃ g a' n' c',a=some ⟨g,0,none⟩∧Γ k=some (.row a' n' c' ns)∧w.cell? ⟨g,i*sz+j,none⟩=some (.slice a' n' c')
def OwnBuf (w:World) (I F:Nat→Prop) (b te:Nat) (l:List UInt8) (v:Value):Prop:=
 l=[]∧v=.slice none 0 0 ∨
 ∃ g cap cur,v=.slice (some ⟨g,0,none⟩) l.length cap∧0<l.length∧w.heap[g]?=some (.cells cur te (0,0))∧l.length≤cap∧cap≤maxLen∧cur.size=cap∧cur.toList.take l.length=l.map (fun x=>Value.int .u8 x.toNat)∧¬I g∧F g∧g≠b
def Zcy (w:World) (I F:Nat→Prop) (b:Nat):List AV→List Value→Prop
 | [_,.bbuf te l],[_,v]=>OwnBuf w I F b te l v
 | cs,_=>XA cs=true
def Yz (Γ:Gh) (w:World) (I F A:Nat→Prop) (id:Nat):Zn→Prop
 | .box cs=>∃ b cur e,Γ id=some (.box (b,e))∧w.heap[b]?=some (.cells cur e (0,0))∧¬I b∧F b∧Zy (Xx Γ w I) cs cur.toList∧Zcy w I F b cs cur.toList
 | .row sz xs ex fz=>∃ a n c,Γ id=some (.row a n c sz)∧ZkX w I F A a n c sz xs ex fz
 | .tree sz ns xs lk=>∃ a n c,Γ id=some (.row a n c sz)∧Zjw w I F a n c sz ns xs (Y7 sz lk)∧X8 Γ w a sz ns xs lk
 | .gone=>∃ r,Γ id=some r
def ZA:Option Ref→Option Nat
 | some (.box b)=>some b.1
 | some (.row (some a) _ c _)=>if c=0 then none else some a.block
 | some (.row none _ _ _)=>none
 | none=>none
def ZfE (r:Option Ref):Zn→Option Nat
 | .gone=>none
 | _=>ZA r
@[simp] theorem blkO_box (r:Option Ref) (cs:List AV):ZfE r (.box cs)=ZA r:=rfl
@[simp] theorem Zy2 (r:Option Ref) (s:Nat) (xs:List D) (e f:Bool):ZfE r (.row s xs e f)=ZA r:=rfl
@[simp] theorem Zbf (r:Option Ref) (s n:Nat) (xs:List D) (l:Option (Option Nat×Nat×Nat)):ZfE r (.tree s n xs l)=ZA r:=rfl
@[simp] theorem blkO_gone (r:Option Ref):ZfE r .gone=none:=rfl
theorem Zl0 (r:Option Ref) (g:Nat→Nat) (o:Zn):ZfE r (Zkt g o)=ZfE r o:=by cases o<;>rfl
theorem Zjx (r:Option Ref) (bad:List Nat) (o:Zn):ZfE r (Q8 bad o)=ZfE r o:=by cases o<;>rfl
def ZfC (Γ:Gh) (w:World) (id:Nat):Zn→Nat→Prop
 | .tree sz ns xs lk,b=>∃ g B,ZA (Γ id)=some g∧ZZ (Ux w g (Y7 sz lk)) ns B g sz xs 0∧b∈B
 | _,_=>False
def Buf (Γ:Gh) (w:World) (id:Nat):Zn→Nat→Prop
 | .box [_,.bbuf _ _],b=>∃ g,ZA (Γ id)=some g∧ZkY w g 1=some b
 | _,_=>False
def Blk (Γ:Gh) (w:World) (id:Nat) (o:Zn) (b:Nat):Prop:=ZfE (Γ id) o=some b∨ZfC Γ w id o b∨Buf Γ w id o b
def QZ (U:Nat→Prop) (base:Nat):Prop:=∀ id,base≤id→id<base+64→¬U id
def JC (U:Nat→Prop) (base:Nat) (id:Nat):Prop:=U id∨(base≤id∧id<base+64)
theorem QZ.self {U:Nat→Prop} {base:Nat} (h:QZ U base):¬U base:=h base (Kk _) (by omega)
def Zjy (I:Nat→Prop) (w:World):Prop:=∀ q∈gtabs,I q.1∧∃ e fr,w.heap[q.1]?=some (.cells q.2 e fr)
theorem Zjy.mono {I I' : Nat→Prop} {w w' : World} (h:Zjy I w) (hk:ZS I I' w w'):Zjy I' w':=fun q hq=>by
 obtain⟨h1,e,fr,h2⟩:=h q hq;exact⟨hk.sub _ h1,e,fr,by rw[hk.blk _ h1];exact h2⟩
structure Sim (nt:Nat) (F A I:Nat→Prop) (Γ:Gh) (U:Nat→Prop) (sl:Sl) (hp:Hp) (a:Act) (w:World):Prop where
 nt:a.tmps.size=nt
 dfr:a.defers=[]
 slots:∀ t,Rep Γ w I (gs sl t) (a.tmps.getD t undef)
 objs:∀ id o,lkp hp id=some o→Yz Γ w I F A id o
 inj:∀ i j o o' b,lkp hp i=some o→lkp hp j=some o'→Blk Γ w i o b→Blk Γ w j o' b→i=j
 bound:∀ b,I b→b<w.heap.size
 fresh:∀ b,w.heap.size≤b→F b
 own:∀ b,F b→A b
 names:∀ id,¬U id→Γ id=none
 glob:Zjy I w
structure Fr (F:Nat→Prop) (w w' : World):Prop where
 os:w'.os=w.os
 tape:w'.tape=w.tape
 output:w'.output=w.output
 size:w.heap.size≤w'.heap.size
 block:∀ k,k<w.heap.size→¬F k→w'.heap[k]?=w.heap[k]?
theorem Fr.refl (F:Nat→Prop) (w:World):Fr F w w:=⟨rfl,rfl,rfl,Kk _,fun _ _ _=>rfl⟩
theorem Fr.trans {F:Nat→Prop} {a b c:World} (h:Fr F a b) (k:Fr F b c):Fr F a c:=
 ⟨k.os.trans h.os,k.tape.trans h.tape,k.output.trans h.output,Kv h.size k.size,fun i hi hf=>(k.block i (Nat.lt_of_lt_of_le hi h.size) hf).trans (h.block i hi hf)⟩
end Go.Abs
