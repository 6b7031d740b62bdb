/- Own text. -/
import Derived.Test.YtnachaiejoflhaaAbsTree
set_option linter.unusedVariables false
set_option linter.unusedSimpArgs false
namespace Go.Abs
open Go
def QF (w:World) (S:Nat→Prop):D→Value→Prop
 | .agg cs,v=>∃ vs,v=.agg vs∧Qf w S cs vs.toList
 | d,v=>ZF w S d [v]
theorem QF.mono {w w' : World} {S S' : Nat→Prop} (hk:ZH S S' w w') {d:D} {v:Value} (h:QF w S d v):QF w' S' d v:=by
 cases d<;>simp only[QF] at h ⊢
 ·exact h.mono hk
 ·exact h.mono hk
 ·exact h.mono hk
 ·exact h.mono hk
 ·obtain⟨vs,h1,h2⟩:=h;exact⟨vs,h1,h2.mono hk⟩
theorem QF.cells {w:World} {S:Nat→Prop} {d:D} {v:Value} (h:QF w S d v):ZF w S d v.cells.toList:=by
 cases d<;>simp only[QF] at h
 ·have:=h;simp only[ZF] at h;simp at h;subst h;exact this
 ·have:=h;simp only[ZF] at h;simp at h;subst h;exact this
 ·have:=h;simp only[ZF] at h;obtain⟨t,h,_⟩:=h;simp at h;subst h;exact this
 ·have:=h;simp only[ZF] at h;obtain⟨a,c,h,_⟩:=h;simp at h;subst h;exact this
 ·obtain⟨vs,rfl,h2⟩:=h;simpa [ZF,Value.cells] using h2
theorem QF.one {w:World} {S:Nat→Prop} {d:D} {v:Value} (hd:d.one=true):QF w S d v↔ZF w S d [v]:=by
 cases d<;>simp[QF,D.one] at hd ⊢
inductive Ref where
 | box (b:Nat×TypeId)
 | row (a:Option Addr) (n c sz:Nat)
abbrev Gh:=Nat→Option Ref
def XB (Γ:Gh) (w:World) (I:Nat→Prop):AV→Value→Prop
 | .d x,v=>x.one=true∧ZF w I x [v]
 | .nil,v=>∃ a,v=.slice a 0 0
 | .nilp,v=>v=.pointer none
 | .nili,v=>v=.nilIface
 | .ptr id off,v=>∃ b,Γ id=some (.box b)∧v=.pointer (some ⟨b.1,off,none⟩)
 | .prow id sz i off,v=>∃ b n c,Γ id=some (.row (some ⟨b,0,none⟩) n c sz)∧i<n∧v=.pointer (some ⟨b,i*sz+off,none⟩)
 | .pim cs,v=>∃ b o vs,v=.pointer (some ⟨b,o,none⟩)∧I b∧Ql w b o vs∧Qf w I cs vs
 | .own id,v=>∃ a n c sz,Γ id=some (.row a n c sz)∧v=.slice a n c
 | .ownv id off n,v=>∃ a0 m c sz a,Γ id=some (.row a0 m c sz)∧off+n≤m∧m≤c∧v=.slice a n (c-off)∧(off=0→a=a0)∧(a=a0.map (·.add (off*sz))∨c=off)
 | .bnil id e,v=>∃ b,Γ id=some (.box (b,e))∧(v=.pointer none∨v=.pointer (some ⟨b,0,none⟩))
 | .bbuf _ _,v=>∃ a n c,v=.slice a n c
 | .agg _,_=>False
 | .tup _,_=>False
 | .clo _ _,_=>False
 | .junk,_=>True
def QV (Γ:Gh) (w:World) (I:Nat→Prop):AV→Value→Prop
 | .clo f cs,v=>∃ us,v=.func (.func f) #[] us∧Zp (XB Γ w I) cs us.toList
 | x,v=>XB Γ w I x v
def V9 (Γ:Gh) (w:World) (I:Nat→Prop):AV→Value→Prop
 | .agg cs,v=>∃ vs,v=.agg vs∧Zp (XB Γ w I) cs vs.toList
 | .clo f cs,v=>∃ us,v=.func (.func f) #[] us∧Zp (XB Γ w I) cs us.toList
 | .d (.agg ds),v=>∃ vs,v=.agg vs∧Qf w I ds vs.toList
 | x,v=>XB Γ w I x v
def Rep (Γ:Gh) (w:World) (I:Nat→Prop):AV→Value→Prop
 | .tup vs,v=>∃ us,v=.tuple us∧Zp (V9 Γ w I) vs us.toList
 | x,v=>V9 Γ w I x v
def ZZ (Γ Γ' : Gh):Prop:=∀ id r,Γ id=some r→Γ' id=some r
section
variable {Γ Γ' : Gh} {w w' : World} {I I' : Nat→Prop}
theorem XB.mono (hg:ZZ Γ Γ') (hk:ZH I I' w w') {x:AV} {v:Value} (h:XB Γ w I x v):XB Γ' w' I' x v:=by
 cases x<;>simp only[XB] at h ⊢
 ·exact⟨h.1,h.2.mono hk⟩
 ·exact h
 ·exact h
 ·exact h
 ·obtain⟨b,h1,h2⟩:=h;exact⟨b,hg _ _ h1,h2⟩
 ·obtain⟨b,n,c,h1,h2⟩:=h;exact⟨b,n,c,hg _ _ h1,h2⟩
 ·obtain⟨b,o,vs,h1,h2,h3,h4⟩:=h;exact⟨b,o,vs,h1,hk.sub b h2,h3.mono (hk.blk b h2),h4.mono hk⟩
 ·obtain⟨a,n,c,sz,h1,h2⟩:=h;exact⟨a,n,c,sz,hg _ _ h1,h2⟩
 ·obtain⟨a0,m,c,sz,a,h1,h2⟩:=h;exact⟨a0,m,c,sz,a,hg _ _ h1,h2⟩
 ·obtain⟨b,h1,h2⟩:=h;exact⟨b,hg _ _ h1,h2⟩
 ·exact h
theorem QV.mono (hg:ZZ Γ Γ') (hk:ZH I I' w w') {x:AV} {v:Value} (h:QV Γ w I x v):QV Γ' w' I' x v:=by
 unfold QV at h ⊢;split at h
 ·obtain⟨vs,h1,h2⟩:=h;exact⟨vs,h1,h2.mono fun _ _ h=>h.mono hg hk⟩
 ·exact h.mono hg hk
theorem V9.mono (hg:ZZ Γ Γ') (hk:ZH I I' w w') {x:AV} {v:Value} (h:V9 Γ w I x v):V9 Γ' w' I' x v:=by
 unfold V9 at h ⊢;split at h
 ·obtain⟨vs,h1,h2⟩:=h;exact⟨vs,h1,h2.mono fun _ _ h=>h.mono hg hk⟩
 ·obtain⟨vs,h1,h2⟩:=h;exact⟨vs,h1,h2.mono fun _ _ h=>h.mono hg hk⟩
 ·obtain⟨vs,h1,h2⟩:=h;exact⟨vs,h1,h2.mono hk⟩
 ·exact h.mono hg hk
theorem Rep.mono (hg:ZZ Γ Γ') (hk:ZH I I' w w') {x:AV} {v:Value} (h:Rep Γ w I x v):Rep Γ' w' I' x v:=by
 unfold Rep at h ⊢;split at h
 ·obtain⟨vs,h1,h2⟩:=h;exact⟨vs,h1,h2.mono fun _ _ h=>h.mono hg hk⟩
 ·exact h.mono hg hk
theorem XB.repB {x:AV} {v:Value} (h:XB Γ w I x v):QV Γ w I x v:=by
 cases x<;>first | exact h | exact h.elim
theorem XB.rep2 {x:AV} {v:Value} (h:XB Γ w I x v):V9 Γ w I x v:=by
 cases x<;>first | exact h | exact h.elim | skip
 rename_i x;cases x<;>first | exact h | skip
 simp[XB,D.one] at h
theorem QV.rep2 {x:AV} {v:Value} (h:QV Γ w I x v):V9 Γ w I x v:=by
 cases x<;>first | exact XB.rep2 h | exact h
theorem V9.rep {x:AV} {v:Value} (h:V9 Γ w I x v):Rep Γ w I x v:=by
 cases x<;>first | exact h | exact h.elim
theorem QL {x:D} {v:Value}:Rep Γ w I (.d x) v↔QF w I x v:=by
 cases x<;>simp[Rep,V9,XB,QF,D.one]
theorem ZlR {x:D} {v:Value}:V9 Γ w I (.d x) v↔QF w I x v:=by
 cases x<;>simp[V9,XB,QF,D.one]
theorem Znn:∀ {cs:List AV} {ds:List D} {vs:List Value},ZaL cs=some ds→Zp (QV Γ w I) cs vs→Qf w I ds vs
 | [],ds,[],h,_=>by simp[ZaL] at h;subst h;simp[Qf]
 | [],_,_ :: _,_,h=>h.elim
 | _ :: _,_,[],_,h=>h.elim
 | c :: cs,ds,v :: vs,h,hr=>by
  simp only[ZaL] at h;obtain⟨x,h1,h⟩:=Za h;obtain⟨aa,h2,h⟩:=Za h;cases h;refine⟨v,vs,rfl,?_,?_,Znn h2 hr.2⟩
  ·unfold Zhh at h1;split at h1
   ·split at h1<;>cases h1;assumption
   ·cases h1
  ·unfold Zhh at h1;split at h1
   ·split at h1<;>cases h1;exact hr.1.2
   ·cases h1
theorem ZkM:∀ {cs:List AV} {vs:List Value},JW cs=false→Zp (QV Γ w I) cs vs→Zp (XB Γ w I) cs vs
 | [],[],_,_=>trivial
 | [],_ :: _,_,h=>h.elim
 | _ :: _,[],_,h=>h.elim
 | c :: cs,v :: vs,h,hr=>by
  simp only[JW,Bool.or_eq_false_iff] at h;refine⟨?_,ZkM h.2 hr.2⟩;cases c<;>first | exact hr.1 | (simp[Zki] at h)
theorem Zda {cs:List AV} {vs:Array Value} (h:Zp (QV Γ w I) cs vs.toList):Rep Γ w I (VV cs) (.agg vs):=by
 unfold VV;cases hd:ZaL cs with
 | some ds=>exact QL.2 ⟨vs,rfl,Znn hd h⟩
 | none=>
  simp only[Vt];cases hc:JW cs
  ·exact⟨vs,rfl,ZkM hc h⟩
  ·exact trivial
theorem Rep.cells {x:AV} {v:Value} (hs:x.solid=true) (h:Rep Γ w I x v):Zp (QV Γ w I) x.cells v.cells.toList:=by
 cases x with
 | d x=>
  have h1:=(QL.1 h).cells.cells;rw[Qs] at h1;exact h1.map_left (f:=AV.d) (S:=QV Γ w I) fun a b aa=>aa
 | agg cs=>obtain⟨vs,rfl,h⟩:=h;exact h.mono fun _ _ h=>h.repB
 | clo f cs=>obtain⟨us,rfl,h⟩:=h;exact⟨⟨us,rfl,h⟩,trivial⟩
 | tup vs=>cases hs
 | junk=>cases hs
 | nil=>obtain⟨a,rfl⟩:=h;exact⟨⟨a,rfl⟩,trivial⟩
 | nilp=>obtain rfl:=h;exact⟨rfl,trivial⟩
 | nili=>obtain rfl:=h;exact⟨rfl,trivial⟩
 | ptr id off=>obtain⟨b,h1,rfl⟩:=h;exact⟨⟨b,h1,rfl⟩,trivial⟩
 | prow id sz i off=>obtain⟨b,n,c,h1,h2,rfl⟩:=h;exact⟨⟨b,n,c,h1,h2,rfl⟩,trivial⟩
 | pim cs=>obtain⟨b,o,vs,rfl,h⟩:=h;exact⟨⟨b,o,vs,rfl,h⟩,trivial⟩
 | own id=>
  obtain⟨a,n,c,sz,h1,rfl⟩:=h;exact⟨⟨a,n,c,sz,h1,rfl⟩,trivial⟩
 | ownv id off n=>obtain⟨a0,m,c,sz,a,h1,h2,h3,rfl,h4⟩:=h;exact⟨⟨a0,m,c,sz,a,h1,h2,h3,rfl,h4⟩,trivial⟩
 | bnil id e=>
  obtain⟨b,h1,h2⟩:=h;rcases h2 with rfl | rfl
  ·exact⟨⟨b,h1,.inl rfl⟩,trivial⟩
  ·exact⟨⟨b,h1,.inr rfl⟩,trivial⟩
 | bbuf a b=>cases hs
end
theorem ZaC {w w' : World} {S S' : Nat→Prop} {d:D} {vs:List Value} (hd:d.plain=true) (h:ZF w S d vs):ZF w' S' d vs:=by
 cases d<;>first | (simpa [ZF] using h) | (simp[D.plain] at hd)
def ZeT (w:World) (I F A:Nat→Prop) (a:Option Addr) (n cap sz:Nat) (xs:List D) (ex fz:Bool):Prop:=
 n=xs.length∧((n=0∧cap=0) ∨
 ∃ g cur e,a=some ⟨g,0,none⟩∧0<cap∧w.heap[g]?=some (.cells cur e (0,0))∧n≤cap∧cap≤maxLen∧cur.size=cap*sz∧0<sz ∧
  (if fz then I g else ¬I g)∧F g∧Y8 w (if ex then fun b=>I b∧A b else I) g sz xs 0)
def Zno:Value→Option Nat
 | .slice (some ad) _ c=>if c=0 then none else some ad.block
 | _=>none
def ZeU (w:World) (g p:Nat):Option Nat:=match w.cell? ⟨g,p,none⟩ with
 | some v=>Zno v
 | none=>none
def XQ (sz:Nat):Option (Option Nat×Nat×Nat)→Option Nat
 | some (_,i,j)=>some (i*sz+j)
 | none=>none
def VK (w:World) (g:Nat):Option Nat→World
 | some p=>w.setCell ⟨g,p,none⟩ (.slice none 0 0)
 | none=>w
theorem Zub (w:World) (g:Nat) (h:Option Nat) {k:Nat} (hk:k≠g):(VK w g h).heap[k]?=w.heap[k]?:=by
 cases h with
 | none=>rfl
 | some p=>simp[VK,World.setCell,Lw,Ne.symm hk]
theorem ZoY (w:World) (g:Nat) (h:Option Nat):(VK w g h).heap.size=w.heap.size:=by
 cases h with
 | none=>rfl
 | some p=>simp[VK,World.setCell]
theorem Zdb {w:World} {g:Nat} {cur:Array Value} {e:TypeId} {fr:Nat×Nat} (hg:w.heap[g]?=some (.cells cur e fr)) (p:Nat):VK w g (some p)=w.setRow g (cur.setIfInBounds p (.slice none 0 0)):=
 setCell_eq_setRow w g p cur e fr _ hg
theorem Za6 {w w' : World} {g:Nat} (h:Option Nat) {k:Nat} (hk:w'.heap[k]?=w.heap[k]?):(VK w' g h).heap[k]?=(VK w g h).heap[k]?:=by
 cases h with
 | none=>exact hk
 | some p=>simp only[VK,World.setCell,Lw,hk]
theorem ZoZ {w:World} {g p:Nat} {h:Option Nat} (hp:h≠some p):(VK w g h).cell? ⟨g,p,none⟩=w.cell? ⟨g,p,none⟩:=by
 cases h with
 | none=>rfl
 | some q=>
  have aa:q≠p:=fun e=>hp (e ▸ rfl);simp only[VK];cases hg:w.heap[g]? with
  | none=>simp[World.setCell,World.cell?,Lw,hg]
  | some b=>cases b<;>simp[World.setCell,World.cell?,Lw,hg,Array.getElem?_setIfInBounds,aa]
def Zd2 (w:World) (I F:Nat→Prop) (a:Option Addr) (n cap sz ns:Nat) (xs:List D) (hl:Option Nat):Prop:=
 n=xs.length∧((n=0∧cap=0∧hl=none) ∨
 ∃ g cur e B,a=some ⟨g,0,none⟩∧0<cap∧w.heap[g]?=some (.cells cur e (0,0))∧n≤cap∧cap≤maxLen∧cur.size=cap*sz∧0<sz∧ZO (VK w g hl) ns B g sz xs 0∧(g :: B).Nodup∧∀ b∈g :: B,¬I b∧F b)
def Xj (Γ:Gh) (w:World) (a:Option Addr) (sz ns:Nat) (xs:List D):Option (Option Nat×Nat×Nat)→Prop
 | none=>True
 | some (nm,i,j)=>i<xs.length∧j<sz∧V8 xs i j=some []∧∀ k,nm=some k→∃ g a' n' c',a=some ⟨g,0,none⟩∧Γ k=some (.row a' n' c' ns)∧w.cell? ⟨g,i*sz+j,none⟩=some (.slice a' n' c')
def OwnBuf (w:World) (I F:Nat→Prop) (b te:Nat) (l:List UInt8) (v:Value):Prop:=
 l=[]∧v=.slice none 0 0 ∨
 ∃ g cap cur,v=.slice (some ⟨g,0,none⟩) l.length cap∧0<l.length∧w.heap[g]?=some (.cells cur te (0,0))∧l.length≤cap∧cap≤maxLen∧cur.size=cap∧cur.toList.take l.length=l.map (fun x=>Value.int .u8 x.toNat)∧¬I g∧F g∧g≠b
def JO (w:World) (I F:Nat→Prop) (b:Nat):List AV→List Value→Prop
 | [_,.bbuf te l],[_,v]=>OwnBuf w I F b te l v
 | cs,_=>QW cs=true
def Xz (Γ:Gh) (w:World) (I F A:Nat→Prop) (id:Nat):Zk→Prop
 | .box cs=>∃ b cur e,Γ id=some (.box (b,e))∧w.heap[b]?=some (.cells cur e (0,0))∧¬I b∧F b∧Zp (QV Γ w I) cs cur.toList∧JO w I F b cs cur.toList
 | .row sz xs ex fz=>∃ a n c,Γ id=some (.row a n c sz)∧ZeT w I F A a n c sz xs ex fz
 | .tree sz ns xs lk=>∃ a n c,Γ id=some (.row a n c sz)∧Zd2 w I F a n c sz ns xs (XQ sz lk)∧Xj Γ w a sz ns xs lk
 | .gone=>∃ r,Γ id=some r
def Zt:Option Ref→Option Nat
 | some (.box b)=>some b.1
 | some (.row (some a) _ c _)=>if c=0 then none else some a.block
 | some (.row none _ _ _)=>none
 | none=>none
def ZbR (r:Option Ref):Zk→Option Nat
 | .gone=>none
 | _=>Zt r
@[simp] theorem blkO_box (r:Option Ref) (cs:List AV):ZbR r (.box cs)=Zt r:=rfl
@[simp] theorem ZrY (r:Option Ref) (s:Nat) (xs:List D) (e f:Bool):ZbR r (.row s xs e f)=Zt r:=rfl
@[simp] theorem UP (r:Option Ref) (s n:Nat) (xs:List D) (l:Option (Option Nat×Nat×Nat)):ZbR r (.tree s n xs l)=Zt r:=rfl
@[simp] theorem blkO_gone (r:Option Ref):ZbR r .gone=none:=rfl
theorem ZfH (r:Option Ref) (g:Nat→Nat) (o:Zk):ZbR r (Zeq g o)=ZbR r o:=by cases o<;>rfl
theorem Zd3 (r:Option Ref) (bad:List Nat) (o:Zk):ZbR r (QH bad o)=ZbR r o:=by cases o<;>rfl
def ZbI (Γ:Gh) (w:World) (id:Nat):Zk→Nat→Prop
 | .tree sz ns xs lk,b=>∃ g B,Zt (Γ id)=some g∧ZO (VK w g (XQ sz lk)) ns B g sz xs 0∧b∈B
 | _,_=>False
def Buf (Γ:Gh) (w:World) (id:Nat):Zk→Nat→Prop
 | .box [_,.bbuf _ _],b=>∃ g,Zt (Γ id)=some g∧ZeU w g 1=some b
 | _,_=>False
def Blk (Γ:Gh) (w:World) (id:Nat) (o:Zk) (b:Nat):Prop:=ZbR (Γ id) o=some b∨ZbI Γ w id o b∨Buf Γ w id o b
def QD (U:Nat→Prop) (base:Nat):Prop:=∀ id,base≤id→id<base+64→¬U id
def WA (U:Nat→Prop) (base:Nat) (id:Nat):Prop:=U id∨(base≤id∧id<base+64)
theorem QD.self {U:Nat→Prop} {base:Nat} (h:QD U base):¬U base:=h base (Kg _) (by omega)
def Zd4 (I:Nat→Prop) (w:World):Prop:=∀ q∈gtabs,I q.1∧∃ e fr,w.heap[q.1]?=some (.cells q.2 e fr)
theorem Zd4.mono {I I' : Nat→Prop} {w w' : World} (h:Zd4 I w) (hk:ZH I I' w w'):Zd4 I' w':=fun q hq=>by
 obtain⟨h1,e,fr,h2⟩:=h q hq;exact⟨hk.sub _ h1,e,fr,by rw[hk.blk _ h1];exact h2⟩
structure Sim (nt:Nat) (F A I:Nat→Prop) (Γ:Gh) (U:Nat→Prop) (sl:Sl) (hp:Hp) (a:Act) (w:World):Prop where
 nt:a.tmps.size=nt
 dfr:a.defers=[]
 slots:∀ t,Rep Γ w I (gs sl t) (a.tmps.getD t undef)
 objs:∀ id o,lkp hp id=some o→Xz Γ w I F A id o
 inj:∀ i j o o' b,lkp hp i=some o→lkp hp j=some o'→Blk Γ w i o b→Blk Γ w j o' b→i=j
 bound:∀ b,I b→b<w.heap.size
 fresh:∀ b,w.heap.size≤b→F b
 own:∀ b,F b→A b
 names:∀ id,¬U id→Γ id=none
 glob:Zd4 I w
structure Fr (F:Nat→Prop) (w w' : World):Prop where
 os:w'.os=w.os
 tape:w'.tape=w.tape
 output:w'.output=w.output
 size:w.heap.size≤w'.heap.size
 block:∀ k,k<w.heap.size→¬F k→w'.heap[k]?=w.heap[k]?
theorem Fr.refl (F:Nat→Prop) (w:World):Fr F w w:=⟨rfl,rfl,rfl,Kg _,fun _ _ _=>rfl⟩
theorem Fr.trans {F:Nat→Prop} {a b c:World} (h:Fr F a b) (k:Fr F b c):Fr F a c:=
 ⟨k.os.trans h.os,k.tape.trans h.tape,k.output.trans h.output,KD h.size k.size,fun i hi hf=>(k.block i (Nat.lt_of_lt_of_le hi h.size) hf).trans (h.block i hi hf)⟩
end Go.Abs
