/- Own text. -/
import Derived.Test.YtefabmohhbhlfaaAbsTree
set_option linter.unusedVariables false
set_option linter.unusedSimpArgs false
namespace Go.Abs
open Go
def Xj (w:World) (S:Nat→Prop):D→Value→Prop
 | .agg cs,v=>∃ vs,v=.agg vs∧QE w S cs vs.toList
 | d,v=>ZL w S d [v]
theorem Xj.mono {w w' : World} {S S' : Nat→Prop} (hk:ZF S S' w w') {d:D} {v:Value} (h:Xj w S d v):Xj w' S' d v:=by
 cases d<;>simp only[Xj] at h ⊢
 ·exact h.mono hk
 ·exact h.mono hk
 ·exact h.mono hk
 ·exact h.mono hk
 ·obtain⟨vs,h1,h2⟩:=h;exact⟨vs,h1,h2.mono hk⟩
theorem Xj.cells {w:World} {S:Nat→Prop} {d:D} {v:Value} (h:Xj w S d v):ZL w S d v.cells.toList:=by
 cases d<;>simp only[Xj] at h
 ·have:=h;simp only[ZL] at h;simp at h;subst h;exact this
 ·have:=h;simp only[ZL] at h;simp at h;subst h;exact this
 ·have:=h;simp only[ZL] at h;obtain⟨t,h,_⟩:=h;simp at h;subst h;exact this
 ·have:=h;simp only[ZL] at h;obtain⟨a,c,h,_⟩:=h;simp at h;subst h;exact this
 ·obtain⟨vs,rfl,h2⟩:=h;simpa [ZL,Value.cells] using h2
theorem Xj.one {w:World} {S:Nat→Prop} {d:D} {v:Value} (hd:d.one=true):Xj w S d v↔ZL w S d [v]:=by
 cases d<;>simp[Xj,D.one] at hd ⊢
inductive Ref where
 | box (b:Nat×TypeId)
 | row (a:Option Addr) (n c sz:Nat)
abbrev Gh:=Nat→Option Ref
def XX (Γ:Gh) (w:World) (I:Nat→Prop):AV→Value→Prop
 | .d x,v=>x.one=true∧ZL w I x [v]
 | .nil,v=>∃ a,v=.slice a 0 0
 | .nilp,v=>v=.pointer none
 | .nili,v=>v=.nilIface
 | .ptr id off,v=>∃ b,Γ id=some (.box b)∧v=.pointer (some ⟨b.1,off,none⟩)
 | .prow id sz i off,v=>∃ b o n c,Γ id=some (.row (some ⟨b,o,none⟩) n c sz)∧i<n∧v=.pointer (some ⟨b,o+(i*sz+off),none⟩)
 | .pim cs,v=>∃ b o vs,v=.pointer (some ⟨b,o,none⟩)∧I b∧Qe w b o vs∧QE w I cs vs
 | .own id,v=>∃ a n c sz,Γ id=some (.row a n c sz)∧v=.slice a n c
 | .ownv id off n,v=>∃ a0 m c sz a,Γ id=some (.row a0 m c sz)∧off+n≤m∧m≤c∧v=.slice a n (c-off)∧(off=0→a=a0)∧(a=a0.map (·.add (off*sz))∨c=off)
 | .bnil id e,v=>∃ b,Γ id=some (.box (b,e))∧(v=.pointer none∨v=.pointer (some ⟨b,0,none⟩))
 | .bbuf _ _,v=>∃ a n c,v=.slice a n c
 | .agg _,_=>False
 | .tup _,_=>False
 | .clo _ _,_=>False
 | .junk,_=>True
def Xd (Γ:Gh) (w:World) (I:Nat→Prop):AV→Value→Prop
 | .clo f cs,v=>∃ us,v=.func (.func f) #[] us∧Zr (XX Γ w I) cs us.toList
 | x,v=>XX Γ w I x v
def W2 (Γ:Gh) (w:World) (I:Nat→Prop):AV→Value→Prop
 | .agg cs,v=>∃ vs,v=.agg vs∧Zr (XX Γ w I) cs vs.toList
 | .clo f cs,v=>∃ us,v=.func (.func f) #[] us∧Zr (XX Γ w I) cs us.toList
 | .d (.agg ds),v=>∃ vs,v=.agg vs∧QE w I ds vs.toList
 | x,v=>XX Γ w I x v
def Rep (Γ:Gh) (w:World) (I:Nat→Prop):AV→Value→Prop
 | .tup vs,v=>∃ us,v=.tuple us∧Zr (W2 Γ w I) vs us.toList
 | x,v=>W2 Γ w I x v
def Z6 (Γ Γ' : Gh):Prop:=∀ id r,Γ id=some r→Γ' id=some r
section
variable {Γ Γ' : Gh} {w w' : World} {I I' : Nat→Prop}
theorem XX.mono (hg:Z6 Γ Γ') (hk:ZF I I' w w') {x:AV} {v:Value} (h:XX Γ w I x v):XX Γ' w' I' x v:=by
 cases x<;>simp only[XX] at h ⊢
 ·exact⟨h.1,h.2.mono hk⟩
 ·exact h
 ·exact h
 ·exact h
 ·obtain⟨b,h1,h2⟩:=h;exact⟨b,hg _ _ h1,h2⟩
 ·obtain⟨b,o,n,c,h1,h2⟩:=h;exact⟨b,o,n,c,hg _ _ h1,h2⟩
 ·obtain⟨b,o,vs,h1,h2,h3,h4⟩:=h;exact⟨b,o,vs,h1,hk.sub b h2,h3.mono (hk.blk b h2),h4.mono hk⟩
 ·obtain⟨a,n,c,sz,h1,h2⟩:=h;exact⟨a,n,c,sz,hg _ _ h1,h2⟩
 ·obtain⟨a0,m,c,sz,a,h1,h2⟩:=h;exact⟨a0,m,c,sz,a,hg _ _ h1,h2⟩
 ·obtain⟨b,h1,h2⟩:=h;exact⟨b,hg _ _ h1,h2⟩
 ·exact h
theorem Xd.mono (hg:Z6 Γ Γ') (hk:ZF I I' w w') {x:AV} {v:Value} (h:Xd Γ w I x v):Xd Γ' w' I' x v:=by
 unfold Xd at h ⊢;split at h
 ·obtain⟨vs,h1,h2⟩:=h;exact⟨vs,h1,h2.mono fun _ _ h=>h.mono hg hk⟩
 ·exact h.mono hg hk
theorem W2.mono (hg:Z6 Γ Γ') (hk:ZF I I' w w') {x:AV} {v:Value} (h:W2 Γ w I x v):W2 Γ' w' I' x v:=by
 unfold W2 at h ⊢;split at h
 ·obtain⟨vs,h1,h2⟩:=h;exact⟨vs,h1,h2.mono fun _ _ h=>h.mono hg hk⟩
 ·obtain⟨vs,h1,h2⟩:=h;exact⟨vs,h1,h2.mono fun _ _ h=>h.mono hg hk⟩
 ·obtain⟨vs,h1,h2⟩:=h;exact⟨vs,h1,h2.mono hk⟩
 ·exact h.mono hg hk
theorem Rep.mono (hg:Z6 Γ Γ') (hk:ZF I I' w w') {x:AV} {v:Value} (h:Rep Γ w I x v):Rep Γ' w' I' x v:=by
 unfold Rep at h ⊢;split at h
 ·obtain⟨vs,h1,h2⟩:=h;exact⟨vs,h1,h2.mono fun _ _ h=>h.mono hg hk⟩
 ·exact h.mono hg hk
theorem XX.repB {x:AV} {v:Value} (h:XX Γ w I x v):Xd Γ w I x v:=by
 cases x<;>first | exact h | exact h.elim
theorem XX.rep2 {x:AV} {v:Value} (h:XX Γ w I x v):W2 Γ w I x v:=by
 cases x<;>first | exact h | exact h.elim | skip
 rename_i x;cases x<;>first | exact h | skip
 simp[XX,D.one] at h
theorem Xd.rep2 {x:AV} {v:Value} (h:Xd Γ w I x v):W2 Γ w I x v:=by
 cases x<;>first | exact XX.rep2 h | exact h
theorem W2.rep {x:AV} {v:Value} (h:W2 Γ w I x v):Rep Γ w I x v:=by
 cases x<;>first | exact h | exact h.elim
theorem QR {x:D} {v:Value}:Rep Γ w I (.d x) v↔Xj w I x v:=by
 cases x<;>simp[Rep,W2,XX,Xj,D.one]
theorem ZmH {x:D} {v:Value}:W2 Γ w I (.d x) v↔Xj w I x v:=by
 cases x<;>simp[W2,XX,Xj,D.one]
theorem Zn4:∀ {cs:List AV} {ds:List D} {vs:List Value},J6 cs=some ds→Zr (Xd Γ w I) cs vs→QE w I ds vs
 | [],ds,[],h,_=>by simp[J6] at h;subst h;simp[QE]
 | [],_,_ :: _,_,h=>h.elim
 | _ :: _,_,[],_,h=>h.elim
 | c :: cs,ds,v :: vs,h,hr=>by
  simp only[J6] at h;obtain⟨x,h1,h⟩:=Za h;obtain⟨aa,h2,h⟩:=Za h;cases h;refine⟨v,vs,rfl,?_,?_,Zn4 h2 hr.2⟩
  ·unfold ZiF at h1;split at h1
   ·split at h1<;>cases h1;assumption
   ·cases h1
  ·unfold ZiF at h1;split at h1
   ·split at h1<;>cases h1;exact hr.1.2
   ·cases h1
theorem Zlu:∀ {cs:List AV} {vs:List Value},ZaD cs=false→Zr (Xd Γ w I) cs vs→Zr (XX Γ w I) cs vs
 | [],[],_,_=>trivial
 | [],_ :: _,_,h=>h.elim
 | _ :: _,[],_,h=>h.elim
 | c :: cs,v :: vs,h,hr=>by
  simp only[ZaD,Bool.or_eq_false_iff] at h;refine⟨?_,Zlu h.2 hr.2⟩;cases c<;>first | exact hr.1 | (simp[ZkW] at h)
theorem Zdm {cs:List AV} {vs:Array Value} (h:Zr (Xd Γ w I) cs vs.toList):Rep Γ w I (WO cs) (.agg vs):=by
 unfold WO;cases hd:J6 cs with
 | some ds=>exact QR.2 ⟨vs,rfl,Zn4 hd h⟩
 | none=>
  simp only[We];cases hc:ZaD cs
  ·exact⟨vs,rfl,Zlu hc h⟩
  ·exact trivial
theorem Rep.cells {x:AV} {v:Value} (hs:x.solid=true) (h:Rep Γ w I x v):Zr (Xd Γ w I) x.cells v.cells.toList:=by
 cases x with
 | d x=>
  have h1:=(QR.1 h).cells.cells;rw[QW] at h1;exact h1.map_left (f:=AV.d) (S:=Xd Γ w I) fun a b aa=>aa
 | agg cs=>obtain⟨vs,rfl,h⟩:=h;exact h.mono fun _ _ h=>h.repB
 | clo f cs=>obtain⟨us,rfl,h⟩:=h;exact⟨⟨us,rfl,h⟩,trivial⟩
 | tup vs=>cases hs
 | junk=>cases hs
 | nil=>obtain⟨a,rfl⟩:=h;exact⟨⟨a,rfl⟩,trivial⟩
 | nilp=>obtain rfl:=h;exact⟨rfl,trivial⟩
 | nili=>obtain rfl:=h;exact⟨rfl,trivial⟩
 | ptr id off=>obtain⟨b,h1,rfl⟩:=h;exact⟨⟨b,h1,rfl⟩,trivial⟩
 | prow id sz i off=>obtain⟨b,o,n,c,h1,h2,rfl⟩:=h;exact⟨⟨b,o,n,c,h1,h2,rfl⟩,trivial⟩
 | pim cs=>obtain⟨b,o,vs,rfl,h⟩:=h;exact⟨⟨b,o,vs,rfl,h⟩,trivial⟩
 | own id=>
  obtain⟨a,n,c,sz,h1,rfl⟩:=h;exact⟨⟨a,n,c,sz,h1,rfl⟩,trivial⟩
 | ownv id off n=>obtain⟨a0,m,c,sz,a,h1,h2,h3,rfl,h4⟩:=h;exact⟨⟨a0,m,c,sz,a,h1,h2,h3,rfl,h4⟩,trivial⟩
 | bnil id e=>
  obtain⟨b,h1,h2⟩:=h;rcases h2 with rfl | rfl
  ·exact⟨⟨b,h1,.inl rfl⟩,trivial⟩
  ·exact⟨⟨b,h1,.inr rfl⟩,trivial⟩
 | bbuf a b=>cases hs
end
theorem Zba {w w' : World} {S S' : Nat→Prop} {d:D} {vs:List Value} (hd:d.plain=true) (h:ZL w S d vs):ZL w' S' d vs:=by
 cases d<;>first | (simpa [ZL] using h) | (simp[D.plain] at hd)
def Zfm (w:World) (I F A:Nat→Prop) (a:Option Addr) (n cap sz:Nat) (xs:List D) (ex fz:Bool):Prop:=
 n=xs.length∧((n=0∧cap=0) ∨
 ∃ g o cur e,a=some ⟨g,o,none⟩∧0<cap∧w.heap[g]?=some (.cells cur e (0,0))∧n≤cap∧cap≤maxLen∧(cur.size=o+cap*sz∧(ex=true→o=0))∧0<sz ∧
  (if fz then I g else ¬I g)∧F g∧VU w (if ex then fun b=>I b∧A b else I) g sz xs o)
def Zn5:Value→Option Nat
 | .slice (some ad) _ c=>if c=0 then none else some ad.block
 | _=>none
def Zfn (w:World) (g p:Nat):Option Nat:=match w.cell? ⟨g,p,none⟩ with
 | some v=>Zn5 v
 | none=>none
def Yp (sz:Nat):Option (Option Nat×Nat×Nat)→Option Nat
 | some (_,i,j)=>some (i*sz+j)
 | none=>none
def Wr (w:World) (g:Nat):Option Nat→World
 | some p=>w.setCell ⟨g,p,none⟩ (.slice none 0 0)
 | none=>w
theorem Zu4 (w:World) (g:Nat) (h:Option Nat) {k:Nat} (hk:k≠g):(Wr w g h).heap[k]?=w.heap[k]?:=by
 cases h with
 | none=>rfl
 | some p=>simp[Wr,World.setCell,L4,Ne.symm hk]
theorem Zpi (w:World) (g:Nat) (h:Option Nat):(Wr w g h).heap.size=w.heap.size:=by
 cases h with
 | none=>rfl
 | some p=>simp[Wr,World.setCell]
theorem Zdn {w:World} {g:Nat} {cur:Array Value} {e:TypeId} {fr:Nat×Nat} (hg:w.heap[g]?=some (.cells cur e fr)) (p:Nat):Wr w g (some p)=w.setRow g (cur.setIfInBounds p (.slice none 0 0)):=
 setCell_eq_setRow w g p cur e fr _ hg
theorem ZbO {w w' : World} {g:Nat} (h:Option Nat) {k:Nat} (hk:w'.heap[k]?=w.heap[k]?):(Wr w' g h).heap[k]?=(Wr w g h).heap[k]?:=by
 cases h with
 | none=>exact hk
 | some p=>simp only[Wr,World.setCell,L4,hk]
theorem Zpj {w:World} {g p:Nat} {h:Option Nat} (hp:h≠some p):(Wr w g h).cell? ⟨g,p,none⟩=w.cell? ⟨g,p,none⟩:=by
 cases h with
 | none=>rfl
 | some q=>
  have aa:q≠p:=fun e=>hp (e ▸ rfl);simp only[Wr];cases hg:w.heap[g]? with
  | none=>simp[World.setCell,World.cell?,L4,hg]
  | some b=>cases b<;>simp[World.setCell,World.cell?,L4,hg,Array.getElem?_setIfInBounds,aa]
def Zem (w:World) (I F:Nat→Prop) (a:Option Addr) (n cap sz ns:Nat) (xs:List D) (hl:Option Nat):Prop:=
 n=xs.length∧((n=0∧cap=0∧hl=none) ∨
 ∃ g cur e B,a=some ⟨g,0,none⟩∧0<cap∧w.heap[g]?=some (.cells cur e (0,0))∧n≤cap∧cap≤maxLen∧cur.size=cap*sz∧0<sz∧ZP (Wr w g hl) ns B g sz xs 0∧(g :: B).Nodup∧∀ b∈g :: B,¬I b∧F b)
def XG (Γ:Gh) (w:World) (a:Option Addr) (sz ns:Nat) (xs:List D):Option (Option Nat×Nat×Nat)→Prop
 | none=>True
 | some (nm,i,j)=>i<xs.length∧j<sz∧W0 xs i j=some []∧∀ k,nm=some k→∃ g a' n' c',a=some ⟨g,0,none⟩∧Γ k=some (.row a' n' c' ns)∧w.cell? ⟨g,i*sz+j,none⟩=some (.slice a' n' c')
def OwnBuf (w:World) (I F:Nat→Prop) (b te:Nat) (l:List UInt8) (v:Value):Prop:=
 l=[]∧v=.slice none 0 0 ∨
 ∃ g cap cur,v=.slice (some ⟨g,0,none⟩) l.length cap∧0<l.length∧w.heap[g]?=some (.cells cur te (0,0))∧l.length≤cap∧cap≤maxLen∧cur.size=cap∧cur.toList.take l.length=l.map (fun x=>Value.int .u8 x.toNat)∧¬I g∧F g∧g≠b
def Zal (w:World) (I F:Nat→Prop) (b:Nat):List AV→List Value→Prop
 | [_,.bbuf te l],[_,v]=>OwnBuf w I F b te l v
 | cs,_=>QP cs=true
def XZ (Γ:Gh) (w:World) (I F A:Nat→Prop) (id:Nat):Zg→Prop
 | .box cs=>∃ b cur e,Γ id=some (.box (b,e))∧w.heap[b]?=some (.cells cur e (0,0))∧¬I b∧F b∧Zr (Xd Γ w I) cs cur.toList∧Zal w I F b cs cur.toList
 | .row sz xs ex fz=>∃ a n c,Γ id=some (.row a n c sz)∧Zfm w I F A a n c sz xs ex fz
 | .tree sz ns xs lk=>∃ a n c,Γ id=some (.row a n c sz)∧Zem w I F a n c sz ns xs (Yp sz lk)∧XG Γ w a sz ns xs lk
 | .gone=>∃ r,Γ id=some r
def Zq:Option Ref→Option Nat
 | some (.box b)=>some b.1
 | some (.row (some a) _ c _)=>if c=0 then none else some a.block
 | some (.row none _ _ _)=>none
 | none=>none
def Zb9 (r:Option Ref):Zg→Option Nat
 | .gone=>none
 | _=>Zq r
@[simp] theorem blkO_box (r:Option Ref) (cs:List AV):Zb9 r (.box cs)=Zq r:=rfl
@[simp] theorem ZsZ (r:Option Ref) (s:Nat) (xs:List D) (e f:Bool):Zb9 r (.row s xs e f)=Zq r:=rfl
@[simp] theorem Us (r:Option Ref) (s n:Nat) (xs:List D) (l:Option (Option Nat×Nat×Nat)):Zb9 r (.tree s n xs l)=Zq r:=rfl
@[simp] theorem blkO_gone (r:Option Ref):Zb9 r .gone=none:=rfl
theorem Zgg (r:Option Ref) (g:Nat→Nat) (o:Zg):Zb9 r (ZeQ g o)=Zb9 r o:=by cases o<;>rfl
theorem Zen (r:Option Ref) (bad:List Nat) (o:Zg):Zb9 r (QU bad o)=Zb9 r o:=by cases o<;>rfl
def Zb7 (Γ:Gh) (w:World) (id:Nat):Zg→Nat→Prop
 | .tree sz ns xs lk,b=>∃ g B,Zq (Γ id)=some g∧ZP (Wr w g (Yp sz lk)) ns B g sz xs 0∧b∈B
 | _,_=>False
def Buf (Γ:Gh) (w:World) (id:Nat):Zg→Nat→Prop
 | .box [_,.bbuf _ _],b=>∃ g,Zq (Γ id)=some g∧Zfn w g 1=some b
 | _,_=>False
def Blk (Γ:Gh) (w:World) (id:Nat) (o:Zg) (b:Nat):Prop:=Zb9 (Γ id) o=some b∨Zb7 Γ w id o b∨Buf Γ w id o b
def QJ (U:Nat→Prop) (base:Nat):Prop:=∀ id,base≤id→id<base+64→¬U id
def W3 (U:Nat→Prop) (base:Nat) (id:Nat):Prop:=U id∨(base≤id∧id<base+64)
theorem QJ.self {U:Nat→Prop} {base:Nat} (h:QJ U base):¬U base:=h base (Kh _) (by omega)
def Zgh (I:Nat→Prop) (w:World):Prop:=∀ q∈gtabs,I q.1∧∃ e fr,w.heap[q.1]?=some (.cells q.2 e fr)
theorem Zgh.mono {I I' : Nat→Prop} {w w' : World} (h:Zgh I w) (hk:ZF I I' w w'):Zgh I' w':=fun q hq=>by
 obtain⟨h1,e,fr,h2⟩:=h q hq;exact⟨hk.sub _ h1,e,fr,by rw[hk.blk _ h1];exact h2⟩
structure Sim (nt:Nat) (F A I:Nat→Prop) (Γ:Gh) (U:Nat→Prop) (sl:Sl) (hp:Hp) (a:Act) (w:World):Prop where
 nt:a.tmps.size=nt
 dfr:a.defers=[]
 slots:∀ t,Rep Γ w I (gs sl t) (a.tmps.getD t undef)
 objs:∀ id o,lkp hp id=some o→XZ Γ w I F A id o
 inj:∀ i j o o' b,lkp hp i=some o→lkp hp j=some o'→Blk Γ w i o b→Blk Γ w j o' b→i=j
 bound:∀ b,I b→b<w.heap.size
 fresh:∀ b,w.heap.size≤b→F b
 own:∀ b,F b→A b
 names:∀ id,¬U id→Γ id=none
 glob:Zgh I w
structure Fr (F:Nat→Prop) (w w' : World):Prop where
 os:w'.os=w.os
 tape:w'.tape=w.tape
 output:w'.output=w.output
 size:w.heap.size≤w'.heap.size
 block:∀ k,k<w.heap.size→¬F k→w'.heap[k]?=w.heap[k]?
theorem Fr.refl (F:Nat→Prop) (w:World):Fr F w w:=⟨rfl,rfl,rfl,Kh _,fun _ _ _=>rfl⟩
theorem Fr.trans {F:Nat→Prop} {a b c:World} (h:Fr F a b) (k:Fr F b c):Fr F a c:=
 ⟨k.os.trans h.os,k.tape.trans h.tape,k.output.trans h.output,Le h.size k.size,fun i hi hf=>(k.block i (Kaj hi h.size) hf).trans (h.block i hi hf)⟩
end Go.Abs
