/- Own text. -/
import Derived.Test.YtefabmohhbhlfaaAbsTree
set_option linter.unusedVariables false
set_option linter.unusedSimpArgs false
namespace Go.Abs
open Go
def QZ (w:World) (S:Nat→Prop):D→Value→Prop
 | .agg cs,v=>∃ vs,v=.agg vs∧Qu w S cs vs.toList
 | d,v=>ZH w S d [v]
theorem QZ.mono {w w' : World} {S S' : Nat→Prop} (hk:ZB S S' w w') {d:D} {v:Value} (h:QZ w S d v):QZ w' S' d v:=by
 cases d<;>simp only[QZ] at h ⊢
 ·exact h.mono hk
 ·exact h.mono hk
 ·exact h.mono hk
 ·exact h.mono hk
 ·obtain⟨vs,h1,h2⟩:=h;exact⟨vs,h1,h2.mono hk⟩
theorem QZ.cells {w:World} {S:Nat→Prop} {d:D} {v:Value} (h:QZ w S d v):ZH w S d v.cells.toList:=by
 cases d<;>simp only[QZ] at h
 ·have:=h;simp only[ZH] at h;simp at h;subst h;exact this
 ·have:=h;simp only[ZH] at h;simp at h;subst h;exact this
 ·have:=h;simp only[ZH] at h;obtain⟨t,h,_⟩:=h;simp at h;subst h;exact this
 ·have:=h;simp only[ZH] at h;obtain⟨a,c,h,_⟩:=h;simp at h;subst h;exact this
 ·obtain⟨vs,rfl,h2⟩:=h;simpa [ZH,Value.cells] using h2
theorem QZ.one {w:World} {S:Nat→Prop} {d:D} {v:Value} (hd:d.one=true):QZ w S d v↔ZH w S d [v]:=by
 cases d<;>simp[QZ,D.one] at hd ⊢
inductive Ref where
 | box (b:Nat×TypeId)
 | row (a:Option Addr) (n c sz:Nat)
abbrev Gh:=Nat→Option Ref
def XA (Γ:Gh) (w:World) (I:Nat→Prop):AV→Value→Prop
 | .d x,v=>x.one=true∧ZH w I x [v]
 | .nil,v=>∃ a,v=.slice a 0 0
 | .nilp,v=>v=.pointer none
 | .nili,v=>v=.nilIface
 | .ptr id off,v=>∃ b,Γ id=some (.box b)∧v=.pointer (some ⟨b.1,off,none⟩)
 | .prow id sz i off,v=>∃ b o n c,Γ id=some (.row (some ⟨b,o,none⟩) n c sz)∧i<n∧v=.pointer (some ⟨b,o+(i*sz+off),none⟩)
 | .pim cs,v=>∃ b o vs,v=.pointer (some ⟨b,o,none⟩)∧I b∧Z7 w b o vs∧Qu w I cs vs
 | .own id,v=>∃ a n c sz,Γ id=some (.row a n c sz)∧v=.slice a n c
 | .ownv id off n,v=>∃ a0 m c sz a,Γ id=some (.row a0 m c sz)∧off+n≤m∧m≤c∧v=.slice a n (c-off)∧(off=0→a=a0)∧(a=a0.map (·.add (off*sz))∨c=off)
 | .bnil id e,v=>∃ b,Γ id=some (.box (b,e))∧(v=.pointer none∨v=.pointer (some ⟨b,0,none⟩))
 | .bbuf _ _,v=>∃ a n c,v=.slice a n c
 | .agg _,_=>False
 | .tup _,_=>False
 | .clo _ _,_=>False
 | .junk,_=>True
def QT (Γ:Gh) (w:World) (I:Nat→Prop):AV→Value→Prop
 | .clo f cs,v=>∃ us,v=.func (.func f) #[] us∧Zq (XA Γ w I) cs us.toList
 | x,v=>XA Γ w I x v
def Wa (Γ:Gh) (w:World) (I:Nat→Prop):AV→Value→Prop
 | .agg cs,v=>∃ vs,v=.agg vs∧Zq (XA Γ w I) cs vs.toList
 | .clo f cs,v=>∃ us,v=.func (.func f) #[] us∧Zq (XA Γ w I) cs us.toList
 | .d (.agg ds),v=>∃ vs,v=.agg vs∧Qu w I ds vs.toList
 | x,v=>XA Γ w I x v
def Rep (Γ:Gh) (w:World) (I:Nat→Prop):AV→Value→Prop
 | .tup vs,v=>∃ us,v=.tuple us∧Zq (Wa Γ w I) vs us.toList
 | x,v=>Wa Γ w I x v
def ZY (Γ Γ' : Gh):Prop:=∀ id r,Γ id=some r→Γ' id=some r
section
variable {Γ Γ' : Gh} {w w' : World} {I I' : Nat→Prop}
theorem XA.mono (hg:ZY Γ Γ') (hk:ZB I I' w w') {x:AV} {v:Value} (h:XA Γ w I x v):XA Γ' w' I' x v:=by
 cases x<;>simp only[XA] at h ⊢
 ·exact⟨h.1,h.2.mono hk⟩
 ·exact h
 ·exact h
 ·exact h
 ·obtain⟨b,h1,h2⟩:=h;exact⟨b,hg _ _ h1,h2⟩
 ·obtain⟨b,o,n,c,h1,h2⟩:=h;exact⟨b,o,n,c,hg _ _ h1,h2⟩
 ·obtain⟨b,o,vs,h1,h2,h3,h4⟩:=h;exact⟨b,o,vs,h1,hk.sub b h2,h3.mono (hk.blk b h2),h4.mono hk⟩
 ·obtain⟨a,n,c,sz,h1,h2⟩:=h;exact⟨a,n,c,sz,hg _ _ h1,h2⟩
 ·obtain⟨a0,m,c,sz,a,h1,h2⟩:=h;exact⟨a0,m,c,sz,a,hg _ _ h1,h2⟩
 ·obtain⟨b,h1,h2⟩:=h;exact⟨b,hg _ _ h1,h2⟩
 ·exact h
theorem QT.mono (hg:ZY Γ Γ') (hk:ZB I I' w w') {x:AV} {v:Value} (h:QT Γ w I x v):QT Γ' w' I' x v:=by
 unfold QT at h ⊢;split at h
 ·obtain⟨vs,h1,h2⟩:=h;exact⟨vs,h1,h2.mono fun _ _ h=>h.mono hg hk⟩
 ·exact h.mono hg hk
theorem Wa.mono (hg:ZY Γ Γ') (hk:ZB I I' w w') {x:AV} {v:Value} (h:Wa Γ w I x v):Wa Γ' w' I' x v:=by
 unfold Wa at h ⊢;split at h
 ·obtain⟨vs,h1,h2⟩:=h;exact⟨vs,h1,h2.mono fun _ _ h=>h.mono hg hk⟩
 ·obtain⟨vs,h1,h2⟩:=h;exact⟨vs,h1,h2.mono fun _ _ h=>h.mono hg hk⟩
 ·obtain⟨vs,h1,h2⟩:=h;exact⟨vs,h1,h2.mono hk⟩
 ·exact h.mono hg hk
theorem Rep.mono (hg:ZY Γ Γ') (hk:ZB I I' w w') {x:AV} {v:Value} (h:Rep Γ w I x v):Rep Γ' w' I' x v:=by
 unfold Rep at h ⊢;split at h
 ·obtain⟨vs,h1,h2⟩:=h;exact⟨vs,h1,h2.mono fun _ _ h=>h.mono hg hk⟩
 ·exact h.mono hg hk
theorem XA.repB {x:AV} {v:Value} (h:XA Γ w I x v):QT Γ w I x v:=by
 cases x<;>first | exact h | exact h.elim
theorem XA.rep2 {x:AV} {v:Value} (h:XA Γ w I x v):Wa Γ w I x v:=by
 cases x<;>first | exact h | exact h.elim | skip
 rename_i x;cases x<;>first | exact h | skip
 simp[XA,D.one] at h
theorem QT.rep2 {x:AV} {v:Value} (h:QT Γ w I x v):Wa Γ w I x v:=by
 cases x<;>first | exact XA.rep2 h | exact h
theorem Wa.rep {x:AV} {v:Value} (h:Wa Γ w I x v):Rep Γ w I x v:=by
 cases x<;>first | exact h | exact h.elim
theorem QE {x:D} {v:Value}:Rep Γ w I (.d x) v↔QZ w I x v:=by
 cases x<;>simp[Rep,Wa,XA,QZ,D.one]
theorem ZkR {x:D} {v:Value}:Wa Γ w I (.d x) v↔QZ w I x v:=by
 cases x<;>simp[Wa,XA,QZ,D.one]
theorem Zme:∀ {cs:List AV} {ds:List D} {vs:List Value},Zad cs=some ds→Zq (QT Γ w I) cs vs→Qu w I ds vs
 | [],ds,[],h,_=>by simp[Zad] at h;subst h;simp[Qu]
 | [],_,_ :: _,_,h=>h.elim
 | _ :: _,_,[],_,h=>h.elim
 | c :: cs,ds,v :: vs,h,hr=>by
  simp only[Zad] at h;obtain⟨x,h1,h⟩:=Za h;obtain⟨aa,h2,h⟩:=Za h;cases h;refine⟨v,vs,rfl,?_,?_,Zme h2 hr.2⟩
  ·unfold Zgi at h1;split at h1
   ·split at h1<;>cases h1;assumption
   ·cases h1
  ·unfold Zgi at h1;split at h1
   ·split at h1<;>cases h1;exact hr.1.2
   ·cases h1
theorem ZjM:∀ {cs:List AV} {vs:List Value},Jy cs=false→Zq (QT Γ w I) cs vs→Zq (XA Γ w I) cs vs
 | [],[],_,_=>trivial
 | [],_ :: _,_,h=>h.elim
 | _ :: _,[],_,h=>h.elim
 | c :: cs,v :: vs,h,hr=>by
  simp only[Jy,Bool.or_eq_false_iff] at h;refine⟨?_,ZjM h.2 hr.2⟩;cases c<;>first | exact hr.1 | (simp[Zjd] at h)
theorem Zb2 {cs:List AV} {vs:Array Value} (h:Zq (QT Γ w I) cs vs.toList):Rep Γ w I (VT cs) (.agg vs):=by
 unfold VT;cases hd:Zad cs with
 | some ds=>exact QE.2 ⟨vs,rfl,Zme hd h⟩
 | none=>
  simp only[Vw];cases hc:Jy cs
  ·exact⟨vs,rfl,ZjM hc h⟩
  ·exact trivial
theorem Rep.cells {x:AV} {v:Value} (hs:x.solid=true) (h:Rep Γ w I x v):Zq (QT Γ w I) x.cells v.cells.toList:=by
 cases x with
 | d x=>
  have h1:=(QE.1 h).cells.cells;rw[QG] at h1;exact h1.map_left (f:=AV.d) (S:=QT Γ w I) fun a b aa=>aa
 | agg cs=>obtain⟨vs,rfl,h⟩:=h;exact h.mono fun _ _ h=>h.repB
 | clo f cs=>obtain⟨us,rfl,h⟩:=h;exact⟨⟨us,rfl,h⟩,trivial⟩
 | tup vs=>cases hs
 | junk=>cases hs
 | nil=>obtain⟨a,rfl⟩:=h;exact⟨⟨a,rfl⟩,trivial⟩
 | nilp=>obtain rfl:=h;exact⟨rfl,trivial⟩
 | nili=>obtain rfl:=h;exact⟨rfl,trivial⟩
 | ptr id off=>obtain⟨b,h1,rfl⟩:=h;exact⟨⟨b,h1,rfl⟩,trivial⟩
 | prow id sz i off=>obtain⟨b,o,n,c,h1,h2,rfl⟩:=h;exact⟨⟨b,o,n,c,h1,h2,rfl⟩,trivial⟩
 | pim cs=>obtain⟨b,o,vs,rfl,h⟩:=h;exact⟨⟨b,o,vs,rfl,h⟩,trivial⟩
 | own id=>
  obtain⟨a,n,c,sz,h1,rfl⟩:=h;exact⟨⟨a,n,c,sz,h1,rfl⟩,trivial⟩
 | ownv id off n=>obtain⟨a0,m,c,sz,a,h1,h2,h3,rfl,h4⟩:=h;exact⟨⟨a0,m,c,sz,a,h1,h2,h3,rfl,h4⟩,trivial⟩
 | bnil id e=>
  obtain⟨b,h1,h2⟩:=h;rcases h2 with rfl | rfl
  ·exact⟨⟨b,h1,.inl rfl⟩,trivial⟩
  ·exact⟨⟨b,h1,.inr rfl⟩,trivial⟩
 | bbuf a b=>cases hs
end
theorem J1 {w w' : World} {S S' : Nat→Prop} {d:D} {vs:List Value} (hd:d.plain=true) (h:ZH w S d vs):ZH w' S' d vs:=by
 cases d<;>first | (simpa [ZH] using h) | (simp[D.plain] at hd)
def Zdx (w:World) (I F A:Nat→Prop) (a:Option Addr) (n cap sz:Nat) (xs:List D) (ex fz:Bool):Prop:=
 n=xs.length∧((n=0∧cap=0) ∨
 ∃ g o cur e,a=some ⟨g,o,none⟩∧0<cap∧w.heap[g]?=some (.cells cur e (0,0))∧n≤cap∧cap≤maxLen∧(cur.size=o+cap*sz∧(ex=true→o=0))∧0<sz ∧
  (if fz then I g else ¬I g)∧F g∧Vf w (if ex then fun b=>I b∧A b else I) g sz xs o)
def Zmf:Value→Option Nat
 | .slice (some ad) _ c=>if c=0 then none else some ad.block
 | _=>none
def Zdy (w:World) (g p:Nat):Option Nat:=match w.cell? ⟨g,p,none⟩ with
 | some v=>Zmf v
 | none=>none
def X0 (sz:Nat):Option (Option Nat×Nat×Nat)→Option Nat
 | some (_,i,j)=>some (i*sz+j)
 | none=>none
def VH (w:World) (g:Nat):Option Nat→World
 | some p=>w.setCell ⟨g,p,none⟩ (.slice none 0 0)
 | none=>w
theorem ZsL (w:World) (g:Nat) (h:Option Nat) {k:Nat} (hk:k≠g):(VH w g h).heap[k]?=w.heap[k]?:=by
 cases h with
 | none=>rfl
 | some p=>simp[VH,World.setCell,LZ,Ne.symm hk]
theorem Znu (w:World) (g:Nat) (h:Option Nat):(VH w g h).heap.size=w.heap.size:=by
 cases h with
 | none=>rfl
 | some p=>simp[VH,World.setCell]
theorem Zb3 {w:World} {g:Nat} {cur:Array Value} {e:TypeId} {fr:Nat×Nat} (hg:w.heap[g]?=some (.cells cur e fr)) (p:Nat):VH w g (some p)=w.setRow g (cur.setIfInBounds p (.slice none 0 0)):=
 setCell_eq_setRow w g p cur e fr _ hg
theorem Zaw {w w' : World} {g:Nat} (h:Option Nat) {k:Nat} (hk:w'.heap[k]?=w.heap[k]?):(VH w' g h).heap[k]?=(VH w g h).heap[k]?:=by
 cases h with
 | none=>exact hk
 | some p=>simp only[VH,World.setCell,LZ,hk]
theorem Znv {w:World} {g p:Nat} {h:Option Nat} (hp:h≠some p):(VH w g h).cell? ⟨g,p,none⟩=w.cell? ⟨g,p,none⟩:=by
 cases h with
 | none=>rfl
 | some q=>
  have aa:q≠p:=fun e=>hp (e ▸ rfl);simp only[VH];cases hg:w.heap[g]? with
  | none=>simp[World.setCell,World.cell?,LZ,hg]
  | some b=>cases b<;>simp[World.setCell,World.cell?,LZ,hg,Array.getElem?_setIfInBounds,aa]
def ZcQ (w:World) (I F:Nat→Prop) (a:Option Addr) (n cap sz ns:Nat) (xs:List D) (hl:Option Nat):Prop:=
 n=xs.length∧((n=0∧cap=0∧hl=none) ∨
 ∃ g cur e B,a=some ⟨g,0,none⟩∧0<cap∧w.heap[g]?=some (.cells cur e (0,0))∧n≤cap∧cap≤maxLen∧cur.size=cap*sz∧0<sz∧ZK (VH w g hl) ns B g sz xs 0∧(g :: B).Nodup∧∀ b∈g :: B,¬I b∧F b)
def Xl (Γ:Gh) (w:World) (a:Option Addr) (sz ns:Nat) (xs:List D):Option (Option Nat×Nat×Nat)→Prop
 | none=>True
 | some (nm,i,j)=>i<xs.length∧j<sz∧V8 xs i j=some []∧∀ k,nm=some k→∃ g a' n' c',a=some ⟨g,0,none⟩∧Γ k=some (.row a' n' c' ns)∧w.cell? ⟨g,i*sz+j,none⟩=some (.slice a' n' c')
def OwnBuf (w:World) (I F:Nat→Prop) (b te:Nat) (l:List UInt8) (v:Value):Prop:=
 l=[]∧v=.slice none 0 0 ∨
 ∃ g cap cur,v=.slice (some ⟨g,0,none⟩) l.length cap∧0<l.length∧w.heap[g]?=some (.cells cur te (0,0))∧l.length≤cap∧cap≤maxLen∧cur.size=cap∧cur.toList.take l.length=l.map (fun x=>Value.int .u8 x.toNat)∧¬I g∧F g∧g≠b
def Jq (w:World) (I F:Nat→Prop) (b:Nat):List AV→List Value→Prop
 | [_,.bbuf te l],[_,v]=>OwnBuf w I F b te l v
 | cs,_=>QU cs=true
def XF (Γ:Gh) (w:World) (I F A:Nat→Prop) (id:Nat):Zh→Prop
 | .box cs=>∃ b cur e,Γ id=some (.box (b,e))∧w.heap[b]?=some (.cells cur e (0,0))∧¬I b∧F b∧Zq (QT Γ w I) cs cur.toList∧Jq w I F b cs cur.toList
 | .row sz xs ex fz=>∃ a n c,Γ id=some (.row a n c sz)∧Zdx w I F A a n c sz xs ex fz
 | .tree sz ns xs lk=>∃ a n c,Γ id=some (.row a n c sz)∧ZcQ w I F a n c sz ns xs (X0 sz lk)∧Xl Γ w a sz ns xs lk
 | .gone=>∃ r,Γ id=some r
def Zp:Option Ref→Option Nat
 | some (.box b)=>some b.1
 | some (.row (some a) _ c _)=>if c=0 then none else some a.block
 | some (.row none _ _ _)=>none
 | none=>none
def Za3 (r:Option Ref):Zh→Option Nat
 | .gone=>none
 | _=>Zp r
@[simp] theorem blkO_box (r:Option Ref) (cs:List AV):Za3 r (.box cs)=Zp r:=rfl
@[simp] theorem ZqO (r:Option Ref) (s:Nat) (xs:List D) (e f:Bool):Za3 r (.row s xs e f)=Zp r:=rfl
@[simp] theorem WD (r:Option Ref) (s n:Nat) (xs:List D) (l:Option (Option Nat×Nat×Nat)):Za3 r (.tree s n xs l)=Zp r:=rfl
@[simp] theorem blkO_gone (r:Option Ref):Za3 r .gone=none:=rfl
theorem ZeA (r:Option Ref) (g:Nat→Nat) (o:Zh):Za3 r (Zc1 g o)=Za3 r o:=by cases o<;>rfl
theorem ZcR (r:Option Ref) (bad:List Nat) (o:Zh):Za3 r (QF bad o)=Za3 r o:=by cases o<;>rfl
def Za0 (Γ:Gh) (w:World) (id:Nat):Zh→Nat→Prop
 | .tree sz ns xs lk,b=>∃ g B,Zp (Γ id)=some g∧ZK (VH w g (X0 sz lk)) ns B g sz xs 0∧b∈B
 | _,_=>False
def Buf (Γ:Gh) (w:World) (id:Nat):Zh→Nat→Prop
 | .box [_,.bbuf _ _],b=>∃ g,Zp (Γ id)=some g∧Zdy w g 1=some b
 | _,_=>False
def Blk (Γ:Gh) (w:World) (id:Nat) (o:Zh) (b:Nat):Prop:=Za3 (Γ id) o=some b∨Za0 Γ w id o b∨Buf Γ w id o b
def Qx (U:Nat→Prop) (base:Nat):Prop:=∀ id,base≤id→id<base+64→¬U id
def Wb (U:Nat→Prop) (base:Nat) (id:Nat):Prop:=U id∨(base≤id∧id<base+64)
theorem Qx.self {U:Nat→Prop} {base:Nat} (h:Qx U base):¬U base:=h base (Kh _) (by omega)
def ZeB (I:Nat→Prop) (w:World):Prop:=∀ q∈gtabs,I q.1∧∃ e fr,w.heap[q.1]?=some (.cells q.2 e fr)
theorem ZeB.mono {I I' : Nat→Prop} {w w' : World} (h:ZeB I w) (hk:ZB I I' w w'):ZeB I' w':=fun q hq=>by
 obtain⟨h1,e,fr,h2⟩:=h q hq;exact⟨hk.sub _ h1,e,fr,by rw[hk.blk _ h1];exact h2⟩
structure Sim (nt:Nat) (F A I:Nat→Prop) (Γ:Gh) (U:Nat→Prop) (sl:Sl) (hp:Hp) (a:Act) (w:World):Prop where
 nt:a.tmps.size=nt
 dfr:a.defers=[]
 slots:∀ t,Rep Γ w I (gs sl t) (a.tmps.getD t undef)
 objs:∀ id o,lkp hp id=some o→XF Γ w I F A id o
 inj:∀ i j o o' b,lkp hp i=some o→lkp hp j=some o'→Blk Γ w i o b→Blk Γ w j o' b→i=j
 bound:∀ b,I b→b<w.heap.size
 fresh:∀ b,w.heap.size≤b→F b
 own:∀ b,F b→A b
 names:∀ id,¬U id→Γ id=none
 glob:ZeB I w
structure Fr (F:Nat→Prop) (w w' : World):Prop where
 os:w'.os=w.os
 tape:w'.tape=w.tape
 output:w'.output=w.output
 size:w.heap.size≤w'.heap.size
 block:∀ k,k<w.heap.size→¬F k→w'.heap[k]?=w.heap[k]?
theorem Fr.refl (F:Nat→Prop) (w:World):Fr F w w:=⟨rfl,rfl,rfl,Kh _,fun _ _ _=>rfl⟩
theorem Fr.trans {F:Nat→Prop} {a b c:World} (h:Fr F a b) (k:Fr F b c):Fr F a c:=
 ⟨k.os.trans h.os,k.tape.trans h.tape,k.output.trans h.output,Lp h.size k.size,fun i hi hf=>(k.block i (Kac hi h.size) hf).trans (h.block i hi hf)⟩
end Go.Abs
