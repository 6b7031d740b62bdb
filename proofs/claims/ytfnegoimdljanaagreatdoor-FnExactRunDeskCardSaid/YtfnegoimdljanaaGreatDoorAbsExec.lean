/- Own text. -/
import Derived.Test.YtfnegoimdljanaaGreatDoorAbsTree
import Derived.Laws.MakeOwn
import Derived.Laws.StructEq
import Derived.Laws.Concat
import Derived.Laws.Slices
set_option linter.unusedVariables false
set_option linter.unusedSimpArgs false
namespace Go.Abs
open Go
def Xb (w:World) (S:Nat→Prop):D→Value→Prop
 | .agg cs,v=>∃ vs,v=.agg vs∧QT w S cs vs.toList
 | d,v=>ZQ w S d [v]
theorem Xb.mono {w w' : World} {S S' : Nat→Prop} (hk:ZR S S' w w') {d:D} {v:Value} (h:Xb w S d v):Xb w' S' d v:=by
 cases d<;>simp only[Xb] at h ⊢
 ·exact h.mono hk
 ·exact h.mono hk
 ·exact h.mono hk
 ·exact h.mono hk
 ·obtain⟨vs,h1,h2⟩:=h;exact⟨vs,h1,h2.mono hk⟩
theorem Xb.cells {w:World} {S:Nat→Prop} {d:D} {v:Value} (h:Xb w S d v):ZQ w S d v.cells.toList:=by
 cases d<;>simp only[Xb] at h
 ·have:=h;simp only[ZQ] at h;simp at h;subst h;exact this
 ·have:=h;simp only[ZQ] at h;simp at h;subst h;exact this
 ·have:=h;simp only[ZQ] at h;obtain⟨t,h,_⟩:=h;simp at h;subst h;exact this
 ·have:=h;simp only[ZQ] at h;obtain⟨a,c,h,_⟩:=h;simp at h;subst h;exact this
 ·obtain⟨vs,rfl,h2⟩:=h;simpa [ZQ,Value.cells] using h2
theorem Xb.one {w:World} {S:Nat→Prop} {d:D} {v:Value} (hd:d.one=true):Xb w S d v↔ZQ w S d [v]:=by
 cases d<;>simp[Xb,D.one] at hd ⊢
inductive Ref where
 | box (b:Nat×TypeId)
 | row (a:Option Addr) (n c sz:Nat)
abbrev Gh:=Nat→Option Ref
def Y6 (Γ:Gh) (w:World) (I:Nat→Prop):AV→Value→Prop
 | .d x,v=>x.one=true∧ZQ w I x [v]
 | .nil,v=>∃ a,v=.slice a 0 0
 | .nilp,v=>v=.pointer none
 | .nili,v=>v=.nilIface
 | .ptr id off,v=>∃ b,Γ id=some (.box b)∧v=.pointer (some ⟨b.1,off,none⟩)
 | .prow id sz i off,v=>∃ b o n c,Γ id=some (.row (some ⟨b,o,none⟩) n c sz)∧i<n∧v=.pointer (some ⟨b,o+(i*sz+off),none⟩)
 | .pim cs,v=>∃ b o vs,v=.pointer (some ⟨b,o,none⟩)∧I b∧QA w b o vs∧QT w I cs vs
 | .own id,v=>∃ a n c sz,Γ id=some (.row a n c sz)∧v=.slice a n c
 | .ownv id off n,v=>∃ a0 m c sz a,Γ id=some (.row a0 m c sz)∧off+n≤m∧m≤c∧v=.slice a n (c-off)∧(off=0→a=a0)∧(a=a0.map (·.add (off*sz))∨c=off)
 | .bnil id e,v=>∃ b,Γ id=some (.box (b,e))∧(v=.pointer none∨v=.pointer (some ⟨b,0,none⟩))
 | .bbuf _ _,v=>∃ a n c,v=.slice a n c
 | .agg _,_=>False
 | .tup _,_=>False
 | .clo _ _,_=>False
 | .junk,_=>True
def XS (Γ:Gh) (w:World) (I:Nat→Prop):AV→Value→Prop
 | .clo f cs,v=>∃ us,v=.func (.func f) #[] us∧ZA (Y6 Γ w I) cs us.toList
 | x,v=>Y6 Γ w I x v
def Zah (Γ:Gh) (w:World) (I:Nat→Prop):AV→Value→Prop
 | .agg cs,v=>∃ vs,v=.agg vs∧ZA (Y6 Γ w I) cs vs.toList
 | .clo f cs,v=>∃ us,v=.func (.func f) #[] us∧ZA (Y6 Γ w I) cs us.toList
 | .d (.agg ds),v=>∃ vs,v=.agg vs∧QT w I ds vs.toList
 | x,v=>Y6 Γ w I x v
def Rep (Γ:Gh) (w:World) (I:Nat→Prop):AV→Value→Prop
 | .tup vs,v=>∃ us,v=.tuple us∧ZA (Zah Γ w I) vs us.toList
 | x,v=>Zah Γ w I x v
def Qg (Γ Γ' : Gh):Prop:=∀ id r,Γ id=some r→Γ' id=some r
section
variable {Γ Γ' : Gh} {w w' : World} {I I' : Nat→Prop}
theorem Y6.mono (hg:Qg Γ Γ') (hk:ZR I I' w w') {x:AV} {v:Value} (h:Y6 Γ w I x v):Y6 Γ' w' I' x v:=by
 cases x<;>simp only[Y6] at h ⊢
 ·exact⟨h.1,h.2.mono hk⟩
 ·exact h
 ·exact h
 ·exact h
 ·obtain⟨b,h1,h2⟩:=h;exact⟨b,hg _ _ h1,h2⟩
 ·obtain⟨b,o,n,c,h1,h2⟩:=h;exact⟨b,o,n,c,hg _ _ h1,h2⟩
 ·obtain⟨b,o,vs,h1,h2,h3,h4⟩:=h;exact⟨b,o,vs,h1,hk.sub b h2,h3.mono (hk.blk b h2),h4.mono hk⟩
 ·obtain⟨a,n,c,sz,h1,h2⟩:=h;exact⟨a,n,c,sz,hg _ _ h1,h2⟩
 ·obtain⟨a0,m,c,sz,a,h1,h2⟩:=h;exact⟨a0,m,c,sz,a,hg _ _ h1,h2⟩
 ·obtain⟨b,h1,h2⟩:=h;exact⟨b,hg _ _ h1,h2⟩
 ·exact h
theorem XS.mono (hg:Qg Γ Γ') (hk:ZR I I' w w') {x:AV} {v:Value} (h:XS Γ w I x v):XS Γ' w' I' x v:=by
 unfold XS at h ⊢;split at h
 ·obtain⟨vs,h1,h2⟩:=h;exact⟨vs,h1,h2.mono fun _ _ h=>h.mono hg hk⟩
 ·exact h.mono hg hk
theorem Zah.mono (hg:Qg Γ Γ') (hk:ZR I I' w w') {x:AV} {v:Value} (h:Zah Γ w I x v):Zah Γ' w' I' x v:=by
 unfold Zah at h ⊢;split at h
 ·obtain⟨vs,h1,h2⟩:=h;exact⟨vs,h1,h2.mono fun _ _ h=>h.mono hg hk⟩
 ·obtain⟨vs,h1,h2⟩:=h;exact⟨vs,h1,h2.mono fun _ _ h=>h.mono hg hk⟩
 ·obtain⟨vs,h1,h2⟩:=h;exact⟨vs,h1,h2.mono hk⟩
 ·exact h.mono hg hk
theorem Rep.mono (hg:Qg Γ Γ') (hk:ZR I I' w w') {x:AV} {v:Value} (h:Rep Γ w I x v):Rep Γ' w' I' x v:=by
 unfold Rep at h ⊢;split at h
 ·obtain⟨vs,h1,h2⟩:=h;exact⟨vs,h1,h2.mono fun _ _ h=>h.mono hg hk⟩
 ·exact h.mono hg hk
theorem Y6.repB {x:AV} {v:Value} (h:Y6 Γ w I x v):XS Γ w I x v:=by
 cases x<;>first | exact h | exact h.elim
theorem Y6.rep2 {x:AV} {v:Value} (h:Y6 Γ w I x v):Zah Γ w I x v:=by
 cases x<;>first | exact h | exact h.elim | skip
 rename_i x;cases x<;>first | exact h | skip
 simp[Y6,D.one] at h
theorem XS.rep2 {x:AV} {v:Value} (h:XS Γ w I x v):Zah Γ w I x v:=by
 cases x<;>first | exact Y6.rep2 h | exact h
theorem Zah.rep {x:AV} {v:Value} (h:Zah Γ w I x v):Rep Γ w I x v:=by
 cases x<;>first | exact h | exact h.elim
theorem Ql {x:D} {v:Value}:Rep Γ w I (.d x) v↔Xb w I x v:=by
 cases x<;>simp[Rep,Zah,Y6,Xb,D.one]
theorem Ztn {x:D} {v:Value}:Zah Γ w I (.d x) v↔Xb w I x v:=by
 cases x<;>simp[Zah,Y6,Xb,D.one]
theorem ZAn:∀ {cs:List AV} {ds:List D} {vs:List Value},ZhH cs=some ds→ZA (XS Γ w I) cs vs→QT w I ds vs
 | [],ds,[],h,_=>by simp[ZhH] at h;subst h;simp[QT]
 | [],_,_ :: _,_,h=>h.elim
 | _ :: _,_,[],_,h=>h.elim
 | c :: cs,ds,v :: vs,h,hr=>by
  simp only[ZhH] at h;obtain⟨x,h1,h⟩:=Za h;obtain⟨aa,h2,h⟩:=Za h;cases h;refine⟨v,vs,rfl,?_,?_,ZAn h2 hr.2⟩
  ·unfold Ztr at h1;split at h1
   ·split at h1<;>cases h1;assumption
   ·cases h1
  ·unfold Ztr at h1;split at h1
   ·split at h1<;>cases h1;exact hr.1.2
   ·cases h1
theorem Zwz:∀ {cs:List AV} {vs:List Value},ZfZ cs=false→ZA (XS Γ w I) cs vs→ZA (Y6 Γ w I) cs vs
 | [],[],_,_=>trivial
 | [],_ :: _,_,h=>h.elim
 | _ :: _,[],_,h=>h.elim
 | c :: cs,v :: vs,h,hr=>by
  simp only[ZfZ,Kap] at h;refine⟨?_,Zwz h.2 hr.2⟩;cases c<;>first | exact hr.1 | (simp[ZwG] at h)
theorem Zj9 {cs:List AV} {vs:Array Value} (h:ZA (XS Γ w I) cs vs.toList):Rep Γ w I (Zaj cs) (.agg vs):=by
 unfold Zaj;cases hd:ZhH cs with
 | some ds=>exact Ql.2 ⟨vs,rfl,ZAn hd h⟩
 | none=>
  simp only[U8];cases hc:ZfZ cs
  ·exact⟨vs,rfl,Zwz hc h⟩
  ·exact trivial
theorem Rep.cells {x:AV} {v:Value} (hs:x.solid=true) (h:Rep Γ w I x v):ZA (XS Γ w I) x.cells v.cells.toList:=by
 cases x with
 | d x=>
  have h1:=(Ql.1 h).cells.cells;rw[Q8] at h1;exact h1.map_left (f:=AV.d) (S:=XS Γ w I) fun a b aa=>aa
 | agg cs=>obtain⟨vs,rfl,h⟩:=h;exact h.mono fun _ _ h=>h.repB
 | clo f cs=>obtain⟨us,rfl,h⟩:=h;exact⟨⟨us,rfl,h⟩,trivial⟩
 | tup vs=>cases hs
 | junk=>cases hs
 | nil=>obtain⟨a,rfl⟩:=h;exact⟨⟨a,rfl⟩,trivial⟩
 | nilp=>obtain rfl:=h;exact⟨rfl,trivial⟩
 | nili=>obtain rfl:=h;exact⟨rfl,trivial⟩
 | ptr id off=>obtain⟨b,h1,rfl⟩:=h;exact⟨⟨b,h1,rfl⟩,trivial⟩
 | prow id sz i off=>obtain⟨b,o,n,c,h1,h2,rfl⟩:=h;exact⟨⟨b,o,n,c,h1,h2,rfl⟩,trivial⟩
 | pim cs=>obtain⟨b,o,vs,rfl,h⟩:=h;exact⟨⟨b,o,vs,rfl,h⟩,trivial⟩
 | own id=>
  obtain⟨a,n,c,sz,h1,rfl⟩:=h;exact⟨⟨a,n,c,sz,h1,rfl⟩,trivial⟩
 | ownv id off n=>obtain⟨a0,m,c,sz,a,h1,h2,h3,rfl,h4⟩:=h;exact⟨⟨a0,m,c,sz,a,h1,h2,h3,rfl,h4⟩,trivial⟩
 | bnil id e=>
  obtain⟨b,h1,h2⟩:=h;rcases h2 with rfl | rfl
  ·exact⟨⟨b,h1,.inl rfl⟩,trivial⟩
  ·exact⟨⟨b,h1,.inr rfl⟩,trivial⟩
 | bbuf a b=>cases hs
end
theorem ZgB {w w' : World} {S S' : Nat→Prop} {d:D} {vs:List Value} (hd:d.plain=true) (h:ZQ w S d vs):ZQ w' S' d vs:=by
 cases d<;>first | (simpa [ZQ] using h) | (simp[D.plain] at hd)
def ZmP (w:World) (I F A:Nat→Prop) (a:Option Addr) (n cap sz:Nat) (xs:List D) (ex fz:Bool):Prop:=
 n=xs.length∧((n=0∧cap=0) ∨
 ∃ g o cur e,a=some ⟨g,o,none⟩∧0<cap∧w.heap[g]?=some (.cells cur e (0,0))∧n≤cap∧cap≤maxLen∧(cur.size=o+cap*sz∧(ex=true→o=0))∧0<sz ∧
  (if fz then I g else ¬I g)∧F g∧Ut w (if ex then fun b=>I b∧A b else I) g sz xs o)
def ZAo:Value→Option Nat
 | .slice (some ad) _ c=>if c=0 then none else some ad.block
 | _=>none
def ZmQ (w:World) (g p:Nat):Option Nat:=match w.cell? ⟨g,p,none⟩ with
 | some v=>ZAo v
 | none=>none
def VL (sz:Nat):Option (Option Nat×Nat×Nat)→Option Nat
 | some (_,i,j)=>some (i*sz+j)
 | none=>none
def Jn (w:World) (g:Nat):Option Nat→World
 | some p=>w.setCell ⟨g,p,none⟩ (.slice none 0 0)
 | none=>w
theorem ZB0 (w:World) (g:Nat) (h:Option Nat):(Jn w g h).heap.size=w.heap.size:=by
 cases h with
 | none=>rfl
 | some p=>simp[Jn,World.setCell]
theorem Zka {w:World} {g:Nat} {cur:Array Value} {e:TypeId} {fr:Nat×Nat} (hg:w.heap[g]?=some (.cells cur e fr)) (p:Nat):Jn w g (some p)=w.setRow g (cur.setIfInBounds p (.slice none 0 0)):=
 setCell_eq_setRow w g p cur e fr _ hg
theorem ZhE {w w' : World} {g:Nat} (h:Option Nat) {k:Nat} (hk:w'.heap[k]?=w.heap[k]?):(Jn w' g h).heap[k]?=(Jn w g h).heap[k]?:=by
 cases h with
 | none=>exact hk
 | some p=>simp only[Jn,World.setCell,L7,hk]
theorem ZB1 {w:World} {g p:Nat} {h:Option Nat} (hp:h≠some p):(Jn w g h).cell? ⟨g,p,none⟩=w.cell? ⟨g,p,none⟩:=by
 cases h with
 | none=>rfl
 | some q=>
  have aa:q≠p:=fun e=>hp (e ▸ rfl);simp only[Jn];cases hg:w.heap[g]? with
  | none=>simp[World.setCell,World.cell?,L7,hg]
  | some b=>cases b<;>simp[World.setCell,World.cell?,L7,hg,Array.getElem?_setIfInBounds,aa]
def ZlG (w:World) (I F:Nat→Prop) (a:Option Addr) (n cap sz ns:Nat) (xs:List D) (hl:Option Nat):Prop:=
 n=xs.length∧((n=0∧cap=0∧hl=none) ∨
 ∃ g cur e B,a=some ⟨g,0,none⟩∧0<cap∧w.heap[g]?=some (.cells cur e (0,0))∧n≤cap∧cap≤maxLen∧cur.size=cap*sz∧0<sz∧Z1 (Jn w g hl) ns B g sz xs 0∧(g :: B).Nodup∧∀ b∈g :: B,¬I b∧F b)
def YM (Γ:Gh) (w:World) (a:Option Addr) (sz ns:Nat) (xs:List D):Option (Option Nat×Nat×Nat)→Prop
 | none=>True
 | some (nm,i,j)=>i<xs.length∧j<sz∧Zar xs i j=some []∧∀ k,nm=some k→∃ g a' n' c',a=some ⟨g,0,none⟩∧Γ k=some (.row a' n' c' ns)∧w.cell? ⟨g,i*sz+j,none⟩=some (.slice a' n' c')
def Zop (w:World) (I F:Nat→Prop) (b te:Nat) (l:List UInt8) (v:Value):Prop:=
 l=[]∧v=.slice none 0 0 ∨
 ∃ g cap cur,v=.slice (some ⟨g,0,none⟩) l.length cap∧0<l.length∧w.heap[g]?=some (.cells cur te (0,0))∧l.length≤cap∧cap≤maxLen∧cur.size=cap∧cur.toList.take l.length=l.map (fun x=>Value.int .u8 x.toNat)∧¬I g∧F g∧g≠b
def ZcA (w:World) (I F:Nat→Prop) (b:Nat):List AV→List Value→Prop
 | [_,.bbuf te l],[_,v]=>Zop w I F b te l v
 | cs,_=>X9 cs=true
def Vb (Γ:Gh) (w:World) (I F A:Nat→Prop) (id:Nat):Zm→Prop
 | .box cs=>∃ b cur e,Γ id=some (.box (b,e))∧w.heap[b]?=some (.cells cur e (0,0))∧¬I b∧F b∧ZA (XS Γ w I) cs cur.toList∧ZcA w I F b cs cur.toList
 | .row sz xs ex fz=>∃ a n c,Γ id=some (.row a n c sz)∧ZmP w I F A a n c sz xs ex fz
 | .tree sz ns xs lk=>∃ a n c,Γ id=some (.row a n c sz)∧ZlG w I F a n c sz ns xs (VL sz lk)∧YM Γ w a sz ns xs lk
 | .gone=>∃ r,Γ id=some r
def ZB:Option Ref→Option Nat
 | some (.box b)=>some b.1
 | some (.row (some a) _ c _)=>if c=0 then none else some a.block
 | some (.row none _ _ _)=>none
 | none=>none
def Zim (r:Option Ref):Zm→Option Nat
 | .gone=>none
 | _=>ZB r
@[simp] theorem blkO_box (r:Option Ref) (cs:List AV):Zim r (.box cs)=ZB r:=rfl
@[simp] theorem ZFV (r:Option Ref) (s:Nat) (xs:List D) (e f:Bool):Zim r (.row s xs e f)=ZB r:=rfl
@[simp] theorem ZaU (r:Option Ref) (s n:Nat) (xs:List D) (l:Option (Option Nat×Nat×Nat)):Zim r (.tree s n xs l)=ZB r:=rfl
@[simp] theorem blkO_gone (r:Option Ref):Zim r .gone=none:=rfl
theorem Zoq (r:Option Ref) (g:Nat→Nat) (o:Zm):Zim r (ZmS g o)=Zim r o:=by cases o<;>rfl
theorem ZlH (r:Option Ref) (bad:List Nat) (o:Zm):Zim r (XG bad o)=Zim r o:=by cases o<;>rfl
def Zii (Γ:Gh) (w:World) (id:Nat):Zm→Nat→Prop
 | .tree sz ns xs lk,b=>∃ g B,ZB (Γ id)=some g∧Z1 (Jn w g (VL sz lk)) ns B g sz xs 0∧b∈B
 | _,_=>False
def Buf (Γ:Gh) (w:World) (id:Nat):Zm→Nat→Prop
 | .box [_,.bbuf _ _],b=>∃ g,ZB (Γ id)=some g∧ZmQ w g 1=some b
 | _,_=>False
def Blk (Γ:Gh) (w:World) (id:Nat) (o:Zm) (b:Nat):Prop:=Zim (Γ id) o=some b∨Zii Γ w id o b∨Buf Γ w id o b
def Xy (U:Nat→Prop) (base:Nat):Prop:=∀ id,base≤id→id<base+64→¬U id
def Zai (U:Nat→Prop) (base:Nat) (id:Nat):Prop:=U id∨(base≤id∧id<base+64)
theorem Xy.self {U:Nat→Prop} {base:Nat} (h:Xy U base):¬U base:=h base (Kp _) (by omega)
def Zjd (I:Nat→Prop) (w:World):Prop:=∀ q∈gtabs,I q.1∧∃ e fr,w.heap[q.1]?=some (.cells q.2 e fr)
theorem Zjd.mono {I I' : Nat→Prop} {w w' : World} (h:Zjd I w) (hk:ZR I I' w w'):Zjd I' w':=fun q hq=>by
 obtain⟨h1,e,fr,h2⟩:=h q hq;exact⟨hk.sub _ h1,e,fr,by rw[hk.blk _ h1];exact h2⟩
structure Sim (nt:Nat) (F A I:Nat→Prop) (Γ:Gh) (U:Nat→Prop) (sl:Sl) (hp:Hp) (a:Act) (w:World):Prop where
 nt:a.tmps.size=nt
 dfr:a.defers=[]
 slots:∀ t,Rep Γ w I (gs sl t) (a.tmps.getD t undef)
 objs:∀ id o,lkp hp id=some o→Vb Γ w I F A id o
 inj:∀ i j o o' b,lkp hp i=some o→lkp hp j=some o'→Blk Γ w i o b→Blk Γ w j o' b→i=j
 bound:∀ b,I b→b<w.heap.size
 fresh:∀ b,w.heap.size≤b→F b
 own:∀ b,F b→A b
 names:∀ id,¬U id→Γ id=none
 glob:Zjd I w
structure Fr (F:Nat→Prop) (w w' : World):Prop where
 os:w'.os=w.os
 tape:w'.tape=w.tape
 output:w'.output=w.output
 size:w.heap.size≤w'.heap.size
 block:∀ k,k<w.heap.size→¬F k→w'.heap[k]?=w.heap[k]?
theorem Fr.refl (F:Nat→Prop) (w:World):Fr F w w:=⟨rfl,rfl,rfl,Kp _,fun _ _ _=>rfl⟩
theorem Fr.trans {F:Nat→Prop} {a b c:World} (h:Fr F a b) (k:Fr F b c):Fr F a c:=
 ⟨k.os.trans h.os,k.tape.trans h.tape,k.output.trans h.output,Kx h.size k.size,fun i hi hf=>(k.block i (L5 hi h.size) hf).trans (h.block i hi hf)⟩
end Go.Abs
set_option linter.unusedVariables false
set_option linter.unusedSimpArgs false
namespace Go.Abs
open Go
section
variable {P:Program}
theorem Xd {t e:TypeId} (h:Yu P t=some e):P.underlying t=some (.slice e):=by
 unfold Yu at h;split at h
 ·cases h;assumption
 ·cases h
theorem Jo {t:TypeId} (h:ZaZ P t=true):P.underlying t=some .string:=by
 unfold ZaZ at h;split at h
 ·assumption
 ·cases h
theorem ZwA {t:TypeId} {k:IntKind} (h:ZEA P t=some k):P.underlying t=some (.int k):=by
 unfold ZEA at h;split at h
 ·cases h;assumption
 ·cases h
theorem ZwB {t:TypeId} {a:Nat×TypeId} (h:ZlL P t=some a):P.underlying t=some (.array a.1 a.2):=by
 unfold ZlL at h;split at h
 ·cases h;assumption
 ·cases h
theorem VZ {t:TypeId} {g:Bool} (h:ZgF P t=some g) (w:World):(isAgg t).run P w=.ok g w:=by
 unfold ZgF at h;unfold isAgg;split at h
 ·cases h;rename_i hu;simp[run_underlying hu]
 ·cases h;rename_i hu;simp[run_underlying hu]
 ·cases h;rename_i d h1 h2 hu;simp only[Sem.run_bind,run_underlying hu,Result.andThen_ok];cases d<;>first | rfl | (exfalso;exact h1 _ hu) | (exfalso;exact h2 _ _ hu)
 ·cases h
theorem Jf {t:TypeId} {d:TypeDesc} (h:P.underlying t=some d):∃ i,P.info? t=some i:=by
 unfold Program.underlying at h;cases hi:P.info? t with
 | none=>rw[hi] at h;cases h
 | some i=>exact⟨i,rfl⟩
theorem Xe {t:TypeId} {i:TypeInfo} (h:P.info? t=some i) (w:World):(sizeOf t).run P w=.ok (P.cellsOf t) w:=by
 simp[sizeOf,typeInfo,h,Program.cellsOf]
theorem ZkZ {t:TypeId} (h:P.cellsOf t≠0):∃ i,P.info? t=some i:=by
 cases hi:P.info? t with
 | none=>simp[Program.cellsOf,hi] at h
 | some i=>exact⟨i,rfl⟩
theorem Zkb {t:TypeId} {g:Bool} (h:ZgF P t=some g):∃ i,P.info? t=some i:=by
 unfold ZgF at h;split at h
 ·rename_i hu;exact Jf hu
 ·rename_i hu;exact Jf hu
 ·rename_i hu;exact Jf hu
 ·cases h
theorem Zje {s:TypeId} {f:Nat} {q:Nat×TypeId} (h:ZhP P s f=some q) :
  ∃ fs x,P.underlying s=some (.struct fs)∧fs[f]?=some x∧x.offset=q.1∧x.type=q.2∧P.cellsOf q.2≠0:=by
 unfold ZhP at h;split at h
 ·rename_i fs hu;split at h
  ·rename_i x hx;split at h
   ·cases h
   ·cases h;exact⟨fs,x,hu,hx,rfl,rfl,by assumption⟩
  ·cases h
 ·cases h
theorem ZhF {t:TypeId} {z:Value} (h:Zca P t=some z):∃ i,P.info? t=some i∧i.zero=some z:=by
 unfold Zca at h;split at h
 ·rename_i i hi;exact⟨i,hi,h⟩
 ·cases h
theorem ZgC {t:TypeId} {z:Value} (h:Zca P t=some z) (w:World):(zeroValue t).run P w=.ok z w:=by
 obtain⟨i,hi,hz⟩:=ZhF h;simp[zeroValue,typeInfo,hi,hz]
theorem Vz {t:TypeId} (h:Uy P t=true):∃ i z,P.info? t=some i∧i.zero=some z∧z.cells.size=i.size∧0<i.size∧P.cellsOf t=i.size∧P.bytesOf t=i.bytes:=by
 unfold Uy at h;split at h
 ·rename_i i hi;split at h
  ·rename_i z hz;simp at h;exact⟨i,z,hi,hz,h.1,h.2,by simp[Program.cellsOf,hi],by simp[Program.bytesOf,hi]⟩
  ·cases h
 ·cases h
end
section
variable {P:Program} {Γ:Gh} {w:World} {I:Nat→Prop}
theorem Zor (v:Value):XS Γ w I (Uv v) v:=by
 cases v<;>try exact trivial
 ·exact⟨rfl,by simp[ZQ]⟩
 ·exact⟨rfl,by simp[ZQ]⟩
 ·exact⟨rfl,_,rfl,(ZFX _).symm⟩
 ·rename_i a;cases a
  ·rfl
  ·exact trivial
 ·rename_i a n c;cases a
  ·cases n
   ·cases c
    ·exact⟨none,rfl⟩
    ·exact trivial
   ·exact trivial
  ·exact trivial
 ·rfl
theorem ZwC:∀ (vs:List Value),ZA (XS Γ w I) (vs.map Uv) vs
 | []=>trivial
 | v :: vs=>⟨Zor v,ZwC vs⟩
theorem ZDc (v:Value):Rep Γ w I (evC v) v:=by
 cases v with
 | agg cs=>exact Zj9 (ZwC cs.toList)
 | _=>simp only[evC];exact(Zor _).rep2.rep
def Zdr (Γ:Gh) (w:World) (I:Nat→Prop) (sl:Sl) (a:Act):Prop:=∀ t,Rep Γ w I (gs sl t) (a.tmps.getD t undef)
theorem Zdr.ev {sl:Sl} {a:Act} (h:Zdr Γ w I sl a) {x:Operand} {y:Opd} (hc:ZZ x=some y):Rep Γ w I (evO sl y) (a.eval x):=by
 cases x with
 | tmp t=>simp only[ZZ] at hc;cases hc;exact h t
 | const v=>simp only[ZZ] at hc;cases hc;exact ZDc v
 | global g=>simp only[ZZ] at hc;cases hc
 | func f=>simp only[ZZ] at hc;cases hc;exact⟨#[],rfl,trivial⟩
theorem Zdr.evL {sl:Sl} {a:Act} (h:Zdr Γ w I sl a):∀ {xs:List Operand} {ys:List Opd},QJ ZZ xs=some ys→ZA (Rep Γ w I) (evL sl ys) (xs.map a.eval)
 | [],ys,hc=>by simp only[QJ] at hc;cases hc;exact trivial
 | x :: xs,ys,hc=>by
  simp only[QJ] at hc;obtain⟨y,h1,hc⟩:=Za hc;obtain⟨aa,h2,hc⟩:=Za hc;cases hc;exact⟨h.ev h1,h.evL h2⟩
theorem rep_int {k:IntKind} {n:Int} {v:Value} (h:Rep Γ w I (.d (.int k n)) v):v=.int k n:=by
 have:=Ql.1 h;simpa [Xb,ZQ] using this
theorem ZgD {b:Bool} {v:Value} (h:Rep Γ w I (.d (.bool b)) v):v=.bool b:=by
 have:=Ql.1 h;simpa [Xb,ZQ] using this
theorem ZhG {s:List UInt8} {v:Value} (h:Rep Γ w I (.d (.str s)) v):∃ t:ByteArray,v=.string t∧t.data.toList=s:=by
 have:=Ql.1 h;simpa [Xb,ZQ] using this
theorem Zto {ds:List D} {v:Value} (h:Rep Γ w I (.d (.agg ds)) v):∃ vs,v=.agg vs∧QT w I ds vs.toList:=Ql.1 h
theorem Zek (k:IntKind) (n:Int):Rep Γ w I (.d (.int k n)) (.int k n):=Ql.2 (by simp[Xb,ZQ])
theorem ZEp (b:Bool):Rep Γ w I (.d (.bool b)) (.bool b):=Ql.2 (by simp[Xb,ZQ])
theorem ZAp {t:ByteArray} {s:List UInt8} (h:t.data.toList=s):Rep Γ w I (.d (.str s)) (.string t):=Ql.2 (by simp[Xb,ZQ,h])
theorem Wr {x:AV} {n:Int} {v:Value} (hi:idx x=some n) (h:Rep Γ w I x v):∃ k,v=.int k n:=by
 unfold idx at hi;split at hi
 ·cases hi;exact⟨_,rep_int h⟩
 ·cases hi
theorem ZAq {R:AV→Value→Prop} {cs:List AV} {vs:Array Value} (h:ZA R cs vs.toList) (off s:Nat) :
  ZA R ((cs.drop off).take s) (vs.extract off (off+s)).toList:=by
 have:=(h.drop off).take s;simpa [Array.toList_extract,List.extract_eq_take_drop] using this
theorem ZAr {t:TypeId} {g:Bool} (hg:ZgF P t=some g) {off:Nat} {x r:AV} {v:Value} (h:Rep Γ w I x v) (hp:Zm0 g (P.cellsOf t) off x=some r) :
  ∃ cs u,v=.agg cs∧(part t cs off).run P w=.ok u w∧Rep Γ w I r u:=by
 obtain⟨i,hi⟩:=Zkb hg;have hs:=Xe hi w;unfold Zm0 at hp;split at hp
 ·obtain⟨vs,rfl,hr⟩:=Zto h;unfold Zeo at hp;cases g
  ·simp only[Ka,Kn,asD] at hp;obtain⟨d,hd,hp⟩:=Za hp;cases hp;obtain⟨u,hu,h1,h2⟩:=(Q8.1 hr).get off d hd;refine⟨vs,u,rfl,?_,Ql.2 ((Xb.one h1).2 h2)⟩;have aa : vs[off]?=some u:=by simpa using hu
   simp[part,VZ hg,aa]
  ·simp only[Km] at hp;split at hp
   ·cases hp;refine⟨vs,.agg (vs.extract off (off+P.cellsOf t)),rfl,by simp[part,VZ hg,hs],Ql.2 ⟨_,rfl,?_⟩⟩;rw[Q8] at hr ⊢;have:=(hr.drop off).take (P.cellsOf t);simpa [Array.toList_extract,List.extract_eq_take_drop] using this
   ·cases hp
 ·obtain⟨vs,rfl,hr⟩:=h;cases g
  ·simp only[Ka,Kn] at hp;obtain⟨u,hu,h1⟩:=hr.get off r hp;have aa : vs[off]?=some u:=by simpa using hu
   exact⟨vs,u,rfl,by simp[part,VZ hg,aa],h1.rep2.rep⟩
  ·simp only[Km] at hp;split at hp
   ·cases hp;exact⟨vs,.agg (vs.extract off (off+P.cellsOf t)),rfl,by simp[part,VZ hg,hs],Zj9 (ZAq (hr.mono fun _ _ h=>h.repB) _ _)⟩
   ·cases hp
 ·cases hp
theorem W1 (b o n:Nat):(⟨b,o,none⟩:Addr).add n=⟨b,o+n,none⟩:=by unfold Addr.add;split<;>simp_all
theorem Zpo {t:TypeId} {g:Bool} (hg:ZgF P t=some g) {b o:Nat} {vs:List Value} (h:QA w b o vs) (hl:vs.length=P.cellsOf t) (h1:g=false→∃ u,vs[0]?=some u) :
  ∃ u,(loadVar t ⟨b,o,none⟩).run P w=.ok u w∧(if g then u=.agg vs.toArray else vs[0]?=some u):=by
 obtain⟨i,hi⟩:=Zkb hg;cases g
 ·obtain⟨u,hu⟩:=h1 rfl;have:=h 0 u hu;exact⟨u,by simp[loadVar,VZ hg,show w.cell? ⟨b,o,none⟩=some u from by simpa using this],by simpa using hu⟩
 ·refine⟨.agg vs.toArray,?_,by simp⟩;have hc:(loadCells ⟨b,o,none⟩ vs.length).run P w=.ok vs.toArray w:=run_loadCells_list (P:=P) w _ vs fun j u hu=>by
   rw[W1];exact h j u hu
  rw[hl] at hc;simp[loadVar,VZ hg,Xe hi w,hc]
def ZaV (Γ:Gh) (w:World) (I F A:Nat→Prop) (hp:Hp):Prop:=∀ id o,lkp hp id=some o→Vb Γ w I F A id o
theorem QA.drop {b o:Nat} {vs:List Value} (h:QA w b o vs) (n:Nat):QA w b (o+n) (vs.drop n):=fun j u hu=>by
 have:=h (n+j) u (by simpa [Lk] using hu);simpa [KW] using this
theorem QA.take {b o:Nat} {vs:List Value} (h:QA w b o vs) (n:Nat):QA w b o (vs.take n):=fun j u hu=>by
 rw[Lr] at hu;split at hu
 ·exact h j u hu
 ·cases hu
theorem Zjf {b:Nat} {cur:Array Value} {e:TypeId} {fr:Nat×Nat} (h:w.heap[b]?=some (.cells cur e fr)):QA w b 0 cur.toList:=fun j u hu=>by
 rw[cell_of_row w b _ cur e fr h];simpa using hu
theorem QT.drop {S:Nat→Prop} {ds:List D} {vs:List Value} (h:QT w S ds vs) (n:Nat):QT w S (ds.drop n) (vs.drop n):=Q8.2 ((Q8.1 h).drop n)
theorem QT.take {S:Nat→Prop} {ds:List D} {vs:List Value} (h:QT w S ds vs) (n:Nat):QT w S (ds.take n) (vs.take n):=Q8.2 ((Q8.1 h).take n)
theorem Ztp {t:TypeId} {g:Bool} (hg:ZgF P t=some g) {b o off:Nat} {cs:List D} {vs:List Value} (hr:QT w I cs vs) (h:QA w b o vs) {r:AV} (hp:Zeo g (P.cellsOf t) off cs=some r) :
  ∃ u,(loadVar t ⟨b,o+off,none⟩).run P w=.ok u w∧Rep Γ w I r u:=by
 unfold Zeo at hp;cases g
 ·simp only[Ka,Kn,asD] at hp;obtain⟨d,hd,hp⟩:=Za hp;cases hp;obtain⟨u,hu,h1,h2⟩:=(Q8.1 hr).get off d hd;have:=h off u hu;exact⟨u,by simp[loadVar,VZ hg,this],Ql.2 ((Xb.one h1).2 h2)⟩
 ·simp only[Km] at hp;split at hp
  ·rename_i hl;cases hp;obtain⟨u,h1,h2⟩:=Zpo (P:=P) hg (h:=(h.drop off).take (P.cellsOf t)) (by rw[LC,Ls,← hr.length];omega) (fun h=>by cases h);simp only[Km] at h2;subst h2;exact⟨_,h1,Ql.2 ⟨_,rfl,by simpa using (hr.drop off).take (P.cellsOf t)⟩⟩
  ·cases hp
variable {F A:Nat→Prop} {hp:Hp}
theorem Ztq {id sz n c i:Nat} {a:Option Addr} {xs:List D} {ex fz:Bool} (h:ZmP w I F A a n c sz xs ex fz) {x:D} (hx:xs[i]?=some x) :
  ∃ g o vs,a=some ⟨g,o,none⟩∧vs.length=sz∧QA w g (o+i*sz) vs∧ZQ w I x vs:=by
 obtain⟨h1,h2⟩:=h;rcases h2 with ⟨h2,_⟩ | ⟨g,o,cur,e,ha,_,_,_,_,_,_,_,_,hr⟩
 ·have:xs=[]:=Kt (by omega);subst this;simp at hx
 ·obtain⟨vs,h3,h4,h5⟩:=Yh.1 hr i x hx;refine⟨g,o,vs,ha,h3,h4,?_⟩;cases ex
  ·exact h5
  ·exact h5.mono ⟨fun b hb=>hb.1,fun _ _=>rfl⟩
theorem ZwD {sz ns n c i:Nat} {a:Option Addr} {xs:List D} {hl:Option Nat} (h:ZlG w I F a n c sz ns xs hl) {x:D} (hx:xs[i]?=some x) :
  ∃ g vs B,a=some ⟨g,0,none⟩∧vs.length=sz∧QA (Jn w g hl) g (i*sz) vs∧Qj (Jn w g hl) ns B x.cells vs:=by
 obtain⟨h1,h2⟩:=h;rcases h2 with ⟨h2,_⟩ | ⟨g,cur,e,B,ha,_,_,_,_,_,_,hr,_⟩
 ·have:xs=[]:=Kt (by omega);subst this;simp at hx
 ·obtain⟨vs,B1,Bn,B2,_,h3,h4,h5,_⟩:=hr.at hx;exact⟨g,vs,Bn,ha,h3,by simpa using h4,h5.cells⟩
theorem ZDd {sz i j i' j' : Nat} (hj:j<sz) (aa : j' < sz) (e:i*sz+j=i' * sz+j'):i=i'∧j=j':=by
 have k1:(i*sz+j) / sz=i:=by rw[Nat.mul_comm,Nat.mul_add_div (by omega),Nat.div_eq_of_lt hj];omega
 have k2:(i' * sz+j') / sz=i':=by rw[Nat.mul_comm,Nat.mul_add_div (by omega),Nat.div_eq_of_lt aa];omega
 rw[e,k2] at k1;subst k1;exact⟨rfl,by omega⟩
theorem YM.away {a:Option Addr} {sz ns i off:Nat} {xs:List D} {lk:Option (Option Nat×Nat×Nat)} (h:YM Γ w a sz ns xs lk) (aa:off<sz) {x:D} (hx:xs[i]?=some x) (hc:∀ ys,x.cells[off]?≠some (.sl ys)) :
  VL sz lk≠some (i*sz+off):=by
 cases lk with
 | none=>simp[VL]
 | some q=>
  obtain⟨nm,i',j⟩:=q;obtain⟨h1,h2,h3,_⟩:=h;simp only[VL,ne_eq,Option.some.injEq];intro e;obtain⟨rfl,rfl⟩:=ZDd h2 aa e;unfold Zar at h3;rw[hx,Zh] at h3;split at h3
  ·rename_i ys ab;exact hc ys ab
  ·cases h3
theorem ZEq {x:AV} {v:Value} (h:XS Γ w I x v):XS Γ w I (ZmU x) v:=by
 cases x with
 | bbuf _ _=>trivial
 | _=>exact h
theorem ZAs {t:TypeId} {g:Bool} (hg:ZgF P t=some g) (ho:ZaV Γ w I F A hp) {x r:AV} {v:Value} (h:Rep Γ w I x v) (hp' : UO hp g (P.cellsOf t) x=some r) :
  ∃ u,(Instr.loadAt t v).run P w=.ok u w∧Rep Γ w I r u:=by
 unfold UO at hp';split at hp'
 ·rename_i id off;obtain⟨b,hb,rfl⟩:=h;unfold ZbP at hp';split at hp'
  ·rename_i cs hl;obtain⟨b',cur,e,aa,hw,_,_,hc,_⟩:=ho id _ hl;rw[hb] at aa;cases aa;have ab:=Zjf hw;cases g
   ·simp only[Ka,Kn] at hp';obtain⟨r0,ai,rfl⟩:=Option.map_eq_some_iff.1 hp';obtain⟨u,hu,h1⟩:=hc.get off r0 ai;have:=ab off u hu;exact⟨u,by simp only[K7] at this;simp[Instr.loadAt,Instr.sureAddr,loadVar,VZ hg,this],(ZEq h1).rep2.rep⟩
   ·simp only[Km] at hp';split at hp'
    ·cases hp';obtain⟨u,h1,h2⟩:=Zpo (P:=P) hg (h:=(ab.drop off).take (P.cellsOf t)) (by rw[LC,Ls,← hc.length];omega) (fun h=>by cases h);simp only[Km] at h2;subst h2;refine⟨_,by simpa [Instr.loadAt,Instr.sureAddr] using h1,Zj9 ?_⟩;simpa using (hc.drop off).take (P.cellsOf t)
    ·cases hp'
  ·cases hp'
 ·rename_i id sz i off;obtain⟨b,o0,n,c,hb,hi,rfl⟩:=h;unfold Zan at hp';split at hp'
  ·rename_i aj xs ex fz hl;split at hp'
   ·rename_i ae;subst ae;obtain⟨a,n',c',aa,ak⟩:=ho id _ hl;rw[hb] at aa;cases aa;obtain⟨y,hy,hp'⟩:=Za hp';obtain⟨g',o1,vs,ha,h3,h4,h5⟩:=Ztq (id:=id) ak hy;cases ha;unfold ZmV at hp';split at hp'
    ·have:=Ztp (P:=P) (Γ:=Γ) hg h5.cells h4 hp';obtain⟨u,h6,h7⟩:=this;exact⟨u,by simpa [Instr.loadAt,Instr.sureAddr,KW] using h6,h7⟩
    ·cases hp'
   ·cases hp'
  ·rename_i aj ns xs lk hl;split at hp'
   ·rename_i ae;subst ae;cases g
    ·simp only[Ka,Kn] at hp';obtain⟨a,n',c',aa,hd,ad⟩:=ho id _ hl;rw[hb] at aa;cases aa;obtain⟨y,hy,hq⟩:=Za hp';clear hp';obtain⟨g',vs,B,ha,h3,h4,h5⟩:=ZwD hd hy;cases ha;unfold Zam at hq;split at hq
     ·unfold Zpq at hq;split at hq
      ·split at hq
       ·rename_i hc;obtain⟨rfl,rfl⟩:=hc;cases hq;obtain⟨_,_,_,ad⟩:=ad;obtain⟨g2,a2,n2,c2,ha2,h6,h9⟩:=ad _ rfl;cases ha2;exact⟨_,by simp[Instr.loadAt,Instr.sureAddr,loadVar,VZ hg,h9],⟨a2,n2,c2,_,h6,rfl⟩⟩
       ·cases hq
      ·cases hq
     ·rename_i y' ag ah;split at hq
      ·cases hq;obtain⟨u,_,_,_,hu,_,h6⟩:=h5.get ah;have af:off<sz:=by have:=(Kb.1 hu).1;omega
       have:=h4 off u hu;rw[ZB1 (ad.away af hy fun ys e=>ag ys (by rw[ah] at e;exact Option.some.inj e)) ] at this;have h7:=(h6.plain (S:=I) fun ys e=>ag ys e).2;exact⟨u,by simp[Instr.loadAt,Instr.sureAddr,loadVar,VZ hg,this],Ql.2 ((Xb.one (by cases y' <;> simp_all [D.plain,D.one])).2 (ZgB h7.1 h7.2))⟩
      ·cases hq
     ·cases hq
    ·simp only[Km] at hp';cases hp'
   ·cases hp'
  ·cases hp'
 ·rename_i cs;obtain⟨b,o,vs,rfl,hI,ab,hr⟩:=h;obtain⟨u,h6,h7⟩:=Ztp (P:=P) (Γ:=Γ) hg hr ab hp';exact⟨u,by simpa [Instr.loadAt,Instr.sureAddr] using h6,h7⟩
 ·cases hp'
theorem ZwE {off:Nat} {x:AV} {v:Value} {ce:Zf} (h:Rep Γ w I x v) (hp:W4 off x=some ce) :
  ∃ b o r,v=.pointer (some ⟨b,o,none⟩)∧ce = { eff := { val:=r },gone:=[] }∧Rep Γ w I r (.pointer (some ⟨b,o+off,none⟩)):=by
 unfold W4 at hp;split at hp
 ·obtain⟨b,hb,rfl⟩:=h;cases hp;exact⟨b.1,_,_,rfl,rfl,b,hb,rfl⟩
 ·obtain⟨b,o,n,c,hb,hi,rfl⟩:=h;cases hp;exact⟨b,_,_,rfl,rfl,b,o,n,c,hb,hi,by simp only[KW]⟩
 ·obtain⟨b,o,vs,rfl,hI,aa,hr⟩:=h;cases hp;exact⟨b,_,_,rfl,rfl,b,o+off,vs.drop off,rfl,hI,aa.drop off,hr.drop off⟩
 ·cases hp
theorem ZEr {s:TypeId} {f:Nat} {q:Nat×TypeId} (hq:ZhP P s f=some q) {x:AV} {v:Value} {ce:Zf} (h:Rep Γ w I x v) (hp:W4 q.1 x=some ce) :
  ∃ u r,(Instr.fieldAt s v f).run P w=.ok u w∧ce = { eff := { val:=r },gone:=[] }∧Rep Γ w I r u:=by
 obtain⟨fs,y,h1,h2,h3,h4,h5⟩:=Zje hq;obtain⟨b,o,r,rfl,h6,h7⟩:=ZwE h hp;obtain⟨i,hi⟩:=ZkZ h5;refine⟨_,r,?_,h6,h7⟩;simp[Instr.fieldAt,run_underlying h1,h2,Instr.sureAddr,fieldPlace,h4,Xe hi,h5,W1,h3]
theorem ZEs {t:TypeId} {a:Nat×TypeId} (ha:ZlL P t=some a) (hi:∃ i,P.info? a.2=some i) {x y:AV} {v k:Value} {n:Int} (h:Rep Γ w I x v) (hk:Rep Γ w I y k) (hn:idx y=some n) {ce:Zf}
  (hp:ZtA x n a.1 (P.cellsOf a.2)=some ce):∃ u r,(Instr.indexAt t v k).run P w=.ok u w∧ce = { eff := { val:=r },gone:=[] }∧Rep Γ w I r u:=by
 obtain⟨kk,rfl⟩:=Wr hn hk;obtain⟨i,hi⟩:=hi;unfold ZtA at hp;split at hp
 ·rename_i hb;obtain⟨b,o,r,rfl,h6,h7⟩:=ZwE h hp;refine⟨_,r,?_,h6,h7⟩;simp[Instr.indexAt,asIntOf,run_underlying (ZwB ha),Instr.sureAddr,hb.1,hb.2,Xe hi,W1]
 ·cases hp
theorem Zvw {sz n:Nat} (ho:ZaV Γ w I F A hp) {x r:AV} {v:Value} (h:Rep Γ w I x v) (hp' : QK hp sz n x=some r) :
  ∃ b o m c,v=.slice (some ⟨b,o,none⟩) m c∧n<m∧Rep Γ w I r (.pointer (some ⟨b,o+n*sz,none⟩)):=by
 unfold QK at hp';split at hp'
 ·rename_i xs;obtain⟨y,hy,hp'⟩:=Za hp';have:=Ql.1 h;simp only[Xb,ZQ] at this;obtain⟨a,c,hv,hc,h1⟩:=this;simp at hv;subst hv;have ad:n<xs.length:=(Kb.1 hy).1;rcases h1 with h1 | ⟨b,o,af,rfl,hI,h0,hr⟩
  ·subst h1;simp at hy
  ·obtain⟨vs,h3,h4,h5⟩:=Yh.1 hr n y hy;unfold ZDf at hp';split at hp'
   ·rename_i ag;cases hp';have:af=sz:=by rw[← h3,h5.length,ag]
    subst this;exact⟨b,o,_,c,rfl,ad,b,_,vs,rfl,hI,h4,h5.cells⟩
   ·cases hp'
 ·rename_i id;obtain⟨a,m,c,af,hb,rfl⟩:=h;unfold Zfk at hp';split at hp'
  ·rename_i ae xs ex fz hl;split at hp'
   ·rename_i hc;cases hp';obtain⟨rfl,ad⟩:=hc;obtain⟨a',n',c',aa,ab⟩:=ho id _ hl;rw[hb] at aa;cases aa;obtain⟨y,hy⟩:∃ y,xs[n]?=some y:=⟨_,Kv ad⟩
    obtain⟨g',o1,vs,rfl,h3,h4,h5⟩:=Ztq (id:=id) ab hy;have hm:m=xs.length:=ab.1;exact⟨g',o1,m,c,rfl,by omega,g',o1,m,c,hb,by omega,by simp⟩
   ·cases hp'
  ·rename_i ae ns xs lk hl;split at hp'
   ·rename_i hc;cases hp';obtain⟨rfl,ad⟩:=hc;obtain⟨a',n',c',aa,ab,_⟩:=ho id _ hl;rw[hb] at aa;cases aa;obtain⟨y,hy⟩:∃ y,xs[n]?=some y:=⟨_,Kv ad⟩
    obtain⟨g',vs,B,rfl,h3,h4,h5⟩:=ZwD ab hy;have hm:m=xs.length:=ab.1;exact⟨g',0,m,c,rfl,by omega,g',0,m,c,hb,by omega,by simp⟩
   ·cases hp'
  ·cases hp'
 ·rename_i id off m;obtain⟨a0,m',c,af,a,hb,h1,h2,rfl,h3,h4⟩:=h;unfold Zeq at hp';split at hp'
  ·rename_i ae xs ex fz hl;split at hp'
   ·rename_i hc;cases hp';obtain⟨rfl,ad⟩:=hc;obtain⟨a',n',c',aa,ab⟩:=ho id _ hl;rw[hb] at aa;cases aa;have hm:m'=xs.length:=ab.1;obtain⟨y,hy⟩:∃ y,xs[off+n]?=some y:=⟨_,Kv (by omega)⟩
    obtain⟨g',o1,vs,rfl,h5,h6,h7⟩:=Ztq (id:=id) ab hy;rcases h4 with h4 | h4
    ·subst h4;refine⟨g',o1+off*af,m,c-off,by simp[W1],ad,g',o1,m',c,hb,by omega,?_⟩;rw[KV];simp[KW]
    ·omega
   ·cases hp'
  ·cases hp'
 ·cases hp'
theorem ZEt {t e:TypeId} (he:Yu P t=some e) (hi:∃ i,P.info? e=some i) (ho:ZaV Γ w I F A hp) {x y r:AV} {v k:Value} {n:Int} (h:Rep Γ w I x v) (hk:Rep Γ w I y k) (hn:idx y=some n)
  (h0:0≤n) (hp' : QK hp (P.cellsOf e) n.toNat x=some r):∃ u,(Instr.indexAt t v k).run P w=.ok u w∧Rep Γ w I r u:=by
 obtain⟨kk,rfl⟩:=Wr hn hk;obtain⟨i,hi⟩:=hi;obtain⟨b,o,m,c,rfl,ab,hr⟩:=Zvw ho h hp';have aa : n<(m:Int):=by omega
 exact⟨_,by simp[Instr.indexAt,asIntOf,run_underlying (Xd he),h0,aa,Xe hi,W1],hr⟩
end
end Go.Abs
