/- Own text. -/
import Derived.Test.YtbpekaejmjlmfaaGreatAbsTree
import Derived.Laws.MakeOwn
import Derived.Laws.StructEq
import Derived.Laws.Concat
import Derived.Laws.Slices
set_option linter.unusedVariables false
set_option linter.unusedSimpArgs false
namespace Go.Abs
open Go
def Yi (w:World) (S:Nat→Prop):D→Value→Prop
 | .agg cs,v=>∃ vs,v=.agg vs∧Xa w S cs vs.toList
 | d,v=>Z2 w S d [v]
theorem Yi.mono {w w' : World} {S S' : Nat→Prop} (hk:ZY S S' w w') {d:D} {v:Value} (h:Yi w S d v):Yi w' S' d v:=by
 cases d<;>simp only[Yi] at h ⊢
 ·exact h.mono hk
 ·exact h.mono hk
 ·exact h.mono hk
 ·exact h.mono hk
 ·obtain⟨vs,h1,h2⟩:=h;exact⟨vs,h1,h2.mono hk⟩
theorem Yi.cells {w:World} {S:Nat→Prop} {d:D} {v:Value} (h:Yi w S d v):Z2 w S d v.cells.toList:=by
 cases d<;>simp only[Yi] at h
 ·have:=h;simp only[Z2] at h;simp at h;subst h;exact this
 ·have:=h;simp only[Z2] at h;simp at h;subst h;exact this
 ·have:=h;simp only[Z2] at h;obtain⟨t,h,_⟩:=h;simp at h;subst h;exact this
 ·have:=h;simp only[Z2] at h;obtain⟨a,c,h,_⟩:=h;simp at h;subst h;exact this
 ·obtain⟨vs,rfl,h2⟩:=h;simpa [Z2,Value.cells] using h2
theorem Yi.one {w:World} {S:Nat→Prop} {d:D} {v:Value} (hd:d.one=true):Yi w S d v↔Z2 w S d [v]:=by
 cases d<;>simp[Yi,D.one] at hd ⊢
inductive Ref where
 | box (b:Nat×TypeId)
 | row (a:Option Addr) (n c sz:Nat)
abbrev Gh:=Nat→Option Ref
def Vj (Γ:Gh) (w:World) (I:Nat→Prop):AV→Value→Prop
 | .d x,v=>x.one=true∧Z2 w I x [v]
 | .nil,v=>∃ a,v=.slice a 0 0
 | .nilp,v=>v=.pointer none
 | .nili,v=>v=.nilIface
 | .ptr id off,v=>∃ b,Γ id=some (.box b)∧v=.pointer (some ⟨b.1,off,none⟩)
 | .prow id sz i off,v=>∃ b o n c,Γ id=some (.row (some ⟨b,o,none⟩) n c sz)∧i<n∧v=.pointer (some ⟨b,o+(i*sz+off),none⟩)
 | .pim cs,v=>∃ b o vs,v=.pointer (some ⟨b,o,none⟩)∧I b∧QA w b o vs∧Xa w I cs vs
 | .own id,v=>∃ a n c sz,Γ id=some (.row a n c sz)∧v=.slice a n c
 | .ownv id off n,v=>∃ a0 m c sz a,Γ id=some (.row a0 m c sz)∧off+n≤m∧m≤c∧v=.slice a n (c-off)∧(off=0→a=a0)∧(a=a0.map (·.add (off*sz))∨c=off)
 | .bnil id e,v=>∃ b,Γ id=some (.box (b,e))∧(v=.pointer none∨v=.pointer (some ⟨b,0,none⟩))
 | .bbuf _ _,v=>∃ a n c,v=.slice a n c
 | .agg _,_=>False
 | .tup _,_=>False
 | .clo _ _,_=>False
 | .junk,_=>True
def X3 (Γ:Gh) (w:World) (I:Nat→Prop):AV→Value→Prop
 | .clo f cs,v=>∃ us,v=.func (.func f) #[] us∧ZD (Vj Γ w I) cs us.toList
 | x,v=>Vj Γ w I x v
def ZaR (Γ:Gh) (w:World) (I:Nat→Prop):AV→Value→Prop
 | .agg cs,v=>∃ vs,v=.agg vs∧ZD (Vj Γ w I) cs vs.toList
 | .clo f cs,v=>∃ us,v=.func (.func f) #[] us∧ZD (Vj Γ w I) cs us.toList
 | .d (.agg ds),v=>∃ vs,v=.agg vs∧Xa w I ds vs.toList
 | x,v=>Vj Γ w I x v
def Rep (Γ:Gh) (w:World) (I:Nat→Prop):AV→Value→Prop
 | .tup vs,v=>∃ us,v=.tuple us∧ZD (ZaR Γ w I) vs us.toList
 | x,v=>ZaR Γ w I x v
def Qo (Γ Γ' : Gh):Prop:=∀ id r,Γ id=some r→Γ' id=some r
section
variable {Γ Γ' : Gh} {w w' : World} {I I' : Nat→Prop}
theorem Vj.mono (hg:Qo Γ Γ') (hk:ZY I I' w w') {x:AV} {v:Value} (h:Vj Γ w I x v):Vj Γ' w' I' x v:=by
 cases x<;>simp only[Vj] at h ⊢
 ·exact⟨h.1,h.2.mono hk⟩
 ·exact h
 ·exact h
 ·exact h
 ·obtain⟨b,h1,h2⟩:=h;exact⟨b,hg _ _ h1,h2⟩
 ·obtain⟨b,o,n,c,h1,h2⟩:=h;exact⟨b,o,n,c,hg _ _ h1,h2⟩
 ·obtain⟨b,o,vs,h1,h2,h3,h4⟩:=h;exact⟨b,o,vs,h1,hk.sub b h2,h3.mono (hk.blk b h2),h4.mono hk⟩
 ·obtain⟨a,n,c,sz,h1,h2⟩:=h;exact⟨a,n,c,sz,hg _ _ h1,h2⟩
 ·obtain⟨a0,m,c,sz,a,h1,h2⟩:=h;exact⟨a0,m,c,sz,a,hg _ _ h1,h2⟩
 ·obtain⟨b,h1,h2⟩:=h;exact⟨b,hg _ _ h1,h2⟩
 ·exact h
theorem X3.mono (hg:Qo Γ Γ') (hk:ZY I I' w w') {x:AV} {v:Value} (h:X3 Γ w I x v):X3 Γ' w' I' x v:=by
 unfold X3 at h ⊢;split at h
 ·obtain⟨vs,h1,h2⟩:=h;exact⟨vs,h1,h2.mono fun _ _ h=>h.mono hg hk⟩
 ·exact h.mono hg hk
theorem ZaR.mono (hg:Qo Γ Γ') (hk:ZY I I' w w') {x:AV} {v:Value} (h:ZaR Γ w I x v):ZaR Γ' w' I' x v:=by
 unfold ZaR at h ⊢;split at h
 ·obtain⟨vs,h1,h2⟩:=h;exact⟨vs,h1,h2.mono fun _ _ h=>h.mono hg hk⟩
 ·obtain⟨vs,h1,h2⟩:=h;exact⟨vs,h1,h2.mono fun _ _ h=>h.mono hg hk⟩
 ·obtain⟨vs,h1,h2⟩:=h;exact⟨vs,h1,h2.mono hk⟩
 ·exact h.mono hg hk
theorem Rep.mono (hg:Qo Γ Γ') (hk:ZY I I' w w') {x:AV} {v:Value} (h:Rep Γ w I x v):Rep Γ' w' I' x v:=by
 unfold Rep at h ⊢;split at h
 ·obtain⟨vs,h1,h2⟩:=h;exact⟨vs,h1,h2.mono fun _ _ h=>h.mono hg hk⟩
 ·exact h.mono hg hk
theorem Vj.repB {x:AV} {v:Value} (h:Vj Γ w I x v):X3 Γ w I x v:=by
 cases x<;>first | exact h | exact h.elim
theorem Vj.rep2 {x:AV} {v:Value} (h:Vj Γ w I x v):ZaR Γ w I x v:=by
 cases x<;>first | exact h | exact h.elim | skip
 rename_i x;cases x<;>first | exact h | skip
 simp[Vj,D.one] at h
theorem X3.rep2 {x:AV} {v:Value} (h:X3 Γ w I x v):ZaR Γ w I x v:=by
 cases x<;>first | exact Vj.rep2 h | exact h
theorem ZaR.rep {x:AV} {v:Value} (h:ZaR Γ w I x v):Rep Γ w I x v:=by
 cases x<;>first | exact h | exact h.elim
theorem X5 {x:D} {v:Value}:Rep Γ w I (.d x) v↔Yi w I x v:=by
 cases x<;>simp[Rep,ZaR,Vj,Yi,D.one]
theorem ZuZ {x:D} {v:Value}:ZaR Γ w I (.d x) v↔Yi w I x v:=by
 cases x<;>simp[ZaR,Vj,Yi,D.one]
theorem ZwG:∀ {cs:List AV} {ds:List D} {vs:List Value},Zgb cs=some ds→ZD (X3 Γ w I) cs vs→Xa w I ds vs
 | [],ds,[],h,_=>by simp[Zgb] at h;subst h;simp[Xa]
 | [],_,_ :: _,_,h=>h.elim
 | _ :: _,_,[],_,h=>h.elim
 | c :: cs,ds,v :: vs,h,hr=>by
  simp only[Zgb] at h;obtain⟨x,h1,h⟩:=Za h;obtain⟨aa,h2,h⟩:=Za h;cases h;refine⟨v,vs,rfl,?_,?_,ZwG h2 hr.2⟩
  ·unfold Zp3 at h1;split at h1
   ·split at h1<;>cases h1;assumption
   ·cases h1
  ·unfold Zp3 at h1;split at h1
   ·split at h1<;>cases h1;exact hr.1.2
   ·cases h1
theorem Zts:∀ {cs:List AV} {vs:List Value},ZeR cs=false→ZD (X3 Γ w I) cs vs→ZD (Vj Γ w I) cs vs
 | [],[],_,_=>trivial
 | [],_ :: _,_,h=>h.elim
 | _ :: _,[],_,h=>h.elim
 | c :: cs,v :: vs,h,hr=>by
  simp only[ZeR,Kah] at h;refine⟨?_,Zts h.2 hr.2⟩;cases c<;>first | exact hr.1 | (simp[Zs6] at h)
theorem Zix {cs:List AV} {vs:Array Value} (h:ZD (X3 Γ w I) cs vs.toList):Rep Γ w I (ZaK cs) (.agg vs):=by
 unfold ZaK;cases hd:Zgb cs with
 | some ds=>exact X5.2 ⟨vs,rfl,ZwG hd h⟩
 | none=>
  simp only[JC];cases hc:ZeR cs
  ·exact⟨vs,rfl,Zts hc h⟩
  ·exact trivial
theorem Rep.cells {x:AV} {v:Value} (hs:x.solid=true) (h:Rep Γ w I x v):ZD (X3 Γ w I) x.cells v.cells.toList:=by
 cases x with
 | d x=>
  have h1:=(X5.1 h).cells.cells;rw[Xw] at h1;exact h1.map_left (f:=AV.d) (S:=X3 Γ w I) fun a b aa=>aa
 | agg cs=>obtain⟨vs,rfl,h⟩:=h;exact h.mono fun _ _ h=>h.repB
 | clo f cs=>obtain⟨us,rfl,h⟩:=h;exact⟨⟨us,rfl,h⟩,trivial⟩
 | tup vs=>cases hs
 | junk=>cases hs
 | nil=>obtain⟨a,rfl⟩:=h;exact⟨⟨a,rfl⟩,trivial⟩
 | nilp=>obtain rfl:=h;exact⟨rfl,trivial⟩
 | nili=>obtain rfl:=h;exact⟨rfl,trivial⟩
 | ptr id off=>obtain⟨b,h1,rfl⟩:=h;exact⟨⟨b,h1,rfl⟩,trivial⟩
 | prow id sz i off=>obtain⟨b,o,n,c,h1,h2,rfl⟩:=h;exact⟨⟨b,o,n,c,h1,h2,rfl⟩,trivial⟩
 | pim cs=>obtain⟨b,o,vs,rfl,h⟩:=h;exact⟨⟨b,o,vs,rfl,h⟩,trivial⟩
 | own id=>
  obtain⟨a,n,c,sz,h1,rfl⟩:=h;exact⟨⟨a,n,c,sz,h1,rfl⟩,trivial⟩
 | ownv id off n=>obtain⟨a0,m,c,sz,a,h1,h2,h3,rfl,h4⟩:=h;exact⟨⟨a0,m,c,sz,a,h1,h2,h3,rfl,h4⟩,trivial⟩
 | bnil id e=>
  obtain⟨b,h1,h2⟩:=h;rcases h2 with rfl | rfl
  ·exact⟨⟨b,h1,.inl rfl⟩,trivial⟩
  ·exact⟨⟨b,h1,.inr rfl⟩,trivial⟩
 | bbuf a b=>cases hs
end
theorem Zfn {w w' : World} {S S' : Nat→Prop} {d:D} {vs:List Value} (hd:d.plain=true) (h:Z2 w S d vs):Z2 w' S' d vs:=by
 cases d<;>first | (simpa [Z2] using h) | (simp[D.plain] at hd)
def ZkS (w:World) (I F A:Nat→Prop) (a:Option Addr) (n cap sz:Nat) (xs:List D) (ex fz:Bool):Prop:=
 n=xs.length∧((n=0∧cap=0) ∨
 ∃ g o cur e,a=some ⟨g,o,none⟩∧0<cap∧w.heap[g]?=some (.cells cur e (0,0))∧n≤cap∧cap≤maxLen∧(cur.size=o+cap*sz∧(ex=true→o=0))∧0<sz ∧
  (if fz then I g else ¬I g)∧F g∧U3 w (if ex then fun b=>I b∧A b else I) g sz xs o)
def ZwH:Value→Option Nat
 | .slice (some ad) _ c=>if c=0 then none else some ad.block
 | _=>none
def ZkT (w:World) (g p:Nat):Option Nat:=match w.cell? ⟨g,p,none⟩ with
 | some v=>ZwH v
 | none=>none
def V2 (sz:Nat):Option (Option Nat×Nat×Nat)→Option Nat
 | some (_,i,j)=>some (i*sz+j)
 | none=>none
def JZ (w:World) (g:Nat):Option Nat→World
 | some p=>w.setCell ⟨g,p,none⟩ (.slice none 0 0)
 | none=>w
theorem ZDQ (w:World) (g:Nat) (h:Option Nat) {k:Nat} (hk:k≠g):(JZ w g h).heap[k]?=w.heap[k]?:=by
 cases h with
 | none=>rfl
 | some p=>simp[JZ,World.setCell,Kaf,Ne.symm hk]
theorem Zye (w:World) (g:Nat) (h:Option Nat):(JZ w g h).heap.size=w.heap.size:=by
 cases h with
 | none=>rfl
 | some p=>simp[JZ,World.setCell]
theorem Ziy {w:World} {g:Nat} {cur:Array Value} {e:TypeId} {fr:Nat×Nat} (hg:w.heap[g]?=some (.cells cur e fr)) (p:Nat):JZ w g (some p)=w.setRow g (cur.setIfInBounds p (.slice none 0 0)):=
 setCell_eq_setRow w g p cur e fr _ hg
theorem Zgk {w w' : World} {g:Nat} (h:Option Nat) {k:Nat} (hk:w'.heap[k]?=w.heap[k]?):(JZ w' g h).heap[k]?=(JZ w g h).heap[k]?:=by
 cases h with
 | none=>exact hk
 | some p=>simp only[JZ,World.setCell,Kaf,hk]
theorem Zyf {w:World} {g p:Nat} {h:Option Nat} (hp:h≠some p):(JZ w g h).cell? ⟨g,p,none⟩=w.cell? ⟨g,p,none⟩:=by
 cases h with
 | none=>rfl
 | some q=>
  have aa:q≠p:=fun e=>hp (e ▸ rfl);simp only[JZ];cases hg:w.heap[g]? with
  | none=>simp[World.setCell,World.cell?,Kaf,hg]
  | some b=>cases b<;>simp[World.setCell,World.cell?,Kaf,hg,Array.getElem?_setIfInBounds,aa]
def ZjQ (w:World) (I F:Nat→Prop) (a:Option Addr) (n cap sz ns:Nat) (xs:List D) (hl:Option Nat):Prop:=
 n=xs.length∧((n=0∧cap=0∧hl=none) ∨
 ∃ g cur e B,a=some ⟨g,0,none⟩∧0<cap∧w.heap[g]?=some (.cells cur e (0,0))∧n≤cap∧cap≤maxLen∧cur.size=cap*sz∧0<sz∧Z8 (JZ w g hl) ns B g sz xs 0∧(g :: B).Nodup∧∀ b∈g :: B,¬I b∧F b)
def YF (Γ:Gh) (w:World) (a:Option Addr) (sz ns:Nat) (xs:List D):Option (Option Nat×Nat×Nat)→Prop
 | none=>True
 | some (nm,i,j)=>i<xs.length∧j<sz∧Za0 xs i j=some []∧∀ k,nm=some k→∃ g a' n' c',a=some ⟨g,0,none⟩∧Γ k=some (.row a' n' c' ns)∧w.cell? ⟨g,i*sz+j,none⟩=some (.slice a' n' c')
def OwnBuf (w:World) (I F:Nat→Prop) (b te:Nat) (l:List UInt8) (v:Value):Prop:=
 l=[]∧v=.slice none 0 0 ∨
 ∃ g cap cur,v=.slice (some ⟨g,0,none⟩) l.length cap∧0<l.length∧w.heap[g]?=some (.cells cur te (0,0))∧l.length≤cap∧cap≤maxLen∧cur.size=cap∧cur.toList.take l.length=l.map (fun x=>Value.int .u8 x.toNat)∧¬I g∧F g∧g≠b
def Zef (w:World) (I F:Nat→Prop) (b:Nat):List AV→List Value→Prop
 | [_,.bbuf te l],[_,v]=>OwnBuf w I F b te l v
 | cs,_=>XD cs=true
def Vi (Γ:Gh) (w:World) (I F A:Nat→Prop) (id:Nat):Zn→Prop
 | .box cs=>∃ b cur e,Γ id=some (.box (b,e))∧w.heap[b]?=some (.cells cur e (0,0))∧¬I b∧F b∧ZD (X3 Γ w I) cs cur.toList∧Zef w I F b cs cur.toList
 | .row sz xs ex fz=>∃ a n c,Γ id=some (.row a n c sz)∧ZkS w I F A a n c sz xs ex fz
 | .tree sz ns xs lk=>∃ a n c,Γ id=some (.row a n c sz)∧ZjQ w I F a n c sz ns xs (V2 sz lk)∧YF Γ w a sz ns xs lk
 | .gone=>∃ r,Γ id=some r
def ZC:Option Ref→Option Nat
 | some (.box b)=>some b.1
 | some (.row (some a) _ c _)=>if c=0 then none else some a.block
 | some (.row none _ _ _)=>none
 | none=>none
def ZgZ (r:Option Ref):Zn→Option Nat
 | .gone=>none
 | _=>ZC r
@[simp] theorem blkO_box (r:Option Ref) (cs:List AV):ZgZ r (.box cs)=ZC r:=rfl
@[simp] theorem ZBG (r:Option Ref) (s:Nat) (xs:List D) (e f:Bool):ZgZ r (.row s xs e f)=ZC r:=rfl
@[simp] theorem ZcN (r:Option Ref) (s n:Nat) (xs:List D) (l:Option (Option Nat×Nat×Nat)):ZgZ r (.tree s n xs l)=ZC r:=rfl
@[simp] theorem blkO_gone (r:Option Ref):ZgZ r .gone=none:=rfl
theorem Zma (r:Option Ref) (g:Nat→Nat) (o:Zn):ZgZ r (ZkB g o)=ZgZ r o:=by cases o<;>rfl
theorem ZjR (r:Option Ref) (bad:List Nat) (o:Zn):ZgZ r (Xt bad o)=ZgZ r o:=by cases o<;>rfl
def ZgW (Γ:Gh) (w:World) (id:Nat):Zn→Nat→Prop
 | .tree sz ns xs lk,b=>∃ g B,ZC (Γ id)=some g∧Z8 (JZ w g (V2 sz lk)) ns B g sz xs 0∧b∈B
 | _,_=>False
def Buf (Γ:Gh) (w:World) (id:Nat):Zn→Nat→Prop
 | .box [_,.bbuf _ _],b=>∃ g,ZC (Γ id)=some g∧ZkT w g 1=some b
 | _,_=>False
def Blk (Γ:Gh) (w:World) (id:Nat) (o:Zn) (b:Nat):Prop:=ZgZ (Γ id) o=some b∨ZgW Γ w id o b∨Buf Γ w id o b
def Xk (U:Nat→Prop) (base:Nat):Prop:=∀ id,base≤id→id<base+64→¬U id
def ZaS (U:Nat→Prop) (base:Nat) (id:Nat):Prop:=U id∨(base≤id∧id<base+64)
theorem Xk.self {U:Nat→Prop} {base:Nat} (h:Xk U base):¬U base:=h base (Kq _) (by omega)
def Zmb (I:Nat→Prop) (w:World):Prop:=∀ q∈gtabs,I q.1∧∃ e fr,w.heap[q.1]?=some (.cells q.2 e fr)
theorem Zmb.mono {I I' : Nat→Prop} {w w' : World} (h:Zmb I w) (hk:ZY I I' w w'):Zmb I' w':=fun q hq=>by
 obtain⟨h1,e,fr,h2⟩:=h q hq;exact⟨hk.sub _ h1,e,fr,by rw[hk.blk _ h1];exact h2⟩
structure Sim (nt:Nat) (F A I:Nat→Prop) (Γ:Gh) (U:Nat→Prop) (sl:Sl) (hp:Hp) (a:Act) (w:World):Prop where
 nt:a.tmps.size=nt
 dfr:a.defers=[]
 slots:∀ t,Rep Γ w I (gs sl t) (a.tmps.getD t undef)
 objs:∀ id o,lkp hp id=some o→Vi Γ w I F A id o
 inj:∀ i j o o' b,lkp hp i=some o→lkp hp j=some o'→Blk Γ w i o b→Blk Γ w j o' b→i=j
 bound:∀ b,I b→b<w.heap.size
 fresh:∀ b,w.heap.size≤b→F b
 own:∀ b,F b→A b
 names:∀ id,¬U id→Γ id=none
 glob:Zmb I w
structure Fr (F:Nat→Prop) (w w' : World):Prop where
 os:w'.os=w.os
 tape:w'.tape=w.tape
 output:w'.output=w.output
 size:w.heap.size≤w'.heap.size
 block:∀ k,k<w.heap.size→¬F k→w'.heap[k]?=w.heap[k]?
theorem Fr.refl (F:Nat→Prop) (w:World):Fr F w w:=⟨rfl,rfl,rfl,Kq _,fun _ _ _=>rfl⟩
theorem Fr.trans {F:Nat→Prop} {a b c:World} (h:Fr F a b) (k:Fr F b c):Fr F a c:=
 ⟨k.os.trans h.os,k.tape.trans h.tape,k.output.trans h.output,Kt h.size k.size,fun i hi hf=>(k.block i (Nat.lt_of_lt_of_le hi h.size) hf).trans (h.block i hi hf)⟩
end Go.Abs
set_option linter.unusedVariables false
set_option linter.unusedSimpArgs false
namespace Go.Abs
open Go
section
variable {P:Program}
theorem Q3 {t e:TypeId} (h:Yr P t=some e):P.underlying t=some (.slice e):=by
 unfold Yr at h;split at h
 ·cases h;assumption
 ·cases h
theorem J0 {t:TypeId} (h:Zbu P t=true):P.underlying t=some .string:=by
 unfold Zbu at h;split at h
 ·assumption
 ·cases h
theorem Ztt {t:TypeId} {k:IntKind} (h:ZAB P t=some k):P.underlying t=some (.int k):=by
 unfold ZAB at h;split at h
 ·cases h;assumption
 ·cases h
theorem Ztu {t:TypeId} {a:Nat×TypeId} (h:ZjU P t=some a):P.underlying t=some (.array a.1 a.2):=by
 unfold ZjU at h;split at h
 ·cases h;assumption
 ·cases h
theorem We {t:TypeId} {g:Bool} (h:Zfq P t=some g) (w:World):(isAgg t).run P w=.ok g w:=by
 unfold Zfq at h;unfold isAgg;split at h
 ·cases h;rename_i hu;simp[run_underlying hu]
 ·cases h;rename_i hu;simp[run_underlying hu]
 ·cases h;rename_i d h1 h2 hu;simp only[Sem.run_bind,run_underlying hu,Result.andThen_ok];cases d<;>first | rfl | (exfalso;exact h1 _ hu) | (exfalso;exact h2 _ _ hu)
 ·cases h
theorem JN {t:TypeId} {d:TypeDesc} (h:P.underlying t=some d):∃ i,P.info? t=some i:=by
 unfold Program.underlying at h;cases hi:P.info? t with
 | none=>rw[hi] at h;cases h
 | some i=>exact⟨i,rfl⟩
theorem Q4 {t:TypeId} {i:TypeInfo} (h:P.info? t=some i) (w:World):(sizeOf t).run P w=.ok (P.cellsOf t) w:=by
 simp[sizeOf,typeInfo,h,Program.cellsOf]
theorem Zjk {t:TypeId} (h:P.cellsOf t≠0):∃ i,P.info? t=some i:=by
 cases hi:P.info? t with
 | none=>simp[Program.cellsOf,hi] at h
 | some i=>exact⟨i,rfl⟩
theorem Ziz {t:TypeId} {g:Bool} (h:Zfq P t=some g):∃ i,P.info? t=some i:=by
 unfold Zfq at h;split at h
 ·rename_i hu;exact JN hu
 ·rename_i hu;exact JN hu
 ·rename_i hu;exact JN hu
 ·cases h
theorem ZhI {s:TypeId} {f:Nat} {q:Nat×TypeId} (h:Zgs P s f=some q) :
  ∃ fs x,P.underlying s=some (.struct fs)∧fs[f]?=some x∧x.offset=q.1∧x.type=q.2∧P.cellsOf q.2≠0:=by
 unfold Zgs at h;split at h
 ·rename_i fs hu;split at h
  ·rename_i x hx;split at h
   ·cases h
   ·cases h;exact⟨fs,x,hu,hx,rfl,rfl,by assumption⟩
  ·cases h
 ·cases h
theorem Zgl {t:TypeId} {z:Value} (h:Zb5 P t=some z):∃ i,P.info? t=some i∧i.zero=some z:=by
 unfold Zb5 at h;split at h
 ·rename_i i hi;exact⟨i,hi,h⟩
 ·cases h
theorem Zfo {t:TypeId} {z:Value} (h:Zb5 P t=some z) (w:World):(zeroValue t).run P w=.ok z w:=by
 obtain⟨i,hi,hz⟩:=Zgl h;simp[zeroValue,typeInfo,hi,hz]
theorem VO {t:TypeId} (h:U2 P t=true):∃ i z,P.info? t=some i∧i.zero=some z∧z.cells.size=i.size∧0<i.size∧P.cellsOf t=i.size∧P.bytesOf t=i.bytes:=by
 unfold U2 at h;split at h
 ·rename_i i hi;split at h
  ·rename_i z hz;simp at h;exact⟨i,z,hi,hz,h.1,h.2,by simp[Program.cellsOf,hi],by simp[Program.bytesOf,hi]⟩
  ·cases h
 ·cases h
end
section
variable {P:Program} {Γ:Gh} {w:World} {I:Nat→Prop}
theorem Zmc (v:Value):X3 Γ w I (UU v) v:=by
 cases v<;>try exact trivial
 ·exact⟨rfl,by simp[Z2]⟩
 ·exact⟨rfl,by simp[Z2]⟩
 ·exact⟨rfl,_,rfl,rfl⟩
 ·rename_i a;cases a
  ·rfl
  ·exact trivial
 ·rename_i a n c;cases a
  ·cases n
   ·cases c
    ·exact⟨none,rfl⟩
    ·exact trivial
   ·exact trivial
  ·exact trivial
 ·rfl
theorem Ztv:∀ (vs:List Value),ZD (X3 Γ w I) (vs.map UU) vs
 | []=>trivial
 | v :: vs=>⟨Zmc v,Ztv vs⟩
theorem Zzi (v:Value):Rep Γ w I (evC v) v:=by
 cases v with
 | agg cs=>exact Zix (Ztv cs.toList)
 | _=>simp only[evC];exact(Zmc _).rep2.rep
def Zcz (Γ:Gh) (w:World) (I:Nat→Prop) (sl:Sl) (a:Act):Prop:=∀ t,Rep Γ w I (gs sl t) (a.tmps.getD t undef)
theorem Zcz.ev {sl:Sl} {a:Act} (h:Zcz Γ w I sl a) {x:Operand} {y:Opd} (hc:Z4 x=some y):Rep Γ w I (evO sl y) (a.eval x):=by
 cases x with
 | tmp t=>simp only[Z4] at hc;cases hc;exact h t
 | const v=>simp only[Z4] at hc;cases hc;exact Zzi v
 | global g=>simp only[Z4] at hc;cases hc
 | func f=>simp only[Z4] at hc;cases hc;exact⟨#[],rfl,trivial⟩
theorem Zcz.evL {sl:Sl} {a:Act} (h:Zcz Γ w I sl a):∀ {xs:List Operand} {ys:List Opd},QH Z4 xs=some ys→ZD (Rep Γ w I) (evL sl ys) (xs.map a.eval)
 | [],ys,hc=>by simp only[QH] at hc;cases hc;exact trivial
 | x :: xs,ys,hc=>by
  simp only[QH] at hc;obtain⟨y,h1,hc⟩:=Za hc;obtain⟨aa,h2,hc⟩:=Za hc;cases hc;exact⟨h.ev h1,h.evL h2⟩
theorem rep_int {k:IntKind} {n:Int} {v:Value} (h:Rep Γ w I (.d (.int k n)) v):v=.int k n:=by
 have:=X5.1 h;simpa [Yi,Z2] using this
theorem Zfp {b:Bool} {v:Value} (h:Rep Γ w I (.d (.bool b)) v):v=.bool b:=by
 have:=X5.1 h;simpa [Yi,Z2] using this
theorem Zgm {s:List UInt8} {v:Value} (h:Rep Γ w I (.d (.str s)) v):∃ t:ByteArray,v=.string t∧t.data.toList=s:=by
 have:=X5.1 h;simpa [Yi,Z2] using this
theorem ZqF {ds:List D} {v:Value} (h:Rep Γ w I (.d (.agg ds)) v):∃ vs,v=.agg vs∧Xa w I ds vs.toList:=X5.1 h
theorem ZdA (k:IntKind) (n:Int):Rep Γ w I (.d (.int k n)) (.int k n):=X5.2 (by simp[Yi,Z2])
theorem ZAp (b:Bool):Rep Γ w I (.d (.bool b)) (.bool b):=X5.2 (by simp[Yi,Z2])
theorem ZwI {t:ByteArray} {s:List UInt8} (h:t.data.toList=s):Rep Γ w I (.d (.str s)) (.string t):=X5.2 (by simp[Yi,Z2,h])
theorem WJ {x:AV} {n:Int} {v:Value} (hi:idx x=some n) (h:Rep Γ w I x v):∃ k,v=.int k n:=by
 unfold idx at hi;split at hi
 ·cases hi;exact⟨_,rep_int h⟩
 ·cases hi
theorem ZwJ {R:AV→Value→Prop} {cs:List AV} {vs:Array Value} (h:ZD R cs vs.toList) (off s:Nat) :
  ZD R ((cs.drop off).take s) (vs.extract off (off+s)).toList:=by
 have:=(h.drop off).take s;simpa [Array.toList_extract,List.extract_eq_take_drop] using this
theorem ZwK {t:TypeId} {g:Bool} (hg:Zfq P t=some g) {off:Nat} {x r:AV} {v:Value} (h:Rep Γ w I x v) (hp:Zk1 g (P.cellsOf t) off x=some r) :
  ∃ cs u,v=.agg cs∧(part t cs off).run P w=.ok u w∧Rep Γ w I r u:=by
 obtain⟨i,hi⟩:=Ziz hg;have hs:=Q4 hi w;unfold Zk1 at hp;split at hp
 ·obtain⟨vs,rfl,hr⟩:=ZqF h;unfold ZdB at hp;cases g
  ·simp only[Ka,Kj,asD] at hp;obtain⟨d,hd,hp⟩:=Za hp;cases hp;obtain⟨u,hu,h1,h2⟩:=(Xw.1 hr).get off d hd;refine⟨vs,u,rfl,?_,X5.2 ((Yi.one h1).2 h2)⟩;have aa : vs[off]?=some u:=by simpa using hu
   simp[part,We hg,aa]
  ·simp only[Kk] at hp;split at hp
   ·cases hp;refine⟨vs,.agg (vs.extract off (off+P.cellsOf t)),rfl,by simp[part,We hg,hs],X5.2 ⟨_,rfl,?_⟩⟩;rw[Xw] at hr ⊢;have:=(hr.drop off).take (P.cellsOf t);simpa [Array.toList_extract,List.extract_eq_take_drop] using this
   ·cases hp
 ·obtain⟨vs,rfl,hr⟩:=h;cases g
  ·simp only[Ka,Kj] at hp;obtain⟨u,hu,h1⟩:=hr.get off r hp;have aa : vs[off]?=some u:=by simpa using hu
   exact⟨vs,u,rfl,by simp[part,We hg,aa],h1.rep2.rep⟩
  ·simp only[Kk] at hp;split at hp
   ·cases hp;exact⟨vs,.agg (vs.extract off (off+P.cellsOf t)),rfl,by simp[part,We hg,hs],Zix (ZwJ (hr.mono fun _ _ h=>h.repB) _ _)⟩
   ·cases hp
 ·cases hp
theorem Uh (b o n:Nat):(⟨b,o,none⟩:Addr).add n=⟨b,o+n,none⟩:=by unfold Addr.add;split<;>simp_all
theorem Zm2 {t:TypeId} {g:Bool} (hg:Zfq P t=some g) {b o:Nat} {vs:List Value} (h:QA w b o vs) (hl:vs.length=P.cellsOf t) (h1:g=false→∃ u,vs[0]?=some u) :
  ∃ u,(loadVar t ⟨b,o,none⟩).run P w=.ok u w∧(if g then u=.agg vs.toArray else vs[0]?=some u):=by
 obtain⟨i,hi⟩:=Ziz hg;cases g
 ·obtain⟨u,hu⟩:=h1 rfl;have:=h 0 u hu;exact⟨u,by simp[loadVar,We hg,show w.cell? ⟨b,o,none⟩=some u from by simpa using this],by simpa using hu⟩
 ·refine⟨.agg vs.toArray,?_,by simp⟩;have hc:(loadCells ⟨b,o,none⟩ vs.length).run P w=.ok vs.toArray w:=run_loadCells_list (P:=P) w _ vs fun j u hu=>by
   rw[Uh];exact h j u hu
  rw[hl] at hc;simp[loadVar,We hg,Q4 hi w,hc]
def Zbr (Γ:Gh) (w:World) (I F A:Nat→Prop) (hp:Hp):Prop:=∀ id o,lkp hp id=some o→Vi Γ w I F A id o
theorem QA.drop {b o:Nat} {vs:List Value} (h:QA w b o vs) (n:Nat):QA w b (o+n) (vs.drop n):=fun j u hu=>by
 have:=h (n+j) u (by simpa [Lm] using hu);simpa [KW] using this
theorem QA.take {b o:Nat} {vs:List Value} (h:QA w b o vs) (n:Nat):QA w b o (vs.take n):=fun j u hu=>by
 rw[Lt] at hu;split at hu
 ·exact h j u hu
 ·cases hu
theorem ZhJ {b:Nat} {cur:Array Value} {e:TypeId} {fr:Nat×Nat} (h:w.heap[b]?=some (.cells cur e fr)):QA w b 0 cur.toList:=fun j u hu=>by
 rw[cell_of_row w b _ cur e fr h];simpa using hu
theorem Xa.drop {S:Nat→Prop} {ds:List D} {vs:List Value} (h:Xa w S ds vs) (n:Nat):Xa w S (ds.drop n) (vs.drop n):=Xw.2 ((Xw.1 h).drop n)
theorem Xa.take {S:Nat→Prop} {ds:List D} {vs:List Value} (h:Xa w S ds vs) (n:Nat):Xa w S (ds.take n) (vs.take n):=Xw.2 ((Xw.1 h).take n)
theorem ZqG {t:TypeId} {g:Bool} (hg:Zfq P t=some g) {b o off:Nat} {cs:List D} {vs:List Value} (hr:Xa w I cs vs) (h:QA w b o vs) {r:AV} (hp:ZdB g (P.cellsOf t) off cs=some r) :
  ∃ u,(loadVar t ⟨b,o+off,none⟩).run P w=.ok u w∧Rep Γ w I r u:=by
 unfold ZdB at hp;cases g
 ·simp only[Ka,Kj,asD] at hp;obtain⟨d,hd,hp⟩:=Za hp;cases hp;obtain⟨u,hu,h1,h2⟩:=(Xw.1 hr).get off d hd;have:=h off u hu;exact⟨u,by simp[loadVar,We hg,this],X5.2 ((Yi.one h1).2 h2)⟩
 ·simp only[Kk] at hp;split at hp
  ·rename_i hl;cases hp;obtain⟨u,h1,h2⟩:=Zm2 (P:=P) hg (h:=(h.drop off).take (P.cellsOf t)) (by rw[LD,LR,← hr.length];omega) (fun h=>by cases h);simp only[Kk] at h2;subst h2;exact⟨_,h1,X5.2 ⟨_,rfl,by simpa using (hr.drop off).take (P.cellsOf t)⟩⟩
  ·cases hp
variable {F A:Nat→Prop} {hp:Hp}
theorem ZqH {id sz n c i:Nat} {a:Option Addr} {xs:List D} {ex fz:Bool} (h:ZkS w I F A a n c sz xs ex fz) {x:D} (hx:xs[i]?=some x) :
  ∃ g o vs,a=some ⟨g,o,none⟩∧vs.length=sz∧QA w g (o+i*sz) vs∧Z2 w I x vs:=by
 obtain⟨h1,h2⟩:=h;rcases h2 with ⟨h2,_⟩ | ⟨g,o,cur,e,ha,_,_,_,_,_,_,_,_,hr⟩
 ·have:xs=[]:=Ks (by omega);subst this;simp at hx
 ·obtain⟨vs,h3,h4,h5⟩:=YD.1 hr i x hx;refine⟨g,o,vs,ha,h3,h4,?_⟩;cases ex
  ·exact h5
  ·exact h5.mono ⟨fun b hb=>hb.1,fun _ _=>rfl⟩
theorem Ztw {sz ns n c i:Nat} {a:Option Addr} {xs:List D} {hl:Option Nat} (h:ZjQ w I F a n c sz ns xs hl) {x:D} (hx:xs[i]?=some x) :
  ∃ g vs B,a=some ⟨g,0,none⟩∧vs.length=sz∧QA (JZ w g hl) g (i*sz) vs∧Qj (JZ w g hl) ns B x.cells vs:=by
 obtain⟨h1,h2⟩:=h;rcases h2 with ⟨h2,_⟩ | ⟨g,cur,e,B,ha,_,_,_,_,_,_,hr,_⟩
 ·have:xs=[]:=Ks (by omega);subst this;simp at hx
 ·obtain⟨vs,B1,Bn,B2,_,h3,h4,h5,_⟩:=hr.at hx;exact⟨g,vs,Bn,ha,h3,by simpa using h4,h5.cells⟩
theorem Zzj {sz i j i' j' : Nat} (hj:j<sz) (aa : j' < sz) (e:i*sz+j=i' * sz+j'):i=i'∧j=j':=by
 have k1:(i*sz+j) / sz=i:=by rw[Nat.mul_comm,Nat.mul_add_div (by omega),Nat.div_eq_of_lt hj];omega
 have k2:(i' * sz+j') / sz=i':=by rw[Nat.mul_comm,Nat.mul_add_div (by omega),Nat.div_eq_of_lt aa];omega
 rw[e,k2] at k1;subst k1;exact⟨rfl,by omega⟩
theorem YF.away {a:Option Addr} {sz ns i off:Nat} {xs:List D} {lk:Option (Option Nat×Nat×Nat)} (h:YF Γ w a sz ns xs lk) (aa:off<sz) {x:D} (hx:xs[i]?=some x) (hc:∀ ys,x.cells[off]?≠some (.sl ys)) :
  V2 sz lk≠some (i*sz+off):=by
 cases lk with
 | none=>simp[V2]
 | some q=>
  obtain⟨nm,i',j⟩:=q;obtain⟨h1,h2,h3,_⟩:=h;simp only[V2,ne_eq,Option.some.injEq];intro e;obtain⟨rfl,rfl⟩:=Zzj h2 aa e;unfold Za0 at h3;rw[hx,Zg] at h3;split at h3
  ·rename_i ys ab;exact hc ys ab
  ·cases h3
theorem ZAq {x:AV} {v:Value} (h:X3 Γ w I x v):X3 Γ w I (ZkV x) v:=by
 cases x with
 | bbuf _ _=>trivial
 | _=>exact h
theorem ZwL {t:TypeId} {g:Bool} (hg:Zfq P t=some g) (ho:Zbr Γ w I F A hp) {x r:AV} {v:Value} (h:Rep Γ w I x v) (hp' : Jr hp g (P.cellsOf t) x=some r) :
  ∃ u,(Instr.loadAt t v).run P w=.ok u w∧Rep Γ w I r u:=by
 unfold Jr at hp';split at hp'
 ·rename_i id off;obtain⟨b,hb,rfl⟩:=h;unfold ZbK at hp';split at hp'
  ·rename_i cs hl;obtain⟨b',cur,e,aa,hw,_,_,hc,_⟩:=ho id _ hl;rw[hb] at aa;cases aa;have ab:=ZhJ hw;cases g
   ·simp only[Ka,Kj] at hp';obtain⟨r0,ai,rfl⟩:=Option.map_eq_some_iff.1 hp';obtain⟨u,hu,h1⟩:=hc.get off r0 ai;have:=ab off u hu;exact⟨u,by simp only[K4] at this;simp[Instr.loadAt,Instr.sureAddr,loadVar,We hg,this],(ZAq h1).rep2.rep⟩
   ·simp only[Kk] at hp';split at hp'
    ·cases hp';obtain⟨u,h1,h2⟩:=Zm2 (P:=P) hg (h:=(ab.drop off).take (P.cellsOf t)) (by rw[LD,LR,← hc.length];omega) (fun h=>by cases h);simp only[Kk] at h2;subst h2;refine⟨_,by simpa [Instr.loadAt,Instr.sureAddr] using h1,Zix ?_⟩;simpa using (hc.drop off).take (P.cellsOf t)
    ·cases hp'
  ·cases hp'
 ·rename_i id sz i off;obtain⟨b,o0,n,c,hb,hi,rfl⟩:=h;unfold ZaW at hp';split at hp'
  ·rename_i aj xs ex fz hl;split at hp'
   ·rename_i ae;subst ae;obtain⟨a,n',c',aa,ak⟩:=ho id _ hl;rw[hb] at aa;cases aa;obtain⟨y,hy,hp'⟩:=Za hp';obtain⟨g',o1,vs,ha,h3,h4,h5⟩:=ZqH (id:=id) ak hy;cases ha;unfold ZkW at hp';split at hp'
    ·have:=ZqG (P:=P) (Γ:=Γ) hg h5.cells h4 hp';obtain⟨u,h6,h7⟩:=this;exact⟨u,by simpa [Instr.loadAt,Instr.sureAddr,KW] using h6,h7⟩
    ·cases hp'
   ·cases hp'
  ·rename_i aj ns xs lk hl;split at hp'
   ·rename_i ae;subst ae;cases g
    ·simp only[Ka,Kj] at hp';obtain⟨a,n',c',aa,hd,ad⟩:=ho id _ hl;rw[hb] at aa;cases aa;obtain⟨y,hy,hq⟩:=Za hp';clear hp';obtain⟨g',vs,B,ha,h3,h4,h5⟩:=Ztw hd hy;cases ha;unfold ZaV at hq;split at hq
     ·unfold Zm4 at hq;split at hq
      ·split at hq
       ·rename_i hc;obtain⟨rfl,rfl⟩:=hc;cases hq;obtain⟨_,_,_,ad⟩:=ad;obtain⟨g2,a2,n2,c2,ha2,h6,h9⟩:=ad _ rfl;cases ha2;exact⟨_,by simp[Instr.loadAt,Instr.sureAddr,loadVar,We hg,h9],⟨a2,n2,c2,_,h6,rfl⟩⟩
       ·cases hq
      ·cases hq
     ·rename_i y' ag ah;split at hq
      ·cases hq;obtain⟨u,_,_,_,hu,_,h6⟩:=h5.get ah;have af:off<sz:=by have:=(Kc.1 hu).1;omega
       have:=h4 off u hu;rw[Zyf (ad.away af hy fun ys e=>ag ys (by rw[ah] at e;exact Option.some.inj e)) ] at this;have h7:=(h6.plain (S:=I) fun ys e=>ag ys e).2;exact⟨u,by simp[Instr.loadAt,Instr.sureAddr,loadVar,We hg,this],X5.2 ((Yi.one (by cases y' <;> simp_all [D.plain,D.one])).2 (Zfn h7.1 h7.2))⟩
      ·cases hq
     ·cases hq
    ·simp only[Kk] at hp';cases hp'
   ·cases hp'
  ·cases hp'
 ·rename_i cs;obtain⟨b,o,vs,rfl,hI,ab,hr⟩:=h;obtain⟨u,h6,h7⟩:=ZqG (P:=P) (Γ:=Γ) hg hr ab hp';exact⟨u,by simpa [Instr.loadAt,Instr.sureAddr] using h6,h7⟩
 ·cases hp'
theorem Ztx {off:Nat} {x:AV} {v:Value} {ce:Zf} (h:Rep Γ w I x v) (hp:Uk off x=some ce) :
  ∃ b o r,v=.pointer (some ⟨b,o,none⟩)∧ce = { eff := { val:=r },gone:=[] }∧Rep Γ w I r (.pointer (some ⟨b,o+off,none⟩)):=by
 unfold Uk at hp;split at hp
 ·obtain⟨b,hb,rfl⟩:=h;cases hp;exact⟨b.1,_,_,rfl,rfl,b,hb,rfl⟩
 ·obtain⟨b,o,n,c,hb,hi,rfl⟩:=h;cases hp;exact⟨b,_,_,rfl,rfl,b,o,n,c,hb,hi,by simp only[KW]⟩
 ·obtain⟨b,o,vs,rfl,hI,aa,hr⟩:=h;cases hp;exact⟨b,_,_,rfl,rfl,b,o+off,vs.drop off,rfl,hI,aa.drop off,hr.drop off⟩
 ·cases hp
theorem ZAr {s:TypeId} {f:Nat} {q:Nat×TypeId} (hq:Zgs P s f=some q) {x:AV} {v:Value} {ce:Zf} (h:Rep Γ w I x v) (hp:Uk q.1 x=some ce) :
  ∃ u r,(Instr.fieldAt s v f).run P w=.ok u w∧ce = { eff := { val:=r },gone:=[] }∧Rep Γ w I r u:=by
 obtain⟨fs,y,h1,h2,h3,h4,h5⟩:=ZhI hq;obtain⟨b,o,r,rfl,h6,h7⟩:=Ztx h hp;obtain⟨i,hi⟩:=Zjk h5;refine⟨_,r,?_,h6,h7⟩;simp[Instr.fieldAt,run_underlying h1,h2,Instr.sureAddr,fieldPlace,h4,Q4 hi,h5,Uh,h3]
theorem ZAs {t:TypeId} {a:Nat×TypeId} (ha:ZjU P t=some a) (hi:∃ i,P.info? a.2=some i) {x y:AV} {v k:Value} {n:Int} (h:Rep Γ w I x v) (hk:Rep Γ w I y k) (hn:idx y=some n) {ce:Zf}
  (hp:ZqO x n a.1 (P.cellsOf a.2)=some ce):∃ u r,(Instr.indexAt t v k).run P w=.ok u w∧ce = { eff := { val:=r },gone:=[] }∧Rep Γ w I r u:=by
 obtain⟨kk,rfl⟩:=WJ hn hk;obtain⟨i,hi⟩:=hi;unfold ZqO at hp;split at hp
 ·rename_i hb;obtain⟨b,o,r,rfl,h6,h7⟩:=Ztx h hp;refine⟨_,r,?_,h6,h7⟩;simp[Instr.indexAt,asIntOf,run_underlying (Ztu ha),Instr.sureAddr,hb.1,hb.2,Q4 hi,Uh]
 ·cases hp
theorem ZsC {sz n:Nat} (ho:Zbr Γ w I F A hp) {x r:AV} {v:Value} (h:Rep Γ w I x v) (hp' : QJ hp sz n x=some r) :
  ∃ b o m c,v=.slice (some ⟨b,o,none⟩) m c∧n<m∧Rep Γ w I r (.pointer (some ⟨b,o+n*sz,none⟩)):=by
 unfold QJ at hp';split at hp'
 ·rename_i xs;obtain⟨y,hy,hp'⟩:=Za hp';have:=X5.1 h;simp only[Yi,Z2] at this;obtain⟨a,c,hv,hc,h1⟩:=this;simp at hv;subst hv;have ad:n<xs.length:=(Kc.1 hy).1;rcases h1 with h1 | ⟨b,o,af,rfl,hI,h0,hr⟩
  ·subst h1;simp at hy
  ·obtain⟨vs,h3,h4,h5⟩:=YD.1 hr n y hy;unfold Zzl at hp';split at hp'
   ·rename_i ag;cases hp';have:af=sz:=by rw[← h3,h5.length,ag]
    subst this;exact⟨b,o,_,c,rfl,ad,b,_,vs,rfl,hI,h4,h5.cells⟩
   ·cases hp'
 ·rename_i id;obtain⟨a,m,c,af,hb,rfl⟩:=h;unfold Zeg at hp';split at hp'
  ·rename_i ae xs ex fz hl;split at hp'
   ·rename_i hc;cases hp';obtain⟨rfl,ad⟩:=hc;obtain⟨a',n',c',aa,ab⟩:=ho id _ hl;rw[hb] at aa;cases aa;obtain⟨y,hy⟩:∃ y,xs[n]?=some y:=⟨_,KL ad⟩
    obtain⟨g',o1,vs,rfl,h3,h4,h5⟩:=ZqH (id:=id) ab hy;have hm:m=xs.length:=ab.1;exact⟨g',o1,m,c,rfl,by omega,g',o1,m,c,hb,by omega,by simp⟩
   ·cases hp'
  ·rename_i ae ns xs lk hl;split at hp'
   ·rename_i hc;cases hp';obtain⟨rfl,ad⟩:=hc;obtain⟨a',n',c',aa,ab,_⟩:=ho id _ hl;rw[hb] at aa;cases aa;obtain⟨y,hy⟩:∃ y,xs[n]?=some y:=⟨_,KL ad⟩
    obtain⟨g',vs,B,rfl,h3,h4,h5⟩:=Ztw ab hy;have hm:m=xs.length:=ab.1;exact⟨g',0,m,c,rfl,by omega,g',0,m,c,hb,by omega,by simp⟩
   ·cases hp'
  ·cases hp'
 ·rename_i id off m;obtain⟨a0,m',c,af,a,hb,h1,h2,rfl,h3,h4⟩:=h;unfold ZdD at hp';split at hp'
  ·rename_i ae xs ex fz hl;split at hp'
   ·rename_i hc;cases hp';obtain⟨rfl,ad⟩:=hc;obtain⟨a',n',c',aa,ab⟩:=ho id _ hl;rw[hb] at aa;cases aa;have hm:m'=xs.length:=ab.1;obtain⟨y,hy⟩:∃ y,xs[off+n]?=some y:=⟨_,KL (by omega)⟩
    obtain⟨g',o1,vs,rfl,h5,h6,h7⟩:=ZqH (id:=id) ab hy;rcases h4 with h4 | h4
    ·subst h4;refine⟨g',o1+off*af,m,c-off,by simp[Uh],ad,g',o1,m',c,hb,by omega,?_⟩;rw[KQ];simp[KW]
    ·omega
   ·cases hp'
  ·cases hp'
 ·cases hp'
theorem ZAt {t e:TypeId} (he:Yr P t=some e) (hi:∃ i,P.info? e=some i) (ho:Zbr Γ w I F A hp) {x y r:AV} {v k:Value} {n:Int} (h:Rep Γ w I x v) (hk:Rep Γ w I y k) (hn:idx y=some n)
  (h0:0≤n) (hp' : QJ hp (P.cellsOf e) n.toNat x=some r):∃ u,(Instr.indexAt t v k).run P w=.ok u w∧Rep Γ w I r u:=by
 obtain⟨kk,rfl⟩:=WJ hn hk;obtain⟨i,hi⟩:=hi;obtain⟨b,o,m,c,rfl,ab,hr⟩:=ZsC ho h hp';have aa : n<(m:Int):=by omega
 exact⟨_,by simp[Instr.indexAt,asIntOf,run_underlying (Q3 he),h0,aa,Q4 hi,Uh],hr⟩
end
end Go.Abs
