/- The abstract semantics: data, abstract values, own objects, and what each operation of the model's code does to them. Own text. -/
import Derived.Orders
import Derived.Laws.AppendOwn
set_option linter.unusedVariables false
set_option linter.unusedSimpArgs false
namespace Go.Abs
open Go

/-- Data: what a value reads as. -/
inductive D where
  | int (k : IntKind) (n : Int)
  | bool (b : Bool)
  | str (s : List UInt8)
  | sl (xs : List D)
  | agg (cs : List D)

/-- The cells of a datum in memory. -/
def D.cells : D → List D
  | .agg cs => cs
  | .int k n => [.int k n]
  | .bool b => [.bool b]
  | .str s => [.str s]
  | .sl xs => [.sl xs]

/-- One cell, no slice in it. -/
def D.plain : D → Bool
  | .int _ _ => true
  | .bool _ => true
  | .str _ => true
  | .sl _ => false
  | .agg _ => false

/-- One cell. -/
def D.one : D → Bool
  | .int _ _ => true
  | .bool _ => true
  | .str _ => true
  | .sl _ => true
  | .agg _ => false

def allB (p : D → Bool) : List D → Bool
  | [] => true
  | x :: xs => p x && allB p xs

/-- No slice in it: a plain cell or plain cells. -/
def D.flat (d : D) : Bool := allB D.plain d.cells

/-- Abstract values. -/
inductive AV where
  | d (x : D)
  | nil
  | nilp
  | nili
  | ptr (id off : Nat)
  | prow (id sz i off : Nat)
  | pim (cs : List D)
  | own (id : Nat)
  | ownv (id off len : Nat)
  | sub (id nm : Nat)
  | bnil (id e : Nat)
  | bbuf (te : Nat) (l : List UInt8)
  | agg (cs : List AV)
  | tup (vs : List AV)
  | clo (f : Nat) (caps : List AV)
  | junk

/-- Own objects: a variable of some cells; a row of elements of sz cells each (ex: no slice within it is told elsewhere; fz: it is written no more); a row whose nested rows are its own (ns: their elements' cells; lk: the name of a nested row's header, its element and cell). -/
inductive AObj where
  | box (cs : List AV)
  | row (sz : Nat) (xs : List D) (ex fz : Bool)
  | deep (sz ns : Nat) (xs : List D) (lk : Option (Nat × Nat × Nat))

abbrev Hp := List (Nat × AObj)
abbrev Sl := List (Nat × AV)

/-- One thing after the other. -/
def bnd {α β : Type} (x : Option α) (f : α → Option β) : Option β := match x with
  | some a => f a
  | none => none

@[congr] theorem bnd_congr {α β : Type} {x y : Option α} {f : α → Option β} (h : x = y) : bnd x f = bnd y f := by rw [h]
theorem bnd_some {α β : Type} (a : α) (f : α → Option β) : bnd (some a) f = f a := rfl
theorem bnd_none {α β : Type} (f : α → Option β) : bnd none f = none := rfl
theorem bnd_ite {α β : Type} (c : Prop) [Decidable c] (a b : Option α) (f : α → Option β) : bnd (if c then a else b) f = if c then bnd a f else bnd b f := by split <;> rfl
theorem bnd_eq_some {α β : Type} {x : Option α} {f : α → Option β} {r : β} (h : bnd x f = some r) : ∃ a, x = some a ∧ f a = some r := by
  cases x with
  | none => cases h
  | some a => exact ⟨a, rfl, h⟩

def lkp {α : Type} : List (Nat × α) → Nat → Option α
  | [], _ => none
  | (k, v) :: r, t => if k = t then some v else lkp r t

def ins {α : Type} : List (Nat × α) → Nat → α → List (Nat × α)
  | [], t, v => [(t, v)]
  | (k, v) :: r, t, x => if k < t then (t, x) :: (k, v) :: r else if k = t then (t, x) :: r else (k, v) :: ins r t x

def orJunk : Option AV → AV
  | some v => v
  | none => .junk

def gs (sl : Sl) (t : Nat) : AV := orJunk (lkp sl t)

structure St where
  sl : Sl
  hp : Hp
  nx : Nat
  m : Nat

def datum1 : AV → Option D
  | .d x => if x.one then some x else none
  | _ => none

def allD : List AV → Option (List D)
  | [] => some []
  | v :: r => bnd (datum1 v) fun x => bnd (allD r) fun ds => some (x :: ds)

/-- No cell is a builder's bytes. -/
def noBuf : List AV → Bool
  | [] => true
  | .bbuf _ _ :: _ => false
  | _ :: r => noBuf r

def isClo : AV → Bool
  | .clo _ _ => true
  | _ => false

def anyClo : List AV → Bool
  | [] => false
  | v :: r => isClo v || anyClo r

def mkAggOf (cs : List AV) : Option (List D) → AV
  | some ds => .d (.agg ds)
  | none => if anyClo cs then .junk else .agg cs

/-- Is anything known of it, and is it no tuple? -/
def AV.solid : AV → Bool
  | .junk => false
  | .bbuf _ _ => false
  | .tup _ => false
  | _ => true

def allSolid : List AV → Bool
  | [] => true
  | v :: r => v.solid && allSolid r

def mkAgg (cs : List AV) : AV := mkAggOf cs (allD cs)

def AV.cells : AV → List AV
  | .agg cs => cs
  | .d x => x.cells.map .d
  | .nil => [.nil] | .nilp => [.nilp] | .nili => [.nili] | .ptr a b => [.ptr a b] | .prow a b c e => [.prow a b c e] | .pim cs => [.pim cs]
  | .own a => [.own a] | .ownv a b c => [.ownv a b c] | .sub a b => [.sub a b] | .bnil a b => [.bnil a b] | .bbuf a b => [.bbuf a b] | .tup vs => [.tup vs] | .clo f c => [.clo f c] | .junk => [.junk]

/-- A value of one cell, as a constant tells it. -/
def atomC : Value → AV
  | .bool b => .d (.bool b)
  | .int k n => .d (.int k n)
  | .string s => .d (.str s.data.toList)
  | .slice none 0 0 => .nil
  | .pointer none => .nilp
  | .nilIface => .nili
  | _ => .junk

def evC : Value → AV
  | .agg cs => mkAgg (cs.toList.map atomC)
  | v => atomC v

def ev (sl : Sl) : Operand → AV
  | .tmp t => gs sl t
  | .const v => evC v
  | .global _ => .junk
  | .func f => .clo f []

/-- A constant as a datum, of one cell. -/
def atomD : Value → Option D
  | .bool b => some (.bool b)
  | .int k n => some (.int k n)
  | .string s => some (.str s.data.toList)
  | .slice none 0 0 => some (.sl [])
  | _ => none

def mapO {α β : Type} (f : α → Option β) : List α → Option (List β)
  | [] => some []
  | x :: r => bnd (f x) fun y => bnd (mapO f r) fun ys => some (y :: ys)

def evD : Value → Option D
  | .agg cs => bnd (mapO atomD cs.toList) fun ds => some (.agg ds)
  | v => atomD v

/-- A row's elements. -/
def elemsOf : Option AObj → Option (List D)
  | some (.row _ xs _ _) => some xs
  | some (.deep _ _ xs _) => some xs
  | _ => none

/-- What an abstract value of one cell reads as. -/
def toD1 (hp : Hp) : AV → Option D
  | .d x => some x
  | .nil => some (.sl [])
  | .own id => bnd (elemsOf (lkp hp id)) fun xs => some (.sl xs)
  | .ownv id off n => bnd (elemsOf (lkp hp id)) fun xs => some (.sl ((xs.drop off).take n))
  | _ => none

def toD (hp : Hp) : AV → Option D
  | .agg cs => bnd (mapO (toD1 hp) cs) fun ds => if allB D.one ds then some (.agg ds) else none
  | v => toD1 hp v

/-- The objects whose rows a value of one cell tells. -/
def rows1 : AV → List Nat
  | .own id => [id]
  | .ownv id _ _ => [id]
  | _ => []

def rowsOf : AV → List Nat
  | .agg cs => cs.flatMap rows1
  | v => rows1 v

/-- All objects that a value of one cell names. -/
def refs1 : AV → List Nat
  | .own id => [id]
  | .ownv id _ _ => [id]
  | .ptr id _ => [id]
  | .prow id _ _ _ => [id]
  | .sub id nm => [id, nm]
  | .bnil id _ => [id]
  | .junk | .bbuf _ _ | .d _ | .nil | .nilp | .nili | .pim _ | .agg _ | .tup _ | .clo _ _ => []

def refs2 : AV → List Nat
  | .agg cs => cs.flatMap refs1
  | .clo _ cs => cs.flatMap refs1
  | v => refs1 v

/-- All objects that a value names. -/
def refs : AV → List Nat
  | .tup vs => vs.flatMap refs2
  | v => refs2 v

def orefs : AObj → List Nat
  | .box cs => cs.flatMap refs2
  | .row _ _ _ _ => []
  | .deep _ _ _ _ => []

def ren1 (g : Nat → Nat) : AV → AV
  | .own id => .own (g id)
  | .ownv id a b => .ownv (g id) a b
  | .ptr id o => .ptr (g id) o
  | .prow id s i o => .prow (g id) s i o
  | .sub id nm => .sub (g id) (g nm)
  | .bnil id e => .bnil (g id) e
  | v => v

def ren2 (g : Nat → Nat) : AV → AV
  | .agg cs => .agg (cs.map (ren1 g))
  | .clo f cs => .clo f (cs.map (ren1 g))
  | v => ren1 g v

def ren (g : Nat → Nat) : AV → AV
  | .tup vs => .tup (vs.map (ren2 g))
  | v => ren2 g v

def oren (g : Nat → Nat) : AObj → AObj
  | .box cs => .box (cs.map (ren2 g))
  | .row s x e f => .row s x e f
  | .deep s n x _ => .deep s n x none

/-- Names of objects in bad are struck. -/
def kill1 (bad : List Nat) : AV → AV
  | .own id => if bad.contains id then .junk else .own id
  | .ownv id a b => if bad.contains id then .junk else .ownv id a b
  | .ptr id o => if bad.contains id then .junk else .ptr id o
  | .prow id s i o => if bad.contains id then .junk else .prow id s i o
  | .sub id nm => if bad.contains id || bad.contains nm then .junk else .sub id nm
  | .bnil id e => if bad.contains id then .junk else .bnil id e
  | v => v

def kill2 (bad : List Nat) : AV → AV
  | .agg cs => .agg (cs.map (kill1 bad))
  | .clo f cs => .clo f (cs.map (kill1 bad))
  | v => kill1 bad v

def kill (bad : List Nat) : AV → AV
  | .tup vs => .tup (vs.map (kill2 bad))
  | v => kill2 bad v

def killLk (bad : List Nat) : Option (Nat × Nat × Nat) → Option (Nat × Nat × Nat)
  | some q => if bad.contains q.1 then none else some q
  | none => none

def okill (bad : List Nat) : AObj → AObj
  | .box cs => .box (cs.map (kill2 bad))
  | .row s x e f => .row s x e f
  | .deep s n x l => .deep s n x (killLk bad l)

def mapV {α β : Type} (f : α → β) : List (Nat × α) → List (Nat × β)
  | [] => []
  | (k, v) :: r => (k, f v) :: mapV f r

def freeze1 : AObj → AObj
  | .row s x e _ => .row s x e true
  | .deep s n x l => .deep s n x l
  | o => o

def freeze (ids : List Nat) : Hp → Hp
  | [] => []
  | (k, o) :: r => (k, if ids.contains k then freeze1 o else o) :: freeze ids r

/-- A row's elements, and is nothing in them told elsewhere. -/
def elemsEx : Option AObj → Option (List D × Bool)
  | some (.row _ xs ex _) => some (xs, ex)
  | _ => none

/-- Data of rows is kept out of other objects: a value is given away. (the datum; is nothing in it told elsewhere; the objects that are given) -/
def give1 (hp : Hp) : AV → Option (D × Bool × List Nat)
  | .d x => some (x, x.flat, [])
  | .nil => some (.sl [], true, [])
  | .own id => bnd (elemsEx (lkp hp id)) fun q => some (.sl q.1, q.2, [id])
  | _ => none

def giveL (hp : Hp) : List AV → Option (List D × Bool × List Nat)
  | [] => some ([], true, [])
  | v :: r => bnd (give1 hp v) fun q => bnd (giveL hp r) fun p =>
      if q.1.one && !q.2.2.any p.2.2.contains then some (q.1 :: p.1, q.2.1 && p.2.1, q.2.2 ++ p.2.2) else none

def give (hp : Hp) : AV → Option (D × Bool × List Nat)
  | .agg cs => bnd (giveL hp cs) fun p => some (.agg p.1, p.2.1, p.2.2)
  | v => give1 hp v

def giveAll (hp : Hp) : List AV → Option (List D × Bool × List Nat)
  | [] => some ([], true, [])
  | v :: r => bnd (give hp v) fun q => bnd (giveAll hp r) fun p =>
      if !q.2.2.any p.2.2.contains then some (q.1 :: p.1, q.2.1 && p.2.1, q.2.2 ++ p.2.2) else none

def splice {α : Type} (cs : List α) (off : Nat) (vs : List α) : List α := cs.take off ++ vs ++ cs.drop (off + vs.length)

def setElem (x : D) (off : Nat) (ds : List D) : D := match x with
  | .agg cs => .agg (splice cs off ds)
  | _ => ds.headD x

/-! ## Operations on plain values -/

def ibin (op : BinOp) (k : IntKind) (a b : Int) : Option D :=
  match op with
  | .add => some (.int k (k.wrap (a + b)))
  | .sub => some (.int k (k.wrap (a - b)))
  | .mul => some (.int k (k.wrap (a * b)))
  | .quo => if b = 0 then none else some (.int k (k.wrap (a.tdiv b)))
  | .rem => if b = 0 then none else some (.int k (a.tmod b))
  | .and => some (.int k (k.wrap (BitVec.ofInt k.bits a &&& BitVec.ofInt k.bits b).toNat))
  | .or => some (.int k (k.wrap (BitVec.ofInt k.bits a ||| BitVec.ofInt k.bits b).toNat))
  | .xor => some (.int k (k.wrap (BitVec.ofInt k.bits a ^^^ BitVec.ofInt k.bits b).toNat))
  | .andNot => some (.int k (k.wrap (BitVec.ofInt k.bits a &&& ~~~(BitVec.ofInt k.bits b)).toNat))
  | .eql => some (.bool (a == b))
  | .neq => some (.bool (a != b))
  | .lss => some (.bool (decide (a < b)))
  | .leq => some (.bool (decide (a ≤ b)))
  | .gtr => some (.bool (decide (a > b)))
  | .geq => some (.bool (decide (a ≥ b)))
  | .shl | .shr => none

def ishift (op : BinOp) (k : IntKind) (a b : Int) : Option D :=
  if b < 0 then none else
  match op with
  | .shl => some (.int k (k.wrap (a * 2 ^ (min b.toNat k.bits))))
  | .shr => some (.int k (a.fdiv (2 ^ (min b.toNat k.bits))))
  | _ => none

def strMax : Nat := 1152921504606846976

def sbin (op : BinOp) (a b : List UInt8) : Option D :=
  match op with
  | .add => if a.length + b.length ≤ strMax then some (.str (a ++ b)) else none
  | .eql => some (.bool (a == b))
  | .neq => some (.bool (!(a == b)))
  | _ => none

/-- Equality of plain cells. -/
def D.beq1 : D → D → Option Bool
  | .int _ a, .int _ b => some (a == b)
  | .bool a, .bool b => some (a == b)
  | .str a, .str b => some (a == b)
  | _, _ => none

def beqL : List D → List D → Option Bool
  | [], [] => some true
  | x :: xs, y :: ys => bnd (D.beq1 x y) fun a => bnd (beqL xs ys) fun b => some (a && b)
  | _, _ => none

def agg2 (op : BinOp) (r : Option Bool) : Option AV := match op with
  | .eql => bnd r fun r => some (.d (.bool r))
  | .neq => bnd r fun r => some (.d (.bool (!r)))
  | _ => none

def asD (r : Option D) : Option AV := bnd r fun x => some (.d x)

def int2 (op : BinOp) (k k' : IntKind) (a b : Int) : Option AV := match op with
  | .shl | .shr => asD (ishift op k a b)
  | _ => if k = k' then asD (ibin op k a b) else none

def bool2 (op : BinOp) (a b : Bool) : Option AV := match op with
  | .eql => some (.d (.bool (a == b)))
  | .neq => some (.d (.bool (!(a == b))))
  | _ => none

def vbin (op : BinOp) : AV → AV → Option AV
  | .d (.int k a), .d (.int k' b) => int2 op k k' a b
  | .d (.str a), .d (.str b) => asD (sbin op a b)
  | _, _ => none

def neg1 (op : UnOp) (k : IntKind) (a : Int) : Option AV := match op with
  | .neg => some (.d (.int k (k.wrap (0 - a))))
  | _ => none

def not1 (op : UnOp) (a : Bool) : Option AV := match op with
  | .not => some (.d (.bool (!a)))
  | _ => none

def vun (op : UnOp) : AV → Option AV
  | .d (.int k a) => neg1 op k a
  | .d (.bool a) => not1 op a
  | _ => none

/-- A slice's length. -/
def vlen (hp : Hp) : AV → Option Nat
  | .d (.sl xs) => some xs.length
  | .nil => some 0
  | .own id => bnd (elemsOf (lkp hp id)) fun xs => some xs.length
  | .ownv _ _ n => some n
  | _ => none

def slen : AV → Option Nat
  | .d (.str s) => some s.length
  | _ => none

def minI (a b : Int) : Int := if b < a then b else a
def maxI (a b : Int) : Int := if b > a then b else a

end Go.Abs
