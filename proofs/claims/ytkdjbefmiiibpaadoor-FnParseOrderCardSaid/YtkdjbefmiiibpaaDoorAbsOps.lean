/- The abstract semantics: operations, regions, codes, calls. Own text. -/
import Derived.Test.YtkdjbefmiiibpaaDoorAbsBase
set_option linter.unusedVariables false
set_option linter.unusedSimpArgs false
namespace Go.Abs
open Go

/-- Nil slices in a variable get rows of their own. -/
def mat : List (Option Nat) → List AV → Nat → List AV × Hp
  | some s :: ts, .nil :: vs, b => let r := mat ts vs (b + 1); (.own b :: r.1, (b, .row s [] true false) :: r.2)
  | _ :: ts, v :: vs, b => let r := mat ts vs b; (v :: r.1, r.2)
  | _, vs, _ => (vs, [])

def hasNil : List AV → Bool
  | [] => false
  | .nil :: _ => true
  | _ :: r => hasNil r

/-- What an operation does to the objects: new ones, such that are told anew, such that are gone, such that are written no more. -/
structure Eff where
  val : AV
  adds : Hp := []
  sets : Hp := []
  dels : List Nat := []
  frz : List Nat := []

def insAll : Hp → Hp → Hp
  | hp, [] => hp
  | hp, (k, o) :: r => insAll (ins hp k o) r

def del : Hp → Nat → Hp
  | [], _ => []
  | (k, o) :: r, t => if k = t then del r t else (k, o) :: del r t

def delAll : Hp → List Nat → Hp
  | hp, [] => hp
  | hp, k :: r => delAll (del hp k) r

def freezeAll (ids : List Nat) (hp : Hp) : Hp := match ids with
  | [] => hp
  | _ => freeze ids hp

def Eff.on (e : Eff) (hp : Hp) : Hp := insAll (insAll (delAll (freezeAll e.frz hp) e.dels) e.sets) e.adds

def setL : List AV → Nat → List AV → List AV
  | cs, _, [] => cs
  | cs, off, v :: r => setL (cs.set off v) (off + 1) r

def fillA : List AV → List (Nat × Nat × AV) → Option (List AV)
  | cells, [] => some cells
  | cells, q :: r => if q.2.2.solid ∧ q.2.2.cells.length = q.2.1 ∧ q.1 + q.2.1 ≤ cells.length then fillA (setL cells q.1 q.2.2.cells) r else none

/-- Is it of one cell, and no function? -/
def AV.atom : AV → Bool
  | .d x => x.one
  | .agg _ => false
  | .tup _ => false
  | .clo _ _ => false
  | _ => true

def allAtom : List AV → Bool
  | [] => true
  | v :: r => v.atom && allAtom r

def cloV (f : Nat) (cs : List AV) : Option AV := if allAtom cs then some (.clo f cs) else none

/-- The nil row that a new variable holds, as it is read. -/
def norm1 : AV → AV
  | .bbuf _ _ => .junk
  | v => v

def loadBox (agg : Bool) (s off : Nat) : Option AObj → Option AV
  | some (.box cs) => if agg then (if off + s ≤ cs.length then some (mkAgg ((cs.drop off).take s)) else none) else (cs[off]?).map norm1
  | _ => none

def loadCs (agg : Bool) (s off : Nat) (cs : List D) : Option AV :=
  if agg then (if off + s ≤ cs.length then some (.d (.agg ((cs.drop off).take s))) else none) else asD cs[off]?

def loadElem (agg : Bool) (s sz off : Nat) (x : D) : Option AV := if x.cells.length = sz then loadCs agg s off x.cells else none

/-- The header of a nested row has a name. -/
def subOf (id i off : Nat) : Option (Nat × Nat × Nat) → Option AV
  | some (nm, i', c) => if i = i' ∧ off = c then some (.sub id nm) else none
  | none => none

def loadDeep (id i off : Nat) (lk : Option (Nat × Nat × Nat)) (x : D) : Option AV := match x.cells[off]? with
  | some (.sl _) => subOf id i off lk
  | some y => if y.plain then some (.d y) else none
  | none => none

def loadRow (id : Nat) (agg : Bool) (s sz i off : Nat) : Option AObj → Option AV
  | some (.row sz' xs _ _) => if sz = sz' then bnd xs[i]? (loadElem agg s sz off) else none
  | some (.deep sz' _ xs lk) => if sz = sz' then (if agg then none else bnd xs[i]? (loadDeep id i off lk)) else none
  | _ => none

def loadv (hp : Hp) (agg : Bool) (s : Nat) : AV → Option AV
  | .ptr id off => loadBox agg s off (lkp hp id)
  | .prow id sz i off => loadRow id agg s sz i off (lkp hp id)
  | .pim cs => loadCs agg s 0 cs
  | _ => none

def plainD : AV → Option D
  | .d x => if x.plain then some x else none
  | _ => none

def datL : List AV → Option (List D)
  | [] => some []
  | v :: r => bnd (plainD v) fun x => bnd (datL r) fun ds => some (x :: ds)

def storeBox (slc : List (Option Nat)) (s base id off : Nat) (vs : List AV) : Option AObj → Option Eff
  | some (.box cs) => if vs.length = s ∧ off + s ≤ cs.length ∧ allSolid vs ∧ noBuf cs = true then
        (if hasNil vs then some { val := .junk, adds := (mat slc vs base).2, sets := [(id, .box (splice cs off (mat slc vs base).1))] }
         else some { val := .junk, sets := [(id, .box (splice cs off vs))] })
      else none
  | _ => none

/-- No row by itself. -/
def D.notSl : D → Bool
  | .sl _ => false
  | _ => true

def storeElem (s id sz i off : Nat) (xs : List D) (ex : Bool) (x : D) (q : List D × Bool × List Nat) : Option Eff :=
  if x.notSl ∧ x.cells.length = sz ∧ q.1.length = s ∧ off + s ≤ sz ∧ q.2.2.contains id = false then
    some { val := .junk, sets := [(id, .row sz (xs.set i (setElem x off q.1)) (ex && q.2.1) false)], frz := q.2.2 } else none

def storeRow (hp : Hp) (s id sz i off : Nat) (vs : List AV) : Option AObj → Option Eff
  | some (.row sz' xs ex false) => if sz = sz' then bnd xs[i]? fun x => bnd (giveL hp vs) fun q => storeElem s id sz i off xs ex x q else none
  | _ => none

def storev (hp : Hp) (slc : List (Option Nat)) (s base : Nat) (vs : List AV) : AV → Option Eff
  | .ptr id off => storeBox slc s base id off vs (lkp hp id)
  | .prow id sz i off => storeRow hp s id sz i off vs (lkp hp id)
  | _ => none

/-- Elements of a row have so many cells. -/
def uni (s : Nat) (ys : List D) : Prop := ∀ y ∈ ys, y.cells.length = s

def roomMax : Nat := 140737488355328

def flatAll (ys : List D) : Prop := ∀ y ∈ ys, y.flat = true

def srcRow (flat : Bool) : Option AObj → Option (List D × Bool)
  | some (.row _ ys ex _) => some (ys, ex || flat)
  | _ => none

def srcStr : AV → Option (List D × Bool)
  | .d (.str s) => some (s.map fun b => .int .u8 b.toNat, true)
  | _ => none

def srcView (flat : Bool) (off n : Nat) : Option AObj → Option (List D × Bool)
  | some (.row _ ys ex _) => some ((ys.drop off).take n, ex || flat)
  | _ => none

/-- The elements that are appended; is nothing in them told elsewhere. -/
def srcOf (hp : Hp) (flat : Bool) : AV → Option (List D × Bool)
  | .nil => some ([], true)
  | .d (.sl ys) => some (ys, flat)
  | .own id => srcRow flat (lkp hp id)
  | .ownv id off n => srcView flat off n (lkp hp id)
  | _ => none

def appEff (sz base : Nat) (dels : List Nat) (xs : List D) (ex : Bool) : Eff :=
  { val := .own base, adds := [(base, .row sz xs ex false)], dels := dels }

def appRow (sz by_ base id : Nat) (ys : List D) (ex' : Bool) : Option AObj → Option Eff
  | some (.row sz' xs ex false) => if sz' = sz ∧ (xs.length + ys.length) * by_ ≤ roomMax ∧ xs.length + ys.length ≤ roomMax then some (appEff sz base [id] (xs ++ ys) (ex && ex')) else none
  | _ => none

def appView (sz by_ base id n : Nat) (ys : List D) (ex' : Bool) : Option AObj → Option Eff
  | some (.row sz' xs ex false) => if sz' = sz ∧ (n + ys.length) * by_ ≤ roomMax ∧ n + ys.length ≤ roomMax then some (appEff sz base [id] (xs.take n ++ ys) (ex && ex')) else none
  | _ => none

/-- Elements of a row are appended to its own first ones, where there is room: in place. -/
def appSelf (sz base id n : Nat) (ys : List D) (ex' : Bool) : Option AObj → Option Eff
  | some (.row sz' xs ex false) => if sz' = sz ∧ 0 < xs.length ∧ n + ys.length ≤ xs.length then
      some { val := .ownv base 0 (n + ys.length), adds := [(base, .row sz (xs.take n ++ ys ++ xs.drop (n + ys.length)) (ex && ex') false)], dels := [id] } else none
  | _ => none

/-- The row onto which is appended. -/
def appOn (hp : Hp) (sz by_ : Nat) (base : Nat) (src : List Nat) (ys : List D) (ex' : Bool) : AV → Option Eff
  | .nil => if ys.length * by_ ≤ roomMax ∧ ys.length ≤ roomMax then some (appEff sz base [] ys ex') else none
  | .own id => if src.contains id then none else appRow sz by_ base id ys ex' (lkp hp id)
  | .ownv id off n => if off ≠ 0 then none else if src.contains id then appSelf sz base id n ys ex' (lkp hp id) else appView sz by_ base id n ys ex' (lkp hp id)
  | _ => none

open Classical in
noncomputable def appendv (hp : Hp) (sz by_ : Nat) (str flat : Bool) (base : Nat) (s x : AV) : Option Eff :=
  bnd (if str then srcStr x else srcOf hp flat x) fun q => if uni sz q.1 ∧ (flat = true → flatAll q.1) then appOn hp sz by_ base (rows1 x) q.1 q.2 s else none

def idx (i : AV) : Option Int := match i with
  | .d (.int _ n) => some n
  | _ => none

def pimOf (sz : Nat) (y : D) : Option AV := if y.cells.length = sz then some (.pim y.cells) else none

def addrRow (sz id n : Nat) : Option AObj → Option AV
  | some (.row sz' xs _ _) => if sz' = sz ∧ n < xs.length then some (.prow id sz n 0) else none
  | some (.deep sz' _ xs _) => if sz' = sz ∧ n < xs.length then some (.prow id sz n 0) else none
  | _ => none

def addrView (sz id off m n : Nat) : Option AObj → Option AV
  | some (.row sz' _ _ _) => if sz' = sz ∧ n < m then some (.prow id sz (off + n) 0) else none
  | _ => none

def indexAddrv (hp : Hp) (sz n : Nat) : AV → Option AV
  | .d (.sl xs) => bnd xs[n]? (pimOf sz)
  | .own id => addrRow sz id n (lkp hp id)
  | .ownv id off m => addrView sz id off m n (lkp hp id)
  | _ => none

/-- A bound of a slice expression, at most m. -/
def bd (m : Nat) (v : AV) : Option Nat := bnd (idx v) fun n => if 0 ≤ n ∧ n ≤ m then some n.toNat else none

def hiOf (len : Nat) : Option AV → Option Nat
  | none => some len
  | some v => bd len v

def loOf (h : Nat) : Option AV → Option Nat
  | none => some 0
  | some v => bd h v

/-- Bounds of a slice expression: low, high, within len. -/
def bnds (len : Nat) (lo hi : Option AV) : Option (Nat × Nat) := bnd (hiOf len hi) fun h => bnd (loOf h lo) fun l => some (l, h)

def ownSl (id n : Nat) : Option AV → Option AV → Option AV
  | none, none => some (.own id)
  | lo, hi => bnd (bnds n lo hi) fun b => some (.ownv id b.1 (b.2 - b.1))

def sliceRow (s id : Nat) (lo hi : Option AV) : Option AObj → Option AV
  | some (.row sz xs _ _) => if sz = s then ownSl id xs.length lo hi else none
  | _ => none

/-- Bounds in a part of a row: above it, too, as far as the row's elements go. -/
def bndsV (n m : Nat) (lo : Option AV) : Option AV → Option (Nat × Nat)
  | none => bnds n lo none
  | some h => bnds m lo (some h)

def sliceView (s id off n : Nat) (lo hi : Option AV) : Option AObj → Option AV
  | some (.row sz xs _ _) => if sz = s then bnd (bndsV n (xs.length - off) lo hi) fun b => some (.ownv id (off + b.1) (b.2 - b.1)) else none
  | _ => none

/-- x[lo:hi:mx], of which only the bounds are looked at. -/
def slice3 (hp : Hp) (x : AV) (lo hi mx : Option Int) : Option AV := bnd lo fun l => bnd hi fun h => bnd mx fun m => bnd (vlen hp x) fun n =>
  if 0 ≤ l ∧ l ≤ h ∧ h ≤ m ∧ m ≤ n then some .junk else none

/-- A part of a row is set to zero. -/
def clearRow (s id off n : Nat) (z : D) : Option AObj → Option Eff
  | some (.row sz xs ex false) => if sz = s ∧ z.cells.length = s ∧ off + n ≤ xs.length then some { val := .tup [], sets := [(id, .row sz (xs.take off ++ List.replicate n z ++ xs.drop (off + n)) ex false)] } else none
  | _ => none

def clearv (hp : Hp) (s : Nat) (z : D) : AV → Option Eff
  | .ownv id off n => clearRow s id off n z (lkp hp id)
  | _ => none

open Classical in
noncomputable def slicev (hp : Hp) (s : Nat) (lo hi : Option AV) : AV → Option AV
  | .d (.sl xs) => if uni s xs then bnd (bnds xs.length lo hi) fun b => some (.d (.sl ((xs.take b.2).drop b.1))) else none
  | .nil => bnd (bnds 0 lo hi) fun _ => some .nil
  | .own id => sliceRow s id lo hi (lkp hp id)
  | .ownv id off n => sliceView s id off n lo hi (lkp hp id)
  | _ => none

def sliceS (lo hi : Option AV) : AV → Option AV
  | .d (.str s) => bnd (bnds s.length lo hi) fun b => some (.d (.str ((s.take b.2).drop b.1)))
  | _ => none

/-- x[:0:0] -/
def slice0 (hp : Hp) (x : AV) (hi mx : Option Int) : Option AV := match hi, mx with
  | some 0, some 0 => bnd (vlen hp x) fun _ => some .nil
  | _, _ => none

def partv (agg : Bool) (s off : Nat) : AV → Option AV
  | .d (.agg cs) => loadCs agg s off cs
  | .agg cs => if agg then (if off + s ≤ cs.length then some (mkAgg ((cs.drop off).take s)) else none) else cs[off]?
  | _ => none

/-! ## Calls -/

/-- What a function's call comes to: arguments, the objects that are handed over, the result, these objects and new ones behind it. -/
abbrev Orc := Nat → List AV → List AObj → Option (AV × List AObj)

/-- Which parameters of which functions take a row over. -/
abbrev Modes := Nat → Nat → Bool

def argRow (hp : Hp) (id : Nat) : Bool → Option AV
  | true => some (.own id)
  | false => asD (toD1 hp (.own id))

/-- No slice at all: it stays so where the parameter takes a row over. -/
def nilArg : Bool → Option AV
  | true => some .nil
  | false => some (.d (.sl []))

/-- An argument: a row is told by its data, unless the parameter takes it over. -/
def argV (hp : Hp) (m : Bool) : AV → Option AV
  | .ptr a b => some (.ptr a b)
  | .clo f c => some (.clo f c)
  | .nilp => some .nilp
  | .nili => some .nili
  | .pim c => some (.pim c)
  | .own id => argRow hp id m
  | .nil => nilArg m
  | .d x => some (.d x)
  | v => asD (toD hp v)

def args (hp : Hp) (m : Nat → Bool) : Nat → List AV → Option (List AV)
  | _, [] => some []
  | i, v :: r => bnd (argV hp (m i) v) fun a => bnd (args hp m (i + 1) r) fun as => some (a :: as)

def reachGo (hp : Hp) (go : List Nat → List Nat → List Nat) (id : Nat) (todo acc : List Nat) : Option AObj → List Nat
  | some o => go (todo ++ orefs o) (acc ++ [id])
  | none => go todo acc

def reach (hp : Hp) : Nat → List Nat → List Nat → List Nat
  | 0, _, acc => acc
  | _ + 1, [], acc => acc
  | n + 1, id :: todo, acc => if acc.contains id then reach hp n todo acc else reachGo hp (reach hp n) id todo acc (lkp hp id)

def posOf : List Nat → Nat → Nat
  | [], _ => 0
  | x :: r, t => if x = t then 0 else posOf r t + 1

def objOr : Option AObj → AObj
  | some o => o
  | none => .row 0 [] true false

def lkpL (hp : Hp) : List Nat → List AObj
  | [] => []
  | id :: r => objOr (lkp hp id) :: lkpL hp r

/-- Objects handed over: names out of them are struck, the others told by their places. -/
def handOver (ids : List Nat) (o : AObj) : AObj := oren (posOf ids) (okill ((orefs o).filter fun i => !ids.contains i) o)

def isRow : Option AObj → Bool
  | some (.row _ _ _ _) => true
  | some (.deep _ _ _ _) => true
  | _ => false

/-- Is no slice in the value that may be told elsewhere? -/
def clean1 : AV → Bool
  | .d x => x.flat
  | .pim _ => false
  | .agg _ => false
  | .tup _ => false
  | .clo _ _ => false
  | _ => true

def clean2 : AV → Bool
  | .agg cs => cs.all clean1
  | .clo _ cs => cs.all clean1
  | v => clean1 v

def clean : AV → Bool
  | .tup vs => vs.all clean2
  | v => clean2 v

def oclean : AObj → Bool
  | .box cs => cs.all clean2
  | .row _ _ ex fz => ex && !fz
  | .deep _ _ _ _ => true

def orElse (d : Nat) : Option Nat → Nat
  | some i => i
  | none => d

def backN (ids : List Nat) (base k : Nat) : Nat := orElse (base + (k - ids.length)) ids[k]?

def setsOf (g : Nat → Nat) : List Nat → List AObj → Hp
  | id :: ids, o :: os => (id, oren g o) :: setsOf g ids os
  | _, _ => []

def addsOf (g : Nat → Nat) : Nat → List AObj → Hp
  | _, [] => []
  | k, o :: os => (k, oren g o) :: addsOf g (k + 1) os

/-- Names of rows that were handed over are struck elsewhere. -/
structure CallEff where
  eff : Eff
  gone : List Nat

def fuelOf (_hp : Hp) : Nat := 1000

def lentOf : List AV → List AV → List Nat
  | v :: vs, .d _ :: as => rowsOf v ++ lentOf vs as
  | _ :: vs, _ :: as => lentOf vs as
  | _, _ => []

def isDeep : Option AObj → Bool
  | some (.deep _ _ _ _) => true
  | _ => false

def callBack (hp : Hp) (base : Nat) (ids lent : List Nat) (r : AV) (out : List AObj) : Option CallEff :=
  if out.length < ids.length then none else if !(clean r && out.all oclean) && lent.any fun i => isDeep (lkp hp i) then none else
    some { eff := { val := ren (backN ids base) r, adds := addsOf (backN ids base) base (out.drop ids.length), sets := setsOf (backN ids base) ids out, frz := if clean r && out.all oclean then [] else lent },
           gone := ids.filter fun i => isRow (lkp hp i) }

def ptrsV : AV → List Nat
  | .ptr id _ => [id]
  | .clo _ cs => cs.flatMap refs1
  | _ => []

/-- Variables that are handed over are named by the arguments themselves. -/
def flatIds (hp : Hp) (rs ids : List Nat) : Bool := ids.all fun i => isRow (lkp hp i) || rs.contains i

def callIds (C : Orc) (hp : Hp) (base f : Nat) (lent : List Nat) (as : List AV) (ids : List Nat) : Option CallEff :=
  if (as.flatMap refs).all ids.contains ∧ ¬ lent.any ids.contains ∧ flatIds hp (as.flatMap ptrsV) ids = true then
    bnd (C f (as.map (ren (posOf ids))) ((lkpL hp ids).map (handOver ids))) fun q => callBack hp base ids lent q.1 q.2
  else none

def callv (C : Orc) (m : Nat → Bool) (hp : Hp) (base f : Nat) (avs : List AV) : Option CallEff :=
  bnd (args hp m 0 avs) fun as => callIds C hp base f (lentOf avs as) as (reach hp (fuelOf hp) (as.flatMap refs) [])

/-! ## Operations -/

def only1 (v : AV) : Option CallEff := some { eff := { val := v }, gone := [] }
def opt1 (v : Option AV) : Option CallEff := bnd v only1
def effs (e : Option Eff) : Option CallEff := bnd e fun e => some { eff := e, gone := [] }

def assignV (base : Nat) (e : Option Nat) : AV → Option CallEff
  | .nil => bnd e fun s => some { eff := { val := .own base, adds := [(base, .row s [] true false)] }, gone := [] }
  | v => only1 v

def pickV (a b : AV) : AV → Option CallEff
  | .d (.bool t) => if t then only1 a else only1 b
  | _ => none

/-- A nil pointer that tells of its variable's type. -/
def tagB (base : Nat) : AV → AV
  | .bnil _ e => .bnil base e
  | v => v

def bnT (t te : Nat) : List AV → List AV
  | [.nilp, .nil] => [.bnil 0 t, .bbuf te []]
  | cs => cs

/-- A new builder. -/
def isBld : List AV → Bool
  | [.bnil _ _, .bbuf _ []] => true
  | _ => false

def allocC (slc : List (Option Nat)) (base : Nat) (cs : List AV) : Option CallEff :=
  if noBuf cs = false then (if isBld cs = true then some { eff := { val := .ptr base 0, adds := [(base, .box cs)] }, gone := [] } else none) else
  if hasNil cs then some { eff := { val := .ptr base 0, adds := (base, .box (mat slc cs (base + 1)).1) :: (mat slc cs (base + 1)).2 }, gone := [] }
  else some { eff := { val := .ptr base 0, adds := [(base, .box cs)] }, gone := [] }

def allocV (slc : List (Option Nat)) (base : Nat) (cs : List AV) : Option CallEff := allocC slc base (cs.map (tagB base))

def boxV (base : Nat) (x : AV) : Option CallEff := if x.solid && noBuf x.cells then some { eff := { val := .ptr base 0, adds := [(base, .box x.cells)] }, gone := [] } else none

def buildV (zs : List AV) (ps : List (Nat × Nat × AV)) : Option CallEff := bnd (fillA zs ps) fun cs => only1 (mkAgg cs)

def rowV (base s : Nat) (q : List D × Bool × List Nat) : Option CallEff :=
  if q.1.all (fun d => d.cells.length == s) then some { eff := { val := .own base, adds := [(base, .row s q.1 q.2.1 false)], frz := q.2.2 }, gone := [] } else none

def buildSl (hp : Hp) (base s : Nat) : List AV → Option CallEff
  | [] => only1 .nil
  | v :: vs => bnd (giveAll hp (v :: vs)) (rowV base s)

/-- A cell of an element of a row whose nested rows are its own: the datum, the object that is given. -/
def deep1 (hp : Hp) (n : Nat) : AV → Option (D × List Nat)
  | .d x => if x.plain then some (x, []) else none
  | .nil => some (.sl [], [])
  | .own id => deepRow n id (lkp hp id)
  | _ => none
where deepRow (n id : Nat) : Option AObj → Option (D × List Nat)
  | some (.row sz xs true false) => if sz = n ∧ allB D.flat xs then some (.sl xs, [id]) else none
  | _ => none

def deepL (hp : Hp) (n : Nat) : List AV → Option (List D × List Nat)
  | [] => some ([], [])
  | v :: r => bnd (deep1 hp n v) fun q => bnd (deepL hp n r) fun p => if !q.2.any p.2.contains then some (q.1 :: p.1, q.2 ++ p.2) else none

/-- No slice, as a row whose nested rows are its own. -/
def asgDp (base s n : Nat) : AV → Option CallEff
  | .nil => some { eff := { val := .own base, adds := [(base, .deep s n [] none)] }, gone := [] }
  | _ => none

/-- A row of one element whose nested rows are its own. -/
def buildDp (hp : Hp) (base s n : Nat) : List AV → Option CallEff
  | [.agg cs] => bnd (deepL hp n cs) fun q => if q.1.length = s then some { eff := { val := .own base, adds := [(base, .deep s n [.agg q.1] none)], dels := q.2 }, gone := [] } else none
  | _ => none

def notNil : AV → Option CallEff
  | .ptr a b => only1 (.ptr a b)
  | .prow a b c d => only1 (.prow a b c d)
  | .pim c => only1 (.pim c)
  | .clo f c => only1 (.clo f c)
  | _ => none

def binV (op : BinOp) (eq : Bool) : AV → AV → Option CallEff
  | .d (.bool a), .d (.bool b) => if eq then opt1 (bool2 op a b) else none
  | a, b => opt1 (vbin op a b)

/-- Cells side by side: whole numbers (0), truth values (1), strings (2). -/
def beqK : List Nat → List D → List D → Option Bool
  | [], [], [] => some true
  | 0 :: ks, .int k a :: cs, .int k' b :: ds => if k = k' then bnd (beqK ks cs ds) fun r => some (decide (a = b) && r) else none
  | 1 :: ks, .bool a :: cs, .bool b :: ds => bnd (beqK ks cs ds) fun r => some (decide (a = b) && r)
  | 2 :: ks, .str a :: cs, .str b :: ds => bnd (beqK ks cs ds) fun r => some (decide (a = b) && r)
  | _, _, _ => none

def negIf (neg : Bool) (r : Bool) : Bool := if neg then !r else r

def eqAV (neg : Bool) (ks : List Nat) : AV → AV → Option CallEff
  | .d (.agg cs), .d (.agg ds) => bnd (beqK ks cs ds) fun r => only1 (.d (.bool (negIf neg r)))
  | _, _ => none

def convI (k : IntKind) : AV → Option CallEff
  | .d (.int _ n) => only1 (.d (.int k (k.wrap n)))
  | _ => none

def convS : AV → Option CallEff
  | .d (.str s) => only1 (.d (.str s))
  | _ => none

def makeV (base s b : Nat) (z : D) (l c : Int) : Option CallEff :=
  if 0 ≤ l ∧ l ≤ c ∧ c * b ≤ roomMax ∧ c ≤ roomMax ∧ z.cells.length = s then
    some { eff := { val := .own base, adds := [(base, .row s (List.replicate l.toNat z) true false)] }, gone := [] } else none

def shiftP (off : Nat) : AV → Option CallEff
  | .ptr id o => only1 (.ptr id (o + off))
  | .prow id sz i o => only1 (.prow id sz i (o + off))
  | .pim cs => only1 (.pim (cs.drop off))
  | _ => none

def arrAt (x : AV) (n : Int) (len s : Nat) : Option CallEff := if 0 ≤ n ∧ n < len then shiftP (n.toNat * s) x else none

def slcAt (hp : Hp) (s : Nat) (x : AV) (n : Int) : Option CallEff := if 0 ≤ n then opt1 (indexAddrv hp s n.toNat x) else none

def strAt (s : List UInt8) (n : Int) : Option CallEff := if 0 ≤ n then bnd s[n.toNat]? fun b => only1 (.d (.int .u8 b.toNat)) else none

def elAt (g : Bool) (s len : Nat) (n : Int) (v : AV) : Option CallEff := if 0 ≤ n ∧ n < len then opt1 (partv g s (n.toNat * s) v) else none

def ixSV (n : Int) : AV → Option CallEff
  | .d (.str s) => strAt s n
  | _ => none

def nthV (i : Nat) : AV → Option CallEff
  | .tup vs => opt1 vs[i]?
  | _ => none

/-- A row whose nested rows are its own: its elements' cells, those of nested ones, its elements. -/
def deepOf : Option AObj → Option (Nat × Nat × List D)
  | some (.deep s n xs _) => some (s, n, xs)
  | _ => none

def deepSrc (hp : Hp) : AV → Option (Nat × Nat × Nat × List D)
  | .own id => bnd (deepOf (lkp hp id)) fun q => some (id, q)
  | _ => none

/-- Such a row is appended to nothing, or to another one. -/
def appDeep (hp : Hp) (s b base id n : Nat) (ys : List D) : AV → Option Eff
  | .nil => if ys.length * b ≤ roomMax ∧ ys.length ≤ roomMax then some { val := .own base, adds := [(base, .deep s n ys none)], dels := [id] } else none
  | .own id1 => bnd (deepOf (lkp hp id1)) fun q => if q.1 = s ∧ q.2.1 = n ∧ id1 ≠ id ∧ (q.2.2.length + ys.length) * b ≤ roomMax ∧ q.2.2.length + ys.length ≤ roomMax then
      some { val := .own base, adds := [(base, .deep s n (q.2.2 ++ ys) none)], dels := [id1, id] } else none
  | _ => none

def nestedAt (xs : List D) (i c : Nat) : Option (List D) := bnd xs[i]? fun x => match x.cells[c]? with
  | some (.sl ys) => some ys
  | _ => none

open Classical in
/-- Elements are appended to a nested row: what comes of it is written no more, and the row has no nested ones of its own any more. -/
noncomputable def appSub (s b base id nm : Nat) (q : List D × Bool) : Option AObj → Option Eff
  | some (.deep sz n xs (some (nm', i, c))) => bnd (nestedAt xs i c) fun fl => if nm = nm' ∧ n = s ∧ uni s q.1 ∧ flatAll q.1 ∧ (fl.length + q.1.length) * b ≤ roomMax ∧ fl.length + q.1.length ≤ roomMax then
      some { val := .own base, adds := [(base, .row s (fl ++ q.1) true true)], sets := [(id, .row sz xs true false)] } else none
  | _ => none

/-- Is it a row whose nested rows are its own? Its name. -/
def deepId (hp : Hp) : AV → List Nat
  | .own id => if isDeep (lkp hp id) then [id] else []
  | _ => []

def meltO : AObj → AObj
  | .deep s _ xs _ => .row s xs true false
  | o => o

/-- Such rows have no nested rows of their own any more. -/
def meltIn (hp : Hp) : List Nat → Hp
  | [] => hp
  | i :: r => match lkp hp i with
    | some o => ins (meltIn hp r) i (meltO o)
    | none => meltIn hp r

noncomputable def appMelt (hp : Hp) (s b : Nat) (str flat : Bool) (base : Nat) (x y : AV) : List Nat → Option Eff
  | [] => appendv hp s b str flat base x y
  | i :: r => if flat then none else bnd (appendv (meltIn hp (i :: r)) s b str flat base x y) fun e => some { val := e.val, adds := e.adds, sets := e.sets, dels := e.dels ++ (i :: r), frz := e.frz }

noncomputable def appTo (hp : Hp) (s b : Nat) (str flat : Bool) (base : Nat) (y : AV) : AV → Option Eff
  | .sub id nm => if str then none else bnd (srcOf hp true y) fun q => if (rows1 y).contains id then none else appSub s b base id nm q (lkp hp id)
  | x => appMelt hp s b str flat base x y (deepId hp x ++ deepId hp y)

def appD (hp : Hp) (s b base : Nat) (x y : AV) : Option CallEff := effs (bnd (deepSrc hp y) fun q => if q.2.1 = s then appDeep hp s b base q.1 q.2.2.1 q.2.2.2 x else none)

noncomputable def appV (hp : Hp) (s b : Nat) (str flat : Bool) (base : Nat) (x y : AV) : Option CallEff := effs (appTo hp s b str flat base y x)

def min2V : AV → AV → Option CallEff
  | .d (.int k a), .d (.int k' b) => if k = k' then only1 (.d (.int k (minI a b))) else none
  | _, _ => none

def max2V : AV → AV → Option CallEff
  | .d (.int k a), .d (.int k' b) => if k = k' then only1 (.d (.int k (maxI a b))) else none
  | _, _ => none

/-- An operand: a slot, a value that stands in the text, a function. -/
inductive Opd where
  | t (n : Nat)
  | v (a : AV)
  | f (n : Nat)

def evO (sl : Sl) : Opd → AV
  | .t n => gs sl n
  | .v a => a
  | .f n => .clo n []

def evL (sl : Sl) : List Opd → List AV
  | [] => []
  | x :: r => evO sl x :: evL sl r

def evP (sl : Sl) : List (Nat × Nat × Opd) → List (Nat × Nat × AV)
  | [] => []
  | (a, b, x) :: r => (a, b, evO sl x) :: evP sl r

def evM (sl : Sl) : Option Opd → Option AV
  | none => none
  | some x => some (evO sl x)

/-- Operations, with all that the tables of types tell of them. -/
inductive COp where
  | move (x : Opd)
  | assign (s : Option Nat) (x : Opd)
  | pick (c a b : Opd)
  | alloc (slc : List (Option Nat)) (cs : List AV)
  | box (x : Opd)
  | build (zs : List AV) (ps : List (Nat × Nat × Opd))
  | buildSl (s : Nat) (xs : List Opd)
  | load (g : Bool) (s : Nat) (a : Opd)
  | store (slc : List (Option Nat)) (s : Nat) (a x : Opd)
  | nilCheck (x : Opd)
  | bin (op : BinOp) (eq : Bool) (x y : Opd)
  | un (op : UnOp) (x : Opd)
  | eqA (neg : Bool) (ks : List Nat) (x y : Opd)
  | convI (k : IntKind) (x : Opd)
  | convS (x : Opd)
  | fn (f : Nat) (caps : List Opd)
  | make (s b : Nat) (z : D) (l c : Opd)
  | slice (s : Nat) (x : Opd) (lo hi : Option Opd)
  | sliceS (x : Opd) (lo hi : Option Opd)
  | slice0 (x hi mx : Opd)
  | shift (off : Nat) (x : Opd)
  | part (g : Bool) (s off : Nat) (x : Opd)
  | iaS (s : Nat) (x i : Opd)
  | iaA (len s : Nat) (x i : Opd)
  | ixS (x i : Opd)
  | ixA (g : Bool) (s len : Nat) (x i : Opd)
  | nth (i : Nat) (x : Opd)
  | len (x : Opd)
  | lenS (x : Opd)
  | append (s b : Nat) (str flat : Bool) (x y : Opd)
  | min (x y : Opd)
  | max (x y : Opd)
  | call (f : Opd) (as : List Opd)
  | slice3 (s : Nat) (x lo hi mx : Opd)
  | clear (s : Nat) (z : D) (x : Opd)
  | stuck
  | buildDp (s n : Nat) (xs : List Opd)
  | appDp (s b : Nat) (flat : Bool) (x y : Opd)
  | asgDp (s n : Nat) (x : Opd)

structure CO where
  dst : Option Nat
  guard : Option (Nat × Bool)
  op : COp
  tl : Bool

def callOf (C : Orc) (M : Modes) (hp : Hp) (base : Nat) (as : List AV) : AV → Option CallEff
  | .clo g caps => callv C (M g) hp base g (as ++ caps)
  | _ => none

/-- What an operation does: its effect; the rows whose names are struck elsewhere. -/
noncomputable def vop (C : Orc) (M : Modes) (sl : Sl) (hp : Hp) (base : Nat) : COp → Option CallEff
  | .move x => only1 (evO sl x)
  | .assign s x => assignV base s (evO sl x)
  | .pick c a b => pickV (evO sl a) (evO sl b) (evO sl c)
  | .alloc slc cs => allocV slc base cs
  | .box x => boxV base (evO sl x)
  | .build zs ps => buildV zs (evP sl ps)
  | .buildSl s xs => buildSl hp base s (evL sl xs)
  | .load g s a => opt1 (loadv hp g s (evO sl a))
  | .store slc s a x => effs (storev hp slc s base (evO sl x).cells (evO sl a))
  | .nilCheck x => notNil (evO sl x)
  | .bin op eq x y => binV op eq (evO sl x) (evO sl y)
  | .un op x => opt1 (vun op (evO sl x))
  | .eqA neg ks x y => eqAV neg ks (evO sl x) (evO sl y)
  | .convI k x => convI k (evO sl x)
  | .convS x => convS (evO sl x)
  | .fn f cs => opt1 (cloV f (evL sl cs))
  | .make s b z l c => bnd (idx (evO sl l)) fun l => bnd (idx (evO sl c)) fun c => makeV base s b z l c
  | .slice s x lo hi => opt1 (slicev hp s (evM sl lo) (evM sl hi) (evO sl x))
  | .sliceS x lo hi => opt1 (sliceS (evM sl lo) (evM sl hi) (evO sl x))
  | .slice0 x hi mx => opt1 (slice0 hp (evO sl x) (idx (evO sl hi)) (idx (evO sl mx)))
  | .shift off x => shiftP off (evO sl x)
  | .part g s off x => opt1 (partv g s off (evO sl x))
  | .iaS s x i => bnd (idx (evO sl i)) fun n => slcAt hp s (evO sl x) n
  | .iaA len s x i => bnd (idx (evO sl i)) fun n => arrAt (evO sl x) n len s
  | .ixS x i => bnd (idx (evO sl i)) fun n => ixSV n (evO sl x)
  | .ixA g s len x i => bnd (idx (evO sl i)) fun n => elAt g s len n (evO sl x)
  | .nth i x => nthV i (evO sl x)
  | .len x => bnd (vlen hp (evO sl x)) fun n => only1 (.d (.int .i64 n))
  | .lenS x => bnd (slen (evO sl x)) fun n => only1 (.d (.int .i64 n))
  | .append s b str flat x y => appV hp s b str flat base (evO sl x) (evO sl y)
  | .min x y => min2V (evO sl x) (evO sl y)
  | .max x y => max2V (evO sl x) (evO sl y)
  | .call f as => callOf C M hp base (evL sl as) (evO sl f)
  | .slice3 _ x lo hi mx => opt1 (slice3 hp (evO sl x) (idx (evO sl lo)) (idx (evO sl hi)) (idx (evO sl mx)))
  | .clear s z x => effs (clearv hp s z (evO sl x))
  | .stuck => none
  | .buildDp s n xs => buildDp hp base s n (evL sl xs)
  | .appDp s b _ x y => appD hp s b base (evO sl x) (evO sl y)
  | .asgDp s n x => asgDp base s n (evO sl x)

/-! ## From the model's operations to these -/

section
variable (P : Program)

/-- A slice type's element type. -/
def elemT (t : TypeId) : Option TypeId := match P.underlying t with
  | some (.slice e) => some e
  | _ => none

def isStrT (t : TypeId) : Bool := match P.underlying t with
  | some .string => true
  | _ => false

def isBoolT (t : TypeId) : Bool := match P.underlying t with
  | some .bool => true
  | _ => false

def intT (t : TypeId) : Option IntKind := match P.underlying t with
  | some (.int k) => some k
  | _ => none

def arrT (t : TypeId) : Option (Nat × TypeId) := match P.underlying t with
  | some (.array n e) => some (n, e)
  | _ => none

/-- Is a value of the type an aggregate? -/
def aggT (t : TypeId) : Option Bool := match P.underlying t with
  | some (.struct _) => some true
  | some (.array _ _) => some true
  | some _ => some false
  | none => none

/-- A field's offset and type, where it has cells. -/
def fieldT (s : TypeId) (f : Nat) : Option (Nat × TypeId) := match P.underlying s with
  | some (.struct fs) => match fs[f]? with
    | some x => if P.cellsOf x.type = 0 then none else some (x.offset, x.type)
    | none => none
  | _ => none

def zeroT (t : TypeId) : Option Value := match P.info? t with
  | some i => i.zero
  | none => none

def flatT : Nat → TypeId → List TypeId
  | 0, t => [t]
  | n + 1, t => match P.underlying t with
    | some (.struct fs) => fs.toList.flatMap fun f => flatT n f.type
    | some (.array k e) => (List.replicate k (flatT n e)).flatten
    | _ => [t]

/-- For each cell of a variable of the type: the cells of an element, where the cell is a slice. -/
def slcT (t : TypeId) : List (Option Nat) := (flatT P 4 t).map fun c => (elemT P c).map P.cellsOf

/-- Has a value of the type no slice within it? -/
def flatE (t : TypeId) : Bool := (flatT P 4 t).all fun c => match P.underlying c with
  | some (.int _) => true
  | some .bool => true
  | some .string => true
  | _ => false

/-- The cells of a struct that are compared, in order, with their kinds: whole numbers, truth values, strings. -/
def eqOffs : Nat → TypeId → Nat → Option (List (Nat × Nat))
  | 0, _, _ => none
  | n + 1, t, off => match P.underlying t with
    | some (.int _) => if P.cellsOf t = 1 then some [(off, 0)] else none
    | some .bool => if P.cellsOf t = 1 then some [(off, 1)] else none
    | some .string => if P.cellsOf t = 1 then some [(off, 2)] else none
    | some (.struct fs) => if P.stoodInHeld t then none else
        bnd (mapO (fun f : Field => if f.name = "_" ∨ P.cellsOf t < f.offset + P.cellsOf f.type then none else eqOffs n f.type (off + f.offset)) fs.toList) fun ls => some ls.flatten
    | _ => none

def isStructT (t : TypeId) : Bool := match P.underlying t with
  | some (.struct _) => true
  | _ => false

/-- Are values of the struct type compared cell by cell? The cells' kinds. -/
def eqKs (t : TypeId) : Option (List Nat) := bnd (eqOffs P 5 t 0) fun ls =>
  if ls.map (·.1) = List.range (P.cellsOf t) ∧ isStructT P t = true ∧ P.eqGuardType P.depth t = false then some (ls.map (·.2)) else none

def cBin2 (neg : Bool) (op : BinOp) (t : TypeId) (x y : Opd) : Option (List Nat) → COp
  | some ks => .eqA neg ks x y
  | none => .bin op (isBoolT P t) x y

def cBin (op : BinOp) (t : TypeId) (x y : Opd) : COp := match op with
  | .eql => cBin2 P false .eql t x y (eqKs P t)
  | .neq => cBin2 P true .neq t x y (eqKs P t)
  | op => .bin op (isBoolT P t) x y

end


section
variable (P : Program)

def cOpd : Operand → Option Opd
  | .tmp t => some (.t t)
  | .const v => some (.v (evC v))
  | .global _ => none
  | .func f => some (.f f)

def cPart (pl : Nat → Option (Nat × Nat)) (q : Nat × Operand) : Option (Nat × Nat × Opd) := bnd (pl q.1) fun p => bnd (cOpd q.2) fun x => some (p.1, p.2, x)

def cOO : Option Operand → Option (Option Opd)
  | none => some none
  | some x => bnd (cOpd x) fun y => some (some y)

def placeOf (t : TypeId) : Option (Nat × TypeId) → Nat → Option (Nat × Nat)
  | none, i => bnd (fieldT P t i) fun q => some (q.1, P.cellsOf q.2)
  | some a, i => some (i * P.cellsOf a.2, P.cellsOf a.2)

/-- Has the type a zero value, of as many cells as a variable of it, and not none? -/
def elemOk (t : TypeId) : Bool := match P.info? t with
  | some i => (match i.zero with
    | some z => z.cells.size == i.size && decide (0 < i.size)
    | none => false)
  | none => false

/-- Are the types of a struct's fields known? -/
def fieldsOk (t : TypeId) : Bool := match P.underlying t with
  | some (.struct fs) => fs.toList.all fun f => (P.info? f.type).isSome
  | some (.array _ e) => (P.info? e).isSome
  | _ => false

/-- Is a string appended, or a slice of such elements? -/
def srcOk (e : TypeId) (u : TypeId) : Option Bool := match elemT P u with
  | some e' => if e' = e then some false else none
  | none => if isStrT P u then some true else none

def cIdxAddr (x i : Opd) (a : Option (Nat × TypeId)) : Option TypeId → Option COp
  | some e => if (P.info? e).isSome then some (.iaS (P.cellsOf e) x i) else none
  | none => bnd a fun a => if (P.info? a.2).isSome then some (.iaA a.1 (P.cellsOf a.2) x i) else none

def cIndex (x i : Opd) (str : Bool) (a : Option (Nat × TypeId)) : Option COp :=
  if str then some (.ixS x i) else bnd a fun a => bnd (aggT P a.2) fun g => some (.ixA g (P.cellsOf a.2) a.1 x i)

def cConv (x : Opd) (ss sd : Bool) : Option IntKind → Option IntKind → Option COp
  | some _, some k => some (.convI k x)
  | _, _ => if ss && sd then some (.convS x) else none

def cLen (x : Opd) (str : Bool) : Option TypeId → Option COp
  | some _ => some (.len x)
  | none => if str then some (.lenS x) else none

def cSlice (x : Opd) (lo hi : Option Opd) (str : Bool) : Option TypeId → Option COp
  | some e => if (P.info? e).isSome then some (.slice (P.cellsOf e) x lo hi) else none
  | none => if str then some (.sliceS x lo hi) else none

def cBuiltin : Builtin → List Operand → List TypeId → Option COp
  | .len, [x], [t] => bnd (cOpd x) fun x => cLen x (isStrT P t) (elemT P t)
  | .append, [s, x], [t, u] => bnd (elemT P t) fun e => bnd (srcOk P e u) fun str => bnd (cOpd s) fun s => bnd (cOpd x) fun x =>
      if elemOk P e then some (.append (P.cellsOf e) (P.bytesOf e) str (flatE P e) s x) else none
  | .min, [x, y], _ => bnd (cOpd x) fun x => bnd (cOpd y) fun y => some (.min x y)
  | .max, [x, y], _ => bnd (cOpd x) fun x => bnd (cOpd y) fun y => some (.max x y)
  | .clear, [x], [t] => bnd (elemT P t) fun e => bnd (cOpd x) fun x => bnd (zeroT P e) fun z => bnd (evD z) fun z => if elemOk P e then some (.clear (P.cellsOf e) z x) else none
  | _, _, _ => none

/-- What the second field's rows are of. -/
def teOf (t : TypeId) : Nat := match bnd (fieldT P t 1) fun q => elemT P q.2 with
  | some e => e
  | none => 0

def cOp (ty : TypeId) : Op → Option COp
  | .move x => bnd (cOpd x) fun x => some (.move x)
  | .assign x => bnd (cOpd x) fun x => some (.assign (bnd (elemT P ty) fun e => some (P.cellsOf e)) x)
  | .pick c a b => bnd (cOpd c) fun c => bnd (cOpd a) fun a => bnd (cOpd b) fun b => some (.pick c a b)
  | .alloc t => bnd (zeroT P t) fun z => some (.alloc (slcT P t) (bnT t (teOf P t) (evC z).cells))
  | .box _ x => bnd (cOpd x) fun x => some (.box x)
  | .build t ps => bnd (zeroT P t) fun z => bnd (mapO (cPart (placeOf P t (arrT P t))) ps.toList) fun qs => if fieldsOk P t then some (.build (evC z).cells qs) else none
  | .buildSlice t n ps => bnd (elemT P t) fun e => bnd (mapO (fun q : Nat × Operand => cOpd q.2) ps.toList) fun xs =>
      if ps.toList.map (·.1) = List.range n ∧ n * P.cellsOf e ≤ 16777216 ∧ elemOk P e then some (.buildSl (P.cellsOf e) xs) else none
  | .load t a => bnd (aggT P t) fun g => bnd (cOpd a) fun a => some (.load g (P.cellsOf t) a)
  | .store t a x => bnd (cOpd a) fun a => bnd (cOpd x) fun x => if (P.info? t).isSome then some (.store (slcT P t) (P.cellsOf t) a x) else none
  | .nilCheck x => bnd (cOpd x) fun x => some (.nilCheck x)
  | .binOp op t x y _ => bnd (cOpd x) fun x => bnd (cOpd y) fun y => some (cBin P op t x y)
  | .unOp op _ x => bnd (cOpd x) fun x => some (.un op x)
  | .convert s d x => bnd (cOpd x) fun x => cConv x (isStrT P s) (isStrT P d) (intT P s) (intT P d)
  | .makeFunc (.func f) fs cs => if fs.toList.isEmpty then bnd (mapO cOpd cs.toList) fun cs => some (.fn f cs) else none
  | .makeSlice t l c => bnd (elemT P t) fun e => bnd (cOpd l) fun l => bnd (cOpd c) fun c => bnd (zeroT P e) fun z => bnd (evD z) fun z => if elemOk P e then some (.make (P.cellsOf e) (P.bytesOf e) z l c) else none
  | .slice t x lo hi none => bnd (cOpd x) fun x => bnd (cOO lo) fun lo => bnd (cOO hi) fun hi => cSlice P x lo hi (isStrT P t) (elemT P t)
  | .slice t x none (some hi) (some mx) => bnd (elemT P t) fun e => if (P.info? e).isSome then bnd (cOpd x) fun x => bnd (cOpd hi) fun hi => bnd (cOpd mx) fun mx => some (.slice0 x hi mx) else none
  | .slice t x (some lo) (some hi) (some mx) => bnd (elemT P t) fun e => if (P.info? e).isSome then bnd (cOpd x) fun x => bnd (cOpd lo) fun lo => bnd (cOpd hi) fun hi => bnd (cOpd mx) fun mx => some (.slice3 (P.cellsOf e) x lo hi mx) else none
  | .fieldAddr s x f => bnd (fieldT P s f) fun q => bnd (cOpd x) fun x => some (.shift q.1 x)
  | .field t x f => bnd (fieldT P t f) fun q => bnd (aggT P q.2) fun g => bnd (cOpd x) fun x => some (.part g (P.cellsOf q.2) q.1 x)
  | .indexAddr t x i => bnd (cOpd x) fun x => bnd (cOpd i) fun i => cIdxAddr P x i (arrT P t) (elemT P t)
  | .index t x i => bnd (cOpd x) fun x => bnd (cOpd i) fun i => cIndex P x i (isStrT P t) (arrT P t)
  | .extract x i => bnd (cOpd x) fun x => some (.nth i x)
  | .call { callee := .builtin b, args := as, argTypes := ts } => cBuiltin P b as.toList ts.toList
  | .call { callee := .value f, args := as, argTypes := _ } => bnd (cOpd f) fun f => bnd (mapO cOpd as.toList) fun as => some (.call f as)
  | _ => none

def cGuard (ops : List Oper) : Option (Nat × Bool) → Option (Option (Nat × Bool))
  | none => some none
  | some q => bnd ops[q.1]? fun g => bnd g.dst fun t => some (some (t, q.2))

def dstOk (nt : Nat) : Option Nat → Bool
  | none => true
  | some t => decide (t < nt)

/-- The operations that an operation comes after, by its edges. -/
def directs (ops : Array Oper) (i : Nat) : List Nat := match ops[i]? with
  | some o => (o.after.toList.filter fun e => Region.binds .any e).map fun e => e.on
  | none => []

/-- Is an operation tied to another by edges, in so many steps? -/
def tied (ops : Array Oper) : Nat → Nat → Nat → Bool
  | 0, i, j => (directs ops i).contains j
  | n + 1, i, j => (directs ops i).contains j || (directs ops i).any fun z => tied ops n z j

def startO : Op → Bool
  | .call { callee := .builtin .append, args := _, argTypes := _ } => true
  | .buildSlice _ _ _ => true
  | _ => false
def callO : Op → Bool
  | .call { callee := .value (.func _), args := _, argTypes := _ } => true
  | _ => false
def moveO : Op → Bool
  | .move _ => true
  | _ => false
/-- Operations that may be done ahead of a call, where they stand ahead of it. -/
def aheadO : Op → Bool
  | .store _ _ _ => false
  | .box _ _ => false
  | .assign _ => false
  | .makeFunc _ _ _ => false
  | .makeSlice _ _ _ => false
  | .call { callee := .builtin .append, args := _, argTypes := _ } => false
  | .call { callee := .value _, args := _, argTypes := _ } => false
  | _ => true
/-- Operations that may be done ahead of a call, where they stand behind it. -/
def behindO : Op → Bool
  | .move _ => true
  | .alloc _ => true
  | .buildSlice _ _ _ => true
  | .load _ _ => true
  | .nilCheck _ => true
  | .binOp _ _ _ _ _ => true
  | .unOp _ _ _ => true
  | .convert _ _ _ => true
  | .fieldAddr _ _ _ => true
  | .indexAddr _ _ _ => true
  | .slice _ _ _ _ _ => true
  | .call { callee := .builtin .len, args := _, argTypes := _ } => true
  | _ => false
def appO : Op → Bool
  | .call { callee := .builtin .append, args := _, argTypes := _ } => true
  | _ => false
/-- Operations that look at what their operands name, at most. -/
def lookO : Op → Bool
  | .move _ => true
  | .load _ _ => true
  | .nilCheck _ => true
  | .binOp _ _ _ _ _ => true
  | .convert _ _ _ => true
  | .fieldAddr _ _ _ => true
  | .field _ _ _ => true
  | .extract _ _ => true
  | .indexAddr _ _ _ => true
  | .slice _ _ _ _ _ => true
  | .call { callee := .builtin .len, args := _, argTypes := _ } => true
  | _ => false
def atO (f : Op → Bool) (ops : List Oper) (k : Nat) : Bool := match ops[k]? with
  | some o => f o.op
  | none => false

/-- Does an operation come after all that stands ahead of it, and all behind it after it? -/
def firmAt (ops : List Oper) (i : Nat) : Bool :=
  (List.range ops.length).all fun k => if k < i then tied ops.toArray 6 i k || atO moveO ops k else k == i || tied ops.toArray 6 k i || atO moveO ops k

/-- Does an append come after all that stands ahead of it but looks, and all behind it after it? -/
def firmP (ops : List Oper) (i : Nat) : Bool :=
  (List.range ops.length).all fun k => if k < i then tied ops.toArray 6 i k || atO lookO ops k else k == i || tied ops.toArray 6 k i || atO moveO ops k

/-- Is each operation that is not tied to the call one that may be done ahead of it or behind it? -/
def firmC (ops : List Oper) (i : Nat) : Bool :=
  (List.range ops.length).all fun k => if k < i then tied ops.toArray 6 i k || atO aheadO ops k else k == i || tied ops.toArray 6 k i || atO behindO ops k

def placeOfO (ops : List Oper) (o : Oper) : Nat := ops.findIdx fun x => x.dst == o.dst

/-- Is it an operation that need not be quiet? -/
def firm (ops : List Oper) (o : Oper) : Bool := (startO o.op && firmAt ops (placeOfO ops o)) || (callO o.op && firmC ops (placeOfO ops o)) || (appO o.op && firmP ops (placeOfO ops o))

/-- What is not covered is stuck. -/
def orStuck : Option COp → COp
  | some c => c
  | none => .stuck

def cOper (nt : Nat) (ops : List Oper) (o : Oper) : Option CO := bnd (cGuard ops o.guard) fun g =>
  if dstOk nt o.dst then some { dst := o.dst, guard := g, op := orStuck (cOp P o.type o.op), tl := firm ops o } else none

end

end Go.Abs
