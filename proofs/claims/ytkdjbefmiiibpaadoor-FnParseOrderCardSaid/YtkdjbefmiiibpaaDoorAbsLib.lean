/- Data of the program as Lean's own, and small laws for contracts. Own text. -/
import Derived.Test.YtkdjbefmiiibpaaDoorAbsEval
set_option linter.unusedVariables false
set_option linter.unusedSimpArgs false
namespace Go.Abs.L
open Go Go.Abs Go.Abs.E

/-- The rules that come first, in one. -/
theorem gZ : (∀ (X : Fns) (M : Modes) (nx i : Nat) (d : Option Nat) (rest : List CO) (sl : Sl) (hp : Hp) (K : Sl → Hp → Prop) (e : Option CallEff), gstepW X M true nx i d rest sl hp K e = stepW X M nx i d rest sl hp K e) ∧
    (∀ (X : Fns) (M : Modes) (nx i : Nat) (d : Option Nat) (rest : List CO) (sl : Sl) (hp : Hp) (K : Sl → Hp → Prop) (e : Option CallEff), gstepW X M false nx i d rest sl hp K e = opsW X M nx (i + 1) rest (putD sl d (.tup [])) hp K) ∧
    (∀ (X : Fns) (M : Modes) (nx i : Nat) (t : Bool) (d : Option Nat) (rest : List CO) (sl : Sl) (hp : Hp) (K : Sl → Hp → Prop) (e : Option CallEff), gstepDW X M true nx i t d rest sl hp K e = stepDW X M nx i t d rest sl hp K e) ∧
    (∀ (X : Fns) (M : Modes) (nx i : Nat) (t : Bool) (d : Option Nat) (rest : List CO) (sl : Sl) (hp : Hp) (K : Sl → Hp → Prop) (e : Option CallEff), gstepDW X M false nx i t d rest sl hp K e = opsDW X M nx (i + 1) false rest (putD sl d (.tup [])) hp K) ∧
    (∀ (hp : Hp) (ids : List Nat), (ids.filter fun i => isRow (lkp hp i)) = goneR hp ids) ∧ (∀ (hp : Hp) (ids : List Nat), (ids.any fun i => isDeep (lkp hp i)) = deepR hp ids) ∧
    (∀ (hp : Hp) (rs ids : List Nat), flatIds hp rs ids = flatR hp rs ids) :=
  ⟨fun X M _ _ _ _ _ _ _ _ => gA X M .., fun X M _ _ _ _ _ _ _ _ => gB X M .., fun X M _ _ _ _ _ _ _ _ _ => gC X M .., fun X M _ _ _ _ _ _ _ _ _ => gD X M .., gE, gG, gF⟩

/-! ## Numbers -/

theorem wrap64 {x : Int} (h1 : -9223372036854775808 ≤ x) (h2 : x < 9223372036854775808) : IntKind.i64.wrap x = x := by
  unfold IntKind.wrap
  simp only [IntKind.bits, IntKind.signed]
  simp
  split <;> omega

theorem wrap_succ {k : Nat} (h : k < 4611686018427387904) : IntKind.i64.wrap ((k : Int) + 1) = ((k + 1 : Nat) : Int) := by
  rw [wrap64 (by omega) (by omega)]; omega

@[go_sem] theorem wrap_0 : IntKind.i64.wrap 0 = 0 := wrap64 (by omega) (by omega)
@[go_sem] theorem wrap_1 : IntKind.i64.wrap 1 = 1 := wrap64 (by omega) (by omega)
@[go_sem] theorem wrap_2 : IntKind.i64.wrap 2 = 2 := wrap64 (by omega) (by omega)
@[go_sem] theorem wrap_3 : IntKind.i64.wrap 3 = 3 := wrap64 (by omega) (by omega)

def R64 (x : Int) : Prop := -9223372036854775808 ≤ x ∧ x < 9223372036854775808

theorem wi (x : Int) : -9223372036854775808 ≤ x → x < 9223372036854775808 → IntKind.i64.wrap x = x := fun h1 h2 => wrap64 h1 h2

theorem fin_b {p q : Prop} [Decidable p] [Decidable q] {h : List AObj} (e : p ↔ q) : ((AV.d (.bool (decide p)), h) : AV × List AObj) = (AV.d (.bool (decide q)), h) := by
  have : decide p = decide q := decide_eq_decide.2 e
  rw [this]
theorem fin_t {q : Prop} [Decidable q] {h : List AObj} (e : q) : ((AV.d (.bool true), h) : AV × List AObj) = (AV.d (.bool (decide q)), h) := by simp [e]
theorem fin_f {q : Prop} [Decidable q] {h : List AObj} (e : ¬ q) : ((AV.d (.bool false), h) : AV × List AObj) = (AV.d (.bool (decide q)), h) := by simp [e]

/-! ## Structs -/

structure Box where
  X : Int
  Y : Int
  W : Int
  H : Int
deriving DecidableEq, Inhabited

structure Pane where
  W : Int
  H : Int
  Turns : Bool
  Kind : Int
deriving DecidableEq, Inhabited

structure Line where
  Pane : Pane
  Count : Int
deriving DecidableEq, Inhabited

structure Work where
  W : Int
  H : Int
  Panes : List Pane
deriving DecidableEq, Inhabited

inductive Plan where
  | mk (Op At Pane : Int) (Turned : Bool) (Kids : List Plan)

structure Place where
  Pane : Int
  Turned : Bool
  Box : Box
deriving DecidableEq, Inhabited

structure Piece where
  Label : Int
  W : Int
  H : Int
  Flaws : List Box
deriving DecidableEq, Inhabited

structure Shop where
  Stock : List Piece
  Opn : List Line
  Done : List Line
  Lost : Int
  Came : Int
deriving DecidableEq, Inhabited

abbrev i64 (n : Int) : D := .int .i64 n
abbrev J (n : Int) : D := .int .i64 n

@[go_sem] def Box.enc (b : Box) : D := .agg [.int .i64 b.X, .int .i64 b.Y, .int .i64 b.W, .int .i64 b.H]
@[go_sem] def Pane.enc (p : Pane) : D := .agg [.int .i64 p.W, .int .i64 p.H, .bool p.Turns, .int .i64 p.Kind]
@[go_sem] def Line.enc (l : Line) : D := .agg [.int .i64 l.Pane.W, .int .i64 l.Pane.H, .bool l.Pane.Turns, .int .i64 l.Pane.Kind, .int .i64 l.Count]
@[go_sem] def Work.enc (k : Work) : D := .agg [.int .i64 k.W, .int .i64 k.H, .sl (k.Panes.map Pane.enc)]
@[go_sem] def Place.enc (p : Place) : D := .agg [.int .i64 p.Pane, .bool p.Turned, .int .i64 p.Box.X, .int .i64 p.Box.Y, .int .i64 p.Box.W, .int .i64 p.Box.H]
@[go_sem] def Piece.enc (p : Piece) : D := .agg [.int .i64 p.Label, .int .i64 p.W, .int .i64 p.H, .sl (p.Flaws.map Box.enc)]
@[go_sem] def Shop.enc (s : Shop) : D := .agg [.sl (s.Stock.map Piece.enc), .sl (s.Opn.map Line.enc), .sl (s.Done.map Line.enc), .int .i64 s.Lost, .int .i64 s.Came]
def encI (n : Int) : D := .int .i64 n
attribute [go_sem] encI

mutual
def Plan.enc : Plan → D
  | .mk o a p t ks => .agg [.int .i64 o, .int .i64 a, .int .i64 p, .bool t, .sl (Plan.encL ks)]
def Plan.encL : List Plan → List D
  | [] => []
  | p :: r => Plan.enc p :: Plan.encL r
end

theorem Plan.encL_map : ∀ (l : List Plan), Plan.encL l = l.map Plan.enc
  | [] => rfl
  | p :: r => by simp [Plan.encL, Plan.encL_map r]

@[go_sem] theorem Plan.enc_mk (o a p : Int) (t : Bool) (ks : List Plan) : Plan.enc (.mk o a p t ks) = .agg [.int .i64 o, .int .i64 a, .int .i64 p, .bool t, .sl (ks.map Plan.enc)] := by
  rw [Plan.enc, Plan.encL_map]

theorem uni_map {α : Type} {f : α → D} {s : Nat} (l : List α) (h : ∀ x, (f x).cells.length = s) : uni s (l.map f) := by
  intro y hy
  obtain ⟨x, _, rfl⟩ := List.mem_map.1 hy
  exact h x
theorem flat_map {α : Type} {f : α → D} (l : List α) (h : ∀ x, (f x).flat = true) : flatAll (l.map f) := by
  intro y hy
  obtain ⟨x, _, rfl⟩ := List.mem_map.1 hy
  exact h x
def encU (b : UInt8) : D := .int .u8 b.toNat
@[go_sem] theorem uni_encU (l : List UInt8) : uni 1 (l.map encU) = True := eq_true (uni_map l fun _ => rfl)
@[go_sem] theorem uni_encI (l : List Int) : uni 1 (l.map encI) = True := eq_true (uni_map l fun _ => rfl)
@[go_sem] theorem uni_Box (l : List Box) : uni 4 (l.map Box.enc) = True := eq_true (uni_map l fun _ => rfl)
@[go_sem] theorem uni_Pane (l : List Pane) : uni 4 (l.map Pane.enc) = True := eq_true (uni_map l fun _ => rfl)
@[go_sem] theorem uni_Line (l : List Line) : uni 5 (l.map Line.enc) = True := eq_true (uni_map l fun _ => rfl)
@[go_sem] theorem uni_Place (l : List Place) : uni 6 (l.map Place.enc) = True := eq_true (uni_map l fun _ => rfl)
@[go_sem] theorem uni_Piece (l : List Piece) : uni 4 (l.map Piece.enc) = True := eq_true (uni_map l fun _ => rfl)
@[go_sem] theorem flat_encU (l : List UInt8) : flatAll (l.map encU) = True := eq_true (flat_map l fun _ => rfl)
@[go_sem] theorem flat_encI (l : List Int) : flatAll (l.map encI) = True := eq_true (flat_map l fun _ => rfl)
@[go_sem] theorem flat_Box (l : List Box) : flatAll (l.map Box.enc) = True := eq_true (flat_map l fun _ => rfl)
@[go_sem] theorem flat_Pane (l : List Pane) : flatAll (l.map Pane.enc) = True := eq_true (flat_map l fun _ => rfl)
@[go_sem] theorem flat_Line (l : List Line) : flatAll (l.map Line.enc) = True := eq_true (flat_map l fun _ => rfl)
@[go_sem] theorem flat_Place (l : List Place) : flatAll (l.map Place.enc) = True := eq_true (flat_map l fun _ => rfl)
@[go_sem] theorem uni_cons (s : Nat) (x : D) (l : List D) : uni s (x :: l) = (x.cells.length = s ∧ uni s l) := by
  simp [uni]
@[go_sem] theorem uni_nil (s : Nat) : uni s [] = True := by simp [uni]
@[go_sem] theorem flat_cons (x : D) (l : List D) : flatAll (x :: l) = (x.flat = true ∧ flatAll l) := by
  simp [flatAll]
@[go_sem] theorem flat_nil : flatAll [] = True := by simp [flatAll]
@[go_sem] theorem take_map {α β : Type} (f : α → β) (l : List α) (i : Nat) : (l.map f).take i = (l.take i).map f := List.map_take.symm
@[go_sem] theorem drop_map {α β : Type} (f : α → β) (l : List α) (i : Nat) : (l.map f).drop i = (l.drop i).map f := List.map_drop.symm

/-! ## Numbers drawn -/

theorem xor_bound {x y : Int} (hx0 : 0 ≤ x) (hx : x < 4611686018427387904) (hy0 : 0 ≤ y) (hy : y < 4611686018427387904) :
    ∃ z : Int, 0 ≤ z ∧ z < 4611686018427387904 ∧ IntKind.i64.wrap ((BitVec.ofInt IntKind.i64.bits x ^^^ BitVec.ofInt IntKind.i64.bits y).toNat : Int) = z := by
  have h1 : (BitVec.ofInt IntKind.i64.bits x).toNat = x.toNat := by
    simp only [IntKind.bits, BitVec.toNat_ofInt]
    congr 1
    omega
  have h2 : (BitVec.ofInt IntKind.i64.bits y).toNat = y.toNat := by
    simp only [IntKind.bits, BitVec.toNat_ofInt]
    congr 1
    omega
  rw [BitVec.toNat_xor, h1, h2]
  have h3 : x.toNat ^^^ y.toNat < 2 ^ 62 := Nat.xor_lt_two_pow (by omega) (by omega)
  exact ⟨_, by omega, by omega, wrap64 (by omega) (by omega)⟩

/-! ## Boxes -/

def VB (b : Box) : Prop := 1 ≤ b.W ∧ b.W ≤ 200 ∧ 1 ≤ b.H ∧ b.H ≤ 200 ∧ 0 ≤ b.X ∧ b.X + b.W ≤ 200 ∧ 0 ≤ b.Y ∧ b.Y + b.H ≤ 200
instance (b : Box) : Decidable (VB b) := by unfold VB; infer_instance
def inside (a b : Box) : Prop := b.X ≤ a.X ∧ b.Y ≤ a.Y ∧ a.X + a.W ≤ b.X + b.W ∧ a.Y + a.H ≤ b.Y + b.H
instance (a b : Box) : Decidable (inside a b) := by unfold inside; infer_instance
/-- Two boxes have points in common. -/
def meets (a b : Box) : Prop := a.X < b.X + b.W ∧ b.X < a.X + a.W ∧ a.Y < b.Y + b.H ∧ b.Y < a.Y + a.H
instance (a b : Box) : Decidable (meets a b) := by unfold meets; infer_instance
def meetB (a b : Box) : Box := ⟨max a.X b.X, max a.Y b.Y, min (a.X + a.W) (b.X + b.W) - max a.X b.X, min (a.Y + a.H) (b.Y + b.H) - max a.Y b.Y⟩
def VP (p : Pane) : Prop := 1 ≤ p.W ∧ p.W ≤ 200 ∧ 1 ≤ p.H ∧ p.H ≤ 200 ∧ 0 ≤ p.Kind ∧ p.Kind ≤ 9
instance (p : Pane) : Decidable (VP p) := by unfold VP; infer_instance

/-! ## Lists -/

theorem get_lt {α : Type} {l : List α} {k : Nat} (h : k < l.length) : ∃ x, l[k]? = some x := ⟨l[k], by simp [h]⟩

theorem take_succ_eq {α : Type} {a b : List α} {k : Nat} {x y : α} (hx : a[k]? = some x) (hy : b[k]? = some y) (h : a.take k = b.take k) : (a.take (k + 1) = b.take (k + 1)) ↔ x = y := by
  rw [List.take_add_one, List.take_add_one, hx, hy, h]; simp

attribute [go_sem] Nat.lt_irrefl Int.lt_irrefl Nat.le_refl Int.le_refl List.length_map List.getElem?_map Int.toNat_natCast List.length_append

@[go_sem] theorem app_map {α β : Type} (f : α → β) (l m : List α) : l.map f ++ m.map f = (l ++ m).map f := List.map_append.symm
@[go_sem] theorem cast0 : ((0 : Nat) : Int) = 0 := rfl
@[go_sem] theorem cast1 : ((1 : Nat) : Int) = 1 := rfl
@[go_sem] theorem nat_nonneg (n : Nat) : (0 ≤ (n : Int)) = True := by simp
@[go_sem] theorem cast_lt (a b : Nat) : ((a : Int) < (b : Int)) = (a < b) := by simp
@[go_sem] theorem cast_le (a b : Nat) : ((a : Int) ≤ (b : Int)) = (a ≤ b) := by simp
@[go_sem] theorem cast_eq (a b : Nat) : ((a : Int) = (b : Int)) = (a = b) := by simp [Int.ofNat_inj]

@[go_sem] theorem Box.eta (b : Box) : Box.mk b.X b.Y b.W b.H = b := rfl
@[go_sem] theorem Pane.eta (b : Pane) : Pane.mk b.W b.H b.Turns b.Kind = b := rfl
@[go_sem] theorem Line.eta (b : Line) : Line.mk b.Pane b.Count = b := rfl
@[go_sem] theorem Place.eta (b : Place) : Place.mk b.Pane b.Turned b.Box = b := rfl
@[go_sem] theorem Piece.eta (b : Piece) : Piece.mk b.Label b.W b.H b.Flaws = b := rfl
@[go_sem] theorem Work.eta (b : Work) : Work.mk b.W b.H b.Panes = b := rfl
@[go_sem] theorem Shop.eta (b : Shop) : Shop.mk b.Stock b.Opn b.Done b.Lost b.Came = b := rfl

end Go.Abs.L
