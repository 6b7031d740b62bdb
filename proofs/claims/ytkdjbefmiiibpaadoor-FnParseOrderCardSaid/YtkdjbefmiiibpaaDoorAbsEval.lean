/- The abstract semantics as rewriting rules: what must hold for a code to come to a state of which something is true. Own text. -/
import Derived.Test.YtkdjbefmiiibpaaDoorAbsRun
set_option linter.unusedVariables false
set_option linter.unusedSimpArgs false
namespace Go.Abs.E
open Go Go.Abs

abbrev _root_.Go.Abs.Opd.i (n : Int) : Opd := .v (.d (.int .i64 n))
abbrev _root_.Go.Abs.Opd.b (x : Bool) : Opd := .v (.d (.bool x))

/-- It comes to something of which K holds. -/
def stW {α : Type} (x : Option α) (K : α → Prop) : Prop := match x with
  | some a => K a
  | none => False

def gW (x : Option Bool) (A B : Prop) : Prop := match x with
  | some b => (b = true → A) ∧ (b = false → B)
  | none => False

def condW (v : AV) (A B : Prop) : Prop := match v with
  | .d (.bool t) => (t = true → A) ∧ (t = false → B)
  | _ => False

theorem stW_some {α : Type} (a : α) (K : α → Prop) : stW (some a) K = K a := rfl
theorem stW_none {α : Type} (K : α → Prop) : stW none K = False := rfl
theorem stW_bnd {α β : Type} (x : Option α) (f : α → Option β) (K : β → Prop) : stW (bnd x f) K = stW x fun a => stW (f a) K := by cases x <;> rfl
@[go_sem] theorem gW_true (A B : Prop) : gW (some true) A B = A := by simp [gW]
@[go_sem] theorem gW_false (A B : Prop) : gW (some false) A B = B := by simp [gW]
@[go_sem] theorem gW_dec (p : Prop) [Decidable p] (A B : Prop) : gW (some (decide p)) A B = ((p → A) ∧ (¬ p → B)) := by simp [gW]
@[go_sem] theorem gW_not (b : Bool) (A B : Prop) : gW (some (!b)) A B = gW (some b) B A := by cases b <;> simp [gW]
theorem gW_some (b : Bool) (A B : Prop) : gW (some b) A B = ((b = true → A) ∧ (b = false → B)) := rfl
@[go_sem] theorem condW_true (A B : Prop) : condW (.d (.bool true)) A B = A := by simp [condW]
@[go_sem] theorem condW_false (A B : Prop) : condW (.d (.bool false)) A B = B := by simp [condW]
@[go_sem] theorem condW_dec (p : Prop) [Decidable p] (A B : Prop) : condW (.d (.bool (decide p))) A B = ((p → A) ∧ (¬ p → B)) := by simp [condW]
@[go_sem] theorem condW_not (b : Bool) (A B : Prop) : condW (.d (.bool (!b))) A B = condW (.d (.bool b)) B A := by cases b <;> simp [condW]
@[go_sem] theorem condW_and (a b : Bool) (A B : Prop) : condW (.d (.bool (a && b))) A B = condW (.d (.bool a)) (condW (.d (.bool b)) A B) B := by cases a <;> cases b <;> simp [condW]
@[go_sem] theorem condW_or (a b : Bool) (A B : Prop) : condW (.d (.bool (a || b))) A B = condW (.d (.bool a)) A (condW (.d (.bool b)) A B) := by cases a <;> cases b <;> simp [condW]
@[go_sem] theorem condW_bool (b : Bool) (A B : Prop) : condW (.d (.bool b)) A B = ((b = true → A) ∧ (b = false → B)) := rfl
@[congr] theorem gW_congr {x y : Option Bool} {A B : Prop} (h : x = y) : gW x A B = gW y A B := by rw [h]
@[congr] theorem condW_congr {v w : AV} {A B : Prop} (h : v = w) : condW v A B = condW w A B := by rw [h]

section
variable (X : Fns) (M : Modes)

noncomputable def opsW (nx : Nat) : Nat → List CO → Sl → Hp → (Sl → Hp → Prop) → Prop
  | _, [], sl, hp, K => K sl hp
  | i, o :: rest, sl, hp, K => gW (wantV sl o.guard)
      (stW (stepE (nx + 64 * i) o.dst sl hp (vop (vcall X M) M sl hp (nx + 64 * i) o.op)) fun r => opsW nx (i + 1) rest r.1 r.2 K)
      (opsW nx (i + 1) rest (putD sl o.dst (.tup [])) hp K)

def stepW (nx i : Nat) (d : Option Nat) (rest : List CO) (sl : Sl) (hp : Hp) (K : Sl → Hp → Prop) (e : Option CallEff) : Prop :=
  stW (stepE (nx + 64 * i) d sl hp e) fun r => opsW X M nx (i + 1) rest r.1 r.2 K

@[go_sem] theorem opsW_nil (nx i : Nat) (sl : Sl) (hp : Hp) (K : Sl → Hp → Prop) : opsW X M nx i [] sl hp K = K sl hp := rfl
@[go_sem] theorem opsW_cons (nx i : Nat) (d : Option Nat) (tl : Bool) (op : COp) (rest : List CO) (sl : Sl) (hp : Hp) (K : Sl → Hp → Prop) :
    opsW X M nx i (⟨d, none, op, tl⟩ :: rest) sl hp K = stepW X M nx i d rest sl hp K (vop (vcall X M) M sl hp (nx + 64 * i) op) := by
  simp [opsW, stepW, wantV, gW_true]
/-- A value, where something is so. -/
def iteV (b : Bool) (v : AV) : AV := if b then v else .tup []
def gstepW (b : Bool) (nx i : Nat) (d : Option Nat) (rest : List CO) (sl : Sl) (hp : Hp) (K : Sl → Hp → Prop) (e : Option CallEff) : Prop :=
  gW (some b) (stepW X M nx i d rest sl hp K e) (opsW X M nx (i + 1) rest (putD sl d (.tup [])) hp K)
def guardW (g : Option Bool) (nx i : Nat) (d : Option Nat) (op : COp) (rest : List CO) (sl : Sl) (hp : Hp) (K : Sl → Hp → Prop) : Prop :=
  gW g (stepW X M nx i d rest sl hp K (vop (vcall X M) M sl hp (nx + 64 * i) op)) (opsW X M nx (i + 1) rest (putD sl d (.tup [])) hp K)
@[go_sem] theorem opsW_guard (nx i g : Nat) (w : Bool) (d : Option Nat) (tl : Bool) (op : COp) (rest : List CO) (sl : Sl) (hp : Hp) (K : Sl → Hp → Prop) :
    opsW X M nx i (⟨d, some (g, w), op, tl⟩ :: rest) sl hp K = guardW X M (guardV w (gs sl g)) nx i d op rest sl hp K := rfl
@[go_sem] theorem guardW_some (b : Bool) (nx i : Nat) (d : Option Nat) (op : COp) (rest : List CO) (sl : Sl) (hp : Hp) (K : Sl → Hp → Prop) :
    guardW X M (some b) nx i d op rest sl hp K = gstepW X M b nx i d rest sl hp K (vop (vcall X M) M sl hp (nx + 64 * i) op) := rfl
@[go_sem] theorem gA (nx i : Nat) (d : Option Nat) (rest : List CO) (sl : Sl) (hp : Hp) (K : Sl → Hp → Prop) (e : Option CallEff) :
    gstepW X M true nx i d rest sl hp K e = stepW X M nx i d rest sl hp K e := by simp [gstepW, gW]
@[go_sem] theorem gB (nx i : Nat) (d : Option Nat) (rest : List CO) (sl : Sl) (hp : Hp) (K : Sl → Hp → Prop) (e : Option CallEff) :
    gstepW X M false nx i d rest sl hp K e = opsW X M nx (i + 1) rest (putD sl d (.tup [])) hp K := by simp [gstepW, gW]
@[go_sem] theorem gstepW_only1 (b : Bool) (nx i : Nat) (d : Option Nat) (rest : List CO) (sl : Sl) (hp : Hp) (K : Sl → Hp → Prop) (v : AV) :
    gstepW X M b nx i d rest sl hp K (only1 v) = opsW X M nx (i + 1) rest (putD sl d (iteV b v)) hp K := by
  cases b
  · simp [gstepW, gW, iteV]
  · simp only [gstepW, gW, iteV, if_true, true_implies, Bool.true_eq_false, false_implies, and_true]; rfl
@[go_sem] theorem gstepW_pure (b : Bool) (nx i : Nat) (d : Option Nat) (rest : List CO) (sl : Sl) (hp : Hp) (K : Sl → Hp → Prop) (v : AV) :
    gstepW X M b nx i d rest sl hp K (some { eff := { val := v, adds := [], sets := [], dels := [], frz := [] }, gone := [] }) = opsW X M nx (i + 1) rest (putD sl d (iteV b v)) hp K := gstepW_only1 X M b nx i d rest sl hp K v
@[congr] theorem guardW_congr {g g' : Option Bool} {nx i : Nat} {d : Option Nat} {op : COp} {rest : List CO} {sl : Sl} {hp : Hp} {K : Sl → Hp → Prop} (h : g = g') :
    guardW X M g nx i d op rest sl hp K = guardW X M g' nx i d op rest sl hp K := by rw [h]
@[congr] theorem gstepW_congr {b b' : Bool} {nx i : Nat} {d : Option Nat} {rest : List CO} {sl : Sl} {hp : Hp} {K : Sl → Hp → Prop} {e e' : Option CallEff} (hb : b = b') (h : b' = true → e = e') :
    gstepW X M b nx i d rest sl hp K e = gstepW X M b' nx i d rest sl hp K e' := by
  subst hb
  cases b
  · simp [gstepW, gW]
  · rw [h rfl]
@[go_sem] theorem stepW_only1 (nx i : Nat) (d : Option Nat) (rest : List CO) (sl : Sl) (hp : Hp) (K : Sl → Hp → Prop) (v : AV) :
    stepW X M nx i d rest sl hp K (only1 v) = opsW X M nx (i + 1) rest (putD sl d v) hp K := rfl
@[go_sem] theorem stepW_pure (nx i : Nat) (d : Option Nat) (rest : List CO) (sl : Sl) (hp : Hp) (K : Sl → Hp → Prop) (v : AV) :
    stepW X M nx i d rest sl hp K (some { eff := { val := v, adds := [], sets := [], dels := [], frz := [] }, gone := [] }) = opsW X M nx (i + 1) rest (putD sl d v) hp K := rfl
@[go_sem] theorem stepW_some (nx i : Nat) (d : Option Nat) (rest : List CO) (sl : Sl) (hp : Hp) (K : Sl → Hp → Prop) (e : CallEff) :
    stepW X M nx i d rest sl hp K (some e) = (okAdds (nx + 64 * i) (nx + 64 * i + 64) e.eff.adds = true ∧ opsW X M nx (i + 1) rest (putD (strike e.gone sl) d e.eff.val) (e.eff.on (strikeO e.gone hp)) K) := by
  unfold stepW stepE
  rw [bnd_some]
  split <;> rename_i h
  · simp only [stW_some, h, true_and]; rfl
  · simp only [stW_none, h, false_and, Bool.false_eq_true]
@[go_sem] theorem stepW_none (nx i : Nat) (d : Option Nat) (rest : List CO) (sl : Sl) (hp : Hp) (K : Sl → Hp → Prop) : stepW X M nx i d rest sl hp K none = False := rfl
@[go_sem] theorem stepW_ite (nx i : Nat) (d : Option Nat) (rest : List CO) (sl : Sl) (hp : Hp) (K : Sl → Hp → Prop) (c : Prop) [Decidable c] (a b : Option CallEff) :
    stepW X M nx i d rest sl hp K (if c then a else b) = ((c → stepW X M nx i d rest sl hp K a) ∧ (¬ c → stepW X M nx i d rest sl hp K b)) := by
  by_cases h : c <;> simp [h]

noncomputable def opsDW (nx : Nat) : Nat → Bool → List CO → Sl → Hp → (Sl → Hp → Prop) → Prop
  | _, _, [], sl, hp, K => K sl hp
  | i, tail, o :: rest, sl, hp, K => gW (wantV sl o.guard)
      (stW (stepE (nx + 64 * i) o.dst sl hp (vopD (vcall X M) M nx i (CO.starts o) o.op sl hp)) fun r => opsDW nx (i + 1) tail rest r.1 r.2 K)
      (opsDW nx (i + 1) tail rest (putD sl o.dst (.tup [])) hp K)

def stepDW (nx i : Nat) (t : Bool) (d : Option Nat) (rest : List CO) (sl : Sl) (hp : Hp) (K : Sl → Hp → Prop) (e : Option CallEff) : Prop :=
  stW (stepE (nx + 64 * i) d sl hp (if t then e else quietE e)) fun r => opsDW X M nx (i + 1) false rest r.1 r.2 K

@[go_sem] theorem opsDW_nil (nx i : Nat) (t : Bool) (sl : Sl) (hp : Hp) (K : Sl → Hp → Prop) : opsDW X M nx i t [] sl hp K = K sl hp := rfl
@[go_sem] theorem opsDW_cons (nx i : Nat) (d : Option Nat) (tl : Bool) (op : COp) (rest : List CO) (sl : Sl) (hp : Hp) (K : Sl → Hp → Prop) :
    opsDW X M nx i false (⟨d, none, op, tl⟩ :: rest) sl hp K = stepDW X M nx i (isStore op || tl) d rest sl hp K (vop (vcall X M) M sl hp (nx + 64 * i) op) := by
  simp [opsDW, stepDW, wantV, gW_true, vopD, CO.starts]
def gstepDW (b : Bool) (nx i : Nat) (t : Bool) (d : Option Nat) (rest : List CO) (sl : Sl) (hp : Hp) (K : Sl → Hp → Prop) (e : Option CallEff) : Prop :=
  gW (some b) (stepDW X M nx i t d rest sl hp K e) (opsDW X M nx (i + 1) false rest (putD sl d (.tup [])) hp K)
def guardDW (g : Option Bool) (nx i : Nat) (t : Bool) (d : Option Nat) (op : COp) (rest : List CO) (sl : Sl) (hp : Hp) (K : Sl → Hp → Prop) : Prop :=
  gW g (stepDW X M nx i t d rest sl hp K (vop (vcall X M) M sl hp (nx + 64 * i) op)) (opsDW X M nx (i + 1) false rest (putD sl d (.tup [])) hp K)
@[go_sem] theorem opsDW_guard (nx i g : Nat) (w : Bool) (d : Option Nat) (tl : Bool) (op : COp) (rest : List CO) (sl : Sl) (hp : Hp) (K : Sl → Hp → Prop) :
    opsDW X M nx i false (⟨d, some (g, w), op, tl⟩ :: rest) sl hp K = guardDW X M (guardV w (gs sl g)) nx i (isStore op || tl) d op rest sl hp K := rfl
@[go_sem] theorem guardDW_some (b : Bool) (nx i : Nat) (t : Bool) (d : Option Nat) (op : COp) (rest : List CO) (sl : Sl) (hp : Hp) (K : Sl → Hp → Prop) :
    guardDW X M (some b) nx i t d op rest sl hp K = gstepDW X M b nx i t d rest sl hp K (vop (vcall X M) M sl hp (nx + 64 * i) op) := rfl
@[go_sem] theorem gC (nx i : Nat) (t : Bool) (d : Option Nat) (rest : List CO) (sl : Sl) (hp : Hp) (K : Sl → Hp → Prop) (e : Option CallEff) :
    gstepDW X M true nx i t d rest sl hp K e = stepDW X M nx i t d rest sl hp K e := by simp [gstepDW, gW]
@[go_sem] theorem gD (nx i : Nat) (t : Bool) (d : Option Nat) (rest : List CO) (sl : Sl) (hp : Hp) (K : Sl → Hp → Prop) (e : Option CallEff) :
    gstepDW X M false nx i t d rest sl hp K e = opsDW X M nx (i + 1) false rest (putD sl d (.tup [])) hp K := by simp [gstepDW, gW]
@[go_sem] theorem gstepDW_only1 (b : Bool) (nx i : Nat) (t : Bool) (d : Option Nat) (rest : List CO) (sl : Sl) (hp : Hp) (K : Sl → Hp → Prop) (v : AV) :
    gstepDW X M b nx i t d rest sl hp K (only1 v) = opsDW X M nx (i + 1) false rest (putD sl d (iteV b v)) hp K := by
  cases b
  · simp [gstepDW, gW, iteV]
  · simp only [gstepDW, gW, iteV, if_true, true_implies, Bool.true_eq_false, false_implies, and_true]; cases t <;> rfl
@[go_sem] theorem gstepDW_pure (b : Bool) (nx i : Nat) (t : Bool) (d : Option Nat) (rest : List CO) (sl : Sl) (hp : Hp) (K : Sl → Hp → Prop) (v : AV) :
    gstepDW X M b nx i t d rest sl hp K (some { eff := { val := v, adds := [], sets := [], dels := [], frz := [] }, gone := [] }) = opsDW X M nx (i + 1) false rest (putD sl d (iteV b v)) hp K := gstepDW_only1 X M b nx i t d rest sl hp K v
@[congr] theorem guardDW_congr {g g' : Option Bool} {nx i : Nat} {t t' : Bool} {d : Option Nat} {op : COp} {rest : List CO} {sl : Sl} {hp : Hp} {K : Sl → Hp → Prop} (h : g = g') (ht : t = t') :
    guardDW X M g nx i t d op rest sl hp K = guardDW X M g' nx i t' d op rest sl hp K := by rw [h, ht]
@[congr] theorem gstepDW_congr {b b' : Bool} {nx i : Nat} {t : Bool} {d : Option Nat} {rest : List CO} {sl : Sl} {hp : Hp} {K : Sl → Hp → Prop} {e e' : Option CallEff} (hb : b = b') (h : b' = true → e = e') :
    gstepDW X M b nx i t d rest sl hp K e = gstepDW X M b' nx i t d rest sl hp K e' := by
  subst hb
  cases b
  · simp [gstepDW, gW]
  · rw [h rfl]
@[go_sem] theorem stepDW_only1 (nx i : Nat) (t : Bool) (d : Option Nat) (rest : List CO) (sl : Sl) (hp : Hp) (K : Sl → Hp → Prop) (v : AV) :
    stepDW X M nx i t d rest sl hp K (only1 v) = opsDW X M nx (i + 1) false rest (putD sl d v) hp K := by cases t <;> rfl
@[go_sem] theorem stepDW_pure (nx i : Nat) (t : Bool) (d : Option Nat) (rest : List CO) (sl : Sl) (hp : Hp) (K : Sl → Hp → Prop) (v : AV) :
    stepDW X M nx i t d rest sl hp K (some { eff := { val := v, adds := [], sets := [], dels := [], frz := [] }, gone := [] }) = opsDW X M nx (i + 1) false rest (putD sl d v) hp K := by cases t <;> rfl
@[go_sem] theorem stepDW_some (nx i : Nat) (t : Bool) (d : Option Nat) (rest : List CO) (sl : Sl) (hp : Hp) (K : Sl → Hp → Prop) (e : CallEff) :
    stepDW X M nx i t d rest sl hp K (some e) = ((t = false → quietC e e.gone e.eff.sets e.eff.dels e.eff.frz = some e) ∧ okAdds (nx + 64 * i) (nx + 64 * i + 64) e.eff.adds = true ∧ opsDW X M nx (i + 1) false rest (putD (strike e.gone sl) d e.eff.val) (e.eff.on (strikeO e.gone hp)) K) := by
  have key : stW (stepE (nx + 64 * i) d sl hp (some e)) (fun r => opsDW X M nx (i + 1) false rest r.1 r.2 K) = (okAdds (nx + 64 * i) (nx + 64 * i + 64) e.eff.adds = true ∧ opsDW X M nx (i + 1) false rest (putD (strike e.gone sl) d e.eff.val) (e.eff.on (strikeO e.gone hp)) K) := by
    unfold stepE
    rw [bnd_some]
    split <;> rename_i h
    · simp only [stW_some, h, true_and]; rfl
    · simp only [stW_none, h, false_and, Bool.false_eq_true]
  unfold stepDW
  cases t with
  | true => simp only [if_true]; rw [key]; simp
  | false =>
    simp only [Bool.false_eq_true, if_false, quietE, bnd_some, true_implies]
    unfold quietC
    split
    · rw [key]; simp
    · simp [stepE, bnd, stW]
@[go_sem] theorem stepDW_none (nx i : Nat) (t : Bool) (d : Option Nat) (rest : List CO) (sl : Sl) (hp : Hp) (K : Sl → Hp → Prop) : stepDW X M nx i t d rest sl hp K none = False := by cases t <;> rfl
@[go_sem] theorem stepDW_ite (nx i : Nat) (t : Bool) (d : Option Nat) (rest : List CO) (sl : Sl) (hp : Hp) (K : Sl → Hp → Prop) (c : Prop) [Decidable c] (a b : Option CallEff) :
    stepDW X M nx i t d rest sl hp K (if c then a else b) = ((c → stepDW X M nx i t d rest sl hp K a) ∧ (¬ c → stepDW X M nx i t d rest sl hp K b)) := by
  by_cases h : c <;> simp [h]
@[go_sem] theorem quietC_ok (c : CallEff) : quietC c [] [] [] [] = some c := rfl

/-- A code comes to its end in a way of which Q holds. -/
def W (c : CCode) (st : St) (Q : Ex → St → Prop) : Prop := stW (vrunL X M c st) fun r => Q r.1 r.2

@[congr] theorem W_congr {c : CCode} {st st' : St} {Q : Ex → St → Prop} (h : st = st') : W X M c st Q = W X M c st' Q := by rw [h]
@[congr] theorem opsW_congr {rest : List CO} {nx nx' i i' : Nat} {sl sl' : Sl} {hp hp' : Hp} {K : Sl → Hp → Prop} (hn : nx = nx') (hi : i = i') (h : sl = sl') (h' : hp = hp') :
    opsW X M nx i rest sl hp K = opsW X M nx' i' rest sl' hp' K := by rw [h, h', hn, hi]
@[congr] theorem opsDW_congr {rest : List CO} {nx nx' i i' : Nat} {t t' : Bool} {sl sl' : Sl} {hp hp' : Hp} {K : Sl → Hp → Prop} (hn : nx = nx') (hi : i = i') (ht : t = t') (h : sl = sl') (h' : hp = hp') :
    opsDW X M nx i t rest sl hp K = opsDW X M nx' i' t' rest sl' hp' K := by rw [h, h', ht, hn, hi]
@[congr] theorem stepW_congr {rest : List CO} {nx i : Nat} {d : Option Nat} {sl : Sl} {hp : Hp} {K : Sl → Hp → Prop} {e e' : Option CallEff} (h : e = e') :
    stepW X M nx i d rest sl hp K e = stepW X M nx i d rest sl hp K e' := by rw [h]
@[congr] theorem stepDW_congr {rest : List CO} {nx i : Nat} {t t' : Bool} {d : Option Nat} {sl : Sl} {hp : Hp} {K : Sl → Hp → Prop} {e e' : Option CallEff} (ht : t = t') (h : e = e') :
    stepDW X M nx i t d rest sl hp K e = stepDW X M nx i t' d rest sl hp K e' := by rw [h, ht]

theorem opsW_eq (nx : Nat) (K : Sl → Hp → Prop) : ∀ (l : List CO) (i : Nat) (sl : Sl) (hp : Hp), opsW X M nx i l sl hp K = stW (vops (vcall X M) M nx i l sl hp) fun r => K r.1 r.2 := by
  intro l
  induction l with
  | nil => intro i sl hp; rfl
  | cons o rest ih =>
    intro i sl hp
    simp only [opsW, vops, ih, stW_bnd]
    cases wantV sl o.guard with
    | none => rfl
    | some b => cases b <;> simp [gW, stW_bnd, stW_some]

theorem opsDW_eq (nx : Nat) (K : Sl → Hp → Prop) : ∀ (l : List CO) (i : Nat) (t : Bool) (sl : Sl) (hp : Hp), opsDW X M nx i t l sl hp K = stW (vopsD (vcall X M) M nx i t l sl hp) fun r => K r.1 r.2 := by
  intro l
  induction l with
  | nil => intro i t sl hp; rfl
  | cons o rest ih =>
    intro i t sl hp
    simp only [opsDW, vopsD, ih, stW_bnd]
    cases wantV sl o.guard with
    | none => rfl
    | some b => cases b <;> simp [gW, stW_bnd, stW_some]

def regQ (m nx : Nat) (Q : Ex → St → Prop) (sl : Sl) (hp : Hp) : Prop := Q .normal { sl := sl, hp := hp, nx := nx, m := m }
def seenQ (ops : List CO) (ps : List (Nat × Nat)) (K : Sl → Hp → Prop) (sl : Sl) (hp : Hp) : Prop := seenAll ops sl ps = true ∧ K sl hp
@[go_sem] theorem regQ_eq (m nx : Nat) (Q : Ex → St → Prop) (sl : Sl) (hp : Hp) : regQ m nx Q sl hp = Q .normal { sl := sl, hp := hp, nx := nx, m := m } := rfl
@[go_sem] theorem seenQ_eq (ops : List CO) (ps : List (Nat × Nat)) (K : Sl → Hp → Prop) (sl : Sl) (hp : Hp) : seenQ ops ps K sl hp = (seenAll ops sl ps = true ∧ K sl hp) := rfl

@[go_sem] theorem W_skip (st : St) (Q : Ex → St → Prop) : W X M .skip st Q = Q .normal st := by simp [W, vrunL_skip, stW_some]
@[go_sem] theorem W_ret (st : St) (Q : Ex → St → Prop) : W X M .ret st Q = Q .ret st := by simp [W, vrunL_ret, stW_some]
@[go_sem] theorem W_exit (id : Nat) (st : St) (Q : Ex → St → Prop) : W X M (.exit id) st Q = Q (.exit id) st := by simp [W, vrunL_exit, stW_some]
@[go_sem] theorem W_stuck (st : St) (Q : Ex → St → Prop) : W X M .stuck st Q = False := by
  have h : vrunL X M .stuck st = none := lim_none fun n => by simp only [vrun]
  simp only [W, h, stW_none]
@[go_sem] theorem W_region (n : Nat) (ops : List CO) (st : St) (Q : Ex → St → Prop) :
    W X M (.region n none ops) st Q = opsW X M st.nx 0 ops st.sl st.hp (regQ st.m (st.nx + 64 * n) Q) := by
  rw [opsW_eq, W, vrunL_region, regK, stW_bnd]; rfl
theorem W_draw (n : Nat) (ps : List (Nat × Nat)) (ops : List CO) (st : St) (Q : Ex → St → Prop) :
    W X M (.region n (some ps) ops) st Q = opsDW X M st.nx 0 false ops st.sl st.hp (seenQ ops ps (regQ st.m (st.nx + 64 * n) Q)) := by
  rw [opsDW_eq, W, vrunL_draw, regK, stW_bnd, seenR, stW_bnd]
  congr 1
  funext r
  by_cases h : seenAll ops r.1 ps = true <;> simp [h, seenQ, stW_some, stW_none, regQ]
@[go_sem] theorem W_draw0 (n : Nat) (ops : List CO) (st : St) (Q : Ex → St → Prop) :
    W X M (.region n (some []) ops) st Q = opsDW X M st.nx 0 false ops st.sl st.hp (regQ st.m (st.nx + 64 * n) Q) := by
  rw [W_draw]
  congr 1
  funext sl hp
  simp [seenQ, seenAll]

@[go_sem] theorem W_drawc (n : Nat) (p : Nat × Nat) (ps : List (Nat × Nat)) (ops : List CO) (st : St) (Q : Ex → St → Prop) :
    W X M (.region n (some (p :: ps)) ops) st Q = opsDW X M st.nx 0 false ops st.sl st.hp (seenQ ops (p :: ps) (regQ st.m (st.nx + 64 * n) Q)) := W_draw X M n _ ops st Q

/-- What follows, where the first code ends in the ordinary way. -/
def thenQ (c : CCode) (Q : Ex → St → Prop) : Ex → St → Prop
  | .normal, st => W X M c st Q
  | e, st => Q e st

def blkQ (id : Nat) (Q : Ex → St → Prop) : Ex → St → Prop
  | .exit j, st => if j = id then Q .normal st else Q (.exit j) st
  | e, st => Q e st

@[go_sem] theorem thenQ_normal (c : CCode) (Q : Ex → St → Prop) (st : St) : thenQ X M c Q .normal st = W X M c st Q := rfl
@[go_sem] theorem thenQ_ret (c : CCode) (Q : Ex → St → Prop) (st : St) : thenQ X M c Q .ret st = Q .ret st := rfl
@[go_sem] theorem thenQ_exit (c : CCode) (Q : Ex → St → Prop) (id : Nat) (st : St) : thenQ X M c Q (.exit id) st = Q (.exit id) st := rfl
@[go_sem] theorem blkQ_normal (id : Nat) (Q : Ex → St → Prop) (st : St) : blkQ id Q .normal st = Q .normal st := rfl
@[go_sem] theorem blkQ_ret (id : Nat) (Q : Ex → St → Prop) (st : St) : blkQ id Q .ret st = Q .ret st := rfl
@[go_sem] theorem blkQ_exit (id j : Nat) (Q : Ex → St → Prop) (st : St) : blkQ id Q (.exit j) st = if j = id then Q .normal st else Q (.exit j) st := rfl

@[go_sem] theorem W_seq (a b : CCode) (st : St) (Q : Ex → St → Prop) : W X M (.seq a b) st Q = W X M a st (thenQ X M b Q) := by
  unfold W
  rw [vrunL_seq]
  cases h : vrunL X M a st with
  | none => rfl
  | some r => obtain ⟨e, st'⟩ := r; cases e <;> rfl

@[go_sem] theorem W_cond (c : Opd) (a b : CCode) (st : St) (Q : Ex → St → Prop) :
    W X M (.cond c a b) st Q = condW (evO st.sl c) (W X M a st Q) (W X M b st Q) := by
  unfold W
  rw [vrunL_cond]
  cases h : evO st.sl c with
  | d x => cases x with
    | bool t => cases t <;> simp [condV, condW]
    | _ => rfl
  | _ => rfl

@[go_sem] theorem W_block (id : Nat) (c : CCode) (st : St) (Q : Ex → St → Prop) : W X M (.block id c) st Q = W X M c st (blkQ id Q) := by
  unfold W
  rw [vrunL_block]
  cases h : vrunL X M c st with
  | none => rfl
  | some r =>
    obtain ⟨e, st'⟩ := r
    cases e with
    | exit j => by_cases hj : j = id <;> simp [inBlk, hj, stW_some, blkQ]
    | normal => rfl
    | ret => rfl

/-- What follows, the slots that are kept alone. -/
def keepQ (K : List Nat) (Q : Ex → St → Prop) (e : Ex) (st : St) : Prop := Q e { sl := only K st.sl, hp := st.hp, nx := st.nx, m := st.m }
@[go_sem] theorem keepQ_eq (K : List Nat) (Q : Ex → St → Prop) (e : Ex) (st : St) : keepQ K Q e st = Q e { sl := only K st.sl, hp := st.hp, nx := st.nx, m := st.m } := rfl
@[go_sem] theorem W_keep (K : List Nat) (c : CCode) (st : St) (Q : Ex → St → Prop) : W X M (.keep K c) st Q = W X M c st (keepQ K Q) := by
  unfold W
  rw [vrunL_keep]
  cases h : vrunL X M c st with
  | none => rfl
  | some r => rfl

/-- What follows, where a nested row's header has a name. -/
def linkW (c : CCode) (Q : Ex → St → Prop) (r : Option St) : Prop := stW r fun st => W X M c st Q
@[go_sem] theorem linkW_some (c : CCode) (Q : Ex → St → Prop) (st : St) : linkW X M c Q (some st) = W X M c st Q := rfl
@[go_sem] theorem linkW_none (c : CCode) (Q : Ex → St → Prop) : linkW X M c Q none = False := rfl
@[go_sem] theorem linkW_ite (c : CCode) (Q : Ex → St → Prop) (p : Prop) [Decidable p] (a b : Option St) : linkW X M c Q (if p then a else b) = ((p → linkW X M c Q a) ∧ (¬ p → linkW X M c Q b)) := by
  by_cases h : p <;> simp [h]
@[go_sem] theorem W_link (id : Nat) (i : Opd) (j : Nat) (c : CCode) (st : St) (Q : Ex → St → Prop) : W X M (.link id i j c) st Q = linkW X M c Q (linkSt id i j st) := by
  unfold W linkW
  rw [vrunL_link]
  cases h : linkSt id i j st <;> rfl
@[go_sem] theorem W_melt (c : CCode) (st : St) (Q : Ex → St → Prop) : W X M (.melt c) st Q = W X M c { sl := st.sl, hp := mapV meltO st.hp, nx := st.nx, m := st.m } Q := by
  unfold W
  rw [vrunL_melt]; rfl

/-- A loop: from a state at its head. -/
def LW (c : CCode) (K : List Nat) (st : St) (Q : Ex → St → Prop) : Prop := stW (vloopL X M c K st) fun r => Q r.1 r.2

@[congr] theorem LW_congr {c : CCode} {K K' : List Nat} {st st' : St} {Q : Ex → St → Prop} (hk : K = K') (h : st = st') : LW X M c K st Q = LW X M c K' st' Q := by rw [h, hk]

@[go_sem] theorem W_loop (c : CCode) (st : St) (Q : Ex → St → Prop) : W X M (.loop c) st Q = LW X M c (keysOf st.sl) st Q := by
  unfold W LW; rw [vrunL_loop]

def nextQ (c : CCode) (K : List Nat) (Q : Ex → St → Prop) : Ex → St → Prop
  | .normal, st => LW X M c K st Q
  | e, st => Q e st

@[go_sem] theorem nextQ_normal (c : CCode) (K : List Nat) (Q : Ex → St → Prop) (st : St) : nextQ X M c K Q .normal st = LW X M c K st Q := rfl
@[go_sem] theorem nextQ_ret (c : CCode) (K : List Nat) (Q : Ex → St → Prop) (st : St) : nextQ X M c K Q .ret st = Q .ret st := rfl
@[go_sem] theorem nextQ_exit (c : CCode) (K : List Nat) (Q : Ex → St → Prop) (id : Nat) (st : St) : nextQ X M c K Q (.exit id) st = Q (.exit id) st := rfl

/-- One round. -/
theorem LW_round {c : CCode} {K : List Nat} {st : St} {Q : Ex → St → Prop} (h : W X M c (canon K st) (nextQ X M c K Q)) : LW X M c K st Q := by
  unfold W at h
  cases hv : vrunL X M c (canon K st) with
  | none => rw [hv] at h; exact h.elim
  | some r =>
    rw [hv] at h
    obtain ⟨e, st'⟩ := r
    unfold LW
    cases e with
    | normal => rw [vloopL_next X M hv]; exact h
    | exit id => rw [vloopL_out X M (by simp) hv]; exact h
    | ret => rw [vloopL_out X M (by simp) hv]; exact h

/-- Slots that are told anew. -/
def over (sl : Sl) : Sl → Sl
  | [] => sl
  | (k, v) :: r => over (ins sl k v) r

def overH (hp : Hp) : Hp → Hp
  | [] => hp
  | (k, o) :: r => overH (ins hp k o) r

/-- A loop: states at its head are told by something that becomes less. -/
theorem LW_ind {α : Type} (S : α → St) (I : α → Prop) (μ : α → Nat) {c : CCode} {K : List Nat} {Q : Ex → St → Prop}
    (step : ∀ a, I a → (∀ b st, I b → μ b < μ a → canon K st = S b → LW X M c K st Q) → W X M c (S a) (nextQ X M c K Q)) :
    ∀ a st, I a → canon K st = S a → LW X M c K st Q := by
  have key : ∀ n a st, μ a = n → I a → canon K st = S a → LW X M c K st Q := by
    intro n
    induction n using Nat.strongRecOn with
    | ind n ih =>
      intro a st hn ha hs
      refine LW_round X M ?_
      rw [hs]
      exact step a ha fun b st' hb hlt hs' => ih (μ b) (by omega) b st' rfl hb hs'
  exact fun a st ha hs => key _ a st rfl ha hs

/-- The same, the states told by the slots and objects that are turned. -/
theorem LW_over {α : Type} (u : α → Sl) (uh : α → Hp) (I : α → Prop) (μ : α → Nat) (a : α) {c : CCode} {K : List Nat} {Q : Ex → St → Prop} {st st0 : St}
    (hc : canon K st = st0) (ha : I a) (h0 : (⟨over st0.sl (u a), overH st0.hp (uh a), st0.nx, st0.m⟩ : St) = st0)
    (step : ∀ a, I a → (∀ b st, I b → μ b < μ a → canon K st = ⟨over st0.sl (u b), overH st0.hp (uh b), st0.nx, st0.m⟩ → LW X M c K st Q) → W X M c ⟨over st0.sl (u a), overH st0.hp (uh a), st0.nx, st0.m⟩ (nextQ X M c K Q)) :
    LW X M c K st Q :=
  LW_ind X M (fun a => ⟨over st0.sl (u a), overH st0.hp (uh a), st0.nx, st0.m⟩) I μ step a st ha (hc.trans h0.symm)

/-- A body's end. -/
def endQ (m : Nat) (rs : List CRes) (R : AV × List AObj → Prop) : Ex → St → Prop := fun e st => stW (resK m rs (some (e, st))) R

def resW (m : Nat) (hp : Hp) (R : AV × List AObj → Prop) (vs : Option (List AV)) : Prop := stW vs fun vs => R (handBack m hp (oneOf vs))

@[go_sem] theorem resW_some (m : Nat) (hp : Hp) (R : AV × List AObj → Prop) (vs : List AV) : resW m hp R (some vs) = R (handBack m hp (oneOf vs)) := rfl
@[go_sem] theorem resW_none (m : Nat) (hp : Hp) (R : AV × List AObj → Prop) : resW m hp R none = False := rfl
@[go_sem] theorem endQ_ret (m : Nat) (rs : List CRes) (R : AV × List AObj → Prop) (st : St) : endQ m rs R .ret st = resW m st.hp R (mapO (resv st) rs) := by
  simp only [endQ, resK, stW_bnd]; rfl
@[go_sem] theorem endQ_normal (m : Nat) (rs : List CRes) (R : AV × List AObj → Prop) (st : St) : endQ m rs R .normal st = resW m st.hp R (mapO (resv st) rs) := by
  simp only [endQ, resK, stW_bnd]; rfl

/-- A call comes to something of which R holds. -/
theorem callW {f : Nat} {as : List AV} {h : List AObj} (fn : CFun) {R : AV × List AObj → Prop} (hx : X f = some (.text fn)) (hl : as.length ≤ fn.nt)
    (hr : W X M fn.body { sl := numbV 0 as, hp := numb 0 h, nx := h.length, m := h.length } (endQ h.length fn.res R)) : ∃ r, vcall X M f as h = some r ∧ R r := by
  unfold W at hr
  cases hv : vrunL X M fn.body { sl := numbV 0 as, hp := numb 0 h, nx := h.length, m := h.length } with
  | none => rw [hv] at hr; exact hr.elim
  | some q =>
    rw [hv] at hr
    obtain ⟨e, st⟩ := q
    simp only [stW_some, endQ] at hr
    cases hk : resK h.length fn.res (some (e, st)) with
    | none => rw [hk] at hr; exact hr.elim
    | some r => rw [hk] at hr; exact ⟨r, vcall_of X M hx hl (by rw [hv]; exact hk), hr⟩

theorem callE {f : Nat} {as : List AV} {h : List AObj} (fn : CFun) {r : AV × List AObj} (hx : X f = some (.text fn)) (hl : as.length ≤ fn.nt)
    (hr : W X M fn.body { sl := numbV 0 as, hp := numb 0 h, nx := h.length, m := h.length } (endQ h.length fn.res fun q => q = r)) : vcall X M f as h = some r := by
  obtain ⟨q, hq, rfl⟩ := callW X M fn hx hl hr
  exact hq

end

/-! ## Operations -/

@[go_sem] theorem vopE_move (C : Orc) (M : Modes) (sl : Sl) (hp : Hp) (base : Nat) (x : Opd) : vop C M sl hp base (.move x) = only1 (evO sl x) := by simp only [vop]
@[go_sem] theorem vopE_assign (C : Orc) (M : Modes) (sl : Sl) (hp : Hp) (base : Nat) (s : Option Nat) (x : Opd) : vop C M sl hp base (.assign s x) = assignV base s (evO sl x) := by simp only [vop]
@[go_sem] theorem vopE_pick (C : Orc) (M : Modes) (sl : Sl) (hp : Hp) (base : Nat) (c a b : Opd) : vop C M sl hp base (.pick c a b) = pickV (evO sl a) (evO sl b) (evO sl c) := by simp only [vop]
@[go_sem] theorem vopE_alloc (C : Orc) (M : Modes) (sl : Sl) (hp : Hp) (base : Nat) (slc : List (Option Nat)) (cs : List AV) : vop C M sl hp base (.alloc slc cs) = allocV slc base cs := by simp only [vop]
@[go_sem] theorem vopE_box (C : Orc) (M : Modes) (sl : Sl) (hp : Hp) (base : Nat) (x : Opd) : vop C M sl hp base (.box x) = boxV base (evO sl x) := by simp only [vop]
@[go_sem] theorem vopE_build (C : Orc) (M : Modes) (sl : Sl) (hp : Hp) (base : Nat) (zs : List AV) (ps : List (Nat × Nat × Opd)) : vop C M sl hp base (.build zs ps) = buildV zs (evP sl ps) := by simp only [vop]
@[go_sem] theorem vopE_buildSl (C : Orc) (M : Modes) (sl : Sl) (hp : Hp) (base : Nat) (s : Nat) (xs : List Opd) : vop C M sl hp base (.buildSl s xs) = buildSl hp base s (evL sl xs) := by simp only [vop]
@[go_sem] theorem vopE_load (C : Orc) (M : Modes) (sl : Sl) (hp : Hp) (base : Nat) (g : Bool) (s : Nat) (a : Opd) : vop C M sl hp base (.load g s a) = opt1 (loadv hp g s (evO sl a)) := by simp only [vop]
@[go_sem] theorem vopE_store (C : Orc) (M : Modes) (sl : Sl) (hp : Hp) (base : Nat) (slc : List (Option Nat)) (s : Nat) (a x : Opd) : vop C M sl hp base (.store slc s a x) = effs (storev hp slc s base (evO sl x).cells (evO sl a)) := by simp only [vop]
@[go_sem] theorem vopE_nilCheck (C : Orc) (M : Modes) (sl : Sl) (hp : Hp) (base : Nat) (x : Opd) : vop C M sl hp base (.nilCheck x) = notNil (evO sl x) := by simp only [vop]
@[go_sem] theorem vopE_bin (C : Orc) (M : Modes) (sl : Sl) (hp : Hp) (base : Nat) (op : BinOp) (eq : Bool) (x y : Opd) : vop C M sl hp base (.bin op eq x y) = binV op eq (evO sl x) (evO sl y) := by simp only [vop]
@[go_sem] theorem vopE_un (C : Orc) (M : Modes) (sl : Sl) (hp : Hp) (base : Nat) (op : UnOp) (x : Opd) : vop C M sl hp base (.un op x) = opt1 (vun op (evO sl x)) := by simp only [vop]
@[go_sem] theorem vopE_eqA (C : Orc) (M : Modes) (sl : Sl) (hp : Hp) (base : Nat) (neg : Bool) (ks : List Nat) (x y : Opd) : vop C M sl hp base (.eqA neg ks x y) = eqAV neg ks (evO sl x) (evO sl y) := by simp only [vop]
@[go_sem] theorem vopE_convI (C : Orc) (M : Modes) (sl : Sl) (hp : Hp) (base : Nat) (k : IntKind) (x : Opd) : vop C M sl hp base (.convI k x) = convI k (evO sl x) := by simp only [vop]
@[go_sem] theorem vopE_convS (C : Orc) (M : Modes) (sl : Sl) (hp : Hp) (base : Nat) (x : Opd) : vop C M sl hp base (.convS x) = convS (evO sl x) := by simp only [vop]
@[go_sem] theorem vopE_fn (C : Orc) (M : Modes) (sl : Sl) (hp : Hp) (base : Nat) (f : Nat) (cs : List Opd) : vop C M sl hp base (.fn f cs) = opt1 (cloV f (evL sl cs)) := by simp only [vop]
@[go_sem] theorem vopE_make (C : Orc) (M : Modes) (sl : Sl) (hp : Hp) (base : Nat) (s b : Nat) (z : D) (l c : Opd) : vop C M sl hp base (.make s b z l c) = bnd (idx (evO sl l)) fun l => bnd (idx (evO sl c)) fun c => makeV base s b z l c := by simp only [vop]
@[go_sem] theorem vopE_slice (C : Orc) (M : Modes) (sl : Sl) (hp : Hp) (base : Nat) (s : Nat) (x : Opd) (lo hi : Option Opd) : vop C M sl hp base (.slice s x lo hi) = opt1 (slicev hp s (evM sl lo) (evM sl hi) (evO sl x)) := by simp only [vop]
@[go_sem] theorem vopE_sliceS (C : Orc) (M : Modes) (sl : Sl) (hp : Hp) (base : Nat) (x : Opd) (lo hi : Option Opd) : vop C M sl hp base (.sliceS x lo hi) = opt1 (sliceS (evM sl lo) (evM sl hi) (evO sl x)) := by simp only [vop]
@[go_sem] theorem vopE_slice0 (C : Orc) (M : Modes) (sl : Sl) (hp : Hp) (base : Nat) (x hi mx : Opd) : vop C M sl hp base (.slice0 x hi mx) = opt1 (slice0 hp (evO sl x) (idx (evO sl hi)) (idx (evO sl mx))) := by simp only [vop]
@[go_sem] theorem vopE_shift (C : Orc) (M : Modes) (sl : Sl) (hp : Hp) (base : Nat) (off : Nat) (x : Opd) : vop C M sl hp base (.shift off x) = shiftP off (evO sl x) := by simp only [vop]
@[go_sem] theorem vopE_part (C : Orc) (M : Modes) (sl : Sl) (hp : Hp) (base : Nat) (g : Bool) (s off : Nat) (x : Opd) : vop C M sl hp base (.part g s off x) = opt1 (partv g s off (evO sl x)) := by simp only [vop]
@[go_sem] theorem vopE_iaS (C : Orc) (M : Modes) (sl : Sl) (hp : Hp) (base : Nat) (s : Nat) (x i : Opd) : vop C M sl hp base (.iaS s x i) = bnd (idx (evO sl i)) fun n => slcAt hp s (evO sl x) n := by simp only [vop]
@[go_sem] theorem vopE_iaA (C : Orc) (M : Modes) (sl : Sl) (hp : Hp) (base : Nat) (len s : Nat) (x i : Opd) : vop C M sl hp base (.iaA len s x i) = bnd (idx (evO sl i)) fun n => arrAt (evO sl x) n len s := by simp only [vop]
@[go_sem] theorem vopE_ixS (C : Orc) (M : Modes) (sl : Sl) (hp : Hp) (base : Nat) (x i : Opd) : vop C M sl hp base (.ixS x i) = bnd (idx (evO sl i)) fun n => ixSV n (evO sl x) := by simp only [vop]
@[go_sem] theorem vopE_ixA (C : Orc) (M : Modes) (sl : Sl) (hp : Hp) (base : Nat) (g : Bool) (s len : Nat) (x i : Opd) : vop C M sl hp base (.ixA g s len x i) = bnd (idx (evO sl i)) fun n => elAt g s len n (evO sl x) := by simp only [vop]
@[go_sem] theorem vopE_nth (C : Orc) (M : Modes) (sl : Sl) (hp : Hp) (base : Nat) (i : Nat) (x : Opd) : vop C M sl hp base (.nth i x) = nthV i (evO sl x) := by simp only [vop]
@[go_sem] theorem vopE_len (C : Orc) (M : Modes) (sl : Sl) (hp : Hp) (base : Nat) (x : Opd) : vop C M sl hp base (.len x) = bnd (vlen hp (evO sl x)) fun n => only1 (.d (.int .i64 n)) := by simp only [vop]
@[go_sem] theorem vopE_lenS (C : Orc) (M : Modes) (sl : Sl) (hp : Hp) (base : Nat) (x : Opd) : vop C M sl hp base (.lenS x) = bnd (slen (evO sl x)) fun n => only1 (.d (.int .i64 n)) := by simp only [vop]
@[go_sem] theorem vopE_append (C : Orc) (M : Modes) (sl : Sl) (hp : Hp) (base : Nat) (s b : Nat) (str flat : Bool) (x y : Opd) : vop C M sl hp base (.append s b str flat x y) = appV hp s b str flat base (evO sl x) (evO sl y) := by simp only [vop]
@[go_sem] theorem vopE_min (C : Orc) (M : Modes) (sl : Sl) (hp : Hp) (base : Nat) (x y : Opd) : vop C M sl hp base (.min x y) = min2V (evO sl x) (evO sl y) := by simp only [vop]
@[go_sem] theorem vopE_max (C : Orc) (M : Modes) (sl : Sl) (hp : Hp) (base : Nat) (x y : Opd) : vop C M sl hp base (.max x y) = max2V (evO sl x) (evO sl y) := by simp only [vop]
@[go_sem] theorem vopE_call (C : Orc) (M : Modes) (sl : Sl) (hp : Hp) (base : Nat) (f : Opd) (as : List Opd) : vop C M sl hp base (.call f as) = callOf C M hp base (evL sl as) (evO sl f) := by simp only [vop]
@[go_sem] theorem vopE_slice3 (C : Orc) (M : Modes) (sl : Sl) (hp : Hp) (base : Nat) (s : Nat) (x lo hi mx : Opd) : vop C M sl hp base (.slice3 s x lo hi mx) = opt1 (slice3 hp (evO sl x) (idx (evO sl lo)) (idx (evO sl hi)) (idx (evO sl mx))) := by simp only [vop]
@[go_sem] theorem vopE_clear (C : Orc) (M : Modes) (sl : Sl) (hp : Hp) (base : Nat) (s : Nat) (z : D) (x : Opd) : vop C M sl hp base (.clear s z x) = effs (clearv hp s z (evO sl x)) := by simp only [vop]
@[go_sem] theorem vopE_buildDp (C : Orc) (M : Modes) (sl : Sl) (hp : Hp) (base : Nat) (s n : Nat) (xs : List Opd) : vop C M sl hp base (.buildDp s n xs) = buildDp hp base s n (evL sl xs) := by simp only [vop]
@[go_sem] theorem vopE_appDp (C : Orc) (M : Modes) (sl : Sl) (hp : Hp) (base : Nat) (s b : Nat) (f : Bool) (x y : Opd) : vop C M sl hp base (.appDp s b f x y) = appD hp s b base (evO sl x) (evO sl y) := by simp only [vop]
@[go_sem] theorem vopE_asgDp (C : Orc) (M : Modes) (sl : Sl) (hp : Hp) (base : Nat) (s n : Nat) (x : Opd) : vop C M sl hp base (.asgDp s n x) = asgDp base s n (evO sl x) := by simp only [vop]
@[go_sem] theorem vopE_stuck (C : Orc) (M : Modes) (sl : Sl) (hp : Hp) (base : Nat) : vop C M sl hp base .stuck = none := by simp only [vop]

/-! ## Shorter ways -/

@[go_sem] theorem reach_nil (hp : Hp) (n : Nat) (acc : List Nat) : reach hp n [] acc = acc := by cases n <;> rfl
@[go_sem] theorem tidy_d (hp : Hp) (ids : List Nat) (x : D) : tidy hp ids (.d x) = .d x := rfl
@[go_sem] theorem tidy_nil (hp : Hp) (ids : List Nat) : tidy hp ids .nil = .nil := rfl
@[go_sem] theorem tidy_junk (hp : Hp) (ids : List Nat) : tidy hp ids .junk = .junk := rfl
@[go_sem] theorem tidy_tup (hp : Hp) (ids : List Nat) (vs : List AV) : tidy hp ids (.tup vs) = ren (posOf ids) (kill (dead hp ids (refs (.tup vs))) (.tup vs)) := rfl
@[go_sem] theorem tidy_agg (hp : Hp) (ids : List Nat) (vs : List AV) : tidy hp ids (.agg vs) = ren (posOf ids) (kill (dead hp ids (refs (.agg vs))) (.agg vs)) := rfl
@[go_sem] theorem tidy_clo (hp : Hp) (ids : List Nat) (f : Nat) (vs : List AV) : tidy hp ids (.clo f vs) = ren (posOf ids) (kill (dead hp ids (refs (.clo f vs))) (.clo f vs)) := rfl
@[go_sem] theorem tidy_nilp (hp : Hp) (ids : List Nat) : tidy hp ids .nilp = .nilp := rfl
@[go_sem] theorem tidy_nili (hp : Hp) (ids : List Nat) : tidy hp ids .nili = .nili := rfl
@[go_sem] theorem tidy_pim (hp : Hp) (ids : List Nat) (cs : List D) : tidy hp ids (.pim cs) = .pim cs := rfl
@[go_sem] theorem tidy_ptr (hp : Hp) (ids : List Nat) (id o : Nat) : tidy hp ids (.ptr id o) = if liveIn hp ids id = true then .ptr (posOf ids id) o else .junk := by
  simp only [tidy, refs, refs2, refs1, dead]
  split <;> simp [kill, kill2, kill1, ren, ren2, ren1]
@[go_sem] theorem tidy_prow (hp : Hp) (ids : List Nat) (id s i o : Nat) : tidy hp ids (.prow id s i o) = if liveIn hp ids id = true then .prow (posOf ids id) s i o else .junk := by
  simp only [tidy, refs, refs2, refs1, dead]
  split <;> simp [kill, kill2, kill1, ren, ren2, ren1]
@[go_sem] theorem tidy_own (hp : Hp) (ids : List Nat) (id : Nat) : tidy hp ids (.own id) = if liveIn hp ids id = true then .own (posOf ids id) else .junk := by
  simp only [tidy, refs, refs2, refs1, dead]
  split <;> simp [kill, kill2, kill1, ren, ren2, ren1]
@[go_sem] theorem tidy_ownv (hp : Hp) (ids : List Nat) (id a b : Nat) : tidy hp ids (.ownv id a b) = if liveIn hp ids id = true then .ownv (posOf ids id) a b else .junk := by
  simp only [tidy, refs, refs2, refs1, dead]
  split <;> simp [kill, kill2, kill1, ren, ren2, ren1]
@[go_sem] theorem handBack_d (hp : Hp) (x : D) : handBack 0 hp (.d x) = (.d x, []) := by
  simp [handBack, refs, refs2, refs1, orefsOf, reach_nil, tidy_d, lkpL]
@[go_sem] theorem minI_eq (a b : Int) : minI a b = min a b := by unfold minI; split <;> omega
@[go_sem] theorem maxI_eq (a b : Int) : maxI a b = max a b := by unfold maxI; split <;> omega
@[go_sem] theorem negIf_f (r : Bool) : negIf false r = r := rfl
@[go_sem] theorem negIf_t (r : Bool) : negIf true r = !r := rfl
@[go_sem] theorem opt1_some (v : AV) : opt1 (some v) = only1 v := rfl
@[go_sem] theorem opt1_none : opt1 none = none := rfl
@[go_sem] theorem vbin_int (op : BinOp) (k k' : IntKind) (a b : Int) : vbin op (.d (.int k a)) (.d (.int k' b)) = int2 op k k' a b := rfl
@[go_sem] theorem binV_int (op : BinOp) (eq : Bool) (k k' : IntKind) (a b : Int) : binV op eq (.d (.int k a)) (.d (.int k' b)) = opt1 (int2 op k k' a b) := rfl
@[go_sem] theorem binV_str (op : BinOp) (eq : Bool) (a b : List UInt8) : binV op eq (.d (.str a)) (.d (.str b)) = opt1 (asD (sbin op a b)) := rfl
@[go_sem] theorem int2_add (k : IntKind) (a b : Int) : int2 .add k k a b = some (.d (.int k (k.wrap (a + b)))) := by simp [int2, ibin, asD, bnd_some]
@[go_sem] theorem int2_sub (k : IntKind) (a b : Int) : int2 .sub k k a b = some (.d (.int k (k.wrap (a - b)))) := by simp [int2, ibin, asD, bnd_some]
@[go_sem] theorem int2_mul (k : IntKind) (a b : Int) : int2 .mul k k a b = some (.d (.int k (k.wrap (a * b)))) := by simp [int2, ibin, asD, bnd_some]
@[go_sem] theorem int2_quo (k : IntKind) (a b : Int) : int2 .quo k k a b = if b = 0 then none else some (.d (.int k (k.wrap (a.tdiv b)))) := by simp only [int2, ibin, asD, if_true]; split <;> rfl
@[go_sem] theorem int2_rem (k : IntKind) (a b : Int) : int2 .rem k k a b = if b = 0 then none else some (.d (.int k (a.tmod b))) := by simp only [int2, ibin, asD, if_true]; split <;> rfl
@[go_sem] theorem int2_eql (k : IntKind) (a b : Int) : int2 .eql k k a b = some (.d (.bool (decide (a = b)))) := by simp [int2, ibin, asD, bnd_some, BEq.beq]
@[go_sem] theorem int2_neq (k : IntKind) (a b : Int) : int2 .neq k k a b = some (.d (.bool (!decide (a = b)))) := by simp [int2, ibin, asD, bnd_some, bne, BEq.beq]
@[go_sem] theorem int2_lss (k : IntKind) (a b : Int) : int2 .lss k k a b = some (.d (.bool (decide (a < b)))) := by simp [int2, ibin, asD, bnd_some]
@[go_sem] theorem int2_leq (k : IntKind) (a b : Int) : int2 .leq k k a b = some (.d (.bool (decide (a ≤ b)))) := by simp [int2, ibin, asD, bnd_some]
@[go_sem] theorem int2_gtr (k : IntKind) (a b : Int) : int2 .gtr k k a b = some (.d (.bool (decide (b < a)))) := by simp [int2, ibin, asD, bnd_some]
@[go_sem] theorem int2_geq (k : IntKind) (a b : Int) : int2 .geq k k a b = some (.d (.bool (decide (b ≤ a)))) := by simp [int2, ibin, asD, bnd_some]
@[go_sem] theorem guardV_t (b : Bool) : guardV true (.d (.bool b)) = some b := by cases b <;> rfl
/-- Not so, as a guard tells it. -/
def nb (b : Bool) : Bool := !b
@[go_sem] theorem nb_true : nb true = false := rfl
@[go_sem] theorem nb_false : nb false = true := rfl
@[go_sem] theorem nb_eq (b : Bool) : (nb b = true) = (b = false) := by cases b <;> simp [nb]
@[go_sem] theorem guardV_f (b : Bool) : guardV false (.d (.bool b)) = some (nb b) := by cases b <;> rfl
@[go_sem] theorem guardV_tup (w : Bool) : guardV w (.tup []) = some false := rfl
@[go_sem] theorem guardV_ite_t (a b : Bool) : guardV true (iteV a (.d (.bool b))) = some (a && b) := by cases a <;> cases b <;> rfl
@[go_sem] theorem guardV_ite_f (a b : Bool) : guardV false (iteV a (.d (.bool b))) = some (a && nb b) := by cases a <;> cases b <;> rfl
@[go_sem] theorem iteV_true (v : AV) : iteV true v = v := rfl
@[go_sem] theorem iteV_false (v : AV) : iteV false v = .tup [] := rfl
@[go_sem] theorem pickV_true (a b : AV) : pickV a b (.d (.bool true)) = only1 a := rfl
@[go_sem] theorem pickV_false (a b : AV) : pickV a b (.d (.bool false)) = only1 b := rfl
@[go_sem] theorem pickV_or (b c : Bool) : pickV (.d (.bool true)) (iteV (nb b) (.d (.bool c))) (.d (.bool b)) = only1 (.d (.bool (b || c))) := by cases b <;> rfl
@[go_sem] theorem pickV_and (b c : Bool) : pickV (iteV b (.d (.bool c))) (.d (.bool false)) (.d (.bool b)) = only1 (.d (.bool (b && c))) := by cases b <;> rfl
theorem pickV_bool (a b : AV) (t : Bool) : pickV a b (.d (.bool t)) = if t = true then only1 a else only1 b := by cases t <;> rfl
@[go_sem] theorem dec_or (p q : Prop) [Decidable p] [Decidable q] : (decide p || decide q) = decide (p ∨ q) := by simp
@[go_sem] theorem dec_and (p q : Prop) [Decidable p] [Decidable q] : (decide p && decide q) = decide (p ∧ q) := by simp
@[go_sem] theorem dec_not (p : Prop) [Decidable p] : (!decide p) = decide (¬ p) := by simp
attribute [go_sem] Bool.or_eq_false_iff decide_eq_true_eq decide_eq_false_iff_not Bool.and_eq_true Bool.or_eq_true Bool.not_eq_true' Bool.not_eq_false' not_or Decidable.not_not 
@[go_sem] theorem evO_t (sl : Sl) (n : Nat) : evO sl (.t n) = gs sl n := rfl
@[go_sem] theorem evO_v (sl : Sl) (a : AV) : evO sl (.v a) = a := rfl
@[go_sem] theorem evO_f (sl : Sl) (n : Nat) : evO sl (.f n) = .clo n [] := rfl
@[go_sem] theorem gs_hit (k : Nat) (v : AV) (r : Sl) : gs ((k, v) :: r) k = v := by simp [gs, lkp, orJunk]
@[go_sem] theorem gs_cons (k t : Nat) (v : AV) (r : Sl) : gs ((k, v) :: r) t = if k = t then v else gs r t := by
  by_cases h : k = t <;> simp [gs, lkp, h, orJunk]
@[go_sem] theorem gs_nil (t : Nat) : gs [] t = .junk := rfl

/-! ## Equations of the semantics, as rules -/
attribute [go_sem] allD.eq_1 allD.eq_2
attribute [go_sem] orefs.eq_1 orefs.eq_2 orefs.eq_3
attribute [go_sem] oren.eq_1 oren.eq_2 oren.eq_3
attribute [go_sem] allB.eq_1 allB.eq_2
attribute [go_sem] St.hp.eq_1
attribute [go_sem] rows1.eq_1 rows1.eq_2 rows1.eq_3
attribute [go_sem] orJunk.eq_1 orJunk.eq_2
attribute [go_sem] agg2.eq_1 agg2.eq_2 agg2.eq_3
attribute [go_sem] ins.eq_1 ins.eq_2
attribute [go_sem] rowsOf.eq_1 rowsOf.eq_2
attribute [go_sem] noBuf.eq_1 noBuf.eq_2 noBuf.eq_3
attribute [go_sem] St.m.eq_1
attribute [go_sem] bnd.eq_1 bnd.eq_2
attribute [go_sem] elemsOf.eq_1 elemsOf.eq_2 elemsOf.eq_3
attribute [go_sem] sbin.eq_1 sbin.eq_2 sbin.eq_3 sbin.eq_4
attribute [go_sem] AV.cells.eq_1 AV.cells.eq_2 AV.cells.eq_3 AV.cells.eq_4 AV.cells.eq_5 AV.cells.eq_6 AV.cells.eq_7 AV.cells.eq_8 AV.cells.eq_9 AV.cells.eq_10 AV.cells.eq_11 AV.cells.eq_12 AV.cells.eq_13 AV.cells.eq_14 AV.cells.eq_15 AV.cells.eq_16
attribute [go_sem] kill1.eq_1 kill1.eq_2 kill1.eq_3 kill1.eq_4 kill1.eq_5 kill1.eq_6 kill1.eq_7
attribute [go_sem] AV.solid.eq_1 AV.solid.eq_2 AV.solid.eq_3 AV.solid.eq_4
attribute [go_sem] giveL.eq_1 giveL.eq_2
attribute [go_sem] mapO.eq_1 mapO.eq_2
attribute [go_sem] setElem.eq_1 setElem.eq_2
attribute [go_sem] mkAgg.eq_1
attribute [go_sem] vlen.eq_1 vlen.eq_2 vlen.eq_3 vlen.eq_4 vlen.eq_5
attribute [go_sem] killLk.eq_1 killLk.eq_2
attribute [go_sem] D.flat.eq_1
attribute [go_sem] give.eq_1 give.eq_2
attribute [go_sem] D.beq1.eq_1 D.beq1.eq_2 D.beq1.eq_3 D.beq1.eq_4
attribute [go_sem] ren1.eq_1 ren1.eq_2 ren1.eq_3 ren1.eq_4 ren1.eq_5 ren1.eq_6 ren1.eq_7
attribute [go_sem] not1.eq_1 not1.eq_2
attribute [go_sem] okill.eq_1 okill.eq_2 okill.eq_3
attribute [go_sem] St.nx.eq_1
attribute [go_sem] refs2.eq_1 refs2.eq_2 refs2.eq_3
attribute [go_sem] ren2.eq_1 ren2.eq_2 ren2.eq_3
attribute [go_sem] elemsEx.eq_1 elemsEx.eq_2
attribute [go_sem] vun.eq_1 vun.eq_2 vun.eq_3
attribute [go_sem] toD.eq_1 toD.eq_2
attribute [go_sem] refs1.eq_1 refs1.eq_2 refs1.eq_3 refs1.eq_4 refs1.eq_5 refs1.eq_6 refs1.eq_7 refs1.eq_8 refs1.eq_9 refs1.eq_10 refs1.eq_11 refs1.eq_12 refs1.eq_13 refs1.eq_14 refs1.eq_15 refs1.eq_16
attribute [go_sem] D.plain.eq_1 D.plain.eq_2 D.plain.eq_3 D.plain.eq_4 D.plain.eq_5
attribute [go_sem] splice.eq_1
attribute [go_sem] kill2.eq_1 kill2.eq_2 kill2.eq_3
attribute [go_sem] mkAggOf.eq_1 mkAggOf.eq_2
attribute [go_sem] refs.eq_1 refs.eq_2
attribute [go_sem] strMax.eq_1
attribute [go_sem] mapV.eq_1 mapV.eq_2
attribute [go_sem] give1.eq_1 give1.eq_2 give1.eq_3 give1.eq_4
attribute [go_sem] St.sl.eq_1
attribute [go_sem] slen.eq_1 slen.eq_2
attribute [go_sem] giveAll.eq_1 giveAll.eq_2
attribute [go_sem] anyClo.eq_1 anyClo.eq_2
attribute [go_sem] ren.eq_1 ren.eq_2
attribute [go_sem] kill.eq_1 kill.eq_2
attribute [go_sem] lkp.eq_1 lkp.eq_2
attribute [go_sem] bool2.eq_1 bool2.eq_2 bool2.eq_3
attribute [go_sem] allSolid.eq_1 allSolid.eq_2
attribute [go_sem] beqL.eq_1 beqL.eq_2 beqL.eq_3
attribute [go_sem] D.cells.eq_1 D.cells.eq_2 D.cells.eq_3 D.cells.eq_4 D.cells.eq_5
attribute [go_sem] datum1.eq_1 datum1.eq_2
attribute [go_sem] isClo.eq_1 isClo.eq_2
attribute [go_sem] neg1.eq_1 neg1.eq_2
attribute [go_sem] ishift.eq_1 ishift.eq_2 ishift.eq_3
attribute [go_sem] freeze1.eq_1 freeze1.eq_2 freeze1.eq_3
attribute [go_sem] asD.eq_1
attribute [go_sem] ibin.eq_1 ibin.eq_2 ibin.eq_3 ibin.eq_4 ibin.eq_5 ibin.eq_6 ibin.eq_7 ibin.eq_8 ibin.eq_9 ibin.eq_10 ibin.eq_11 ibin.eq_12 ibin.eq_13 ibin.eq_14 ibin.eq_15 ibin.eq_16 ibin.eq_17
attribute [go_sem] toD1.eq_1 toD1.eq_2 toD1.eq_3 toD1.eq_4 toD1.eq_5
attribute [go_sem] D.one.eq_1 D.one.eq_2 D.one.eq_3 D.one.eq_4 D.one.eq_5
attribute [go_sem] freeze.eq_1 freeze.eq_2
attribute [go_sem] loadCs.eq_1
attribute [go_sem] loOf.eq_1 loOf.eq_2
attribute [go_sem] Eff.on.eq_1
attribute [go_sem] loadBox.eq_1 loadBox.eq_2
attribute [go_sem] cloV.eq_1
attribute [go_sem] slice0.eq_1 slice0.eq_2
attribute [go_sem] evM.eq_1 evM.eq_2
attribute [go_sem] hiOf.eq_1 hiOf.eq_2
attribute [go_sem] partv.eq_1 partv.eq_2 partv.eq_3
attribute [go_sem] pimOf.eq_1
attribute [go_sem] idx.eq_1 idx.eq_2
attribute [go_sem] slicev.eq_1 slicev.eq_2 slicev.eq_3 slicev.eq_4 slicev.eq_5
attribute [go_sem] ptrsV.eq_1 ptrsV.eq_2 ptrsV.eq_3
attribute [go_sem] delAll.eq_1 delAll.eq_2
attribute [go_sem] D.notSl.eq_1 D.notSl.eq_2
attribute [go_sem] bndsV.eq_1 bndsV.eq_2
attribute [go_sem] clean1.eq_1 clean1.eq_2 clean1.eq_3 clean1.eq_4 clean1.eq_5 clean1.eq_6
attribute [go_sem] CO.guard.eq_1
attribute [go_sem] effs.eq_1
attribute [go_sem] handOver.eq_1
attribute [go_sem] storeRow.eq_1 storeRow.eq_2
attribute [go_sem] loadElem.eq_1
attribute [go_sem] Eff.adds.eq_1
attribute [go_sem] posOf.eq_1 posOf.eq_2
attribute [go_sem] insAll.eq_1 insAll.eq_2
attribute [go_sem] CallEff.eff.eq_1
attribute [go_sem] nilArg.eq_1 nilArg.eq_2
attribute [go_sem] ixSV.eq_1 ixSV.eq_2
attribute [go_sem] hasNil.eq_1 hasNil.eq_2 hasNil.eq_3
attribute [go_sem] del.eq_1 del.eq_2
attribute [go_sem] buildV.eq_1
attribute [go_sem] plainD.eq_1 plainD.eq_2
attribute [go_sem] sliceView.eq_1 sliceView.eq_2
attribute [go_sem] max2V.eq_1 max2V.eq_2
attribute [go_sem] notNil.eq_1 notNil.eq_2 notNil.eq_3 notNil.eq_4 notNil.eq_5
attribute [go_sem] allocV.eq_1
attribute [go_sem] slice3.eq_1
attribute [go_sem] sliceRow.eq_1 sliceRow.eq_2
attribute [go_sem] args.eq_1 args.eq_2
attribute [go_sem] deepOf.eq_1 deepOf.eq_2
attribute [go_sem] min2V.eq_1 min2V.eq_2
attribute [go_sem] isDeep.eq_1 isDeep.eq_2
attribute [go_sem] callIds.eq_1
attribute [go_sem] deep1.deepRow.eq_1 deep1.deepRow.eq_2
attribute [go_sem] appView.eq_1 appView.eq_2
attribute [go_sem] nestedAt.eq_1
attribute [go_sem] evL.eq_1 evL.eq_2
attribute [go_sem] loadRow.eq_1 loadRow.eq_2 loadRow.eq_3
attribute [go_sem] lkpL.eq_1 lkpL.eq_2
attribute [go_sem] srcStr.eq_1 srcStr.eq_2
attribute [go_sem] Eff.sets.eq_1
attribute [go_sem] clean2.eq_1 clean2.eq_2 clean2.eq_3
attribute [go_sem] norm1.eq_1 norm1.eq_2
attribute [go_sem] loadDeep.eq_1
attribute [go_sem] clearRow.eq_1 clearRow.eq_2
attribute [go_sem] storev.eq_1 storev.eq_2 storev.eq_3
attribute [go_sem] elAt.eq_1
attribute [go_sem] appD.eq_1
attribute [go_sem] appMelt.eq_1 appMelt.eq_2
attribute [go_sem] isBld.eq_1 isBld.eq_2
attribute [go_sem] appRow.eq_1 appRow.eq_2
attribute [go_sem] eqOffs.eq_1 eqOffs.eq_2
attribute [go_sem] makeV.eq_1
attribute [go_sem] buildDp.eq_1 buildDp.eq_2
attribute [go_sem] AV.atom.eq_1 AV.atom.eq_2 AV.atom.eq_3 AV.atom.eq_4 AV.atom.eq_5
attribute [go_sem] appV.eq_1
attribute [go_sem] Eff.dels.eq_1
attribute [go_sem] addrRow.eq_1 addrRow.eq_2 addrRow.eq_3
attribute [go_sem] mat.eq_1 mat.eq_2 mat.eq_3
attribute [go_sem] roomMax.eq_1
attribute [go_sem] addsOf.eq_1 addsOf.eq_2
attribute [go_sem] subOf.eq_1 subOf.eq_2
attribute [go_sem] bnds.eq_1
attribute [go_sem] boxV.eq_1
attribute [go_sem] appendv.eq_1
attribute [go_sem] indexAddrv.eq_1 indexAddrv.eq_2 indexAddrv.eq_3 indexAddrv.eq_4
attribute [go_sem] rowV.eq_1
attribute [go_sem] storeBox.eq_1 storeBox.eq_2
attribute [go_sem] cBin2.eq_1 cBin2.eq_2
attribute [go_sem] appOn.eq_1 appOn.eq_2 appOn.eq_3 appOn.eq_4
attribute [go_sem] orElse.eq_1 orElse.eq_2
attribute [go_sem] argRow.eq_1 argRow.eq_2
attribute [go_sem] srcOf.eq_1 srcOf.eq_2 srcOf.eq_3 srcOf.eq_4 srcOf.eq_5
attribute [go_sem] srcRow.eq_1 srcRow.eq_2
attribute [go_sem] allocC.eq_1
attribute [go_sem] deepSrc.eq_1 deepSrc.eq_2
attribute [go_sem] convS.eq_1 convS.eq_2
attribute [go_sem] appSelf.eq_1 appSelf.eq_2
attribute [go_sem] CO.tl.eq_1
attribute [go_sem] isRow.eq_1 isRow.eq_2 isRow.eq_3
attribute [go_sem] CO.dst.eq_1
attribute [go_sem] teOf.eq_1
attribute [go_sem] cBin.eq_1 cBin.eq_2 cBin.eq_3
attribute [go_sem] appEff.eq_1
attribute [go_sem] appSub.eq_1 appSub.eq_2
attribute [go_sem] deep1.eq_1 deep1.eq_2 deep1.eq_3 deep1.eq_4
attribute [go_sem] objOr.eq_1 objOr.eq_2
attribute [go_sem] appDeep.eq_1 appDeep.eq_2 appDeep.eq_3
attribute [go_sem] strAt.eq_1
attribute [go_sem] Eff.val.eq_1
attribute [go_sem] sliceS.eq_1 sliceS.eq_2
attribute [go_sem] lentOf.eq_1 lentOf.eq_2 lentOf.eq_3
attribute [go_sem] buildSl.eq_1 buildSl.eq_2
attribute [go_sem] loadv.eq_1 loadv.eq_2 loadv.eq_3 loadv.eq_4
attribute [go_sem] beqK.eq_1 beqK.eq_2 beqK.eq_3 beqK.eq_4 beqK.eq_5
attribute [go_sem] fillA.eq_1 fillA.eq_2
attribute [go_sem] arrAt.eq_1
attribute [go_sem] evP.eq_1 evP.eq_2
attribute [go_sem] meltO.eq_1 meltO.eq_2
attribute [go_sem] callv.eq_1
attribute [go_sem] storeElem.eq_1
attribute [go_sem] clean.eq_1 clean.eq_2
attribute [go_sem] negIf.eq_1
attribute [go_sem] backN.eq_1
attribute [go_sem] eqKs.eq_1
attribute [go_sem] bnT.eq_1 bnT.eq_2
attribute [go_sem] addrView.eq_1 addrView.eq_2
attribute [go_sem] reachGo.eq_1 reachGo.eq_2
attribute [go_sem] callOf.eq_1 callOf.eq_2
attribute [go_sem] asgDp.eq_1 asgDp.eq_2
attribute [go_sem] oclean.eq_1 oclean.eq_2 oclean.eq_3
attribute [go_sem] datL.eq_1 datL.eq_2
attribute [go_sem] CO.op.eq_1
attribute [go_sem] assignV.eq_1 assignV.eq_2
attribute [go_sem] clearv.eq_1 clearv.eq_2
attribute [go_sem] setL.eq_1 setL.eq_2
attribute [go_sem] nthV.eq_1 nthV.eq_2
attribute [go_sem] tagB.eq_1 tagB.eq_2
attribute [go_sem] argV.eq_1 argV.eq_2 argV.eq_3 argV.eq_4 argV.eq_5 argV.eq_6 argV.eq_7 argV.eq_8 argV.eq_9
attribute [go_sem] callBack.eq_1
attribute [go_sem] shiftP.eq_1 shiftP.eq_2 shiftP.eq_3 shiftP.eq_4
attribute [go_sem] Eff.frz.eq_1
attribute [go_sem] freezeAll.eq_1 freezeAll.eq_2
attribute [go_sem] allAtom.eq_1 allAtom.eq_2
attribute [go_sem] CallEff.gone.eq_1
attribute [go_sem] meltIn.eq_1 meltIn.eq_2
attribute [go_sem] slcAt.eq_1
attribute [go_sem] ownSl.eq_1 ownSl.eq_2
attribute [go_sem] convI.eq_1 convI.eq_2
attribute [go_sem] srcView.eq_1 srcView.eq_2
attribute [go_sem] bd.eq_1
attribute [go_sem] setsOf.eq_1 setsOf.eq_2
attribute [go_sem] isStructT.eq_1
attribute [go_sem] deepL.eq_1 deepL.eq_2
attribute [go_sem] eqAV.eq_1 eqAV.eq_2
attribute [go_sem] isTup.eq_1 isTup.eq_2
attribute [go_sem] opds.eq_1 opds.eq_2 opds.eq_3 opds.eq_4 opds.eq_5 opds.eq_6 opds.eq_7 opds.eq_8 opds.eq_9 opds.eq_10 opds.eq_11 opds.eq_12 opds.eq_13 opds.eq_14 opds.eq_15 opds.eq_16 opds.eq_17 opds.eq_18 opds.eq_19 opds.eq_20 opds.eq_21 opds.eq_22 opds.eq_23 opds.eq_24 opds.eq_25 opds.eq_26 opds.eq_27 opds.eq_28 opds.eq_29 opds.eq_30 opds.eq_31 opds.eq_32 opds.eq_33 opds.eq_34 opds.eq_35 opds.eq_36 opds.eq_37 opds.eq_38 opds.eq_39
attribute [go_sem] seenOp.eq_1 seenOp.eq_2 seenOp.eq_3 seenOp.eq_4 seenOp.eq_5
attribute [go_sem] tidyO.eq_1
attribute [go_sem] allC.eq_1 allC.eq_2
attribute [go_sem] oneOf.eq_1 oneOf.eq_2
attribute [go_sem] linkSt.eq_1
attribute [go_sem] constC.eq_1 constC.eq_2 constC.eq_3 constC.eq_4 constC.eq_5
attribute [go_sem] seenAll.eq_1 seenAll.eq_2
attribute [go_sem] refsS.eq_1 refsS.eq_2
attribute [go_sem] strike.eq_1 strike.eq_2
attribute [go_sem] only.eq_1 only.eq_2
attribute [go_sem] orefsO.eq_1 orefsO.eq_2
attribute [go_sem] awayL.eq_1 awayL.eq_2
attribute [go_sem] numbV.eq_1 numbV.eq_2
attribute [go_sem] okL.eq_1 okL.eq_2
attribute [go_sem] okC.eq_1 okC.eq_2 okC.eq_3 okC.eq_4 okC.eq_5 okC.eq_6 okC.eq_7 okC.eq_8 okC.eq_9 okC.eq_10
attribute [go_sem] isAlloc.eq_1 isAlloc.eq_2
attribute [go_sem] keysOf.eq_1 keysOf.eq_2
attribute [go_sem] noGone.eq_1 noGone.eq_2 noGone.eq_3
attribute [go_sem] isStore.eq_1 isStore.eq_2
attribute [go_sem] dead.eq_1 dead.eq_2
attribute [go_sem] fineAll.eq_1 fineAll.eq_2
attribute [go_sem] putD.eq_1 putD.eq_2
attribute [go_sem] targetOf.eq_1 targetOf.eq_2 targetOf.eq_3
attribute [go_sem] seenPair.eq_1
attribute [go_sem] numb.eq_1 numb.eq_2
attribute [go_sem] isThere.eq_1 isThere.eq_2
attribute [go_sem] CO.starts.eq_1
attribute [go_sem] strikeO.eq_1 strikeO.eq_2
attribute [go_sem] okAdds.eq_1 okAdds.eq_2
attribute [go_sem] linkO.eq_1 linkO.eq_2
attribute [go_sem] stripF.eq_1
attribute [go_sem] seenAt.eq_1 seenAt.eq_2
attribute [go_sem] orefsOf.eq_1 orefsOf.eq_2
attribute [go_sem] liveIn.eq_1
attribute [go_sem] CFun.body.eq_1
attribute [go_sem] anyTup.eq_1 anyTup.eq_2
attribute [go_sem] seenApp.eq_1 seenApp.eq_2 seenApp.eq_3 seenApp.eq_4 seenApp.eq_5 seenApp.eq_6
attribute [go_sem] CFun.res.eq_1
attribute [go_sem] isMove.eq_1 isMove.eq_2
attribute [go_sem] strip.eq_1 strip.eq_2 strip.eq_3 strip.eq_4 strip.eq_5 strip.eq_6 strip.eq_7 strip.eq_8 strip.eq_9 strip.eq_10 strip.eq_11 strip.eq_12
attribute [go_sem] resv.eq_1 resv.eq_2
attribute [go_sem] allConst.eq_1 allConst.eq_2
attribute [go_sem] CFun.nt.eq_1
attribute [go_sem] okD.eq_1 okD.eq_2
attribute [go_sem] eqAV.eq_1 beqK.eq_1 beqK.eq_2 beqK.eq_3 beqK.eq_4
attribute [go_sem] canon.eq_1 fineV.eq_1 fineV.eq_2 fineV.eq_3 fineV.eq_4 fineV.eq_5 fineV.eq_6 fineV.eq_7 fineV.eq_8 fineV.eq_9 fineV.eq_10 handBack.eq_1
attribute [go_sem] reach.eq_3 fuelOf.eq_1 AV.atom.eq_1 AV.atom.eq_2 AV.atom.eq_3 AV.atom.eq_4
attribute [go_sem] over.eq_1 over.eq_2 overH.eq_1 overH.eq_2
attribute [go_sem] bnd_some bnd_none bnd_ite
attribute [go_sem] List.map_cons List.map_nil List.flatMap_cons List.flatMap_nil List.append_nil List.nil_append List.cons_append List.length_cons List.length_nil List.all_cons List.all_nil List.any_cons List.any_nil List.contains_cons List.contains_nil List.filter_cons List.filter_nil List.drop_zero List.drop_succ_cons List.drop_nil List.take_zero List.take_succ_cons List.take_nil List.getElem?_cons_zero List.getElem?_cons_succ List.getElem?_nil Option.map_some Option.map_none Bool.and_true Bool.true_and Bool.and_false Bool.false_and Bool.or_true Bool.true_or Bool.or_false Bool.false_or Bool.not_true Bool.not_false decide_true decide_false and_true true_and and_false false_and not_true not_false_eq_true or_true true_or or_false false_or if_true if_false true_implies false_implies implies_true imp_self eq_self ne_eq beq_self_eq_true Bool.true_eq_false Bool.false_eq_true List.isEmpty_nil List.isEmpty_cons List.range_zero List.set_cons_zero List.set_cons_succ Option.some.injEq reduceCtorEq Nat.reduceLeDiff
def goneR (hp : Hp) : List Nat → List Nat
  | [] => []
  | i :: r => if isRow (lkp hp i) = true then i :: goneR hp r else goneR hp r
theorem gE (hp : Hp) (ids : List Nat) : (ids.filter fun i => isRow (lkp hp i)) = goneR hp ids := by
  induction ids with
  | nil => rfl
  | cons i r ih => simp only [List.filter_cons, goneR, ih]
def flatR (hp : Hp) (rs : List Nat) : List Nat → Bool
  | [] => true
  | i :: r => (isRow (lkp hp i) || rs.contains i) && flatR hp rs r
def deepR (hp : Hp) : List Nat → Bool
  | [] => false
  | i :: r => isDeep (lkp hp i) || deepR hp r
theorem gG (hp : Hp) (ids : List Nat) : (ids.any fun i => isDeep (lkp hp i)) = deepR hp ids := by
  induction ids with
  | nil => rfl
  | cons i r ih => simp only [List.any_cons, deepR, ih]
attribute [go_sem] deepR.eq_1 deepR.eq_2
@[go_sem] theorem appTo_nil (hp : Hp) (s b : Nat) (str flat : Bool) (base : Nat) (y : AV) : appTo hp s b str flat base y .nil = appMelt hp s b str flat base .nil y ([] ++ deepId hp y) := rfl
@[go_sem] theorem appTo_own (hp : Hp) (s b : Nat) (str flat : Bool) (base : Nat) (y : AV) (k : Nat) : appTo hp s b str flat base y (.own k) = appMelt hp s b str flat base (.own k) y ((if isDeep (lkp hp k) = true then [k] else []) ++ deepId hp y) := rfl
@[go_sem] theorem appTo_ownv (hp : Hp) (s b : Nat) (str flat : Bool) (base : Nat) (y : AV) (k o n : Nat) : appTo hp s b str flat base y (.ownv k o n) = appMelt hp s b str flat base (.ownv k o n) y ([] ++ deepId hp y) := rfl
@[go_sem] theorem deepId_d (hp : Hp) (x : D) : deepId hp (.d x) = [] := rfl
@[go_sem] theorem deepId_nil (hp : Hp) : deepId hp .nil = [] := rfl
@[go_sem] theorem deepId_ownv (hp : Hp) (k o n : Nat) : deepId hp (.ownv k o n) = [] := rfl
@[go_sem] theorem deepId_own (hp : Hp) (k : Nat) : deepId hp (.own k) = if isDeep (lkp hp k) = true then [k] else [] := rfl
@[go_sem] theorem appTo_sub (hp : Hp) (s b : Nat) (str flat : Bool) (base : Nat) (y : AV) (id nm : Nat) : appTo hp s b str flat base y (.sub id nm) = if str then none else bnd (srcOf hp true y) fun q => if (rows1 y).contains id then none else appSub s b base id nm q (lkp hp id) := rfl
theorem gF (hp : Hp) (rs ids : List Nat) : flatIds hp rs ids = flatR hp rs ids := by
  induction ids with
  | nil => rfl
  | cons i r ih => simp only [flatIds, List.all_cons, flatR] at ih ⊢; rw [ih]
attribute [go_sem] goneR.eq_1 goneR.eq_2 flatR.eq_1 flatR.eq_2
@[go_sem] theorem okV_d (x : D) : okV (.d x) = true := rfl
@[go_sem] theorem okV_nil : okV .nil = true := rfl
@[go_sem] theorem okV_nilp : okV .nilp = true := rfl
@[go_sem] theorem okV_nili : okV .nili = true := rfl
@[go_sem] theorem okV_ptr (a b : Nat) : okV (.ptr a b) = true := rfl
@[go_sem] theorem okV_prow (a b c e : Nat) : okV (.prow a b c e) = true := rfl
@[go_sem] theorem okV_pim (cs : List D) : okV (.pim cs) = true := rfl
@[go_sem] theorem okV_own (a : Nat) : okV (.own a) = true := rfl
@[go_sem] theorem okV_ownv (a b c : Nat) : okV (.ownv a b c) = true := rfl
@[go_sem] theorem okV_agg (cs : List AV) : okV (.agg cs) = allC cs := rfl
@[go_sem] theorem okV_tup0 : okV (.tup []) = true := rfl
@[go_sem] theorem seenSrc_own (sl : Sl) (a : COp) (k : Nat) : seenSrc sl a (.own k) = fineAll sl k (opds a) := rfl
@[go_sem] theorem seenSrc_d (sl : Sl) (a : COp) (x : D) : seenSrc sl a (.d x) = true := rfl
@[go_sem] theorem seenSrc_nil (sl : Sl) (a : COp) : seenSrc sl a .nil = true := rfl
@[go_sem] theorem seenSrc_ownv (sl : Sl) (a : COp) (x y z : Nat) : seenSrc sl a (.ownv x y z) = true := rfl
@[go_sem] theorem okV_iteV (b : Bool) (v : AV) : okV (iteV b v) = (!b || okV v) := by cases b <;> simp [iteV, okV]
@[go_sem] theorem awayV_d (sl : Sl) (xs : List Opd) (x : D) : awayV sl xs (.d x) = true := rfl
@[go_sem] theorem awayV_nil (sl : Sl) (xs : List Opd) : awayV sl xs .nil = true := rfl
@[go_sem] theorem awayV_nilp (sl : Sl) (xs : List Opd) : awayV sl xs .nilp = true := rfl
@[go_sem] theorem awayV_ptr (sl : Sl) (xs : List Opd) (k o : Nat) : awayV sl xs (.ptr k o) = fineAll sl k xs := rfl
@[go_sem] theorem awayV_pim (sl : Sl) (xs : List Opd) (cs : List D) : awayV sl xs (.pim cs) = true := rfl
@[go_sem] theorem awayV_own (sl : Sl) (xs : List Opd) (a : Nat) : awayV sl xs (.own a) = true := rfl
@[go_sem] theorem awayV_ownv (sl : Sl) (xs : List Opd) (a b c : Nat) : awayV sl xs (.ownv a b c) = true := rfl
@[go_sem] theorem awayV_agg (sl : Sl) (xs : List Opd) (cs : List AV) : awayV sl xs (.agg cs) = true := rfl
@[go_sem] theorem awayV_tup (sl : Sl) (xs : List Opd) (cs : List AV) : awayV sl xs (.tup cs) = true := rfl
end Go.Abs.E
