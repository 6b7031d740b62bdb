/- The abstract semantics as rewriting rules: what must hold for a code to come to a state of which something is true. Own text. -/
import Derived.Test.YtpobhkoombldlaaGreatAbsRun
set_option linter.unusedVariables false
set_option linter.unusedSimpArgs false
namespace Go.Abs.E
open Go Go.Abs
abbrev _root_.Go.Abs.Opd.i (n : Int) : Opd := .v (.d (.int .i64 n))
abbrev _root_.Go.Abs.Opd.b (x : Bool) : Opd := .v (.d (.bool x))
def stW {α : Type} (x : Option α) (K : α → Prop) : Prop := match x with
 | some a => K a
 | none => False
def gW (x : Option Bool) (A B : Prop) : Prop := match x with
 | some b => (b = true → A) ∧ (b = false → B)
 | none => False
def U1 (v : AV) (A B : Prop) : Prop := match v with
 | .d (.bool t) => (t = true → A) ∧ (t = false → B)
 | _ => False
theorem Jx {α : Type} (a : α) (K : α → Prop) : stW (some a) K = K a := rfl
theorem Zky {α : Type} (K : α → Prop) : stW none K = False := rfl
theorem ZcJ {α β : Type} (x : Option α) (f : α → Option β) (K : β → Prop) : stW (bnd x f) K = stW x fun a => stW (f a) K := by cases x <;> rfl
@[go_sem] theorem Zvv (A B : Prop) : gW (some true) A B = A := by simp [gW]
@[go_sem] theorem gW_false (A B : Prop) : gW (some false) A B = B := by simp [gW]
@[go_sem] theorem gW_dec (p : Prop) [Decidable p] (A B : Prop) : gW (some (decide p)) A B = ((p → A) ∧ (¬ p → B)) := by simp [gW]
@[go_sem] theorem gW_not (b : Bool) (A B : Prop) : gW (some (!b)) A B = gW (some b) B A := by cases b <;> simp [gW]
theorem gW_some (b : Bool) (A B : Prop) : gW (some b) A B = ((b = true → A) ∧ (b = false → B)) := rfl
@[go_sem] theorem ZBX (A B : Prop) : U1 (.d (.bool true)) A B = A := by simp [U1]
@[go_sem] theorem ZBs (A B : Prop) : U1 (.d (.bool false)) A B = B := by simp [U1]
@[go_sem] theorem condW_dec (p : Prop) [Decidable p] (A B : Prop) : U1 (.d (.bool (decide p))) A B = ((p → A) ∧ (¬ p → B)) := by simp [U1]
@[go_sem] theorem condW_not (b : Bool) (A B : Prop) : U1 (.d (.bool (!b))) A B = U1 (.d (.bool b)) B A := by cases b <;> simp [U1]
@[go_sem] theorem condW_and (a b : Bool) (A B : Prop) : U1 (.d (.bool (a && b))) A B = U1 (.d (.bool a)) (U1 (.d (.bool b)) A B) B := by cases a <;> cases b <;> simp [U1]
@[go_sem] theorem condW_or (a b : Bool) (A B : Prop) : U1 (.d (.bool (a || b))) A B = U1 (.d (.bool a)) A (U1 (.d (.bool b)) A B) := by cases a <;> cases b <;> simp [U1]
@[go_sem] theorem ZBY (b : Bool) (A B : Prop) : U1 (.d (.bool b)) A B = ((b = true → A) ∧ (b = false → B)) := rfl
@[congr] theorem gW_congr {x y : Option Bool} {A B : Prop} (h : x = y) : gW x A B = gW y A B := by rw [h]
@[congr] theorem ZBt {v w : AV} {A B : Prop} (h : v = w) : U1 v A B = U1 w A B := by rw [h]
section
variable (X : Fns) (M : Zq)
noncomputable def Zfe (nx : Nat) : Nat → List CO → Sl → Hp → (Sl → Hp → Prop) → Prop
 | _, [], sl, hp, K => K sl hp
 | i, o :: rest, sl, hp, K => gW (Z7 sl o.guard)
   (stW (Vj (nx + 64 * i) o.dst sl hp (vop (Zh X M) M sl hp (nx + 64 * i) o.op)) fun r => Zfe nx (i + 1) rest r.1 r.2 K)
   (Zfe nx (i + 1) rest (Zt sl o.dst (.tup [])) hp K)
def Zcx (nx i : Nat) (d : Option Nat) (rest : List CO) (sl : Sl) (hp : Hp) (K : Sl → Hp → Prop) (e : Option Zf) : Prop :=
 stW (Vj (nx + 64 * i) d sl hp e) fun r => Zfe X M nx (i + 1) rest r.1 r.2 K
@[go_sem] theorem opsW_nil (nx i : Nat) (sl : Sl) (hp : Hp) (K : Sl → Hp → Prop) : Zfe X M nx i [] sl hp K = K sl hp := rfl
@[go_sem] theorem opsW_cons (nx i : Nat) (d : Option Nat) (tl : Bool) (op : COp) (rest : List CO) (sl : Sl) (hp : Hp) (K : Sl → Hp → Prop) :
  Zfe X M nx i (⟨d, none, op, tl⟩ :: rest) sl hp K = Zcx X M nx i d rest sl hp K (vop (Zh X M) M sl hp (nx + 64 * i) op) := by
 simp [Zfe, Zcx, Z7, Zvv]
def ZiT (b : Bool) (v : AV) : AV := if b then v else .tup []
def ZaK (b : Bool) (nx i : Nat) (d : Option Nat) (rest : List CO) (sl : Sl) (hp : Hp) (K : Sl → Hp → Prop) (e : Option Zf) : Prop :=
 gW (some b) (Zcx X M nx i d rest sl hp K e) (Zfe X M nx (i + 1) rest (Zt sl d (.tup [])) hp K)
def ZrP (g : Option Bool) (nx i : Nat) (d : Option Nat) (op : COp) (rest : List CO) (sl : Sl) (hp : Hp) (K : Sl → Hp → Prop) : Prop :=
 gW g (Zcx X M nx i d rest sl hp K (vop (Zh X M) M sl hp (nx + 64 * i) op)) (Zfe X M nx (i + 1) rest (Zt sl d (.tup [])) hp K)
@[go_sem] theorem ZBZ (nx i g : Nat) (w : Bool) (d : Option Nat) (tl : Bool) (op : COp) (rest : List CO) (sl : Sl) (hp : Hp) (K : Sl → Hp → Prop) :
  Zfe X M nx i (⟨d, some (g, w), op, tl⟩ :: rest) sl hp K = ZrP X M (ZgN w (gs sl g)) nx i d op rest sl hp K := rfl
@[go_sem] theorem ZBu (b : Bool) (nx i : Nat) (d : Option Nat) (op : COp) (rest : List CO) (sl : Sl) (hp : Hp) (K : Sl → Hp → Prop) :
  ZrP X M (some b) nx i d op rest sl hp K = ZaK X M b nx i d rest sl hp K (vop (Zh X M) M sl hp (nx + 64 * i) op) := rfl
@[go_sem] theorem gA (nx i : Nat) (d : Option Nat) (rest : List CO) (sl : Sl) (hp : Hp) (K : Sl → Hp → Prop) (e : Option Zf) :
  ZaK X M true nx i d rest sl hp K e = Zcx X M nx i d rest sl hp K e := by simp [ZaK, gW]
@[go_sem] theorem gB (nx i : Nat) (d : Option Nat) (rest : List CO) (sl : Sl) (hp : Hp) (K : Sl → Hp → Prop) (e : Option Zf) :
  ZaK X M false nx i d rest sl hp K e = Zfe X M nx (i + 1) rest (Zt sl d (.tup [])) hp K := by simp [ZaK, gW]
@[go_sem] theorem ZrQ (b : Bool) (nx i : Nat) (d : Option Nat) (rest : List CO) (sl : Sl) (hp : Hp) (K : Sl → Hp → Prop) (v : AV) :
  ZaK X M b nx i d rest sl hp K (QB v) = Zfe X M nx (i + 1) rest (Zt sl d (ZiT b v)) hp K := by
 cases b
 ·simp [ZaK, gW, ZiT]
 ·simp only [ZaK, gW, ZiT, if_true, true_implies, Bool.true_eq_false, false_implies, and_true]; rfl
@[go_sem] theorem ZBv (b : Bool) (nx i : Nat) (d : Option Nat) (rest : List CO) (sl : Sl) (hp : Hp) (K : Sl → Hp → Prop) (v : AV) :
  ZaK X M b nx i d rest sl hp K (some { eff := { val := v, adds := [], sets := [], dels := [], frz := [] }, gone := [] }) = Zfe X M nx (i + 1) rest (Zt sl d (ZiT b v)) hp K := ZrQ X M b nx i d rest sl hp K v
@[congr] theorem ZAO {g g' : Option Bool} {nx i : Nat} {d : Option Nat} {op : COp} {rest : List CO} {sl : Sl} {hp : Hp} {K : Sl → Hp → Prop} (h : g = g') :
  ZrP X M g nx i d op rest sl hp K = ZrP X M g' nx i d op rest sl hp K := by rw [h]
@[congr] theorem ZAP {b b' : Bool} {nx i : Nat} {d : Option Nat} {rest : List CO} {sl : Sl} {hp : Hp} {K : Sl → Hp → Prop} {e e' : Option Zf} (hb : b = b') (h : b' = true → e = e') :
  ZaK X M b nx i d rest sl hp K e = ZaK X M b' nx i d rest sl hp K e' := by
 subst hb
 cases b
 ·simp [ZaK, gW]
 ·rw [h rfl]
@[go_sem] theorem ZBw (nx i : Nat) (d : Option Nat) (rest : List CO) (sl : Sl) (hp : Hp) (K : Sl → Hp → Prop) (v : AV) :
  Zcx X M nx i d rest sl hp K (QB v) = Zfe X M nx (i + 1) rest (Zt sl d v) hp K := rfl
@[go_sem] theorem ZB0 (nx i : Nat) (d : Option Nat) (rest : List CO) (sl : Sl) (hp : Hp) (K : Sl → Hp → Prop) (v : AV) :
  Zcx X M nx i d rest sl hp K (some { eff := { val := v, adds := [], sets := [], dels := [], frz := [] }, gone := [] }) = Zfe X M nx (i + 1) rest (Zt sl d v) hp K := rfl
@[go_sem] theorem ZB1 (nx i : Nat) (d : Option Nat) (rest : List CO) (sl : Sl) (hp : Hp) (K : Sl → Hp → Prop) (e : Zf) :
  Zcx X M nx i d rest sl hp K (some e) = (Q4 (nx + 64 * i) (nx + 64 * i + 64) e.eff.adds = true ∧ Zfe X M nx (i + 1) rest (Zt (XF e.gone sl) d e.eff.val) (e.eff.on (Vy e.gone hp)) K) := by
 unfold Zcx Vj
 rw [Zj]
 split <;> rename_i h
 ·simp only [Jx, h, true_and]; rfl
 ·simp only [Zky, h, false_and, Bool.false_eq_true]
@[go_sem] theorem ZB2 (nx i : Nat) (d : Option Nat) (rest : List CO) (sl : Sl) (hp : Hp) (K : Sl → Hp → Prop) : Zcx X M nx i d rest sl hp K none = False := rfl
@[go_sem] theorem stepW_ite (nx i : Nat) (d : Option Nat) (rest : List CO) (sl : Sl) (hp : Hp) (K : Sl → Hp → Prop) (c : Prop) [Decidable c] (a b : Option Zf) :
  Zcx X M nx i d rest sl hp K (if c then a else b) = ((c → Zcx X M nx i d rest sl hp K a) ∧ (¬ c → Zcx X M nx i d rest sl hp K b)) := by
 by_cases h : c <;> simp [h]
noncomputable def Ww (nx : Nat) : Nat → Bool → List CO → Sl → Hp → (Sl → Hp → Prop) → Prop
 | _, _, [], sl, hp, K => K sl hp
 | i, tail, o :: rest, sl, hp, K => gW (Z7 sl o.guard)
   (stW (Vj (nx + 64 * i) o.dst sl hp (W4 (Zh X M) M nx i (CO.starts o) o.op sl hp)) fun r => Ww nx (i + 1) tail rest r.1 r.2 K)
   (Ww nx (i + 1) tail rest (Zt sl o.dst (.tup [])) hp K)
def U8 (nx i : Nat) (t : Bool) (d : Option Nat) (rest : List CO) (sl : Sl) (hp : Hp) (K : Sl → Hp → Prop) (e : Option Zf) : Prop :=
 stW (Vj (nx + 64 * i) d sl hp (if t then e else Zd9 e)) fun r => Ww X M nx (i + 1) false rest r.1 r.2 K
@[go_sem] theorem opsDW_nil (nx i : Nat) (t : Bool) (sl : Sl) (hp : Hp) (K : Sl → Hp → Prop) : Ww X M nx i t [] sl hp K = K sl hp := rfl
@[go_sem] theorem ZB3 (nx i : Nat) (d : Option Nat) (tl : Bool) (op : COp) (rest : List CO) (sl : Sl) (hp : Hp) (K : Sl → Hp → Prop) :
  Ww X M nx i false (⟨d, none, op, tl⟩ :: rest) sl hp K = U8 X M nx i (ZiK op || tl) d rest sl hp K (vop (Zh X M) M sl hp (nx + 64 * i) op) := by
 simp [Ww, U8, Z7, Zvv, W4, CO.starts]
def WX (b : Bool) (nx i : Nat) (t : Bool) (d : Option Nat) (rest : List CO) (sl : Sl) (hp : Hp) (K : Sl → Hp → Prop) (e : Option Zf) : Prop :=
 gW (some b) (U8 X M nx i t d rest sl hp K e) (Ww X M nx (i + 1) false rest (Zt sl d (.tup [])) hp K)
def Zm0 (g : Option Bool) (nx i : Nat) (t : Bool) (d : Option Nat) (op : COp) (rest : List CO) (sl : Sl) (hp : Hp) (K : Sl → Hp → Prop) : Prop :=
 gW g (U8 X M nx i t d rest sl hp K (vop (Zh X M) M sl hp (nx + 64 * i) op)) (Ww X M nx (i + 1) false rest (Zt sl d (.tup [])) hp K)
@[go_sem] theorem ZBx (nx i g : Nat) (w : Bool) (d : Option Nat) (tl : Bool) (op : COp) (rest : List CO) (sl : Sl) (hp : Hp) (K : Sl → Hp → Prop) :
  Ww X M nx i false (⟨d, some (g, w), op, tl⟩ :: rest) sl hp K = Zm0 X M (ZgN w (gs sl g)) nx i (ZiK op || tl) d op rest sl hp K := rfl
@[go_sem] theorem ZAQ (b : Bool) (nx i : Nat) (t : Bool) (d : Option Nat) (op : COp) (rest : List CO) (sl : Sl) (hp : Hp) (K : Sl → Hp → Prop) :
  Zm0 X M (some b) nx i t d op rest sl hp K = WX X M b nx i t d rest sl hp K (vop (Zh X M) M sl hp (nx + 64 * i) op) := rfl
@[go_sem] theorem gC (nx i : Nat) (t : Bool) (d : Option Nat) (rest : List CO) (sl : Sl) (hp : Hp) (K : Sl → Hp → Prop) (e : Option Zf) :
  WX X M true nx i t d rest sl hp K e = U8 X M nx i t d rest sl hp K e := by simp [WX, gW]
@[go_sem] theorem gD (nx i : Nat) (t : Bool) (d : Option Nat) (rest : List CO) (sl : Sl) (hp : Hp) (K : Sl → Hp → Prop) (e : Option Zf) :
  WX X M false nx i t d rest sl hp K e = Ww X M nx (i + 1) false rest (Zt sl d (.tup [])) hp K := by simp [WX, gW]
@[go_sem] theorem ZpW (b : Bool) (nx i : Nat) (t : Bool) (d : Option Nat) (rest : List CO) (sl : Sl) (hp : Hp) (K : Sl → Hp → Prop) (v : AV) :
  WX X M b nx i t d rest sl hp K (QB v) = Ww X M nx (i + 1) false rest (Zt sl d (ZiT b v)) hp K := by
 cases b
 ·simp [WX, gW, ZiT]
 ·simp only [WX, gW, ZiT, if_true, true_implies, Bool.true_eq_false, false_implies, and_true]; cases t <;> rfl
@[go_sem] theorem ZAR (b : Bool) (nx i : Nat) (t : Bool) (d : Option Nat) (rest : List CO) (sl : Sl) (hp : Hp) (K : Sl → Hp → Prop) (v : AV) :
  WX X M b nx i t d rest sl hp K (some { eff := { val := v, adds := [], sets := [], dels := [], frz := [] }, gone := [] }) = Ww X M nx (i + 1) false rest (Zt sl d (ZiT b v)) hp K := ZpW X M b nx i t d rest sl hp K v
@[congr] theorem ZyO {g g' : Option Bool} {nx i : Nat} {t t' : Bool} {d : Option Nat} {op : COp} {rest : List CO} {sl : Sl} {hp : Hp} {K : Sl → Hp → Prop} (h : g = g') (ht : t = t') :
  Zm0 X M g nx i t d op rest sl hp K = Zm0 X M g' nx i t' d op rest sl hp K := by rw [h, ht]
@[congr] theorem ZyP {b b' : Bool} {nx i : Nat} {t : Bool} {d : Option Nat} {rest : List CO} {sl : Sl} {hp : Hp} {K : Sl → Hp → Prop} {e e' : Option Zf} (hb : b = b') (h : b' = true → e = e') :
  WX X M b nx i t d rest sl hp K e = WX X M b' nx i t d rest sl hp K e' := by
 subst hb
 cases b
 ·simp [WX, gW]
 ·rw [h rfl]
@[go_sem] theorem ZAS (nx i : Nat) (t : Bool) (d : Option Nat) (rest : List CO) (sl : Sl) (hp : Hp) (K : Sl → Hp → Prop) (v : AV) :
  U8 X M nx i t d rest sl hp K (QB v) = Ww X M nx (i + 1) false rest (Zt sl d v) hp K := by cases t <;> rfl
@[go_sem] theorem ZBy (nx i : Nat) (t : Bool) (d : Option Nat) (rest : List CO) (sl : Sl) (hp : Hp) (K : Sl → Hp → Prop) (v : AV) :
  U8 X M nx i t d rest sl hp K (some { eff := { val := v, adds := [], sets := [], dels := [], frz := [] }, gone := [] }) = Ww X M nx (i + 1) false rest (Zt sl d v) hp K := by cases t <;> rfl
@[go_sem] theorem ZBz (nx i : Nat) (t : Bool) (d : Option Nat) (rest : List CO) (sl : Sl) (hp : Hp) (K : Sl → Hp → Prop) (e : Zf) :
  U8 X M nx i t d rest sl hp K (some e) = ((t = false → ZgR e e.gone e.eff.sets e.eff.dels e.eff.frz = some e) ∧ Q4 (nx + 64 * i) (nx + 64 * i + 64) e.eff.adds = true ∧ Ww X M nx (i + 1) false rest (Zt (XF e.gone sl) d e.eff.val) (e.eff.on (Vy e.gone hp)) K) := by
 have key : stW (Vj (nx + 64 * i) d sl hp (some e)) (fun r => Ww X M nx (i + 1) false rest r.1 r.2 K) = (Q4 (nx + 64 * i) (nx + 64 * i + 64) e.eff.adds = true ∧ Ww X M nx (i + 1) false rest (Zt (XF e.gone sl) d e.eff.val) (e.eff.on (Vy e.gone hp)) K) := by
  unfold Vj
  rw [Zj]
  split <;> rename_i h
  ·simp only [Jx, h, true_and]; rfl
  ·simp only [Zky, h, false_and, Bool.false_eq_true]
 unfold U8
 cases t with
 | true => simp only [if_true]; rw [key]; simp
 | false =>
  simp only [Bool.false_eq_true, if_false, Zd9, Zj, true_implies]
  unfold ZgR
  split
  ·rw [key]; simp
  ·simp [Vj, bnd, stW]
@[go_sem] theorem ZBA (nx i : Nat) (t : Bool) (d : Option Nat) (rest : List CO) (sl : Sl) (hp : Hp) (K : Sl → Hp → Prop) : U8 X M nx i t d rest sl hp K none = False := by cases t <;> rfl
@[go_sem] theorem ZB4 (nx i : Nat) (t : Bool) (d : Option Nat) (rest : List CO) (sl : Sl) (hp : Hp) (K : Sl → Hp → Prop) (c : Prop) [Decidable c] (a b : Option Zf) :
  U8 X M nx i t d rest sl hp K (if c then a else b) = ((c → U8 X M nx i t d rest sl hp K a) ∧ (¬ c → U8 X M nx i t d rest sl hp K b)) := by
 by_cases h : c <;> simp [h]
@[go_sem] theorem quietC_ok (c : Zf) : ZgR c [] [] [] [] = some c := rfl
def W (c : Zb) (st : St) (Q : Ex → St → Prop) : Prop := stW (QV X M c st) fun r => Q r.1 r.2
@[congr] theorem W_congr {c : Zb} {st st' : St} {Q : Ex → St → Prop} (h : st = st') : W X M c st Q = W X M c st' Q := by rw [h]
@[congr] theorem ZB5 {rest : List CO} {nx nx' i i' : Nat} {sl sl' : Sl} {hp hp' : Hp} {K : Sl → Hp → Prop} (hn : nx = nx') (hi : i = i') (h : sl = sl') (h' : hp = hp') :
  Zfe X M nx i rest sl hp K = Zfe X M nx' i' rest sl' hp' K := by rw [h, h', hn, hi]
@[congr] theorem ZBB {rest : List CO} {nx nx' i i' : Nat} {t t' : Bool} {sl sl' : Sl} {hp hp' : Hp} {K : Sl → Hp → Prop} (hn : nx = nx') (hi : i = i') (ht : t = t') (h : sl = sl') (h' : hp = hp') :
  Ww X M nx i t rest sl hp K = Ww X M nx' i' t' rest sl' hp' K := by rw [h, h', ht, hn, hi]
@[congr] theorem ZBC {rest : List CO} {nx i : Nat} {d : Option Nat} {sl : Sl} {hp : Hp} {K : Sl → Hp → Prop} {e e' : Option Zf} (h : e = e') :
  Zcx X M nx i d rest sl hp K e = Zcx X M nx i d rest sl hp K e' := by rw [h]
@[congr] theorem ZAT {rest : List CO} {nx i : Nat} {t t' : Bool} {d : Option Nat} {sl : Sl} {hp : Hp} {K : Sl → Hp → Prop} {e e' : Option Zf} (ht : t = t') (h : e = e') :
  U8 X M nx i t d rest sl hp K e = U8 X M nx i t' d rest sl hp K e' := by rw [h, ht]
theorem ZAU (nx : Nat) (K : Sl → Hp → Prop) : ∀ (l : List CO) (i : Nat) (sl : Sl) (hp : Hp), Zfe X M nx i l sl hp K = stW (ZfX (Zh X M) M nx i l sl hp) fun r => K r.1 r.2 := by
 intro l
 induction l with
 | nil => intro i sl hp; rfl
 | cons o rest ih =>
  intro i sl hp
  simp only [Zfe, ZfX, ih, ZcJ]
  cases Z7 sl o.guard with
  | none => rfl
  | some b => cases b <;> simp [gW, ZcJ, Jx]
theorem ZxO (nx : Nat) (K : Sl → Hp → Prop) : ∀ (l : List CO) (i : Nat) (t : Bool) (sl : Sl) (hp : Hp), Ww X M nx i t l sl hp K = stW (JC (Zh X M) M nx i t l sl hp) fun r => K r.1 r.2 := by
 intro l
 induction l with
 | nil => intro i t sl hp; rfl
 | cons o rest ih =>
  intro i t sl hp
  simp only [Ww, JC, ih, ZcJ]
  cases Z7 sl o.guard with
  | none => rfl
  | some b => cases b <;> simp [gW, ZcJ, Jx]
def Zwq (m nx : Nat) (Q : Ex → St → Prop) (sl : Sl) (hp : Hp) : Prop := Q .normal { sl := sl, hp := hp, nx := nx, m := m }
def Ztm (ops : List CO) (ps : List (Nat × Nat)) (K : Sl → Hp → Prop) (sl : Sl) (hp : Hp) : Prop := JN ops sl ps = true ∧ K sl hp
@[go_sem] theorem regQ_eq (m nx : Nat) (Q : Ex → St → Prop) (sl : Sl) (hp : Hp) : Zwq m nx Q sl hp = Q .normal { sl := sl, hp := hp, nx := nx, m := m } := rfl
@[go_sem] theorem seenQ_eq (ops : List CO) (ps : List (Nat × Nat)) (K : Sl → Hp → Prop) (sl : Sl) (hp : Hp) : Ztm ops ps K sl hp = (JN ops sl ps = true ∧ K sl hp) := rfl
@[go_sem] theorem W_skip (st : St) (Q : Ex → St → Prop) : W X M .skip st Q = Q .normal st := by simp [W, Zu3, Jx]
@[go_sem] theorem W_ret (st : St) (Q : Ex → St → Prop) : W X M .ret st Q = Q .ret st := by simp [W, ZwG, Jx]
@[go_sem] theorem W_exit (id : Nat) (st : St) (Q : Ex → St → Prop) : W X M (.exit id) st Q = Q (.exit id) st := by simp [W, Zu4, Jx]
@[go_sem] theorem W_stuck (st : St) (Q : Ex → St → Prop) : W X M .stuck st Q = False := by
 have h : QV X M .stuck st = none := VT fun n => by simp only [ZI]
 simp only [W, h, Zky]
@[go_sem] theorem W_region (n : Nat) (ops : List CO) (st : St) (Q : Ex → St → Prop) :
  W X M (.region n none ops) st Q = Zfe X M st.nx 0 ops st.sl st.hp (Zwq st.m (st.nx + 64 * n) Q) := by
 rw [ZAU, W, Zsd, ZkN, ZcJ]; rfl
theorem ZxP (n : Nat) (ps : List (Nat × Nat)) (ops : List CO) (st : St) (Q : Ex → St → Prop) :
  W X M (.region n (some ps) ops) st Q = Ww X M st.nx 0 false ops st.sl st.hp (Ztm ops ps (Zwq st.m (st.nx + 64 * n) Q)) := by
 rw [ZxO, W, Zu5, ZkN, ZcJ, ZoR, ZcJ]
 congr 1
 funext r
 by_cases h : JN ops r.1 ps = true <;> simp [h, Ztm, Jx, Zky, Zwq]
@[go_sem] theorem W_draw0 (n : Nat) (ops : List CO) (st : St) (Q : Ex → St → Prop) :
  W X M (.region n (some []) ops) st Q = Ww X M st.nx 0 false ops st.sl st.hp (Zwq st.m (st.nx + 64 * n) Q) := by
 rw [ZxP]
 congr 1
 funext sl hp
 simp [Ztm, JN]
@[go_sem] theorem W_drawc (n : Nat) (p : Nat × Nat) (ps : List (Nat × Nat)) (ops : List CO) (st : St) (Q : Ex → St → Prop) :
  W X M (.region n (some (p :: ps)) ops) st Q = Ww X M st.nx 0 false ops st.sl st.hp (Ztm ops (p :: ps) (Zwq st.m (st.nx + 64 * n) Q)) := ZxP X M n _ ops st Q
def Zvw (c : Zb) (Q : Ex → St → Prop) : Ex → St → Prop
 | .normal, st => W X M c st Q
 | e, st => Q e st
def blkQ (id : Nat) (Q : Ex → St → Prop) : Ex → St → Prop
 | .exit j, st => if j = id then Q .normal st else Q (.exit j) st
 | e, st => Q e st
@[go_sem] theorem ZAV (c : Zb) (Q : Ex → St → Prop) (st : St) : Zvw X M c Q .normal st = W X M c st Q := rfl
@[go_sem] theorem thenQ_ret (c : Zb) (Q : Ex → St → Prop) (st : St) : Zvw X M c Q .ret st = Q .ret st := rfl
@[go_sem] theorem ZB6 (c : Zb) (Q : Ex → St → Prop) (id : Nat) (st : St) : Zvw X M c Q (.exit id) st = Q (.exit id) st := rfl
@[go_sem] theorem ZBD (id : Nat) (Q : Ex → St → Prop) (st : St) : blkQ id Q .normal st = Q .normal st := rfl
@[go_sem] theorem blkQ_ret (id : Nat) (Q : Ex → St → Prop) (st : St) : blkQ id Q .ret st = Q .ret st := rfl
@[go_sem] theorem blkQ_exit (id j : Nat) (Q : Ex → St → Prop) (st : St) : blkQ id Q (.exit j) st = if j = id then Q .normal st else Q (.exit j) st := rfl
@[go_sem] theorem W_seq (a b : Zb) (st : St) (Q : Ex → St → Prop) : W X M (.seq a b) st Q = W X M a st (Zvw X M b Q) := by
 unfold W
 rw [ZwH]
 cases h : QV X M a st with
 | none => rfl
 | some r => obtain ⟨e, st'⟩ := r; cases e <;> rfl
@[go_sem] theorem W_cond (c : Opd) (a b : Zb) (st : St) (Q : Ex → St → Prop) :
  W X M (.cond c a b) st Q = U1 (evO st.sl c) (W X M a st Q) (W X M b st Q) := by
 unfold W
 rw [Zu6]
 cases h : evO st.sl c with
 | d x => cases x with
  | bool t => cases t <;> simp [Zib, U1]
  | _ => rfl
 | _ => rfl
@[go_sem] theorem W_block (id : Nat) (c : Zb) (st : St) (Q : Ex → St → Prop) : W X M (.block id c) st Q = W X M c st (blkQ id Q) := by
 unfold W
 rw [ZtI]
 cases h : QV X M c st with
 | none => rfl
 | some r =>
  obtain ⟨e, st'⟩ := r
  cases e with
  | exit j => by_cases hj : j = id <;> simp [Zg8, hj, Jx, blkQ]
  | normal => rfl
  | ret => rfl
def keepQ (K : List Nat) (Q : Ex → St → Prop) (e : Ex) (st : St) : Prop := Q e { sl := only K st.sl, hp := st.hp, nx := st.nx, m := st.m }
@[go_sem] theorem keepQ_eq (K : List Nat) (Q : Ex → St → Prop) (e : Ex) (st : St) : keepQ K Q e st = Q e { sl := only K st.sl, hp := st.hp, nx := st.nx, m := st.m } := rfl
@[go_sem] theorem W_keep (K : List Nat) (c : Zb) (st : St) (Q : Ex → St → Prop) : W X M (.keep K c) st Q = W X M c st (keepQ K Q) := by
 unfold W
 rw [Zu7]
 cases h : QV X M c st with
 | none => rfl
 | some r => rfl
def Zol (c : Zb) (Q : Ex → St → Prop) (r : Option St) : Prop := stW r fun st => W X M c st Q
@[go_sem] theorem ZB7 (c : Zb) (Q : Ex → St → Prop) (st : St) : Zol X M c Q (some st) = W X M c st Q := rfl
@[go_sem] theorem ZB8 (c : Zb) (Q : Ex → St → Prop) : Zol X M c Q none = False := rfl
@[go_sem] theorem linkW_ite (c : Zb) (Q : Ex → St → Prop) (p : Prop) [Decidable p] (a b : Option St) : Zol X M c Q (if p then a else b) = ((p → Zol X M c Q a) ∧ (¬ p → Zol X M c Q b)) := by
 by_cases h : p <;> simp [h]
@[go_sem] theorem W_link (id : Nat) (i : Opd) (j : Nat) (c : Zb) (st : St) (Q : Ex → St → Prop) : W X M (.link id i j c) st Q = Zol X M c Q (Zfm id i j st) := by
 unfold W Zol
 rw [Zu8]
 cases h : Zfm id i j st <;> rfl
@[go_sem] theorem W_melt (c : Zb) (st : St) (Q : Ex → St → Prop) : W X M (.melt c) st Q = W X M c { sl := st.sl, hp := ZiS Zd0 st.hp, nx := st.nx, m := st.m } Q := by
 unfold W
 rw [Zu9]; rfl
def LW (c : Zb) (K : List Nat) (st : St) (Q : Ex → St → Prop) : Prop := stW (Zid X M c K st) fun r => Q r.1 r.2
@[congr] theorem LW_congr {c : Zb} {K K' : List Nat} {st st' : St} {Q : Ex → St → Prop} (hk : K = K') (h : st = st') : LW X M c K st Q = LW X M c K' st' Q := by rw [h, hk]
@[go_sem] theorem W_loop (c : Zb) (st : St) (Q : Ex → St → Prop) : W X M (.loop c) st Q = LW X M c (ZjL st.sl) st Q := by
 unfold W LW; rw [Zva]
def Zqz (c : Zb) (K : List Nat) (Q : Ex → St → Prop) : Ex → St → Prop
 | .normal, st => LW X M c K st Q
 | e, st => Q e st
@[go_sem] theorem ZAW (c : Zb) (K : List Nat) (Q : Ex → St → Prop) (st : St) : Zqz X M c K Q .normal st = LW X M c K st Q := rfl
@[go_sem] theorem nextQ_ret (c : Zb) (K : List Nat) (Q : Ex → St → Prop) (st : St) : Zqz X M c K Q .ret st = Q .ret st := rfl
@[go_sem] theorem ZB9 (c : Zb) (K : List Nat) (Q : Ex → St → Prop) (id : Nat) (st : St) : Zqz X M c K Q (.exit id) st = Q (.exit id) st := rfl
theorem Qd {c : Zb} {K : List Nat} {st : St} {Q : Ex → St → Prop} (h : W X M c (U4 K st) (Zqz X M c K Q)) : LW X M c K st Q := by
 unfold W at h
 cases hv : QV X M c (U4 K st) with
 | none => rw [hv] at h; exact h.elim
 | some r =>
  rw [hv] at h
  obtain ⟨e, st'⟩ := r
  unfold LW
  cases e with
  | normal => rw [ZtJ X M hv]; exact h
  | exit id => rw [ZoS X M (by simp) hv]; exact h
  | ret => rw [ZoS X M (by simp) hv]; exact h
def Ztn (sl : Sl) : Sl → Sl
 | [] => sl
 | (k, v) :: r => Ztn (ins sl k v) r
def Zom (hp : Hp) : Hp → Hp
 | [] => hp
 | (k, o) :: r => Zom (ins hp k o) r
theorem LW_ind {α : Type} (S : α → St) (I : α → Prop) (μ : α → Nat) {c : Zb} {K : List Nat} {Q : Ex → St → Prop}
  (step : ∀ a, I a → (∀ b st, I b → μ b < μ a → U4 K st = S b → LW X M c K st Q) → W X M c (S a) (Zqz X M c K Q)) :
  ∀ a st, I a → U4 K st = S a → LW X M c K st Q := by
 have key : ∀ n a st, μ a = n → I a → U4 K st = S a → LW X M c K st Q := by
  intro n
  induction n using Nat.strongRecOn with
  | ind n ih =>
   intro a st hn ha hs
   refine Qd X M ?_
   rw [hs]
   exact step a ha fun b st' hb hlt hs' => ih (μ b) (by omega) b st' rfl hb hs'
 exact fun a st ha hs => key _ a st rfl ha hs
theorem ZE {α : Type} (u : α → Sl) (uh : α → Hp) (I : α → Prop) (μ : α → Nat) (a : α) {c : Zb} {K : List Nat} {Q : Ex → St → Prop} {st st0 : St}
  (hc : U4 K st = st0) (ha : I a) (h0 : (⟨Ztn st0.sl (u a), Zom st0.hp (uh a), st0.nx, st0.m⟩ : St) = st0)
  (step : ∀ a, I a → (∀ b st, I b → μ b < μ a → U4 K st = ⟨Ztn st0.sl (u b), Zom st0.hp (uh b), st0.nx, st0.m⟩ → LW X M c K st Q) → W X M c ⟨Ztn st0.sl (u a), Zom st0.hp (uh a), st0.nx, st0.m⟩ (Zqz X M c K Q)) :
  LW X M c K st Q :=
 LW_ind X M (fun a => ⟨Ztn st0.sl (u a), Zom st0.hp (uh a), st0.nx, st0.m⟩) I μ step a st ha (hc.trans h0.symm)
def ZuI (m : Nat) (rs : List Zp1) (R : AV × List Zr → Prop) : Ex → St → Prop := fun e st => stW (Zcr m rs (some (e, st))) R
def resW (m : Nat) (hp : Hp) (R : AV × List Zr → Prop) (vs : Option (List AV)) : Prop := stW vs fun vs => R (VS m hp (ZcA vs))
@[go_sem] theorem resW_some (m : Nat) (hp : Hp) (R : AV × List Zr → Prop) (vs : List AV) : resW m hp R (some vs) = R (VS m hp (ZcA vs)) := rfl
@[go_sem] theorem resW_none (m : Nat) (hp : Hp) (R : AV × List Zr → Prop) : resW m hp R none = False := rfl
@[go_sem] theorem endQ_ret (m : Nat) (rs : List Zp1) (R : AV × List Zr → Prop) (st : St) : ZuI m rs R .ret st = resW m st.hp R (QP (ZmV st) rs) := by
 simp only [ZuI, Zcr, ZcJ]; rfl
@[go_sem] theorem ZBE (m : Nat) (rs : List Zp1) (R : AV × List Zr → Prop) (st : St) : ZuI m rs R .normal st = resW m st.hp R (QP (ZmV st) rs) := by
 simp only [ZuI, Zcr, ZcJ]; rfl
theorem ZqA {f : Nat} {as : List AV} {h : List Zr} (fn : ZC) {R : AV × List Zr → Prop} (hx : X f = some (.text fn)) (hl : as.length ≤ fn.nt)
  (hr : W X M fn.body { sl := Uu 0 as, hp := WU 0 h, nx := h.length, m := h.length } (ZuI h.length fn.res R)) : ∃ r, Zh X M f as h = some r ∧ R r := by
 unfold W at hr
 cases hv : QV X M fn.body { sl := Uu 0 as, hp := WU 0 h, nx := h.length, m := h.length } with
 | none => rw [hv] at hr; exact hr.elim
 | some q =>
  rw [hv] at hr
  obtain ⟨e, st⟩ := q
  simp only [Jx, ZuI] at hr
  cases hk : Zcr h.length fn.res (some (e, st)) with
  | none => rw [hk] at hr; exact hr.elim
  | some r => rw [hk] at hr; exact ⟨r, Zx3 X M hx hl (by rw [hv]; exact hk), hr⟩
theorem Ze {f : Nat} {as : List AV} {h : List Zr} (fn : ZC) {r : AV × List Zr} (hx : X f = some (.text fn)) (hl : as.length ≤ fn.nt)
  (hr : W X M fn.body { sl := Uu 0 as, hp := WU 0 h, nx := h.length, m := h.length } (ZuI h.length fn.res fun q => q = r)) : Zh X M f as h = some r := by
 obtain ⟨q, hq, rfl⟩ := ZqA X M fn hx hl hr
 exact hq
end
@[go_sem] theorem vopE_move (C : Orc) (M : Zq) (sl : Sl) (hp : Hp) (base : Nat) (x : Opd) : vop C M sl hp base (.move x) = QB (evO sl x) := by simp only [vop]
@[go_sem] theorem ZBF (C : Orc) (M : Zq) (sl : Sl) (hp : Hp) (base : Nat) (s : Option Nat) (x : Opd) : vop C M sl hp base (.assign s x) = Zem base s (evO sl x) := by simp only [vop]
@[go_sem] theorem vopE_pick (C : Orc) (M : Zq) (sl : Sl) (hp : Hp) (base : Nat) (c a b : Opd) : vop C M sl hp base (.pick c a b) = Zg7 (evO sl a) (evO sl b) (evO sl c) := by simp only [vop]
@[go_sem] theorem ZCa (C : Orc) (M : Zq) (sl : Sl) (hp : Hp) (base : Nat) (slc : List (Option Nat)) (cs : List AV) : vop C M sl hp base (.alloc slc cs) = ZgI slc base cs := by simp only [vop]
@[go_sem] theorem vopE_box (C : Orc) (M : Zq) (sl : Sl) (hp : Hp) (base : Nat) (x : Opd) : vop C M sl hp base (.box x) = ZuO base (evO sl x) := by simp only [vop]
@[go_sem] theorem ZCb (C : Orc) (M : Zq) (sl : Sl) (hp : Hp) (base : Nat) (zs : List AV) (ps : List (Nat × Nat × Opd)) : vop C M sl hp base (.build zs ps) = Zou zs (evP sl ps) := by simp only [vop]
@[go_sem] theorem ZAX (C : Orc) (M : Zq) (sl : Sl) (hp : Hp) (base : Nat) (s : Nat) (xs : List Opd) : vop C M sl hp base (.buildSl s xs) = buildSl hp base s (evL sl xs) := by simp only [vop]
@[go_sem] theorem vopE_load (C : Orc) (M : Zq) (sl : Sl) (hp : Hp) (base : Nat) (g : Bool) (s : Nat) (a : Opd) : vop C M sl hp base (.load g s a) = WT (Jz hp g s (evO sl a)) := by simp only [vop]
@[go_sem] theorem ZCc (C : Orc) (M : Zq) (sl : Sl) (hp : Hp) (base : Nat) (slc : List (Option Nat)) (s : Nat) (a x : Opd) : vop C M sl hp base (.store slc s a x) = Zhe (Zbl hp slc s base (evO sl x).cells (evO sl a)) := by simp only [vop]
@[go_sem] theorem ZyQ (C : Orc) (M : Zq) (sl : Sl) (hp : Hp) (base : Nat) (x : Opd) : vop C M sl hp base (.nilCheck x) = ZaO (evO sl x) := by simp only [vop]
@[go_sem] theorem vopE_bin (C : Orc) (M : Zq) (sl : Sl) (hp : Hp) (base : Nat) (op : BinOp) (eq : Bool) (x y : Opd) : vop C M sl hp base (.bin op eq x y) = Zhf op eq (evO sl x) (evO sl y) := by simp only [vop]
@[go_sem] theorem vopE_un (C : Orc) (M : Zq) (sl : Sl) (hp : Hp) (base : Nat) (op : UnOp) (x : Opd) : vop C M sl hp base (.un op x) = WT (vun op (evO sl x)) := by simp only [vop]
@[go_sem] theorem vopE_eqA (C : Orc) (M : Zq) (sl : Sl) (hp : Hp) (base : Nat) (neg : Bool) (ks : List Nat) (x y : Opd) : vop C M sl hp base (.eqA neg ks x y) = ZpY neg ks (evO sl x) (evO sl y) := by simp only [vop]
@[go_sem] theorem ZCd (C : Orc) (M : Zq) (sl : Sl) (hp : Hp) (base : Nat) (k : IntKind) (x : Opd) : vop C M sl hp base (.convI k x) = convI k (evO sl x) := by simp only [vop]
@[go_sem] theorem ZCe (C : Orc) (M : Zq) (sl : Sl) (hp : Hp) (base : Nat) (x : Opd) : vop C M sl hp base (.convS x) = convS (evO sl x) := by simp only [vop]
@[go_sem] theorem vopE_fn (C : Orc) (M : Zq) (sl : Sl) (hp : Hp) (base : Nat) (f : Nat) (cs : List Opd) : vop C M sl hp base (.fn f cs) = WT (cloV f (evL sl cs)) := by simp only [vop]
@[go_sem] theorem vopE_make (C : Orc) (M : Zq) (sl : Sl) (hp : Hp) (base : Nat) (s b : Nat) (z : D) (l c : Opd) : vop C M sl hp base (.make s b z l c) = bnd (idx (evO sl l)) fun l => bnd (idx (evO sl c)) fun c => Zow base s b z l c := by simp only [vop]
@[go_sem] theorem ZCf (C : Orc) (M : Zq) (sl : Sl) (hp : Hp) (base : Nat) (s : Nat) (x : Opd) (lo hi : Option Opd) : vop C M sl hp base (.slice s x lo hi) = WT (WS hp s (evM sl lo) (evM sl hi) (evO sl x)) := by simp only [vop]
@[go_sem] theorem ZBG (C : Orc) (M : Zq) (sl : Sl) (hp : Hp) (base : Nat) (x : Opd) (lo hi : Option Opd) : vop C M sl hp base (.sliceS x lo hi) = WT (sliceS (evM sl lo) (evM sl hi) (evO sl x)) := by simp only [vop]
@[go_sem] theorem ZBH (C : Orc) (M : Zq) (sl : Sl) (hp : Hp) (base : Nat) (x hi mx : Opd) : vop C M sl hp base (.slice0 x hi mx) = WT (slice0 hp (evO sl x) (idx (evO sl hi)) (idx (evO sl mx))) := by simp only [vop]
@[go_sem] theorem ZCg (C : Orc) (M : Zq) (sl : Sl) (hp : Hp) (base : Nat) (off : Nat) (x : Opd) : vop C M sl hp base (.shift off x) = Wp off (evO sl x) := by simp only [vop]
@[go_sem] theorem vopE_part (C : Orc) (M : Zq) (sl : Sl) (hp : Hp) (base : Nat) (g : Bool) (s off : Nat) (x : Opd) : vop C M sl hp base (.part g s off x) = WT (ZkB g s off (evO sl x)) := by simp only [vop]
@[go_sem] theorem vopE_iaS (C : Orc) (M : Zq) (sl : Sl) (hp : Hp) (base : Nat) (s : Nat) (x i : Opd) : vop C M sl hp base (.iaS s x i) = bnd (idx (evO sl i)) fun n => Zh3 hp s (evO sl x) n := by simp only [vop]
@[go_sem] theorem vopE_iaA (C : Orc) (M : Zq) (sl : Sl) (hp : Hp) (base : Nat) (len s : Nat) (x i : Opd) : vop C M sl hp base (.iaA len s x i) = bnd (idx (evO sl i)) fun n => Zmj (evO sl x) n len s := by simp only [vop]
@[go_sem] theorem vopE_ixS (C : Orc) (M : Zq) (sl : Sl) (hp : Hp) (base : Nat) (x i : Opd) : vop C M sl hp base (.ixS x i) = bnd (idx (evO sl i)) fun n => Zty n (evO sl x) := by simp only [vop]
@[go_sem] theorem vopE_ixA (C : Orc) (M : Zq) (sl : Sl) (hp : Hp) (base : Nat) (g : Bool) (s len : Nat) (x i : Opd) : vop C M sl hp base (.ixA g s len x i) = bnd (idx (evO sl i)) fun n => ZuQ g s len n (evO sl x) := by simp only [vop]
@[go_sem] theorem vopE_nth (C : Orc) (M : Zq) (sl : Sl) (hp : Hp) (base : Nat) (i : Nat) (x : Opd) : vop C M sl hp base (.nth i x) = ZrW i (evO sl x) := by simp only [vop]
@[go_sem] theorem vopE_len (C : Orc) (M : Zq) (sl : Sl) (hp : Hp) (base : Nat) (x : Opd) : vop C M sl hp base (.len x) = bnd (Zfd hp (evO sl x)) fun n => QB (.d (.int .i64 n)) := by simp only [vop]
@[go_sem] theorem vopE_lenS (C : Orc) (M : Zq) (sl : Sl) (hp : Hp) (base : Nat) (x : Opd) : vop C M sl hp base (.lenS x) = bnd (ZvY (evO sl x)) fun n => QB (.d (.int .i64 n)) := by simp only [vop]
@[go_sem] theorem ZBI (C : Orc) (M : Zq) (sl : Sl) (hp : Hp) (base : Nat) (s b : Nat) (str flat : Bool) (x y : Opd) : vop C M sl hp base (.append s b str flat x y) = ZrX hp s b str flat base (evO sl x) (evO sl y) := by simp only [vop]
@[go_sem] theorem vopE_min (C : Orc) (M : Zq) (sl : Sl) (hp : Hp) (base : Nat) (x y : Opd) : vop C M sl hp base (.min x y) = ZkE (evO sl x) (evO sl y) := by simp only [vop]
@[go_sem] theorem vopE_max (C : Orc) (M : Zq) (sl : Sl) (hp : Hp) (base : Nat) (x y : Opd) : vop C M sl hp base (.max x y) = ZkF (evO sl x) (evO sl y) := by simp only [vop]
@[go_sem] theorem vopE_call (C : Orc) (M : Zq) (sl : Sl) (hp : Hp) (base : Nat) (f : Opd) (as : List Opd) : vop C M sl hp base (.call f as) = Zd1 C M hp base (evL sl as) (evO sl f) := by simp only [vop]
@[go_sem] theorem ZBJ (C : Orc) (M : Zq) (sl : Sl) (hp : Hp) (base : Nat) (s : Nat) (x lo hi mx : Opd) : vop C M sl hp base (.slice3 s x lo hi mx) = WT (slice3 hp (evO sl x) (idx (evO sl lo)) (idx (evO sl hi)) (idx (evO sl mx))) := by simp only [vop]
@[go_sem] theorem ZCh (C : Orc) (M : Zq) (sl : Sl) (hp : Hp) (base : Nat) (s : Nat) (z : D) (x : Opd) : vop C M sl hp base (.clear s z x) = Zhe (Zfh hp s z (evO sl x)) := by simp only [vop]
@[go_sem] theorem ZAY (C : Orc) (M : Zq) (sl : Sl) (hp : Hp) (base : Nat) (s n : Nat) (xs : List Opd) : vop C M sl hp base (.buildDp s n xs) = buildDp hp base s n (evL sl xs) := by simp only [vop]
@[go_sem] theorem ZCi (C : Orc) (M : Zq) (sl : Sl) (hp : Hp) (base : Nat) (s b : Nat) (f : Bool) (x y : Opd) : vop C M sl hp base (.appDp s b f x y) = ZpZ hp s b base (evO sl x) (evO sl y) := by simp only [vop]
@[go_sem] theorem ZCj (C : Orc) (M : Zq) (sl : Sl) (hp : Hp) (base : Nat) (s n : Nat) (x : Opd) : vop C M sl hp base (.asgDp s n x) = asgDp base s n (evO sl x) := by simp only [vop]
@[go_sem] theorem ZCk (C : Orc) (M : Zq) (sl : Sl) (hp : Hp) (base : Nat) : vop C M sl hp base .stuck = none := by simp only [vop]
@[go_sem] theorem Zwr (hp : Hp) (n : Nat) (acc : List Nat) : QT hp n [] acc = acc := by cases n <;> rfl
@[go_sem] theorem tidy_d (hp : Hp) (ids : List Nat) (x : D) : ZfY hp ids (.d x) = .d x := rfl
@[go_sem] theorem tidy_nil (hp : Hp) (ids : List Nat) : ZfY hp ids .nil = .nil := rfl
@[go_sem] theorem tidy_junk (hp : Hp) (ids : List Nat) : ZfY hp ids .junk = .junk := rfl
@[go_sem] theorem tidy_tup (hp : Hp) (ids : List Nat) (vs : List AV) : ZfY hp ids (.tup vs) = ren (WY ids) (kill (Zh9 hp ids (ZF (.tup vs))) (.tup vs)) := rfl
@[go_sem] theorem tidy_agg (hp : Hp) (ids : List Nat) (vs : List AV) : ZfY hp ids (.agg vs) = ren (WY ids) (kill (Zh9 hp ids (ZF (.agg vs))) (.agg vs)) := rfl
@[go_sem] theorem tidy_clo (hp : Hp) (ids : List Nat) (f : Nat) (vs : List AV) : ZfY hp ids (.clo f vs) = ren (WY ids) (kill (Zh9 hp ids (ZF (.clo f vs))) (.clo f vs)) := rfl
@[go_sem] theorem tidy_nilp (hp : Hp) (ids : List Nat) : ZfY hp ids .nilp = .nilp := rfl
@[go_sem] theorem tidy_nili (hp : Hp) (ids : List Nat) : ZfY hp ids .nili = .nili := rfl
@[go_sem] theorem tidy_pim (hp : Hp) (ids : List Nat) (cs : List D) : ZfY hp ids (.pim cs) = .pim cs := rfl
@[go_sem] theorem tidy_ptr (hp : Hp) (ids : List Nat) (id o : Nat) : ZfY hp ids (.ptr id o) = if Zfl hp ids id = true then .ptr (WY ids id) o else .junk := by
 simp only [ZfY, ZF, ZG, Zn, Zh9]
 split <;> simp [kill, Z4, Qr, ren, Zhd, Zhc]
@[go_sem] theorem tidy_prow (hp : Hp) (ids : List Nat) (id s i o : Nat) : ZfY hp ids (.prow id s i o) = if Zfl hp ids id = true then .prow (WY ids id) s i o else .junk := by
 simp only [ZfY, ZF, ZG, Zn, Zh9]
 split <;> simp [kill, Z4, Qr, ren, Zhd, Zhc]
@[go_sem] theorem tidy_own (hp : Hp) (ids : List Nat) (id : Nat) : ZfY hp ids (.own id) = if Zfl hp ids id = true then .own (WY ids id) else .junk := by
 simp only [ZfY, ZF, ZG, Zn, Zh9]
 split <;> simp [kill, Z4, Qr, ren, Zhd, Zhc]
@[go_sem] theorem tidy_ownv (hp : Hp) (ids : List Nat) (id a b : Nat) : ZfY hp ids (.ownv id a b) = if Zfl hp ids id = true then .ownv (WY ids id) a b else .junk := by
 simp only [ZfY, ZF, ZG, Zn, Zh9]
 split <;> simp [kill, Z4, Qr, ren, Zhd, Zhc]
@[go_sem] theorem ZCl (hp : Hp) (x : D) : VS 0 hp (.d x) = (.d x, []) := by
 simp [VS, ZF, ZG, Zn, W3, Zwr, tidy_d, ZdW]
@[go_sem] theorem minI_eq (a b : Int) : minI a b = min a b := by unfold minI; split <;> omega
@[go_sem] theorem maxI_eq (a b : Int) : maxI a b = max a b := by unfold maxI; split <;> omega
@[go_sem] theorem negIf_f (r : Bool) : Zov false r = r := rfl
@[go_sem] theorem negIf_t (r : Bool) : Zov true r = !r := rfl
@[go_sem] theorem opt1_some (v : AV) : WT (some v) = QB v := rfl
@[go_sem] theorem opt1_none : WT none = none := rfl
@[go_sem] theorem vbin_int (op : BinOp) (k k' : IntKind) (a b : Int) : vbin op (.d (.int k a)) (.d (.int k' b)) = ZaI op k k' a b := rfl
@[go_sem] theorem binV_int (op : BinOp) (eq : Bool) (k k' : IntKind) (a b : Int) : Zhf op eq (.d (.int k a)) (.d (.int k' b)) = WT (ZaI op k k' a b) := rfl
@[go_sem] theorem binV_str (op : BinOp) (eq : Bool) (a b : List UInt8) : Zhf op eq (.d (.str a)) (.d (.str b)) = WT (asD (ZsR op a b)) := rfl
@[go_sem] theorem int2_add (k : IntKind) (a b : Int) : ZaI .add k k a b = some (.d (.int k (k.wrap (a + b)))) := by simp [ZaI, Ju, asD, Zj]
@[go_sem] theorem int2_sub (k : IntKind) (a b : Int) : ZaI .sub k k a b = some (.d (.int k (k.wrap (a - b)))) := by simp [ZaI, Ju, asD, Zj]
@[go_sem] theorem int2_mul (k : IntKind) (a b : Int) : ZaI .mul k k a b = some (.d (.int k (k.wrap (a * b)))) := by simp [ZaI, Ju, asD, Zj]
@[go_sem] theorem int2_quo (k : IntKind) (a b : Int) : ZaI .quo k k a b = if b = 0 then none else some (.d (.int k (k.wrap (a.tdiv b)))) := by simp only [ZaI, Ju, asD, if_true]; split <;> rfl
@[go_sem] theorem int2_rem (k : IntKind) (a b : Int) : ZaI .rem k k a b = if b = 0 then none else some (.d (.int k (a.tmod b))) := by simp only [ZaI, Ju, asD, if_true]; split <;> rfl
@[go_sem] theorem int2_eql (k : IntKind) (a b : Int) : ZaI .eql k k a b = some (.d (.bool (decide (a = b)))) := by simp [ZaI, Ju, asD, Zj, BEq.beq]
@[go_sem] theorem int2_neq (k : IntKind) (a b : Int) : ZaI .neq k k a b = some (.d (.bool (!decide (a = b)))) := by simp [ZaI, Ju, asD, Zj, bne, BEq.beq]
@[go_sem] theorem int2_lss (k : IntKind) (a b : Int) : ZaI .lss k k a b = some (.d (.bool (decide (a < b)))) := by simp [ZaI, Ju, asD, Zj]
@[go_sem] theorem int2_leq (k : IntKind) (a b : Int) : ZaI .leq k k a b = some (.d (.bool (decide (a ≤ b)))) := by simp [ZaI, Ju, asD, Zj]
@[go_sem] theorem int2_gtr (k : IntKind) (a b : Int) : ZaI .gtr k k a b = some (.d (.bool (decide (b < a)))) := by simp [ZaI, Ju, asD, Zj]
@[go_sem] theorem int2_geq (k : IntKind) (a b : Int) : ZaI .geq k k a b = some (.d (.bool (decide (b ≤ a)))) := by simp [ZaI, Ju, asD, Zj]
@[go_sem] theorem guardV_t (b : Bool) : ZgN true (.d (.bool b)) = some b := by cases b <;> rfl
def nb (b : Bool) : Bool := !b
@[go_sem] theorem nb_true : nb true = false := rfl
@[go_sem] theorem nb_false : nb false = true := rfl
@[go_sem] theorem nb_eq (b : Bool) : (nb b = true) = (b = false) := by cases b <;> simp [nb]
@[go_sem] theorem guardV_f (b : Bool) : ZgN false (.d (.bool b)) = some (nb b) := by cases b <;> rfl
@[go_sem] theorem ZCm (w : Bool) : ZgN w (.tup []) = some false := rfl
@[go_sem] theorem ZAZ (a b : Bool) : ZgN true (ZiT a (.d (.bool b))) = some (a && b) := by cases a <;> cases b <;> rfl
@[go_sem] theorem ZA0 (a b : Bool) : ZgN false (ZiT a (.d (.bool b))) = some (a && nb b) := by cases a <;> cases b <;> rfl
@[go_sem] theorem iteV_true (v : AV) : ZiT true v = v := rfl
@[go_sem] theorem ZCn (v : AV) : ZiT false v = .tup [] := rfl
@[go_sem] theorem ZCo (a b : AV) : Zg7 a b (.d (.bool true)) = QB a := rfl
@[go_sem] theorem ZBK (a b : AV) : Zg7 a b (.d (.bool false)) = QB b := rfl
@[go_sem] theorem pickV_or (b c : Bool) : Zg7 (.d (.bool true)) (ZiT (nb b) (.d (.bool c))) (.d (.bool b)) = QB (.d (.bool (b || c))) := by cases b <;> rfl
@[go_sem] theorem pickV_and (b c : Bool) : Zg7 (ZiT b (.d (.bool c))) (.d (.bool false)) (.d (.bool b)) = QB (.d (.bool (b && c))) := by cases b <;> rfl
theorem ZCp (a b : AV) (t : Bool) : Zg7 a b (.d (.bool t)) = if t = true then QB a else QB b := by cases t <;> rfl
@[go_sem] theorem dec_or (p q : Prop) [Decidable p] [Decidable q] : (decide p || decide q) = decide (p ∨ q) := by simp
@[go_sem] theorem dec_and (p q : Prop) [Decidable p] [Decidable q] : (decide p && decide q) = decide (p ∧ q) := by simp
@[go_sem] theorem dec_not (p : Prop) [Decidable p] : (!decide p) = decide (¬ p) := by simp
attribute [go_sem] Bool.or_eq_false_iff decide_eq_true_eq decide_eq_false_iff_not Bool.and_eq_true Bool.or_eq_true Bool.not_eq_true' Bool.not_eq_false' not_or Decidable.not_not
@[go_sem] theorem evO_t (sl : Sl) (n : Nat) : evO sl (.t n) = gs sl n := rfl
@[go_sem] theorem evO_v (sl : Sl) (a : AV) : evO sl (.v a) = a := rfl
@[go_sem] theorem evO_f (sl : Sl) (n : Nat) : evO sl (.f n) = .clo n [] := rfl
@[go_sem] theorem gs_hit (k : Nat) (v : AV) (r : Sl) : gs ((k, v) :: r) k = v := by simp [gs, lkp, Zfc]
@[go_sem] theorem gs_cons (k t : Nat) (v : AV) (r : Sl) : gs ((k, v) :: r) t = if k = t then v else gs r t := by
 by_cases h : k = t <;> simp [gs, lkp, h, Zfc]
@[go_sem] theorem gs_nil (t : Nat) : gs [] t = .junk := rfl
attribute [go_sem] ZiQ.eq_1 ZiQ.eq_2
attribute [go_sem] ZbO.eq_1 ZbO.eq_2 ZbO.eq_3
attribute [go_sem] ZmT.eq_1 ZmT.eq_2 ZmT.eq_3
attribute [go_sem] Zcm.eq_1 Zcm.eq_2
attribute [go_sem] St.hp.eq_1
attribute [go_sem] Zcv.eq_1 Zcv.eq_2 Zcv.eq_3
attribute [go_sem] Zfc.eq_1 Zfc.eq_2
attribute [go_sem] agg2.eq_1 agg2.eq_2 agg2.eq_3
attribute [go_sem] ins.eq_1 ins.eq_2
attribute [go_sem] Zgu.eq_1 Zgu.eq_2
attribute [go_sem] St.m.eq_1
attribute [go_sem] bnd.eq_1 bnd.eq_2
attribute [go_sem] ZaH.eq_1 ZaH.eq_2 ZaH.eq_3
attribute [go_sem] ZsR.eq_1 ZsR.eq_2 ZsR.eq_3 ZsR.eq_4
attribute [go_sem] AV.cells.eq_1 AV.cells.eq_2 AV.cells.eq_3 AV.cells.eq_4 AV.cells.eq_5 AV.cells.eq_6 AV.cells.eq_7 AV.cells.eq_8 AV.cells.eq_9 AV.cells.eq_10 AV.cells.eq_11 AV.cells.eq_12 AV.cells.eq_13 AV.cells.eq_14
attribute [go_sem] Qr.eq_1 Qr.eq_2 Qr.eq_3 Qr.eq_4 Qr.eq_5 Qr.eq_6
attribute [go_sem] AV.solid.eq_1 AV.solid.eq_2 AV.solid.eq_3
attribute [go_sem] WW.eq_1 WW.eq_2
attribute [go_sem] QP.eq_1 QP.eq_2
attribute [go_sem] Zis.eq_1 Zis.eq_2
attribute [go_sem] Zcu.eq_1
attribute [go_sem] Zfd.eq_1 Zfd.eq_2 Zfd.eq_3 Zfd.eq_4 Zfd.eq_5
attribute [go_sem] ZhO.eq_1 ZhO.eq_2
attribute [go_sem] D.flat.eq_1
attribute [go_sem] give.eq_1 give.eq_2
attribute [go_sem] D.beq1.eq_1 D.beq1.eq_2 D.beq1.eq_3 D.beq1.eq_4
attribute [go_sem] Zhc.eq_1 Zhc.eq_2 Zhc.eq_3 Zhc.eq_4 Zhc.eq_5 Zhc.eq_6
attribute [go_sem] not1.eq_1 not1.eq_2
attribute [go_sem] Ye.eq_1 Ye.eq_2 Ye.eq_3
attribute [go_sem] St.nx.eq_1
attribute [go_sem] ZG.eq_1 ZG.eq_2 ZG.eq_3
attribute [go_sem] Zhd.eq_1 Zhd.eq_2 Zhd.eq_3
attribute [go_sem] Zki.eq_1 Zki.eq_2
attribute [go_sem] vun.eq_1 vun.eq_2 vun.eq_3
attribute [go_sem] toD.eq_1 toD.eq_2
attribute [go_sem] Zn.eq_1 Zn.eq_2 Zn.eq_3 Zn.eq_4 Zn.eq_5 Zn.eq_6 Zn.eq_7 Zn.eq_8 Zn.eq_9 Zn.eq_10 Zn.eq_11 Zn.eq_12 Zn.eq_13 Zn.eq_14
attribute [go_sem] D.plain.eq_1 D.plain.eq_2 D.plain.eq_3 D.plain.eq_4 D.plain.eq_5
attribute [go_sem] Qo.eq_1
attribute [go_sem] Z4.eq_1 Z4.eq_2 Z4.eq_3
attribute [go_sem] Zir.eq_1 Zir.eq_2
attribute [go_sem] ZF.eq_1 ZF.eq_2
attribute [go_sem] Zug.eq_1
attribute [go_sem] ZiS.eq_1 ZiS.eq_2
attribute [go_sem] Zcw.eq_1 Zcw.eq_2 Zcw.eq_3 Zcw.eq_4
attribute [go_sem] St.sl.eq_1
attribute [go_sem] ZvY.eq_1 ZvY.eq_2
attribute [go_sem] UU.eq_1 UU.eq_2
attribute [go_sem] Zgt.eq_1 Zgt.eq_2
attribute [go_sem] ren.eq_1 ren.eq_2
attribute [go_sem] kill.eq_1 kill.eq_2
attribute [go_sem] lkp.eq_1 lkp.eq_2
attribute [go_sem] Zqj.eq_1 Zqj.eq_2 Zqj.eq_3
attribute [go_sem] VO.eq_1 VO.eq_2
attribute [go_sem] beqL.eq_1 beqL.eq_2 beqL.eq_3
attribute [go_sem] D.cells.eq_1 D.cells.eq_2 D.cells.eq_3 D.cells.eq_4 D.cells.eq_5
attribute [go_sem] ZnT.eq_1 ZnT.eq_2
attribute [go_sem] Zqi.eq_1 Zqi.eq_2
attribute [go_sem] neg1.eq_1 neg1.eq_2
attribute [go_sem] Zlj.eq_1 Zlj.eq_2 Zlj.eq_3
attribute [go_sem] Wo.eq_1 Wo.eq_2 Wo.eq_3
attribute [go_sem] asD.eq_1
attribute [go_sem] Ju.eq_1 Ju.eq_2 Ju.eq_3 Ju.eq_4 Ju.eq_5 Ju.eq_6 Ju.eq_7 Ju.eq_8 Ju.eq_9 Ju.eq_10 Ju.eq_11 Ju.eq_12 Ju.eq_13 Ju.eq_14 Ju.eq_15 Ju.eq_16 Ju.eq_17
attribute [go_sem] ZiR.eq_1 ZiR.eq_2 ZiR.eq_3 ZiR.eq_4 ZiR.eq_5
attribute [go_sem] D.one.eq_1 D.one.eq_2 D.one.eq_3 D.one.eq_4 D.one.eq_5
attribute [go_sem] freeze.eq_1 freeze.eq_2
attribute [go_sem] Zfg.eq_1
attribute [go_sem] loOf.eq_1 loOf.eq_2
attribute [go_sem] Eff.on.eq_1
attribute [go_sem] ZbC.eq_1 ZbC.eq_2
attribute [go_sem] cloV.eq_1
attribute [go_sem] slice0.eq_1 slice0.eq_2
attribute [go_sem] evM.eq_1 evM.eq_2
attribute [go_sem] hiOf.eq_1 hiOf.eq_2
attribute [go_sem] ZkB.eq_1 ZkB.eq_2 ZkB.eq_3
attribute [go_sem] Zvz.eq_1
attribute [go_sem] idx.eq_1 idx.eq_2
attribute [go_sem] WS.eq_1 WS.eq_2 WS.eq_3 WS.eq_4 WS.eq_5
attribute [go_sem] ZbR.eq_1 ZbR.eq_2 ZbR.eq_3
attribute [go_sem] Qx.eq_1 Qx.eq_2
attribute [go_sem] D.notSl.eq_1 D.notSl.eq_2
attribute [go_sem] ZxU.eq_1 ZxU.eq_2
attribute [go_sem] ZdX.eq_1 ZdX.eq_2 ZdX.eq_3 ZdX.eq_4 ZdX.eq_5 ZdX.eq_6
attribute [go_sem] CO.guard.eq_1
attribute [go_sem] Zhe.eq_1
attribute [go_sem] ZaM.eq_1
attribute [go_sem] ZdT.eq_1 ZdT.eq_2
attribute [go_sem] ZkA.eq_1
attribute [go_sem] Eff.adds.eq_1
attribute [go_sem] WY.eq_1 WY.eq_2
attribute [go_sem] Zi.eq_1 Zi.eq_2
attribute [go_sem] Zf.eff.eq_1
attribute [go_sem] Zh2.eq_1 Zh2.eq_2
attribute [go_sem] Zty.eq_1 Zty.eq_2
attribute [go_sem] Zly.eq_1 Zly.eq_2 Zly.eq_3
attribute [go_sem] del.eq_1 del.eq_2
attribute [go_sem] Zou.eq_1
attribute [go_sem] ZrT.eq_1 ZrT.eq_2
attribute [go_sem] Zbm.eq_1 Zbm.eq_2
attribute [go_sem] ZkF.eq_1 ZkF.eq_2
attribute [go_sem] ZaO.eq_1 ZaO.eq_2 ZaO.eq_3 ZaO.eq_4 ZaO.eq_5
attribute [go_sem] ZgI.eq_1
attribute [go_sem] slice3.eq_1
attribute [go_sem] ZdV.eq_1 ZdV.eq_2
attribute [go_sem] args.eq_1 args.eq_2
attribute [go_sem] ZjG.eq_1 ZjG.eq_2
attribute [go_sem] ZkE.eq_1 ZkE.eq_2
attribute [go_sem] Zco.eq_1 Zco.eq_2
attribute [go_sem] Zel.eq_1
attribute [go_sem] Zen.deepRow.eq_1 Zen.deepRow.eq_2
attribute [go_sem] ZiC.eq_1 ZiC.eq_2
attribute [go_sem] ZkD.eq_1
attribute [go_sem] evL.eq_1 evL.eq_2
attribute [go_sem] ZbD.eq_1 ZbD.eq_2 ZbD.eq_3
attribute [go_sem] ZdW.eq_1 ZdW.eq_2
attribute [go_sem] Zot.eq_1 Zot.eq_2
attribute [go_sem] Eff.sets.eq_1
attribute [go_sem] Zfj.eq_1 Zfj.eq_2 Zfj.eq_3
attribute [go_sem] ZfL.eq_1
attribute [go_sem] Zh1.eq_1 Zh1.eq_2
attribute [go_sem] Zbl.eq_1 Zbl.eq_2 Zbl.eq_3
attribute [go_sem] ZuQ.eq_1
attribute [go_sem] ZpZ.eq_1
attribute [go_sem] Wq.eq_1 Wq.eq_2
attribute [go_sem] Zlz.eq_1 Zlz.eq_2
attribute [go_sem] Zd2.eq_1 Zd2.eq_2
attribute [go_sem] Zow.eq_1
attribute [go_sem] buildDp.eq_1 buildDp.eq_2
attribute [go_sem] AV.atom.eq_1 AV.atom.eq_2 AV.atom.eq_3 AV.atom.eq_4 AV.atom.eq_5
attribute [go_sem] ZrX.eq_1
attribute [go_sem] Eff.dels.eq_1
attribute [go_sem] Zek.eq_1 Zek.eq_2 Zek.eq_3
attribute [go_sem] mat.eq_1 mat.eq_2 mat.eq_3
attribute [go_sem] ZW.eq_1
attribute [go_sem] ZdZ.eq_1 ZdZ.eq_2
attribute [go_sem] Ztv.eq_1 Ztv.eq_2
attribute [go_sem] ZrV.eq_1
attribute [go_sem] ZuO.eq_1
attribute [go_sem] UW.eq_1
attribute [go_sem] QJ.eq_1 QJ.eq_2 QJ.eq_3 QJ.eq_4
attribute [go_sem] ZuP.eq_1
attribute [go_sem] ZfM.eq_1 ZfM.eq_2
attribute [go_sem] ZtA.eq_1 ZtA.eq_2
attribute [go_sem] Zh0.eq_1 Zh0.eq_2 Zh0.eq_3 Zh0.eq_4
attribute [go_sem] ZjF.eq_1 ZjF.eq_2
attribute [go_sem] ZgH.eq_1 ZgH.eq_2
attribute [go_sem] ZfO.eq_1 ZfO.eq_2 ZfO.eq_3 ZfO.eq_4 ZfO.eq_5
attribute [go_sem] ZrU.eq_1 ZrU.eq_2
attribute [go_sem] Zeo.eq_1 Zeo.eq_2
attribute [go_sem] convS.eq_1 convS.eq_2
attribute [go_sem] ZiD.eq_1 ZiD.eq_2
attribute [go_sem] CO.tl.eq_1
attribute [go_sem] Vw.eq_1 Vw.eq_2 Vw.eq_3
attribute [go_sem] CO.dst.eq_1
attribute [go_sem] ZuR.eq_1 ZuR.eq_2 ZuR.eq_3
attribute [go_sem] ZhZ.eq_1
attribute [go_sem] ZjH.eq_1 ZjH.eq_2
attribute [go_sem] Zen.eq_1 Zen.eq_2 Zen.eq_3 Zen.eq_4
attribute [go_sem] ZkC.eq_1 ZkC.eq_2
attribute [go_sem] ZcN.eq_1 ZcN.eq_2 ZcN.eq_3
attribute [go_sem] ZqK.eq_1
attribute [go_sem] Eff.val.eq_1
attribute [go_sem] sliceS.eq_1 sliceS.eq_2
attribute [go_sem] Vv.eq_1 Vv.eq_2 Vv.eq_3
attribute [go_sem] buildSl.eq_1 buildSl.eq_2
attribute [go_sem] Jz.eq_1 Jz.eq_2 Jz.eq_3 Jz.eq_4
attribute [go_sem] Za0.eq_1 Za0.eq_2 Za0.eq_3 Za0.eq_4 Za0.eq_5
attribute [go_sem] Zmi.eq_1 Zmi.eq_2
attribute [go_sem] Zmj.eq_1
attribute [go_sem] evP.eq_1 evP.eq_2
attribute [go_sem] Zd0.eq_1 Zd0.eq_2
attribute [go_sem] Zcy.eq_1
attribute [go_sem] ZfN.eq_1
attribute [go_sem] ZqJ.eq_1 ZqJ.eq_2
attribute [go_sem] Zov.eq_1
attribute [go_sem] Us.eq_1
attribute [go_sem] Ztz.eq_1
attribute [go_sem] ZdU.eq_1 ZdU.eq_2
attribute [go_sem] ZaL.eq_1 ZaL.eq_2
attribute [go_sem] Zd1.eq_1 Zd1.eq_2
attribute [go_sem] asgDp.eq_1 asgDp.eq_2
attribute [go_sem] ZjE.eq_1 ZjE.eq_2 ZjE.eq_3
attribute [go_sem] Ztw.eq_1 Ztw.eq_2
attribute [go_sem] CO.op.eq_1
attribute [go_sem] Zem.eq_1 Zem.eq_2
attribute [go_sem] Zfh.eq_1 Zfh.eq_2
attribute [go_sem] Zwy.eq_1 Zwy.eq_2
attribute [go_sem] ZrW.eq_1 ZrW.eq_2
attribute [go_sem] Zfi.eq_1 Zfi.eq_2 Zfi.eq_3 Zfi.eq_4 Zfi.eq_5 Zfi.eq_6 Zfi.eq_7 Zfi.eq_8 Zfi.eq_9
attribute [go_sem] ZaN.eq_1
attribute [go_sem] Wp.eq_1 Wp.eq_2 Wp.eq_3 Wp.eq_4
attribute [go_sem] Eff.frz.eq_1
attribute [go_sem] Qk.eq_1 Qk.eq_2
attribute [go_sem] ZiB.eq_1 ZiB.eq_2
attribute [go_sem] Zf.gone.eq_1
attribute [go_sem] meltIn.eq_1 meltIn.eq_2
attribute [go_sem] Zh3.eq_1
attribute [go_sem] Ztx.eq_1 Ztx.eq_2
attribute [go_sem] convI.eq_1 convI.eq_2
attribute [go_sem] Zm1.eq_1 Zm1.eq_2
attribute [go_sem] bd.eq_1
attribute [go_sem] ZdY.eq_1 ZdY.eq_2
attribute [go_sem] Yg.eq_1
attribute [go_sem] ZfP.eq_1 ZfP.eq_2
attribute [go_sem] ZpY.eq_1 ZpY.eq_2
attribute [go_sem] ZvE.eq_1 ZvE.eq_2
attribute [go_sem] ZM.eq_1 ZM.eq_2 ZM.eq_3 ZM.eq_4 ZM.eq_5 ZM.eq_6 ZM.eq_7 ZM.eq_8 ZM.eq_9 ZM.eq_10 ZM.eq_11 ZM.eq_12 ZM.eq_13 ZM.eq_14 ZM.eq_15 ZM.eq_16 ZM.eq_17 ZM.eq_18 ZM.eq_19 ZM.eq_20 ZM.eq_21 ZM.eq_22 ZM.eq_23 ZM.eq_24 ZM.eq_25 ZM.eq_26 ZM.eq_27 ZM.eq_28 ZM.eq_29 ZM.eq_30 ZM.eq_31 ZM.eq_32 ZM.eq_33 ZM.eq_34 ZM.eq_35 ZM.eq_36 ZM.eq_37 ZM.eq_38 ZM.eq_39
attribute [go_sem] JX.eq_1 JX.eq_2 JX.eq_3 JX.eq_4 JX.eq_5
attribute [go_sem] Zia.eq_1
attribute [go_sem] Zr9.eq_1 Zr9.eq_2
attribute [go_sem] ZcA.eq_1 ZcA.eq_2
attribute [go_sem] Zfm.eq_1
attribute [go_sem] Zh7.eq_1 Zh7.eq_2 Zh7.eq_3 Zh7.eq_4 Zh7.eq_5
attribute [go_sem] JN.eq_1 JN.eq_2
attribute [go_sem] ZoQ.eq_1 ZoQ.eq_2
attribute [go_sem] XF.eq_1 XF.eq_2
attribute [go_sem] only.eq_1 only.eq_2
attribute [go_sem] Zu0.eq_1 Zu0.eq_2
attribute [go_sem] Zh8.eq_1 Zh8.eq_2
attribute [go_sem] Uu.eq_1 Uu.eq_2
attribute [go_sem] okL.eq_1 okL.eq_2
attribute [go_sem] okC.eq_1 okC.eq_2 okC.eq_3 okC.eq_4 okC.eq_5 okC.eq_6 okC.eq_7 okC.eq_8 okC.eq_9 okC.eq_10
attribute [go_sem] Zm3.eq_1 Zm3.eq_2
attribute [go_sem] ZjL.eq_1 ZjL.eq_2
attribute [go_sem] ZgO.eq_1 ZgO.eq_2 ZgO.eq_3
attribute [go_sem] ZiK.eq_1 ZiK.eq_2
attribute [go_sem] Zh9.eq_1 Zh9.eq_2
attribute [go_sem] XL.eq_1 XL.eq_2
attribute [go_sem] Zt.eq_1 Zt.eq_2
attribute [go_sem] Wy.eq_1 Wy.eq_2 Wy.eq_3
attribute [go_sem] ZkM.eq_1
attribute [go_sem] WU.eq_1 WU.eq_2
attribute [go_sem] ZaV.eq_1 ZaV.eq_2
attribute [go_sem] CO.starts.eq_1
attribute [go_sem] Vy.eq_1 Vy.eq_2
attribute [go_sem] Q4.eq_1 Q4.eq_2
attribute [go_sem] ZvD.eq_1 ZvD.eq_2
attribute [go_sem] ZlM.eq_1
attribute [go_sem] ZgQ.eq_1 ZgQ.eq_2
attribute [go_sem] W3.eq_1 W3.eq_2
attribute [go_sem] Zfl.eq_1
attribute [go_sem] ZC.body.eq_1
attribute [go_sem] ZjM.eq_1 ZjM.eq_2
attribute [go_sem] JM.eq_1 JM.eq_2 JM.eq_3 JM.eq_4 JM.eq_5 JM.eq_6
attribute [go_sem] ZC.res.eq_1
attribute [go_sem] VR.eq_1 VR.eq_2
attribute [go_sem] Vk.eq_1 Vk.eq_2 Vk.eq_3 Vk.eq_4 Vk.eq_5 Vk.eq_6 Vk.eq_7 Vk.eq_8 Vk.eq_9 Vk.eq_10 Vk.eq_11 Vk.eq_12
attribute [go_sem] ZmV.eq_1 ZmV.eq_2
attribute [go_sem] ZbS.eq_1 ZbS.eq_2
attribute [go_sem] ZC.nt.eq_1
attribute [go_sem] okD.eq_1 okD.eq_2
attribute [go_sem] ZpY.eq_1 Za0.eq_1 Za0.eq_2 Za0.eq_3 Za0.eq_4
attribute [go_sem] U4.eq_1 Zd7.eq_1 Zd7.eq_2 Zd7.eq_3 Zd7.eq_4 Zd7.eq_5 Zd7.eq_6 Zd7.eq_7 Zd7.eq_8 Zd7.eq_9 Zd7.eq_10 VS.eq_1
attribute [go_sem] QT.eq_3 XE.eq_1 AV.atom.eq_1 AV.atom.eq_2 AV.atom.eq_3 AV.atom.eq_4
attribute [go_sem] Ztn.eq_1 Ztn.eq_2 Zom.eq_1 Zom.eq_2
attribute [go_sem] Zj Zxr ZAC
attribute [go_sem] List.map_cons List.map_nil List.flatMap_cons List.flatMap_nil List.append_nil List.nil_append List.cons_append List.length_cons List.length_nil List.all_cons List.all_nil List.any_cons List.any_nil List.contains_cons List.contains_nil List.filter_cons List.filter_nil List.drop_zero List.drop_succ_cons List.drop_nil List.take_zero List.take_succ_cons List.take_nil List.getElem?_cons_zero List.getElem?_cons_succ List.getElem?_nil Option.map_some Option.map_none Bool.and_true Bool.true_and Bool.and_false Bool.false_and Bool.or_true Bool.true_or Bool.or_false Bool.false_or Bool.not_true Bool.not_false decide_true decide_false and_true true_and and_false false_and not_true not_false_eq_true or_true true_or or_false false_or if_true if_false true_implies false_implies implies_true imp_self eq_self ne_eq beq_self_eq_true Bool.true_eq_false Bool.false_eq_true List.isEmpty_nil List.isEmpty_cons List.range_zero List.set_cons_zero List.set_cons_succ Option.some.injEq reduceCtorEq Nat.reduceLeDiff
def Zon (hp : Hp) : List Nat → List Nat
 | [] => []
 | i :: r => if Vw (lkp hp i) = true then i :: Zon hp r else Zon hp r
theorem gE (hp : Hp) (ids : List Nat) : (ids.filter fun i => Vw (lkp hp i)) = Zon hp ids := by
 induction ids with
 | nil => rfl
 | cons i r ih => simp only [List.filter_cons, Zon, ih]
def ZqB (hp : Hp) (rs : List Nat) : List Nat → Bool
 | [] => true
 | i :: r => (Vw (lkp hp i) || rs.contains i) && ZqB hp rs r
def ZqC (hp : Hp) : List Nat → Bool
 | [] => false
 | i :: r => Zco (lkp hp i) || ZqC hp r
theorem gG (hp : Hp) (ids : List Nat) : (ids.any fun i => Zco (lkp hp i)) = ZqC hp ids := by
 induction ids with
 | nil => rfl
 | cons i r ih => simp only [List.any_cons, ZqC, ih]
attribute [go_sem] ZqC.eq_1 ZqC.eq_2
@[go_sem] theorem appTo_nil (hp : Hp) (s b : Nat) (str flat : Bool) (base : Nat) (y : AV) : ZfQ hp s b str flat base y .nil = Wq hp s b str flat base .nil y ([] ++ YW hp y) := rfl
@[go_sem] theorem appTo_own (hp : Hp) (s b : Nat) (str flat : Bool) (base : Nat) (y : AV) (k : Nat) : ZfQ hp s b str flat base y (.own k) = Wq hp s b str flat base (.own k) y ((if Zco (lkp hp k) = true then [k] else []) ++ YW hp y) := rfl
@[go_sem] theorem ZCq (hp : Hp) (s b : Nat) (str flat : Bool) (base : Nat) (y : AV) (k o n : Nat) : ZfQ hp s b str flat base y (.ownv k o n) = Wq hp s b str flat base (.ownv k o n) y ([] ++ YW hp y) := rfl
@[go_sem] theorem deepId_d (hp : Hp) (x : D) : YW hp (.d x) = [] := rfl
@[go_sem] theorem ZCr (hp : Hp) : YW hp .nil = [] := rfl
@[go_sem] theorem ZBL (hp : Hp) (k o n : Nat) : YW hp (.ownv k o n) = [] := rfl
@[go_sem] theorem ZCs (hp : Hp) (k : Nat) : YW hp (.own k) = if Zco (lkp hp k) = true then [k] else [] := rfl
@[go_sem] theorem appTo_sub (hp : Hp) (s b : Nat) (str flat : Bool) (base : Nat) (y : AV) (id nm : Nat) : ZfQ hp s b str flat base y (.sub id nm) = if str then none else bnd (ZfO hp true y) fun q => if (Zcv y).contains id then none else ZjH s b base id nm q (lkp hp id) := rfl
theorem gF (hp : Hp) (rs ids : List Nat) : ZcM hp rs ids = ZqB hp rs ids := by
 induction ids with
 | nil => rfl
 | cons i r ih => simp only [ZcM, List.all_cons, ZqB] at ih ⊢; rw [ih]
attribute [go_sem] Zon.eq_1 Zon.eq_2 ZqB.eq_1 ZqB.eq_2
@[go_sem] theorem okV_d (x : D) : okV (.d x) = true := rfl
@[go_sem] theorem okV_nil : okV .nil = true := rfl
@[go_sem] theorem okV_nilp : okV .nilp = true := rfl
@[go_sem] theorem okV_nili : okV .nili = true := rfl
@[go_sem] theorem okV_ptr (a b : Nat) : okV (.ptr a b) = true := rfl
@[go_sem] theorem okV_prow (a b c e : Nat) : okV (.prow a b c e) = true := rfl
@[go_sem] theorem okV_pim (cs : List D) : okV (.pim cs) = true := rfl
@[go_sem] theorem okV_own (a : Nat) : okV (.own a) = true := rfl
@[go_sem] theorem okV_ownv (a b c : Nat) : okV (.ownv a b c) = true := rfl
@[go_sem] theorem okV_agg (cs : List AV) : okV (.agg cs) = Zr9 cs := rfl
@[go_sem] theorem okV_tup0 : okV (.tup []) = true := rfl
@[go_sem] theorem ZBM (sl : Sl) (a : COp) (k : Nat) : seenSrc sl a (.own k) = XL sl k (ZM a) := rfl
@[go_sem] theorem seenSrc_d (sl : Sl) (a : COp) (x : D) : seenSrc sl a (.d x) = true := rfl
@[go_sem] theorem ZBN (sl : Sl) (a : COp) : seenSrc sl a .nil = true := rfl
@[go_sem] theorem ZA1 (sl : Sl) (a : COp) (x y z : Nat) : seenSrc sl a (.ownv x y z) = true := rfl
@[go_sem] theorem okV_iteV (b : Bool) (v : AV) : okV (ZiT b v) = (!b || okV v) := by cases b <;> simp [ZiT, okV]
@[go_sem] theorem awayV_d (sl : Sl) (xs : List Opd) (x : D) : Zd8 sl xs (.d x) = true := rfl
@[go_sem] theorem awayV_nil (sl : Sl) (xs : List Opd) : Zd8 sl xs .nil = true := rfl
@[go_sem] theorem ZCt (sl : Sl) (xs : List Opd) : Zd8 sl xs .nilp = true := rfl
@[go_sem] theorem awayV_ptr (sl : Sl) (xs : List Opd) (k o : Nat) : Zd8 sl xs (.ptr k o) = XL sl k xs := rfl
@[go_sem] theorem awayV_pim (sl : Sl) (xs : List Opd) (cs : List D) : Zd8 sl xs (.pim cs) = true := rfl
@[go_sem] theorem awayV_own (sl : Sl) (xs : List Opd) (a : Nat) : Zd8 sl xs (.own a) = true := rfl
@[go_sem] theorem ZCu (sl : Sl) (xs : List Opd) (a b c : Nat) : Zd8 sl xs (.ownv a b c) = true := rfl
@[go_sem] theorem awayV_agg (sl : Sl) (xs : List Opd) (cs : List AV) : Zd8 sl xs (.agg cs) = true := rfl
@[go_sem] theorem awayV_tup (sl : Sl) (xs : List Opd) (cs : List AV) : Zd8 sl xs (.tup cs) = true := rfl
end Go.Abs.E
