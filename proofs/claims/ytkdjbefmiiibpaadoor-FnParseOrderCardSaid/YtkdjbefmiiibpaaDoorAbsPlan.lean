/- Plans as trees. Own text. -/
import Derived.Test.YtkdjbefmiiibpaaDoorAbsLib
set_option linter.unusedVariables false
set_option linter.unusedSimpArgs false
namespace Go.Abs.L
open Go Go.Abs Go.Abs.E

/-- Well formed plans. -/
inductive BT where
  | waste
  | pane (i : Int) (t : Bool)
  | cut (d : Bool) (a : Int) (l r : BT)
deriving DecidableEq, Inhabited

def opOf (d : Bool) : Int := if d then 2 else 3

def BT.plan : BT → Plan
  | .waste => .mk 0 0 0 false []
  | .pane i t => .mk 1 0 i t []
  | .cut d a l r => .mk (opOf d) a 0 false [l.plan, r.plan]

def BT.cnt : BT → Nat
  | .waste => 1
  | .pane _ _ => 1
  | .cut _ _ l r => 1 + l.cnt + r.cnt

theorem BT.cnt_pos (b : BT) : 1 ≤ b.cnt := by cases b <;> simp [BT.cnt] <;> omega

def Plan.nodes : Plan → Nat
  | .mk _ _ _ _ ks => 1 + nodesL ks
where nodesL : List Plan → Nat
  | [] => 0
  | p :: r => Plan.nodes p + nodesL r

def cutB (o a p : Int) (t : Bool) (l r : Option BT) : Option BT := match l, r with
  | some x, some y => if p = 0 ∧ t = false then some (.cut (decide (o = 2)) a x y) else none
  | _, _ => none

mutual
def toBT : Plan → Option BT
  | .mk o a p t ks => if o = 2 ∨ o = 3 then toBT2 o a p t ks else
      if ks.length = 0 ∧ a = 0 ∧ o = 1 then some (.pane p t) else
      if ks.length = 0 ∧ a = 0 ∧ o = 0 ∧ p = 0 ∧ t = false then some .waste else none
def toBT2 (o a p : Int) (t : Bool) : List Plan → Option BT
  | [] => none
  | x :: r => toBT3 o a p t (toBT x) r
def toBT3 (o a p : Int) (t : Bool) (l : Option BT) : List Plan → Option BT
  | [] => none
  | y :: r => match r with
    | [] => cutB o a p t l (toBT y)
    | _ => none
end

theorem toBT_two (o a p : Int) (t : Bool) (x y : Plan) (ho : o = 2 ∨ o = 3) : toBT (.mk o a p t [x, y]) = cutB o a p t (toBT x) (toBT y) := by
  simp [toBT, toBT2, toBT3, ho]
theorem toBT_not2 (o a p : Int) (t : Bool) (ks : List Plan) (ho : o = 2 ∨ o = 3) (hk : ks.length ≠ 2) : toBT (.mk o a p t ks) = none := by
  match ks, hk with
  | [], _ => simp [toBT, toBT2, ho]
  | [x], _ => simp [toBT, toBT2, toBT3, ho]
  | [x, y], h => simp at h
  | x :: y :: z :: r, _ => simp [toBT, toBT2, toBT3, ho]

theorem toBT_plan : ∀ b : BT, toBT b.plan = some b
  | .waste => by simp [BT.plan, toBT]
  | .pane i t => by simp [BT.plan, toBT]
  | .cut d a l r => by
    rw [BT.plan, toBT_two _ _ _ _ _ _ (by cases d <;> simp [opOf]), toBT_plan l, toBT_plan r]
    cases d <;> simp [cutB, opOf]

theorem plan_of_toBT : ∀ (n : Nat) (p : Plan) (b : BT), p.nodes ≤ n → toBT p = some b → p = b.plan
  | 0, .mk o a p t ks, b, hn, _ => by simp [Plan.nodes] at hn
  | n + 1, .mk o a p t ks, b, hn, h => by
    by_cases ho : o = 2 ∨ o = 3
    · by_cases hk : ks.length = 2
      · match ks, hk with
        | [x, y], _ =>
          rw [toBT_two _ _ _ _ _ _ ho] at h
          simp only [Plan.nodes, Plan.nodes.nodesL] at hn
          cases hx : toBT x with
          | none => simp [hx, cutB] at h
          | some bx =>
            cases hy : toBT y with
            | none => simp [hx, hy, cutB] at h
            | some bY =>
              have e1 := plan_of_toBT n x bx (by omega) hx
              have e2 := plan_of_toBT n y bY (by omega) hy
              simp only [hx, hy, cutB] at h
              split at h
              · rename_i hc
                cases h
                obtain ⟨rfl, rfl⟩ := hc
                rw [BT.plan, ← e1, ← e2]
                rcases ho with rfl | rfl <;> rfl
              · cases h
      · rw [toBT_not2 _ _ _ _ _ ho hk] at h; cases h
    · simp only [toBT, ho, if_false] at h
      split at h
      · rename_i hc
        cases h
        obtain ⟨h1, rfl, rfl⟩ := hc
        cases ks with
        | nil => rfl
        | cons x r => simp at h1
      · split at h
        · rename_i hc
          cases h
          obtain ⟨h1, rfl, rfl, rfl, rfl⟩ := hc
          cases ks with
          | nil => rfl
          | cons x r => simp at h1
        · cases h

theorem toBT_some {p : Plan} {b : BT} (h : toBT p = some b) : p = b.plan := plan_of_toBT _ p b (Nat.le_refl _) h

theorem toBT_two' {o a p : Int} {t : Bool} {ks : List Plan} {x y : Plan} (ho : o = 2 ∨ o = 3) (hk : ks.length = 2) (h0 : ks[0]? = some x) (h1 : ks[1]? = some y) : toBT (.mk o a p t ks) = cutB o a p t (toBT x) (toBT y) := by
  match ks, hk with
  | [x', y'], _ =>
    simp at h0 h1
    subst h0; subst h1
    exact toBT_two _ _ _ _ _ _ ho

theorem nodesL_get : ∀ {ks : List Plan} {i : Nat} {x : Plan}, ks[i]? = some x → x.nodes ≤ Plan.nodes.nodesL ks
  | [], i, x, h => by simp at h
  | y :: ks, 0, x, h => by simp at h; subst h; simp [Plan.nodes.nodesL]
  | y :: ks, i + 1, x, h => by
    have := nodesL_get (ks := ks) (i := i) (x := x) (by simpa using h)
    simp only [Plan.nodes.nodesL]; omega

theorem nodes_get {o a p : Int} {t : Bool} {ks : List Plan} {i : Nat} {x : Plan} {n : Nat} (hn : (Plan.mk o a p t ks).nodes ≤ n + 1) (h : ks[i]? = some x) : x.nodes ≤ n := by
  have := nodesL_get h
  simp only [Plan.nodes] at hn; omega

theorem Plan.enc_len (x : Plan) : (Plan.enc x).cells.length = 5 := by
  obtain ⟨o, a, p, t, k⟩ := x; rw [Plan.enc_mk]; rfl
theorem Plan.enc_agg (x : Plan) : D.agg (Plan.enc x).cells = Plan.enc x := by
  obtain ⟨o, a, p, t, k⟩ := x; rw [Plan.enc_mk]; rfl
theorem Plan.take_enc (x : Plan) : (Plan.enc x).cells.take 5 = (Plan.enc x).cells := List.take_of_length_le (by rw [Plan.enc_len x]; omega)
attribute [go_sem] Plan.enc_len Plan.enc_agg Plan.take_enc

theorem toBT_other {o a p : Int} {t : Bool} {ks : List Plan} (ho : ¬ (o = 2 ∨ o = 3)) : toBT (.mk o a p t ks) = if ks.length = 0 ∧ a = 0 ∧ o = 1 then some (.pane p t) else
      if ks.length = 0 ∧ a = 0 ∧ o = 0 ∧ p = 0 ∧ t = false then some .waste else none := by
  simp only [toBT, ho, if_false]

/-- The number of parts, where there are not too many; -1 of what is not well formed. -/
def sizeIn (m : Int) : Option BT → Int
  | some b => if (b.cnt : Int) ≤ m then (b.cnt : Int) else -1
  | none => -1

theorem sizeIn_range (m : Int) (h0 : 0 ≤ m) (b : Option BT) : -1 ≤ sizeIn m b ∧ sizeIn m b ≤ m ∧ sizeIn m b ≠ 0 := by
  cases b with
  | none => simp [sizeIn]; omega
  | some b =>
    have := b.cnt_pos
    simp only [sizeIn]
    split <;> omega

theorem sizeIn_some (m : Int) (b : BT) : ((b.cnt : Int) ≤ m ∧ sizeIn m (some b) = b.cnt) ∨ (m < (b.cnt : Int) ∧ sizeIn m (some b) = -1) := by
  unfold sizeIn
  by_cases h : (b.cnt : Int) ≤ m
  · left; exact ⟨h, if_pos h⟩
  · right; exact ⟨by omega, if_neg h⟩

theorem sizeIn_bad (m o a p : Int) (t : Bool) (l r : Option BT) (h : ¬ (p = 0 ∧ t = false)) : sizeIn m (cutB o a p t l r) = -1 := by
  cases l with
  | none => rfl
  | some x => cases r with
    | none => rfl
    | some y => simp only [cutB, if_neg h, sizeIn]

theorem sizeIn_cut (m o a : Int) (l r : Option BT) : sizeIn m (cutB o a 0 false l r) = if sizeIn m l < 0 ∨ sizeIn m r < 0 ∨ m < 1 + sizeIn m l + sizeIn m r then -1 else 1 + sizeIn m l + sizeIn m r := by
  cases l with
  | none => simp [cutB, sizeIn]
  | some x => cases r with
    | none => simp [cutB, sizeIn]
    | some y =>
      have h1 := x.cnt_pos
      have h2 := y.cnt_pos
      have e : (BT.cut (decide (o = 2)) a x y).cnt = 1 + x.cnt + y.cnt := rfl
      have e0 : cutB o a 0 false (some x) (some y) = some (BT.cut (decide (o = 2)) a x y) := by simp [cutB]
      rw [e0]
      have hx := sizeIn_some m x
      have hy := sizeIn_some m y
      have hc := sizeIn_some m (BT.cut (decide (o = 2)) a x y)
      rw [e] at hc
      generalize sizeIn m (some x) = sx at *
      generalize sizeIn m (some y) = sy at *
      generalize sizeIn m (some (BT.cut (decide (o = 2)) a x y)) = sc at *
      split <;> omega

theorem sizeIn_cut2 (m o a : Int) (l r : Option BT) : sizeIn m (cutB o a 0 false l r) = if sizeIn (m - 1) l < 0 ∨ sizeIn (m - 1 - sizeIn (m - 1) l) r < 0 then -1 else 1 + sizeIn (m - 1) l + sizeIn (m - 1 - sizeIn (m - 1) l) r := by
  cases l with
  | none => simp [cutB, sizeIn]
  | some x => cases r with
    | none => simp [cutB, sizeIn]
    | some y =>
      have h1 := x.cnt_pos
      have h2 := y.cnt_pos
      have e : (BT.cut (decide (o = 2)) a x y).cnt = 1 + x.cnt + y.cnt := rfl
      have e0 : cutB o a 0 false (some x) (some y) = some (BT.cut (decide (o = 2)) a x y) := by simp [cutB]
      rw [e0]
      have hx := sizeIn_some (m - 1) x
      have hy := sizeIn_some (m - 1 - sizeIn (m - 1) (some x)) y
      have hc := sizeIn_some m (BT.cut (decide (o = 2)) a x y)
      rw [e] at hc
      generalize sizeIn (m - 1 - sizeIn (m - 1) (some x)) (some y) = sy at *
      generalize sizeIn (m - 1) (some x) = sx at *
      generalize sizeIn m (some (BT.cut (decide (o = 2)) a x y)) = sc at *
      split <;> omega

theorem sizeIn_low {m : Int} (h : m < 1) (b : Option BT) : sizeIn m b = -1 := by
  cases b with
  | none => rfl
  | some b =>
    have := b.cnt_pos
    have := sizeIn_some m b
    omega

/-! ## What fits -/

def paneFits (ps : List Pane) (i : Int) (t : Bool) (w h : Int) : Bool := decide (0 ≤ i) && (match ps[i.toNat]? with
  | some q => if t then q.Turns && decide (¬ q.W = q.H) && decide (q.H = w) && decide (q.W = h) else decide (q.W = w ∧ q.H = h)
  | none => false)

def fits (ps : List Pane) : BT → Int → Int → Bool
  | .waste, _, _ => true
  | .pane i t, w, h => paneFits ps i t w h
  | .cut d a l r, w, h => if d then decide (1 ≤ a ∧ a ≤ w - 1) && fits ps l a h && fits ps r (w - a) h
      else decide (1 ≤ a ∧ a ≤ h - 1) && fits ps l w a && fits ps r w (h - a)

/-- Valid panes. -/
def VPs (ps : List Pane) : Prop := ∀ q ∈ ps, VP q
instance (ps : List Pane) : Decidable (VPs ps) := by unfold VPs; infer_instance
def VW (k : Work) : Prop := 1 ≤ k.W ∧ k.W ≤ 200 ∧ 1 ≤ k.H ∧ k.H ≤ 200 ∧ k.Panes.length ≤ 24 ∧ VPs k.Panes
instance (k : Work) : Decidable (VW k) := by unfold VW; infer_instance

theorem VPs_drop {ps : List Pane} {k : Nat} {x : Pane} (hx : ps[k]? = some x) : VPs (ps.drop k) ↔ VP x ∧ VPs (ps.drop (k + 1)) := by
  obtain ⟨h1, h2⟩ := List.getElem?_eq_some_iff.1 hx
  rw [List.drop_eq_getElem_cons h1, h2]
  simp [VPs]

end Go.Abs.L
