/- Plans as trees. Own text. -/
import Derived.Test.YtpobhkoombldlaaGreatAbsLib
set_option linter.unusedVariables false
set_option linter.unusedSimpArgs false
namespace Go.Abs.L
open Go Go.Abs Go.Abs.E
inductive BT where
 | waste
 | pane (i : Int) (t : Bool)
 | cut (d : Bool) (a : Int) (l r : BT)
deriving DecidableEq, Inhabited
def J7 (d : Bool) : Int := if d then 2 else 3
def BT.plan : BT → Zg
 | .waste => .mk 0 0 0 false []
 | .pane i t => .mk 1 0 i t []
 | .cut d a l r => .mk (J7 d) a 0 false [l.plan, r.plan]
def BT.cnt : BT → Nat
 | .waste => 1
 | .pane _ _ => 1
 | .cut _ _ l r => 1 + l.cnt + r.cnt
theorem BT.cnt_pos (b : BT) : 1 ≤ b.cnt := by cases b <;> simp [BT.cnt] <;> omega
def Zg.nodes : Zg → Nat
 | .mk _ _ _ _ ks => 1 + nodesL ks
where nodesL : List Zg → Nat
 | [] => 0
 | p :: r => Zg.nodes p + nodesL r
def ZgK (o a p : Int) (t : Bool) (l r : Option BT) : Option BT := match l, r with
 | some x, some y => if p = 0 ∧ t = false then some (.cut (decide (o = 2)) a x y) else none
 | _, _ => none
mutual
def YR : Zg → Option BT
 | .mk o a p t ks => if o = 2 ∨ o = 3 then ZtC o a p t ks else
   if ks.length = 0 ∧ a = 0 ∧ o = 1 then some (.pane p t) else
   if ks.length = 0 ∧ a = 0 ∧ o = 0 ∧ p = 0 ∧ t = false then some .waste else none
def ZtC (o a p : Int) (t : Bool) : List Zg → Option BT
 | [] => none
 | x :: r => ZvC o a p t (YR x) r
def ZvC (o a p : Int) (t : Bool) (l : Option BT) : List Zg → Option BT
 | [] => none
 | y :: r => match r with
  | [] => ZgK o a p t l (YR y)
  | _ => none
end
theorem ZoE (o a p : Int) (t : Bool) (x y : Zg) (ho : o = 2 ∨ o = 3) : YR (.mk o a p t [x, y]) = ZgK o a p t (YR x) (YR y) := by
 simp [YR, ZtC, ZvC, ho]
theorem ZlD (o a p : Int) (t : Bool) (ks : List Zg) (ho : o = 2 ∨ o = 3) (hk : ks.length ≠ 2) : YR (.mk o a p t ks) = none := by
 match ks, hk with
 | [], _ => simp [YR, ZtC, ho]
 | [x], _ => simp [YR, ZtC, ZvC, ho]
 | [x, y], h => simp at h
 | x :: y :: z :: r, _ => simp [YR, ZtC, ZvC, ho]
theorem ZqL : ∀ b : BT, YR b.plan = some b
 | .waste => by simp [BT.plan, YR]
 | .pane i t => by simp [BT.plan, YR]
 | .cut d a l r => by
  rw [BT.plan, ZoE _ _ _ _ _ _ (by cases d <;> simp [J7]), ZqL l, ZqL r]
  cases d <;> simp [ZgK, J7]
theorem ZgL : ∀ (n : Nat) (p : Zg) (b : BT), p.nodes ≤ n → YR p = some b → p = b.plan
 | 0, .mk o a p t ks, b, hn, _ => by simp [Zg.nodes] at hn
 | n + 1, .mk o a p t ks, b, hn, h => by
  by_cases ho : o = 2 ∨ o = 3
  ·by_cases hk : ks.length = 2
   ·match ks, hk with
    | [x, y], _ =>
     rw [ZoE _ _ _ _ _ _ ho] at h
     simp only [Zg.nodes, Zg.nodes.nodesL] at hn
     cases hx : YR x with
     | none => simp [hx, ZgK] at h
     | some bx =>
      cases hy : YR y with
      | none => simp [hx, hy, ZgK] at h
      | some bY =>
       have e1 := ZgL n x bx (by omega) hx
       have e2 := ZgL n y bY (by omega) hy
       simp only [hx, hy, ZgK] at h
       split at h
       ·rename_i hc
        cases h
        obtain ⟨rfl, rfl⟩ := hc
        rw [BT.plan, ← e1, ← e2]
        rcases ho with rfl | rfl <;> rfl
       ·cases h
   ·rw [ZlD _ _ _ _ _ ho hk] at h; cases h
  ·simp only [YR, ho, if_false] at h
   split at h
   ·rename_i hc
    cases h
    obtain ⟨h1, rfl, rfl⟩ := hc
    cases ks with
    | nil => rfl
    | cons x r => simp at h1
   ·split at h
    ·rename_i hc
     cases h
     obtain ⟨h1, rfl, rfl, rfl, rfl⟩ := hc
     cases ks with
     | nil => rfl
     | cons x r => simp at h1
    ·cases h
theorem ZiH {p : Zg} {b : BT} (h : YR p = some b) : p = b.plan := ZgL _ p b (Nat.le_refl _) h
theorem ZqM {o a p : Int} {t : Bool} {ks : List Zg} {x y : Zg} (ho : o = 2 ∨ o = 3) (hk : ks.length = 2) (h0 : ks[0]? = some x) (h1 : ks[1]? = some y) : YR (.mk o a p t ks) = ZgK o a p t (YR x) (YR y) := by
 match ks, hk with
 | [x', y'], _ =>
  simp at h0 h1
  subst h0; subst h1
  exact ZoE _ _ _ _ _ _ ho
theorem ZoF : ∀ {ks : List Zg} {i : Nat} {x : Zg}, ks[i]? = some x → x.nodes ≤ Zg.nodes.nodesL ks
 | [], i, x, h => by simp at h
 | y :: ks, 0, x, h => by simp at h; subst h; simp [Zg.nodes.nodesL]
 | y :: ks, i + 1, x, h => by
  have := ZoF (ks := ks) (i := i) (x := x) (by simpa using h)
  simp only [Zg.nodes.nodesL]; omega
theorem ZiI {o a p : Int} {t : Bool} {ks : List Zg} {i : Nat} {x : Zg} {n : Nat} (hn : (Zg.mk o a p t ks).nodes ≤ n + 1) (h : ks[i]? = some x) : x.nodes ≤ n := by
 have := ZoF h
 simp only [Zg.nodes] at hn; omega
theorem Zg.enc_len (x : Zg) : (Zg.enc x).cells.length = 5 := by
 obtain ⟨o, a, p, t, k⟩ := x; rw [Zg.enc_mk]; rfl
theorem Zg.enc_agg (x : Zg) : D.agg (Zg.enc x).cells = Zg.enc x := by
 obtain ⟨o, a, p, t, k⟩ := x; rw [Zg.enc_mk]; rfl
theorem Zg.take_enc (x : Zg) : (Zg.enc x).cells.take 5 = (Zg.enc x).cells := List.take_of_length_le (by rw [Zg.enc_len x]; omega)
attribute [go_sem] Zg.enc_len Zg.enc_agg Zg.take_enc
theorem ZoG {o a p : Int} {t : Bool} {ks : List Zg} (ho : ¬ (o = 2 ∨ o = 3)) : YR (.mk o a p t ks) = if ks.length = 0 ∧ a = 0 ∧ o = 1 then some (.pane p t) else
   if ks.length = 0 ∧ a = 0 ∧ o = 0 ∧ p = 0 ∧ t = false then some .waste else none := by
 simp only [YR, ho, if_false]
def ZB (m : Int) : Option BT → Int
 | some b => if (b.cnt : Int) ≤ m then (b.cnt : Int) else -1
 | none => -1
theorem ZcP (m : Int) (h0 : 0 ≤ m) (b : Option BT) : -1 ≤ ZB m b ∧ ZB m b ≤ m ∧ ZB m b ≠ 0 := by
 cases b with
 | none => simp [ZB]; omega
 | some b =>
  have := b.cnt_pos
  simp only [ZB]
  split <;> omega
theorem Vi (m : Int) (b : BT) : ((b.cnt : Int) ≤ m ∧ ZB m (some b) = b.cnt) ∨ (m < (b.cnt : Int) ∧ ZB m (some b) = -1) := by
 unfold ZB
 by_cases h : (b.cnt : Int) ≤ m
 ·left; exact ⟨h, if_pos h⟩
 ·right; exact ⟨by omega, if_neg h⟩
theorem ZgM (m o a p : Int) (t : Bool) (l r : Option BT) (h : ¬ (p = 0 ∧ t = false)) : ZB m (ZgK o a p t l r) = -1 := by
 cases l with
 | none => rfl
 | some x => cases r with
  | none => rfl
  | some y => simp only [ZgK, if_neg h, ZB]
theorem ZuU (m o a : Int) (l r : Option BT) : ZB m (ZgK o a 0 false l r) = if ZB m l < 0 ∨ ZB m r < 0 ∨ m < 1 + ZB m l + ZB m r then -1 else 1 + ZB m l + ZB m r := by
 cases l with
 | none => simp [ZgK, ZB]
 | some x => cases r with
  | none => simp [ZgK, ZB]
  | some y =>
   have h1 := x.cnt_pos
   have h2 := y.cnt_pos
   have e : (BT.cut (decide (o = 2)) a x y).cnt = 1 + x.cnt + y.cnt := rfl
   have e0 : ZgK o a 0 false (some x) (some y) = some (BT.cut (decide (o = 2)) a x y) := by simp [ZgK]
   rw [e0]
   have hx := Vi m x
   have hy := Vi m y
   have hc := Vi m (BT.cut (decide (o = 2)) a x y)
   rw [e] at hc
   generalize ZB m (some x) = sx at *
   generalize ZB m (some y) = sy at *
   generalize ZB m (some (BT.cut (decide (o = 2)) a x y)) = sc at *
   split <;> omega
theorem ZtD (m o a : Int) (l r : Option BT) : ZB m (ZgK o a 0 false l r) = if ZB (m - 1) l < 0 ∨ ZB (m - 1 - ZB (m - 1) l) r < 0 then -1 else 1 + ZB (m - 1) l + ZB (m - 1 - ZB (m - 1) l) r := by
 cases l with
 | none => simp [ZgK, ZB]
 | some x => cases r with
  | none => simp [ZgK, ZB]
  | some y =>
   have h1 := x.cnt_pos
   have h2 := y.cnt_pos
   have e : (BT.cut (decide (o = 2)) a x y).cnt = 1 + x.cnt + y.cnt := rfl
   have e0 : ZgK o a 0 false (some x) (some y) = some (BT.cut (decide (o = 2)) a x y) := by simp [ZgK]
   rw [e0]
   have hx := Vi (m - 1) x
   have hy := Vi (m - 1 - ZB (m - 1) (some x)) y
   have hc := Vi m (BT.cut (decide (o = 2)) a x y)
   rw [e] at hc
   generalize ZB (m - 1 - ZB (m - 1) (some x)) (some y) = sy at *
   generalize ZB (m - 1) (some x) = sx at *
   generalize ZB m (some (BT.cut (decide (o = 2)) a x y)) = sc at *
   split <;> omega
theorem ZuV {m : Int} (h : m < 1) (b : Option BT) : ZB m b = -1 := by
 cases b with
 | none => rfl
 | some b =>
  have := b.cnt_pos
  have := Vi m b
  omega
def ZaQ (ps : List Pane) (i : Int) (t : Bool) (w h : Int) : Bool := decide (0 ≤ i) && (match ps[i.toNat]? with
 | some q => if t then q.Turns && decide (¬ q.W = q.H) && decide (q.H = w) && decide (q.W = h) else decide (q.W = w ∧ q.H = h)
 | none => false)
def Yn (ps : List Pane) : BT → Int → Int → Bool
 | .waste, _, _ => true
 | .pane i t, w, h => ZaQ ps i t w h
 | .cut d a l r, w, h => if d then decide (1 ≤ a ∧ a ≤ w - 1) && Yn ps l a h && Yn ps r (w - a) h
   else decide (1 ≤ a ∧ a ≤ h - 1) && Yn ps l w a && Yn ps r w (h - a)
def VPs (ps : List Pane) : Prop := ∀ q ∈ ps, VP q
instance (ps : List Pane) : Decidable (VPs ps) := by unfold VPs; infer_instance
def VW (k : ZJ) : Prop := 1 ≤ k.W ∧ k.W ≤ 200 ∧ 1 ≤ k.H ∧ k.H ≤ 200 ∧ k.Panes.length ≤ 24 ∧ VPs k.Panes
instance (k : ZJ) : Decidable (VW k) := by unfold VW; infer_instance
theorem ZtE {ps : List Pane} {k : Nat} {x : Pane} (hx : ps[k]? = some x) : VPs (ps.drop k) ↔ VP x ∧ VPs (ps.drop (k + 1)) := by
 obtain ⟨h1, h2⟩ := List.getElem?_eq_some_iff.1 hx
 rw [List.drop_eq_getElem_cons h1, h2]
 simp [VPs]
end Go.Abs.L
