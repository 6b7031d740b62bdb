/- The parts of a plan. Own text. -/
import Derived.Test.YtkdjbefmiiibpaaDoorAbsPlan
set_option linter.unusedVariables false
set_option linter.unusedSimpArgs false
namespace Go.Abs.L
open Go Go.Abs Go.Abs.E

structure Part where
  plan : Plan
  box : Box

def Part.enc (p : Part) : D := .agg (p.plan.enc.cells ++ [.int .i64 p.box.X, .int .i64 p.box.Y, .int .i64 p.box.W, .int .i64 p.box.H])
@[go_sem] theorem Part.enc_mk (o a p : Int) (t : Bool) (ks : List Plan) (x y w h : Int) : Part.enc ⟨.mk o a p t ks, ⟨x, y, w, h⟩⟩ =
    .agg [.int .i64 o, .int .i64 a, .int .i64 p, .bool t, .sl (ks.map Plan.enc), .int .i64 x, .int .i64 y, .int .i64 w, .int .i64 h] := by
  simp only [Part.enc, Plan.enc_mk]; rfl
theorem Part.enc_len (p : Part) : (Part.enc p).cells.length = 9 := by
  show (p.plan.enc.cells ++ _).length = 9
  rw [List.length_append, Plan.enc_len]; rfl
@[go_sem] theorem uni_Part (l : List Part) : uni 9 (l.map Part.enc) = True := eq_true (uni_map l Part.enc_len)

/-- All parts of a plan, each ahead of its kids'. -/
def pt : BT → Int → Int → Int → Int → List Part
  | .waste, x, y, w, h => [⟨BT.waste.plan, ⟨x, y, w, h⟩⟩]
  | .pane i t, x, y, w, h => [⟨(BT.pane i t).plan, ⟨x, y, w, h⟩⟩]
  | .cut d a l r, x, y, w, h => ⟨(BT.cut d a l r).plan, ⟨x, y, w, h⟩⟩ :: if d then pt l x y a h ++ pt r (x + a) y (w - a) h else pt l x y w a ++ pt r x (y + a) w (h - a)

/-- The ends of a plan; waste has the pane -1. -/
def sp : BT → Int → Int → Int → Int → List Place
  | .waste, x, y, w, h => [⟨-1, false, ⟨x, y, w, h⟩⟩]
  | .pane i t, x, y, w, h => [⟨i, t, ⟨x, y, w, h⟩⟩]
  | .cut d a l r, x, y, w, h => if d then sp l x y a h ++ sp r (x + a) y (w - a) h else sp l x y w a ++ sp r x (y + a) w (h - a)

def plc : BT → Int → Int → Int → Int → List Place
  | .waste, x, y, w, h => []
  | .pane i t, x, y, w, h => [⟨i, t, ⟨x, y, w, h⟩⟩]
  | .cut d a l r, x, y, w, h => if d then plc l x y a h ++ plc r (x + a) y (w - a) h else plc l x y w a ++ plc r x (y + a) w (h - a)

def wst : BT → Int → Int → Int → Int → List Box
  | .waste, x, y, w, h => [⟨x, y, w, h⟩]
  | .pane i t, x, y, w, h => []
  | .cut d a l r, x, y, w, h => if d then wst l x y a h ++ wst r (x + a) y (w - a) h else wst l x y w a ++ wst r x (y + a) w (h - a)

/-- No pane has a number below 0. -/
def PN : BT → Prop
  | .waste => True
  | .pane i _ => 0 ≤ i
  | .cut _ _ l r => PN l ∧ PN r

def opP : Plan → Int
  | .mk o _ _ _ _ => o
def asPlace (q : Part) : Option Place := match q.plan with
  | .mk o _ p t _ => if o = 1 then some ⟨p, t, q.box⟩ else none
def asWaste (q : Part) : Option Box := match q.plan with
  | .mk o _ _ _ _ => if o = 0 then some q.box else none

theorem pt_places : ∀ (b : BT) (x y w h : Int), (pt b x y w h).filterMap asPlace = plc b x y w h
  | .waste, x, y, w, h => rfl
  | .pane i t, x, y, w, h => rfl
  | .cut d a l r, x, y, w, h => by
    have e : asPlace ⟨(BT.cut d a l r).plan, ⟨x, y, w, h⟩⟩ = none := by cases d <;> rfl
    cases d <;> simp [pt, plc, List.filterMap_append, List.filterMap_cons, e, pt_places]

theorem pt_wastes : ∀ (b : BT) (x y w h : Int), (pt b x y w h).filterMap asWaste = wst b x y w h
  | .waste, x, y, w, h => rfl
  | .pane i t, x, y, w, h => rfl
  | .cut d a l r, x, y, w, h => by
    have e : asWaste ⟨(BT.cut d a l r).plan, ⟨x, y, w, h⟩⟩ = none := by cases d <;> rfl
    cases d <;> simp [pt, wst, List.filterMap_append, List.filterMap_cons, e, pt_wastes]

def spPlace (q : Place) : Option Place := if 0 ≤ q.Pane then some q else none
def spWaste (q : Place) : Option Box := if q.Pane < 0 then some q.Box else none

theorem sp_places : ∀ (b : BT) (x y w h : Int), PN b → (sp b x y w h).filterMap spPlace = plc b x y w h
  | .waste, x, y, w, h, _ => rfl
  | .pane i t, x, y, w, h, hp => by
    have hp : 0 ≤ i := hp
    simp [sp, plc, spPlace, hp]
  | .cut d a l r, x, y, w, h, hp => by
    cases d <;> simp [sp, plc, List.filterMap_append, sp_places l _ _ _ _ hp.1, sp_places r _ _ _ _ hp.2]

theorem sp_wastes : ∀ (b : BT) (x y w h : Int), PN b → (sp b x y w h).filterMap spWaste = wst b x y w h
  | .waste, x, y, w, h, _ => rfl
  | .pane i t, x, y, w, h, hp => by
    have hp : ¬ i < 0 := by have : 0 ≤ i := hp; omega
    simp [sp, wst, spWaste, hp]
  | .cut d a l r, x, y, w, h, hp => by
    cases d <;> simp [sp, wst, List.filterMap_append, sp_wastes l _ _ _ _ hp.1, sp_wastes r _ _ _ _ hp.2]

theorem pt_len : ∀ (b : BT) (x y w h : Int), (pt b x y w h).length = b.cnt
  | .waste, x, y, w, h => rfl
  | .pane i t, x, y, w, h => rfl
  | .cut d a l r, x, y, w, h => by
    cases d <;> simp [pt, BT.cnt, pt_len] <;> omega

theorem sp_len : ∀ (b : BT) (x y w h : Int), (sp b x y w h).length ≤ b.cnt
  | .waste, x, y, w, h => by simp [sp, BT.cnt]
  | .pane i t, x, y, w, h => by simp [sp, BT.cnt]
  | .cut d a l r, x, y, w, h => by
    cases d
    · have h1 := sp_len l x y w a
      have h2 := sp_len r x (y + a) w (h - a)
      simp [sp, BT.cnt]; omega
    · have h1 := sp_len l x y a h
      have h2 := sp_len r (x + a) y (w - a) h
      simp [sp, BT.cnt]; omega

theorem fm_take {α β : Type} {l : List α} {f : α → Option β} {k : Nat} {x : α} (hx : l[k]? = some x) : (l.take (k + 1)).filterMap f = (l.take k).filterMap f ++ (f x).toList := by
  obtain ⟨h1, h2⟩ := List.getElem?_eq_some_iff.1 hx
  rw [List.take_succ_eq_append_getElem h1, h2, List.filterMap_append]
  cases hf : f x <;> simp [hf]

theorem fits_PN {ps : List Pane} : ∀ {b : BT} {w h : Int}, fits ps b w h = true → PN b
  | .waste, _, _, _ => trivial
  | .pane i t, w, h, hf => by
    simp only [fits, paneFits, Bool.and_eq_true, decide_eq_true_eq] at hf
    exact hf.1
  | .cut d a l r, w, h, hf => by
    cases d
    · simp only [fits, Bool.and_eq_true, Bool.false_eq_true, if_false] at hf
      exact ⟨fits_PN hf.1.2, fits_PN hf.2⟩
    · simp only [fits, Bool.and_eq_true, if_true] at hf
      exact ⟨fits_PN hf.1.2, fits_PN hf.2⟩

/-- The parts of a plan that is valid for a work. -/
def partsL (k : Work) (p : Plan) : List Part := match toBT p with
  | some b => if decide (VW k) && decide (b.cnt ≤ 255) && fits k.Panes b k.W k.H then pt b 0 0 k.W k.H else []
  | none => []

/-- A plan is valid for a work. -/
def vplan (k : Work) (p : Plan) : Bool := match toBT p with
  | some b => decide (VW k) && decide (b.cnt ≤ 255) && fits k.Panes b k.W k.H
  | none => false

theorem vplan_some {k : Work} {p : Plan} (h : vplan k p = true) : ∃ b, toBT p = some b ∧ p = b.plan ∧ VW k ∧ b.cnt ≤ 255 ∧ fits k.Panes b k.W k.H = true ∧ partsL k p = pt b 0 0 k.W k.H := by
  have h' := h
  unfold vplan at h
  split at h
  · rename_i b hb
    refine ⟨b, hb, toBT_some hb, ?_⟩
    unfold partsL
    rw [hb]
    dsimp only
    rw [if_pos h]
    simp only [Bool.and_eq_true, decide_eq_true_eq] at h
    exact ⟨h.1.1, h.1.2, h.2, rfl⟩
  · cases h

/-! ## Pieces -/

theorem all_drop {α : Type} {l : List α} {k : Nat} {x : α} (hx : l[k]? = some x) (P : α → Prop) : (∀ y ∈ l.drop k, P y) ↔ P x ∧ ∀ y ∈ l.drop (k + 1), P y := by
  obtain ⟨h1, h2⟩ := List.getElem?_eq_some_iff.1 hx
  rw [List.drop_eq_getElem_cons h1, h2]
  simp

def flawOk (w h : Int) (f : Box) : Prop := VB f ∧ inside f ⟨0, 0, w, h⟩
instance (w h : Int) (f : Box) : Decidable (flawOk w h f) := by unfold flawOk; infer_instance

/-- Valid pieces. -/
def VPc (q : Piece) : Prop := (1 ≤ q.Label ∧ q.Label ≤ 9999 ∧ 1 ≤ q.W ∧ q.W ≤ 200 ∧ 1 ≤ q.H ∧ q.H ≤ 200 ∧ q.Flaws.length ≤ 6) ∧ ∀ f ∈ q.Flaws, flawOk q.W q.H f
instance (q : Piece) : Decidable (VPc q) := by unfold VPc; infer_instance

/-- No flaw meets the box. -/
def clearOf (fs : List Box) (b : Box) : Prop := ∀ f ∈ fs, ¬ meets f b
instance (fs : List Box) (b : Box) : Decidable (clearOf fs b) := by unfold clearOf; infer_instance

/-- A plan for a piece, and no flaw in a pane. -/
def goodP (q : Piece) (k : Work) (p : Plan) : Prop := vplan k p = true ∧ k.W = q.W ∧ k.H = q.H ∧ ∀ c ∈ (partsL k p).filterMap asPlace, clearOf q.Flaws c.Box
instance (q : Piece) (k : Work) (p : Plan) : Decidable (goodP q k p) := by unfold goodP; infer_instance

/-! ## Boxes of a plan -/

def inSq (x y w h : Int) (c : Box) : Prop := 1 ≤ c.W ∧ 1 ≤ c.H ∧ x ≤ c.X ∧ y ≤ c.Y ∧ c.X + c.W ≤ x + w ∧ c.Y + c.H ≤ y + h

theorem plc_in {ps : List Pane} : ∀ {b : BT} {x y w h : Int}, fits ps b w h = true → 1 ≤ w → 1 ≤ h → ∀ c ∈ plc b x y w h, inSq x y w h c.Box
  | .waste, x, y, w, h, hf, h1, h2, c, hc => by simp [plc] at hc
  | .pane i t, x, y, w, h, hf, h1, h2, c, hc => by
    simp only [plc, List.mem_singleton] at hc
    subst hc
    simp only [inSq]; omega
  | .cut d a l r, x, y, w, h, hf, h1, h2, c, hc => by
    cases d
    · simp only [fits, Bool.and_eq_true, Bool.false_eq_true, if_false, decide_eq_true_eq] at hf
      simp only [plc, Bool.false_eq_true, if_false, List.mem_append] at hc
      rcases hc with hc | hc
      · have := plc_in hf.1.2 (by omega) (by omega) c hc
        simp only [inSq] at this ⊢; omega
      · have := plc_in hf.2 (by omega) (by omega) c hc
        simp only [inSq] at this ⊢; omega
    · simp only [fits, Bool.and_eq_true, if_true, decide_eq_true_eq] at hf
      simp only [plc, if_true, List.mem_append] at hc
      rcases hc with hc | hc
      · have := plc_in hf.1.2 (by omega) (by omega) c hc
        simp only [inSq] at this ⊢; omega
      · have := plc_in hf.2 (by omega) (by omega) c hc
        simp only [inSq] at this ⊢; omega

theorem wst_in {ps : List Pane} : ∀ {b : BT} {x y w h : Int}, fits ps b w h = true → 1 ≤ w → 1 ≤ h → ∀ c ∈ wst b x y w h, inSq x y w h c
  | .waste, x, y, w, h, hf, h1, h2, c, hc => by
    simp only [wst, List.mem_singleton] at hc
    subst hc
    simp only [inSq]; omega
  | .pane i t, x, y, w, h, hf, h1, h2, c, hc => by simp [wst] at hc
  | .cut d a l r, x, y, w, h, hf, h1, h2, c, hc => by
    cases d
    · simp only [fits, Bool.and_eq_true, Bool.false_eq_true, if_false, decide_eq_true_eq] at hf
      simp only [wst, Bool.false_eq_true, if_false, List.mem_append] at hc
      rcases hc with hc | hc
      · have := wst_in hf.1.2 (by omega) (by omega) c hc
        simp only [inSq] at this ⊢; omega
      · have := wst_in hf.2 (by omega) (by omega) c hc
        simp only [inSq] at this ⊢; omega
    · simp only [fits, Bool.and_eq_true, if_true, decide_eq_true_eq] at hf
      simp only [wst, if_true, List.mem_append] at hc
      rcases hc with hc | hc
      · have := wst_in hf.1.2 (by omega) (by omega) c hc
        simp only [inSq] at this ⊢; omega
      · have := wst_in hf.2 (by omega) (by omega) c hc
        simp only [inSq] at this ⊢; omega

def areaL : List Box → Int
  | [] => 0
  | c :: l => c.W * c.H + areaL l
theorem areaL_append (a b : List Box) : areaL (a ++ b) = areaL a + areaL b := by
  induction a with
  | nil => simp [areaL]
  | cons c l ih => simp only [List.cons_append, areaL, ih]; omega

/-- A plan's panes and waste have the area of the whole. -/
theorem area_all {ps : List Pane} : ∀ {b : BT} {x y w h : Int}, areaL (wst b x y w h) + areaL ((plc b x y w h).map Place.Box) = w * h
  | .waste, x, y, w, h => by simp [wst, plc, areaL]
  | .pane i t, x, y, w, h => by simp [wst, plc, areaL]
  | .cut d a l r, x, y, w, h => by
    cases d
    · have h1 := area_all (ps := ps) (b := l) (x := x) (y := y) (w := w) (h := a)
      have h2 := area_all (ps := ps) (b := r) (x := x) (y := y + a) (w := w) (h := h - a)
      have h3 : w * (h - a) = w * h - w * a := Int.mul_sub w h a
      simp only [wst, plc, Bool.false_eq_true, if_false, areaL_append, List.map_append]
      omega
    · have h1 := area_all (ps := ps) (b := l) (x := x) (y := y) (w := a) (h := h)
      have h2 := area_all (ps := ps) (b := r) (x := x + a) (y := y) (w := w - a) (h := h)
      have h3 : (w - a) * h = w * h - a * h := Int.sub_mul w a h
      simp only [wst, plc, if_true, areaL_append, List.map_append]
      omega

theorem wst_len : ∀ (b : BT) (x y w h : Int), (wst b x y w h).length ≤ b.cnt
  | .waste, x, y, w, h => by simp [wst, BT.cnt]
  | .pane i t, x, y, w, h => by simp [wst, BT.cnt]
  | .cut d a l r, x, y, w, h => by
    cases d
    · have h1 := wst_len l x y w a
      have h2 := wst_len r x (y + a) w (h - a)
      simp [wst, BT.cnt]; omega
    · have h1 := wst_len l x y a h
      have h2 := wst_len r (x + a) y (w - a) h
      simp [wst, BT.cnt]; omega

/-- The places of a valid plan, and their boxes. -/
theorem vplan_places {k : Work} {p : Plan} {b : BT} (hv : VW k) (hf : fits k.Panes b k.W k.H = true) : ∀ c ∈ plc b 0 0 k.W k.H, VB c.Box := by
  intro c hc
  obtain ⟨h1, h2, h3, h4, _⟩ := hv
  have := plc_in hf h1 h3 c hc
  simp only [inSq] at this
  simp only [VB]; omega
theorem vplan_wastes {k : Work} {p : Plan} {b : BT} (hv : VW k) (hf : fits k.Panes b k.W k.H = true) : ∀ c ∈ wst b 0 0 k.W k.H, VB c := by
  intro c hc
  obtain ⟨h1, h2, h3, h4, _⟩ := hv
  have := wst_in hf h1 h3 c hc
  simp only [inSq] at this
  simp only [VB]; omega

/-! ## Cutting out -/

def shiftB (b m : Box) : Box := ⟨m.X - b.X, m.Y - b.Y, m.W, m.H⟩
def cutFlaw (b f : Box) : Option Box := if meets f b then some (shiftB b (meetB f b)) else none
/-- What is cut out of a piece. -/
def cutP (q : Piece) (b : Box) (label : Int) : Piece := ⟨label, b.W, b.H, q.Flaws.filterMap (cutFlaw b)⟩

theorem cutP_valid {q : Piece} {b : Box} {label : Int} (hq : VPc q) (hb : VB b) (hi : inside b ⟨0, 0, q.W, q.H⟩) (h1 : 1 ≤ label) (h2 : label ≤ 9999) : VPc (cutP q b label) := by
  simp only [VB] at hb
  refine ⟨⟨h1, h2, ?_, ?_, ?_, ?_, Nat.le_trans (List.length_filterMap_le _ _) hq.1.2.2.2.2.2.2⟩, ?_⟩
  · show 1 ≤ b.W; omega
  · show b.W ≤ 200; omega
  · show 1 ≤ b.H; omega
  · show b.H ≤ 200; omega
  · intro f hf
    obtain ⟨g, hg, hgf⟩ := List.mem_filterMap.1 hf
    have hgv := hq.2 g hg
    unfold cutFlaw at hgf
    split at hgf
    · rename_i hm
      cases hgf
      simp only [flawOk, VB, inside] at hgv
      simp only [meets] at hm
      simp only [flawOk, VB, inside, shiftB, meetB, cutP]
      omega
    · cases hgf

/-! ## Remnants -/

def keptB (least : Int) (b : Box) : Option Box := if least ≤ b.W ∧ least ≤ b.H then some b else none
def cutN (q : Piece) : Int → List Box → List Piece
  | _, [] => []
  | n, b :: l => cutP q b n :: cutN q (n + 1) l
theorem cutN_append (q : Piece) : ∀ (n : Int) (a b : List Box), cutN q n (a ++ b) = cutN q n a ++ cutN q (n + a.length) b
  | n, [], b => by simp [cutN]
  | n, x :: a, b => by
    simp only [List.cons_append, cutN, cutN_append q (n + 1) a b, List.length_cons]
    congr 3
    omega
theorem cutN_len (q : Piece) : ∀ (n : Int) (a : List Box), (cutN q n a).length = a.length
  | n, [] => rfl
  | n, x :: a => by simp [cutN, cutN_len q (n + 1) a]
theorem cutN_take (q : Piece) (n : Int) {l : List Box} {i : Nat} {x : Box} (hx : l[i]? = some x) : cutN q n (l.take (i + 1)) = cutN q n (l.take i) ++ [cutP q x (n + i)] := by
  obtain ⟨h1, h2⟩ := List.getElem?_eq_some_iff.1 hx
  rw [List.take_succ_eq_append_getElem h1, h2, cutN_append]
  simp only [cutN, List.length_take, Nat.min_eq_left (Nat.le_of_lt h1)]

/-- The wastes of a plan that are large enough. -/
def keptL (k : Work) (p : Plan) (least : Int) : List Box := ((partsL k p).filterMap asWaste).filterMap (keptB least)

theorem keptL_in {k : Work} {p : Plan} {least : Int} (hv : vplan k p = true) : ∀ b ∈ keptL k p least, VB b ∧ inside b ⟨0, 0, k.W, k.H⟩ := by
  intro b hb
  obtain ⟨t, _, _, hw, _, hf, hp⟩ := vplan_some hv
  unfold keptL at hb
  rw [hp, pt_wastes] at hb
  obtain ⟨c, hc, hcb⟩ := List.mem_filterMap.1 hb
  unfold keptB at hcb
  split at hcb
  · cases hcb
    refine ⟨vplan_wastes (p := p) hw hf b hc, ?_⟩
    obtain ⟨h1, h2, h3, h4, _⟩ := hw
    have := wst_in hf h1 h3 b hc
    simp only [inSq] at this
    simp only [inside]; omega
  · cases hcb

theorem keptL_len (k : Work) (p : Plan) (least : Int) : (keptL k p least).length ≤ 255 := by
  unfold keptL
  refine Nat.le_trans (List.length_filterMap_le _ _) (Nat.le_trans (List.length_filterMap_le _ _) ?_)
  unfold partsL
  split
  · split
    · rename_i h
      simp only [Bool.and_eq_true, decide_eq_true_eq] at h
      rw [pt_len]; exact h.1.2
    · simp
  · simp

/-- What remains of a piece. -/
def remn (q : Piece) (k : Work) (p : Plan) (least label : Int) : List Piece :=
  if (VPc q ∧ goodP q k p) ∧ 1 ≤ least ∧ least ≤ 200 ∧ 1 ≤ label ∧ label ≤ 9999 ∧ (keptL k p least).length ≤ 10000 - label then cutN q label (keptL k p least) else []

/-! ## Lost glass -/

def lostB (least : Int) (b : Box) : Option Box := if b.W < least ∨ b.H < least then some b else none
def lostL (k : Work) (p : Plan) (least : Int) : List Box := ((partsL k p).filterMap asWaste).filterMap (lostB least)

theorem area_VB {b : Box} (h : VB b) : 0 ≤ b.W * b.H ∧ b.W * b.H ≤ 40000 := by
  simp only [VB] at h
  have h1 : 0 ≤ b.W * b.H := Int.mul_nonneg (by omega) (by omega)
  have h2 : b.W * b.H ≤ 200 * 200 := Int.mul_le_mul (by omega) (by omega) (by omega) (by omega)
  omega

theorem areaL_VB : ∀ {l : List Box}, (∀ b ∈ l, VB b) → 0 ≤ areaL l ∧ areaL l ≤ 40000 * l.length
  | [], _ => by simp [areaL]
  | b :: l, h => by
    have h1 := area_VB (h b (by simp))
    have h2 := areaL_VB (l := l) fun c hc => h c (by simp [hc])
    simp only [areaL, List.length_cons]
    omega

theorem area_kept_lost (least : Int) : ∀ (l : List Box), areaL (l.filterMap (keptB least)) + areaL (l.filterMap (lostB least)) = areaL l
  | [] => by simp [areaL]
  | b :: l => by
    have ih := area_kept_lost least l
    by_cases h : least ≤ b.W ∧ least ≤ b.H
    · have h' : ¬ (b.W < least ∨ b.H < least) := by omega
      simp only [List.filterMap_cons, keptB, lostB, if_pos h, if_neg h', areaL]
      omega
    · have h' : b.W < least ∨ b.H < least := by omega
      simp only [List.filterMap_cons, keptB, lostB, if_neg h, if_pos h', areaL]
      omega

theorem wastes_VB {k : Work} {p : Plan} (hv : vplan k p = true) : ∀ b ∈ (partsL k p).filterMap asWaste, VB b := by
  obtain ⟨t, _, _, hw, _, hf, hp⟩ := vplan_some hv
  rw [hp, pt_wastes]
  exact vplan_wastes (p := p) hw hf

attribute [go_sem] ite_self Bool.false_eq_true
end Go.Abs.L
