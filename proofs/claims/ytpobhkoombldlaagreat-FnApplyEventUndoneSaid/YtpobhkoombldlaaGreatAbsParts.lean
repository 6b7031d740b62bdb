/- The parts of a plan. Own text. -/
import Derived.Test.YtpobhkoombldlaaGreatAbsPlan
set_option linter.unusedVariables false
set_option linter.unusedSimpArgs false
namespace Go.Abs.L
open Go Go.Abs Go.Abs.E
structure Part where
 plan : Zg
 box : Box
def Part.enc (p : Part) : D := .agg (p.plan.enc.cells ++ [.int .i64 p.box.X, .int .i64 p.box.Y, .int .i64 p.box.W, .int .i64 p.box.H])
@[go_sem] theorem Part.enc_mk (o a p : Int) (t : Bool) (ks : List Zg) (x y w h : Int) : Part.enc ⟨.mk o a p t ks, ⟨x, y, w, h⟩⟩ =
  .agg [.int .i64 o, .int .i64 a, .int .i64 p, .bool t, .sl (ks.map Zg.enc), .int .i64 x, .int .i64 y, .int .i64 w, .int .i64 h] := by
 simp only [Part.enc, Zg.enc_mk]; rfl
theorem Part.enc_len (p : Part) : (Part.enc p).cells.length = 9 := by
 show (p.plan.enc.cells ++ _).length = 9
 rw [List.length_append, Zg.enc_len]; rfl
@[go_sem] theorem uni_Part (l : List Part) : uni 9 (l.map Part.enc) = True := eq_true (ZcL l Part.enc_len)
def pt : BT → Int → Int → Int → Int → List Part
 | .waste, x, y, w, h => [⟨BT.waste.plan, ⟨x, y, w, h⟩⟩]
 | .pane i t, x, y, w, h => [⟨(BT.pane i t).plan, ⟨x, y, w, h⟩⟩]
 | .cut d a l r, x, y, w, h => ⟨(BT.cut d a l r).plan, ⟨x, y, w, h⟩⟩ :: if d then pt l x y a h ++ pt r (x + a) y (w - a) h else pt l x y w a ++ pt r x (y + a) w (h - a)
def sp : BT → Int → Int → Int → Int → List Place
 | .waste, x, y, w, h => [⟨-1, false, ⟨x, y, w, h⟩⟩]
 | .pane i t, x, y, w, h => [⟨i, t, ⟨x, y, w, h⟩⟩]
 | .cut d a l r, x, y, w, h => if d then sp l x y a h ++ sp r (x + a) y (w - a) h else sp l x y w a ++ sp r x (y + a) w (h - a)
def plc : BT → Int → Int → Int → Int → List Place
 | .waste, x, y, w, h => []
 | .pane i t, x, y, w, h => [⟨i, t, ⟨x, y, w, h⟩⟩]
 | .cut d a l r, x, y, w, h => if d then plc l x y a h ++ plc r (x + a) y (w - a) h else plc l x y w a ++ plc r x (y + a) w (h - a)
def wst : BT → Int → Int → Int → Int → List Box
 | .waste, x, y, w, h => [⟨x, y, w, h⟩]
 | .pane i t, x, y, w, h => []
 | .cut d a l r, x, y, w, h => if d then wst l x y a h ++ wst r (x + a) y (w - a) h else wst l x y w a ++ wst r x (y + a) w (h - a)
def PN : BT → Prop
 | .waste => True
 | .pane i _ => 0 ≤ i
 | .cut _ _ l r => PN l ∧ PN r
def opP : Zg → Int
 | .mk o _ _ _ _ => o
def X3 (q : Part) : Option Place := match q.plan with
 | .mk o _ p t _ => if o = 1 then some ⟨p, t, q.box⟩ else none
def Yh (q : Part) : Option Box := match q.plan with
 | .mk o _ _ _ _ => if o = 0 then some q.box else none
theorem WO : ∀ (b : BT) (x y w h : Int), (pt b x y w h).filterMap X3 = plc b x y w h
 | .waste, x, y, w, h => rfl
 | .pane i t, x, y, w, h => rfl
 | .cut d a l r, x, y, w, h => by
  have e : X3 ⟨(BT.cut d a l r).plan, ⟨x, y, w, h⟩⟩ = none := by cases d <;> rfl
  cases d <;> simp [pt, plc, List.filterMap_append, List.filterMap_cons, e, WO]
theorem ZfT : ∀ (b : BT) (x y w h : Int), (pt b x y w h).filterMap Yh = wst b x y w h
 | .waste, x, y, w, h => rfl
 | .pane i t, x, y, w, h => rfl
 | .cut d a l r, x, y, w, h => by
  have e : Yh ⟨(BT.cut d a l r).plan, ⟨x, y, w, h⟩⟩ = none := by cases d <;> rfl
  cases d <;> simp [pt, wst, List.filterMap_append, List.filterMap_cons, e, ZfT]
def Zep (q : Place) : Option Place := if 0 ≤ q.Pane then some q else none
def Zeq (q : Place) : Option Box := if q.Pane < 0 then some q.Box else none
theorem ZlA : ∀ (b : BT) (x y w h : Int), PN b → (sp b x y w h).filterMap Zep = plc b x y w h
 | .waste, x, y, w, h, _ => rfl
 | .pane i t, x, y, w, h, hp => by
  have hp : 0 ≤ i := hp
  simp [sp, plc, Zep, hp]
 | .cut d a l r, x, y, w, h, hp => by
  cases d <;> simp [sp, plc, List.filterMap_append, ZlA l _ _ _ _ hp.1, ZlA r _ _ _ _ hp.2]
theorem ZlB : ∀ (b : BT) (x y w h : Int), PN b → (sp b x y w h).filterMap Zeq = wst b x y w h
 | .waste, x, y, w, h, _ => rfl
 | .pane i t, x, y, w, h, hp => by
  have hp : ¬ i < 0 := by have : 0 ≤ i := hp; omega
  simp [sp, wst, Zeq, hp]
 | .cut d a l r, x, y, w, h, hp => by
  cases d <;> simp [sp, wst, List.filterMap_append, ZlB l _ _ _ _ hp.1, ZlB r _ _ _ _ hp.2]
theorem ZaP : ∀ (b : BT) (x y w h : Int), (pt b x y w h).length = b.cnt
 | .waste, x, y, w, h => rfl
 | .pane i t, x, y, w, h => rfl
 | .cut d a l r, x, y, w, h => by
  cases d <;> simp [pt, BT.cnt, ZaP] <;> omega
theorem Zfk : ∀ (b : BT) (x y w h : Int), (sp b x y w h).length ≤ b.cnt
 | .waste, x, y, w, h => by simp [sp, BT.cnt]
 | .pane i t, x, y, w, h => by simp [sp, BT.cnt]
 | .cut d a l r, x, y, w, h => by
  cases d
  ·have h1 := Zfk l x y w a
   have h2 := Zfk r x (y + a) w (h - a)
   simp [sp, BT.cnt]; omega
  ·have h1 := Zfk l x y a h
   have h2 := Zfk r (x + a) y (w - a) h
   simp [sp, BT.cnt]; omega
theorem ZbE {α β : Type} {l : List α} {f : α → Option β} {k : Nat} {x : α} (hx : l[k]? = some x) : (l.take (k + 1)).filterMap f = (l.take k).filterMap f ++ (f x).toList := by
 obtain ⟨h1, h2⟩ := List.getElem?_eq_some_iff.1 hx
 rw [List.take_succ_eq_append_getElem h1, h2, List.filterMap_append]
 cases hf : f x <;> simp [hf]
theorem ZiF {ps : List Pane} : ∀ {b : BT} {w h : Int}, Yn ps b w h = true → PN b
 | .waste, _, _, _ => trivial
 | .pane i t, w, h, hf => by
  simp only [Yn, ZaQ, Bool.and_eq_true, decide_eq_true_eq] at hf
  exact hf.1
 | .cut d a l r, w, h, hf => by
  cases d
  ·simp only [Yn, Bool.and_eq_true, Bool.false_eq_true, if_false] at hf
   exact ⟨ZiF hf.1.2, ZiF hf.2⟩
  ·simp only [Yn, Bool.and_eq_true, if_true] at hf
   exact ⟨ZiF hf.1.2, ZiF hf.2⟩
def QR (k : ZJ) (p : Zg) : List Part := match YR p with
 | some b => if decide (VW k) && decide (b.cnt ≤ 255) && Yn k.Panes b k.W k.H then pt b 0 0 k.W k.H else []
 | none => []
def V5 (k : ZJ) (p : Zg) : Bool := match YR p with
 | some b => decide (VW k) && decide (b.cnt ≤ 255) && Yn k.Panes b k.W k.H
 | none => false
theorem XT {k : ZJ} {p : Zg} (h : V5 k p = true) : ∃ b, YR p = some b ∧ p = b.plan ∧ VW k ∧ b.cnt ≤ 255 ∧ Yn k.Panes b k.W k.H = true ∧ QR k p = pt b 0 0 k.W k.H := by
 have h' := h
 unfold V5 at h
 split at h
 ·rename_i b hb
  refine ⟨b, hb, ZiH hb, ?_⟩
  unfold QR
  rw [hb]
  dsimp only
  rw [if_pos h]
  simp only [Bool.and_eq_true, decide_eq_true_eq] at h
  exact ⟨h.1.1, h.1.2, h.2, rfl⟩
 ·cases h
theorem ZfU {α : Type} {l : List α} {k : Nat} {x : α} (hx : l[k]? = some x) (P : α → Prop) : (∀ y ∈ l.drop k, P y) ↔ P x ∧ ∀ y ∈ l.drop (k + 1), P y := by
 obtain ⟨h1, h2⟩ := List.getElem?_eq_some_iff.1 hx
 rw [List.drop_eq_getElem_cons h1, h2]
 simp
def Zd3 (w h : Int) (f : Box) : Prop := VB f ∧ WR f ⟨0, 0, w, h⟩
instance (w h : Int) (f : Box) : Decidable (Zd3 w h f) := by unfold Zd3; infer_instance
def VPc (q : Zc) : Prop := (1 ≤ q.Label ∧ q.Label ≤ 9999 ∧ 1 ≤ q.W ∧ q.W ≤ 200 ∧ 1 ≤ q.H ∧ q.H ≤ 200 ∧ q.Flaws.length ≤ 6) ∧ ∀ f ∈ q.Flaws, Zd3 q.W q.H f
instance (q : Zc) : Decidable (VPc q) := by unfold VPc; infer_instance
def Qm (fs : List Box) (b : Box) : Prop := ∀ f ∈ fs, ¬ U2 f b
instance (fs : List Box) (b : Box) : Decidable (Qm fs b) := by unfold Qm; infer_instance
def W0 (q : Zc) (k : ZJ) (p : Zg) : Prop := V5 k p = true ∧ k.W = q.W ∧ k.H = q.H ∧ ∀ c ∈ (QR k p).filterMap X3, Qm q.Flaws c.Box
instance (q : Zc) (k : ZJ) (p : Zg) : Decidable (W0 q k p) := by unfold W0; infer_instance
def ZjK (x y w h : Int) (c : Box) : Prop := 1 ≤ c.W ∧ 1 ≤ c.H ∧ x ≤ c.X ∧ y ≤ c.Y ∧ c.X + c.W ≤ x + w ∧ c.Y + c.H ≤ y + h
theorem ZoA {ps : List Pane} : ∀ {b : BT} {x y w h : Int}, Yn ps b w h = true → 1 ≤ w → 1 ≤ h → ∀ c ∈ plc b x y w h, ZjK x y w h c.Box
 | .waste, x, y, w, h, hf, h1, h2, c, hc => by simp [plc] at hc
 | .pane i t, x, y, w, h, hf, h1, h2, c, hc => by
  simp only [plc, List.mem_singleton] at hc
  subst hc
  simp only [ZjK]; omega
 | .cut d a l r, x, y, w, h, hf, h1, h2, c, hc => by
  cases d
  ·simp only [Yn, Bool.and_eq_true, Bool.false_eq_true, if_false, decide_eq_true_eq] at hf
   simp only [plc, Bool.false_eq_true, if_false, List.mem_append] at hc
   rcases hc with hc | hc
   ·have := ZoA hf.1.2 (by omega) (by omega) c hc
    simp only [ZjK] at this ⊢; omega
   ·have := ZoA hf.2 (by omega) (by omega) c hc
    simp only [ZjK] at this ⊢; omega
  ·simp only [Yn, Bool.and_eq_true, if_true, decide_eq_true_eq] at hf
   simp only [plc, if_true, List.mem_append] at hc
   rcases hc with hc | hc
   ·have := ZoA hf.1.2 (by omega) (by omega) c hc
    simp only [ZjK] at this ⊢; omega
   ·have := ZoA hf.2 (by omega) (by omega) c hc
    simp only [ZjK] at this ⊢; omega
theorem ZlC {ps : List Pane} : ∀ {b : BT} {x y w h : Int}, Yn ps b w h = true → 1 ≤ w → 1 ≤ h → ∀ c ∈ wst b x y w h, ZjK x y w h c
 | .waste, x, y, w, h, hf, h1, h2, c, hc => by
  simp only [wst, List.mem_singleton] at hc
  subst hc
  simp only [ZjK]; omega
 | .pane i t, x, y, w, h, hf, h1, h2, c, hc => by simp [wst] at hc
 | .cut d a l r, x, y, w, h, hf, h1, h2, c, hc => by
  cases d
  ·simp only [Yn, Bool.and_eq_true, Bool.false_eq_true, if_false, decide_eq_true_eq] at hf
   simp only [wst, Bool.false_eq_true, if_false, List.mem_append] at hc
   rcases hc with hc | hc
   ·have := ZlC hf.1.2 (by omega) (by omega) c hc
    simp only [ZjK] at this ⊢; omega
   ·have := ZlC hf.2 (by omega) (by omega) c hc
    simp only [ZjK] at this ⊢; omega
  ·simp only [Yn, Bool.and_eq_true, if_true, decide_eq_true_eq] at hf
   simp only [wst, if_true, List.mem_append] at hc
   rcases hc with hc | hc
   ·have := ZlC hf.1.2 (by omega) (by omega) c hc
    simp only [ZjK] at this ⊢; omega
   ·have := ZlC hf.2 (by omega) (by omega) c hc
    simp only [ZjK] at this ⊢; omega
def Ym : List Box → Int
 | [] => 0
 | c :: l => c.W * c.H + Ym l
theorem ZcO (a b : List Box) : Ym (a ++ b) = Ym a + Ym b := by
 induction a with
 | nil => simp [Ym]
 | cons c l ih => simp only [List.cons_append, Ym, ih]; omega
theorem ZkH {ps : List Pane} : ∀ {b : BT} {x y w h : Int}, Ym (wst b x y w h) + Ym ((plc b x y w h).map Place.Box) = w * h
 | .waste, x, y, w, h => by simp [wst, plc, Ym]
 | .pane i t, x, y, w, h => by simp [wst, plc, Ym]
 | .cut d a l r, x, y, w, h => by
  cases d
  ·have h1 := ZkH (ps := ps) (b := l) (x := x) (y := y) (w := w) (h := a)
   have h2 := ZkH (ps := ps) (b := r) (x := x) (y := y + a) (w := w) (h := h - a)
   have h3 : w * (h - a) = w * h - w * a := Int.mul_sub w h a
   simp only [wst, plc, Bool.false_eq_true, if_false, ZcO, List.map_append]
   omega
  ·have h1 := ZkH (ps := ps) (b := l) (x := x) (y := y) (w := a) (h := h)
   have h2 := ZkH (ps := ps) (b := r) (x := x + a) (y := y) (w := w - a) (h := h)
   have h3 : (w - a) * h = w * h - a * h := Int.sub_mul w a h
   simp only [wst, plc, if_true, ZcO, List.map_append]
   omega
theorem Zm2 : ∀ (b : BT) (x y w h : Int), (wst b x y w h).length ≤ b.cnt
 | .waste, x, y, w, h => by simp [wst, BT.cnt]
 | .pane i t, x, y, w, h => by simp [wst, BT.cnt]
 | .cut d a l r, x, y, w, h => by
  cases d
  ·have h1 := Zm2 l x y w a
   have h2 := Zm2 r x (y + a) w (h - a)
   simp [wst, BT.cnt]; omega
  ·have h1 := Zm2 l x y a h
   have h2 := Zm2 r (x + a) y (w - a) h
   simp [wst, BT.cnt]; omega
theorem ZkI {k : ZJ} {p : Zg} {b : BT} (hv : VW k) (hf : Yn k.Panes b k.W k.H = true) : ∀ c ∈ plc b 0 0 k.W k.H, VB c.Box := by
 intro c hc
 obtain ⟨h1, h2, h3, h4, _⟩ := hv
 have := ZoA hf h1 h3 c hc
 simp only [ZjK] at this
 simp only [VB]; omega
theorem ZkJ {k : ZJ} {p : Zg} {b : BT} (hv : VW k) (hf : Yn k.Panes b k.W k.H = true) : ∀ c ∈ wst b 0 0 k.W k.H, VB c := by
 intro c hc
 obtain ⟨h1, h2, h3, h4, _⟩ := hv
 have := ZlC hf h1 h3 c hc
 simp only [ZjK] at this
 simp only [VB]; omega
def ZrZ (b m : Box) : Box := ⟨m.X - b.X, m.Y - b.Y, m.W, m.H⟩
def Vh (b f : Box) : Option Box := if U2 f b then some (ZrZ b (ZhY f b)) else none
def ZoB (q : Zc) (b : Box) (label : Int) : Zc := ⟨label, b.W, b.H, q.Flaws.filterMap (Vh b)⟩
theorem ZuT {q : Zc} {b : Box} {label : Int} (hq : VPc q) (hb : VB b) (hi : WR b ⟨0, 0, q.W, q.H⟩) (h1 : 1 ≤ label) (h2 : label ≤ 9999) : VPc (ZoB q b label) := by
 simp only [VB] at hb
 refine ⟨⟨h1, h2, ?_, ?_, ?_, ?_, Nat.le_trans (List.length_filterMap_le _ _) hq.1.2.2.2.2.2.2⟩, ?_⟩
 ·show 1 ≤ b.W; omega
 ·show b.W ≤ 200; omega
 ·show 1 ≤ b.H; omega
 ·show b.H ≤ 200; omega
 ·intro f hf
  obtain ⟨g, hg, hgf⟩ := List.mem_filterMap.1 hf
  have hgv := hq.2 g hg
  unfold Vh at hgf
  split at hgf
  ·rename_i hm
   cases hgf
   simp only [Zd3, VB, WR] at hgv
   simp only [U2] at hm
   simp only [Zd3, VB, WR, ZrZ, ZhY, ZoB]
   omega
  ·cases hgf
def JA (least : Int) (b : Box) : Option Box := if least ≤ b.W ∧ least ≤ b.H then some b else none
def JW (q : Zc) : Int → List Box → List Zc
 | _, [] => []
 | n, b :: l => ZoB q b n :: JW q (n + 1) l
theorem Zh5 (q : Zc) : ∀ (n : Int) (a b : List Box), JW q n (a ++ b) = JW q n a ++ JW q (n + a.length) b
 | n, [], b => by simp [JW]
 | n, x :: a, b => by
  simp only [List.cons_append, JW, Zh5 q (n + 1) a b, List.length_cons]
  congr 3
  omega
theorem Zd4 (q : Zc) : ∀ (n : Int) (a : List Box), (JW q n a).length = a.length
 | n, [] => rfl
 | n, x :: a => by simp [JW, Zd4 q (n + 1) a]
theorem ZwA (q : Zc) (n : Int) {l : List Box} {i : Nat} {x : Box} (hx : l[i]? = some x) : JW q n (l.take (i + 1)) = JW q n (l.take i) ++ [ZoB q x (n + i)] := by
 obtain ⟨h1, h2⟩ := List.getElem?_eq_some_iff.1 hx
 rw [List.take_succ_eq_append_getElem h1, h2, Zh5]
 simp only [JW, List.length_take, Nat.min_eq_left (Nat.le_of_lt h1)]
def Xe (k : ZJ) (p : Zg) (least : Int) : List Box := ((QR k p).filterMap Yh).filterMap (JA least)
theorem ZoC {k : ZJ} {p : Zg} {least : Int} (hv : V5 k p = true) : ∀ b ∈ Xe k p least, VB b ∧ WR b ⟨0, 0, k.W, k.H⟩ := by
 intro b hb
 obtain ⟨t, _, _, hw, _, hf, hp⟩ := XT hv
 unfold Xe at hb
 rw [hp, ZfT] at hb
 obtain ⟨c, hc, hcb⟩ := List.mem_filterMap.1 hb
 unfold JA at hcb
 split at hcb
 ·cases hcb
  refine ⟨ZkJ (p := p) hw hf b hc, ?_⟩
  obtain ⟨h1, h2, h3, h4, _⟩ := hw
  have := ZlC hf h1 h3 b hc
  simp only [ZjK] at this
  simp only [WR]; omega
 ·cases hcb
theorem ZiG (k : ZJ) (p : Zg) (least : Int) : (Xe k p least).length ≤ 255 := by
 unfold Xe
 refine Nat.le_trans (List.length_filterMap_le _ _) (Nat.le_trans (List.length_filterMap_le _ _) ?_)
 unfold QR
 split
 ·split
  ·rename_i h
   simp only [Bool.and_eq_true, decide_eq_true_eq] at h
   rw [ZaP]; exact h.1.2
  ·simp
 ·simp
def remn (q : Zc) (k : ZJ) (p : Zg) (least label : Int) : List Zc :=
 if (VPc q ∧ W0 q k p) ∧ 1 ≤ least ∧ least ≤ 200 ∧ 1 ≤ label ∧ label ≤ 9999 ∧ (Xe k p least).length ≤ 10000 - label then JW q label (Xe k p least) else []
def JB (least : Int) (b : Box) : Option Box := if b.W < least ∨ b.H < least then some b else none
def Zer (k : ZJ) (p : Zg) (least : Int) : List Box := ((QR k p).filterMap Yh).filterMap (JB least)
theorem UX {b : Box} (h : VB b) : 0 ≤ b.W * b.H ∧ b.W * b.H ≤ 40000 := by
 simp only [VB] at h
 have h1 : 0 ≤ b.W * b.H := Int.mul_nonneg (by omega) (by omega)
 have h2 : b.W * b.H ≤ 200 * 200 := Int.mul_le_mul (by omega) (by omega) (by omega) (by omega)
 omega
theorem ZfV : ∀ {l : List Box}, (∀ b ∈ l, VB b) → 0 ≤ Ym l ∧ Ym l ≤ 40000 * l.length
 | [], _ => by simp [Ym]
 | b :: l, h => by
  have h1 := UX (h b (by simp))
  have h2 := ZfV (l := l) fun c hc => h c (by simp [hc])
  simp only [Ym, List.length_cons]
  omega
theorem ZoD (least : Int) : ∀ (l : List Box), Ym (l.filterMap (JA least)) + Ym (l.filterMap (JB least)) = Ym l
 | [] => by simp [Ym]
 | b :: l => by
  have ih := ZoD least l
  by_cases h : least ≤ b.W ∧ least ≤ b.H
  ·have h' : ¬ (b.W < least ∨ b.H < least) := by omega
   simp only [List.filterMap_cons, JA, JB, if_pos h, if_neg h', Ym]
   omega
  ·have h' : b.W < least ∨ b.H < least := by omega
   simp only [List.filterMap_cons, JA, JB, if_neg h, if_pos h', Ym]
   omega
theorem Zc0 {k : ZJ} {p : Zg} (hv : V5 k p = true) : ∀ b ∈ (QR k p).filterMap Yh, VB b := by
 obtain ⟨t, _, _, hw, _, hf, hp⟩ := XT hv
 rw [hp, ZfT]
 exact ZkJ (p := p) hw hf
attribute [go_sem] ite_self Bool.false_eq_true
end Go.Abs.L
