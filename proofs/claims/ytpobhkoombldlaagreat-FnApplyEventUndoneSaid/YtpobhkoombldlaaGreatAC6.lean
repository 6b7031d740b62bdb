/- Contracts of the functions, by the abstract semantics. -/
import Derived.Test.YtpobhkoombldlaaGreatACode
import Derived.Test.YtpobhkoombldlaaGreatAbsParts
import Derived.Test.YtpobhkoombldlaaGreatAC5
namespace Go.Proofs.YtpobhkoombldlaaGreat
open Go Go.Abs Go.Abs.E Go.Abs.L
open Nat (reduceMul reduceSub reduceLeDiff reduceEqDiff)
open Int (reduceLE reduceEq reduceToNat reduceNeg)
set_option linter.unusedSimpArgs false
set_option linter.unusedVariables false
set_option maxRecDepth 20000
set_option maxHeartbeats 4000000
def UL (l : List Zd) : Prop := (l.map Zd.Pane).Nodup ∧ ∀ x ∈ l, 1 ≤ x.Count
theorem Znr : ∀ {l : List Zd} {q : List Pane}, Zjk q l → (l.map Zd.Pane).Nodup ∧ ∀ p ∈ l.map Zd.Pane, p ∉ q
 | [], _, _ => by simp
 | x :: l, q, h => by
  obtain ⟨h1, h2, h3, h4, h5⟩ := h
  obtain ⟨a, b⟩ := Znr h5
  refine ⟨?_, ?_⟩
  ·rw [List.map_cons, List.nodup_cons]
   exact ⟨fun hm => b _ hm (by simp), a⟩
  ·intro p hp
   rw [List.map_cons, List.mem_cons] at hp
   rcases hp with rfl | hp
   ·exact h2
   ·exact fun hq => b p hp (by simp [hq])
theorem Zf9 {l : List Zd} (h : ZaY l) : UL l := ⟨(Znr h.2.1).1, fun x hx => (QS h x hx).2.1⟩
theorem Zio : ∀ {l : List Zd} {k : Nat} {p : Pane}, 0 ≤ VY k l p → ∃ a x, VY k l p = ((k + a : Nat) : Int) ∧ l[a]? = some x ∧ x.Pane = p ∧ p ∉ (l.take a).map Zd.Pane
 | [], k, p, h => by simp [VY] at h
 | x :: l, k, p, h => by
  unfold VY at h ⊢
  split
  ·rename_i e
   exact ⟨0, x, by simp, by simp, e, by simp⟩
  ·rename_i e
   rw [if_neg e] at h
   obtain ⟨a, y, h1, h2, h3, h4⟩ := Zio h
   refine ⟨a + 1, y, by rw [h1]; congr 1; omega, by simpa using h2, h3, ?_⟩
   simp only [List.take_succ_cons, List.map_cons, List.mem_cons, not_or]
   exact ⟨fun e' => e e'.symm, h4⟩
theorem Zkd : ∀ {l : List Zd} {k : Nat} {p : Pane}, VY k l p < 0 → p ∉ l.map Zd.Pane
 | [], k, p, h => by simp
 | x :: l, k, p, h => by
  unfold VY at h
  split at h
  ·omega
  ·rename_i e
   simp only [List.map_cons, List.mem_cons, not_or]
   exact ⟨fun e' => e e'.symm, Zkd h⟩
theorem Zip {p : Pane} {c : Int} : ∀ {l : List Zd} {b : Bool}, p ∉ l.map Zd.Pane → Xn p c b l = b
 | [], b, _ => rfl
 | x :: l, b, h => by
  simp only [List.map_cons, List.mem_cons, not_or] at h
  rw [Xn, if_neg (fun e => h.1 e.symm), Zip h.2]
theorem ZsC {p : Pane} {c : Int} : ∀ {l : List Zd}, p ∉ l.map Zd.Pane → (∀ x ∈ l, 1 ≤ x.Count) → X6 l p c = l
 | [], _, _ => rfl
 | x :: l, h, hc => by
  simp only [List.map_cons, List.mem_cons, not_or] at h
  have h0 := hc x (by simp)
  have ih := ZsC (p := p) (c := c) h.2 (fun y hy => hc y (by simp [hy]))
  unfold X6 at ih ⊢
  rw [List.filterMap_cons, Zhn, if_neg (fun e => h.1 e.symm), if_pos (by omega), ih]
theorem Zns {p : Pane} {c : Int} : ∀ {l : List Zd} {a : Nat} {x : Zd}, UL l → l[a]? = some x → x.Pane = p → Xn p c false l = decide (0 ≤ x.Count - c) ∧ X6 l p c = if 0 < x.Count - c then l.set a ⟨p, x.Count - c⟩ else l.eraseIdx a
 | [], a, x, _, h, _ => by simp at h
 | y :: l, 0, x, hu, h, e => by
  simp only [List.getElem?_cons_zero, Option.some.injEq] at h
  subst h
  obtain ⟨h1, h2⟩ := hu
  rw [List.map_cons, List.nodup_cons, e] at h1
  have hl := ZsC (p := p) (c := c) h1.1 (fun z hz => h2 z (by simp [hz]))
  refine ⟨by rw [Xn, if_pos e, Zip h1.1], ?_⟩
  unfold X6 at hl ⊢
  rw [List.filterMap_cons, Zhn, if_pos e]
  by_cases hc : 0 < y.Count - c
  ·rw [if_pos hc, if_pos hc, hl, e]; rfl
  ·rw [if_neg hc, if_neg hc, hl]; rfl
 | y :: l, a + 1, x, hu, h, e => by
  simp only [List.getElem?_cons_succ] at h
  obtain ⟨h1, h2⟩ := hu
  rw [List.map_cons, List.nodup_cons] at h1
  have hne : y.Pane ≠ p := fun e' => h1.1 (by rw [e', ← e]; exact List.mem_map_of_mem (List.mem_of_getElem? h))
  obtain ⟨i1, i2⟩ := Zns (p := p) (c := c) (l := l) ⟨h1.2, fun z hz => h2 z (by simp [hz])⟩ h e
  refine ⟨by rw [Xn, if_neg hne, i1], ?_⟩
  have h0 := h2 y (by simp)
  unfold X6 at i2 ⊢
  rw [List.filterMap_cons, Zhn, if_neg hne, if_pos (by omega), i2]
  by_cases hc : 0 < x.Count - c
  ·rw [if_pos hc, if_pos hc]; rfl
  ·rw [if_neg hc, if_neg hc]; rfl
theorem Znt {l : List Zd} {p : Pane} {c : Int} (h : UL l) : UL (X6 l p c) := by
 have hs : ∀ (l : List Zd), ((X6 l p c).map Zd.Pane).Sublist (l.map Zd.Pane) := by
  intro l
  induction l with
  | nil => simp [X6]
  | cons x l ih =>
   unfold X6 at ih ⊢
   rw [List.filterMap_cons]
   unfold Zhn at ih ⊢
   split
   ·exact ih.trans (by simp)
   ·rename_i y hy
    split at hy
    ·split at hy
     ·cases hy; simpa using ih
     ·cases hy
    ·split at hy
     ·cases hy; simpa using ih
     ·cases hy
 refine ⟨List.Nodup.sublist (hs l) h.1, fun y hy => ?_⟩
 obtain ⟨x, hx, e⟩ := List.mem_filterMap.1 hy
 have := h.2 x hx
 unfold Zhn at e
 split at e
 ·split at e
  ·cases e; simp only; omega
  ·cases e
 ·split at e
  ·cases e; omega
  ·cases e
theorem Znu (p : Pane) (c : Int) : ∀ (l : List Zd), (YB p c l).map Zd.Pane = if p ∈ l.map Zd.Pane then l.map Zd.Pane else l.map Zd.Pane ++ [p]
 | [] => by simp [YB]
 | x :: l => by
  unfold YB
  by_cases e : x.Pane = p
  ·simp [e]
  ·have ih := Znu p c l
   have e' : ¬ p = x.Pane := fun h => e h.symm
   simp only [if_neg e, List.map_cons, List.mem_cons, e', false_or, ih]
   split <;> simp
theorem Zvi {l : List Zd} {p : Pane} {c : Int} (h : UL l) (hc : 1 ≤ c) : UL (YB p c l) := by
 refine ⟨?_, ?_⟩
 ·rw [Znu]
  split
  ·exact h.1
  ·rename_i hn
   refine List.nodup_append.2 ⟨h.1, by simp, fun a ha b hb => ?_⟩
   simp only [List.mem_singleton] at hb
   subst hb
   exact fun e => hn (e ▸ ha)
 ·have key : ∀ (l : List Zd), (∀ x ∈ l, 1 ≤ x.Count) → ∀ x ∈ YB p c l, 1 ≤ x.Count := by
   intro l
   induction l with
   | nil => intro _ x hx; simp [YB] at hx; subst hx; exact hc
   | cons y l ih =>
    intro h x hx
    have hy := h y (by simp)
    unfold YB at hx
    split at hx
    ·rcases List.mem_cons.1 hx with rfl | hx
     ·simp only; omega
     ·exact h x (by simp [hx])
    ·rcases List.mem_cons.1 hx with rfl | hx
     ·exact hy
     ·exact ih (fun z hz => h z (by simp [hz])) x hx
  exact key l h.2
theorem Ziq : ∀ {l : List Zc} {b : Int}, XM b l → ∀ x ∈ l, b < x.Label
 | [], _, _, x, hx => by simp at hx
 | y :: l, b, h, x, hx => by
  rcases List.mem_cons.1 hx with rfl | hx
  ·exact h.2.1
  ·have := Ziq h.2.2 x hx
   have := h.2.1
   omega
theorem Znv (q : Zc) : ∀ (l : List Zc), q ∈ Qf q l
 | [] => by simp [Qf]
 | x :: l => by
  unfold Qf
  split
  ·simp
  ·exact List.mem_cons_of_mem _ (Znv q l)
theorem ZlV {q : Zc} (hq : VPc q) : ∀ {l : List Zc} {b : Int}, XM b l → b < q.Label → (XM b (Qf q l) ↔ q.Label ∉ l.map Zc.Label)
 | [], b, h, hb => by simp [Qf, XM, hq, hb]
 | x :: l, b, h, hb => by
  obtain ⟨h1, h2, h3⟩ := h
  unfold Qf
  by_cases hlt : q.Label < x.Label
  ·rw [if_pos hlt]
   refine ⟨fun _ hm => ?_, fun _ => ⟨hq, hb, h1, hlt, h3⟩⟩
   rw [List.map_cons, List.mem_cons] at hm
   rcases hm with hm | hm
   ·omega
   ·obtain ⟨y, hy, e⟩ := List.mem_map.1 hm
    have := Ziq h3 y hy
    omega
  ·rw [if_neg hlt]
   by_cases he : x.Label = q.Label
   ·constructor
    ·intro hs
     have := Ziq hs.2.2 q (Znv q l)
     omega
    ·intro hn
     exact absurd (by simp [he]) hn
   ·have ih := ZlV hq h3 (by omega : x.Label < q.Label)
    rw [List.map_cons, List.mem_cons, not_or, XM, ih]
    exact ⟨fun h => ⟨fun e => he e.symm, h.2.2⟩, fun h => ⟨h1, h2, h.2⟩⟩
theorem Znw : ∀ {l : List Zc} {k : Nat} {n : Int}, QC k l n < 0 ↔ n ∉ l.map Zc.Label
 | [], k, n => by simp [QC]
 | x :: l, k, n => by
  unfold QC
  have ih := Znw (l := l) (k := k + 1) (n := n)
  by_cases he : x.Label = n
  ·rw [if_pos he]
   simp only [List.map_cons, List.mem_cons, he, true_or, not_true, iff_false]
   omega
  ·rw [if_neg he, ih, List.map_cons, List.mem_cons, not_or]
   exact ⟨fun h => ⟨fun e => he e.symm, h⟩, fun h => h.2⟩
theorem ZsD {q : Zc} {l : List Zc} (h1 : VSt l) (h2 : VPc q) : WP q l ↔ l.length ≠ 20 ∧ QC 0 l q.Label < 0 := by
 have h3 := ZlV h2 h1.2 (by have := h2.1.1; omega : 0 < q.Label)
 have h4 := h1.1
 unfold WP
 rw [Znw, ← h3]
 simp only [VSt, Zk6]
 constructor
 ·rintro ⟨_, a, b⟩; exact ⟨by omega, b⟩
 ·rintro ⟨a, b⟩; exact ⟨⟨⟨h4, h1.2⟩, h2⟩, by omega, b⟩
theorem Zi5 (l : List Zc) (qL qW qH : Int) (qF : List Box) (hl : l.length ≤ 100000) : Zh Xs Ms UI [(.d (.sl (l.map Zc.enc))), (.d (.agg [J qL, J qW, J qH, .sl (qF.map Box.enc)]))] [] =
  some (.tup [.own 0, (.d (.bool (decide (WP (Zc.mk qL qW qH qF) l))))], [.row 4 ((if WP (Zc.mk qL qW qH qF) l then Qf (Zc.mk qL qW qH qF) l else []).map Zc.enc) true false]) := by
 have e1 := Wr l
 have e2 := XI qL qW qH qF
 have e3 := VC l qL (by omega)
 by_cases v1 : VSt l
 ·rw [decide_eq_true v1] at e1
  by_cases v2 : VPc (Zc.mk qL qW qH qF)
  ·rw [decide_eq_true v2] at e2
   have hA := ZsD v1 v2
   simp only at hA
   have hF := (ZcS v1).2
   have hq6 : qF.length ≤ 1000000 := by have := v2.1.2.2.2.2.2.2; simp only at this; omega
   by_cases v3 : l.length = 20
   ·have h : ¬ WP (Zc.mk qL qW qH qF) l := fun h => (hA.1 h).1 v3
    have v3' : ((l.length : Int) = 20) := by omega
    rw [decide_eq_false h, if_neg h]
    refine Ze Xs Ms QO Zak (by show 2 ≤ _; decide) ?_
    simp +contextual -implicitDefEqProofs (maxSteps := 10^7) only [go_sem, seval, ↓gZ, QO, e1, e2, v3']
   ·have v3' : ¬ ((l.length : Int) = 20) := by omega
    by_cases v4 : QC 0 l qL < 0
    ·have h : WP (Zc.mk qL qW qH qF) l := hA.2 ⟨v3, v4⟩
     have v4' : ¬ (0 ≤ QC 0 l qL) := by omega
     have eq := Zad qL qW qH qF hq6
     rw [decide_eq_true h, if_pos h]
     generalize QC 0 l qL = fl at e3 v4'
     have hle := v1.1
     refine Ze Xs Ms QO Zak (by show 2 ≤ _; decide) ?_
     simp +contextual -implicitDefEqProofs (maxSteps := 10^7) only [go_sem, seval, ↓gZ, QO, e1, e2, v3', e3, v4']
     refine ZE Xs Ms (st0 := ?st0) (α := Nat × Bool × List Zc) (fun s => [(32, .d (J (s.1 : Int))), (7, .d (.bool s.2.1))]) (fun s => [(0, .row 4 (s.2.2.map Zc.enc) true false)]) (fun s => s.1 ≤ l.length ∧ s.2.2 ++ (if s.2.1 then l.drop s.1 else Qf (Zc.mk qL qW qH qF) (l.drop s.1)) = Qf (Zc.mk qL qW qH qF) l ∧ s.2.2.length ≤ s.1 + s.2.1.toNat) (fun s => l.length - s.1) (0, false, []) ?hc ⟨by simp, by simp, by simp⟩ ?h0 ?step
     case hc => simp +contextual -implicitDefEqProofs (maxSteps := 10^7) only [go_sem, seval, ↓gZ] <;> exact rfl
     case h0 => rfl
     case step =>
      intro ⟨i, b, o⟩ ⟨hi, hp, ho⟩ ih
      simp only at hi hp ho
      have hb := Bool.toNat_le b
      by_cases hlt : i < l.length
      ·obtain ⟨x, hx⟩ := Zw hlt
       have hw := Zm (k := i) (by omega)
       have hr : (o.length + 1) * 48 ≤ 140737488355328 ∧ o.length ≤ 140737488355327 := by omega
       have hr2 : ∀ n : Nat, n = o.length + 1 → (n + 1) * 48 ≤ 140737488355328 ∧ n ≤ 140737488355327 := fun n hn => by omega
       have hr2 := hr2 _ rfl
       have hr3 : o.length ≤ 140737488355326 := by omega
       have e := Zad x.Label x.W x.H x.Flaws (hF x (List.mem_of_getElem? hx))
       rw [Znk hx] at hp
       have hd : l.drop i = x :: l.drop (i + 1) := by
        obtain ⟨h1, h2⟩ := List.getElem?_eq_some_iff.1 hx
        rw [List.drop_eq_getElem_cons h1, h2]
       obtain ⟨L, W, H, F⟩ := x
       simp only at e hp
       cases b with
       | true =>
        simp only [Bool.toNat_true] at ho
        rw [if_pos rfl] at hp
        simp +contextual -implicitDefEqProofs (maxSteps := 10^7) only [go_sem, seval, ↓gZ, hx, hlt, hw, e, hr]
        refine ih (i + 1, true, o ++ [⟨L, W, H, F⟩]) _ ⟨by simp only; omega, ?_, by simp; omega⟩ (by simp only; omega) ?_
        ·rw [← hp, hd]; simp
        ·simp +contextual -implicitDefEqProofs (maxSteps := 10^7) only [go_sem, seval, ↓gZ]
         try (simp [Zc.enc]; done)
       | false =>
        simp only [Bool.toNat_false] at ho
        rw [if_neg (by simp)] at hp
        by_cases hc : qL < L
        ·rw [if_pos hc] at hp
         simp +contextual -implicitDefEqProofs (maxSteps := 10^7) only [go_sem, seval, ↓gZ, hx, hlt, hw, e, eq, hc, hr, hr2, hr3]
         refine ih (i + 1, true, o ++ [(Zc.mk qL qW qH qF), ⟨L, W, H, F⟩]) _ ⟨by simp only; omega, ?_, by simp; omega⟩ (by simp only; omega) ?_
         ·rw [← hp, hd]; simp
         ·simp +contextual -implicitDefEqProofs (maxSteps := 10^7) only [go_sem, seval, ↓gZ]
          try (simp [Zc.enc]; done)
        ·rw [if_neg hc] at hp
         simp +contextual -implicitDefEqProofs (maxSteps := 10^7) only [go_sem, seval, ↓gZ, hx, hlt, hw, e, hc, hr]
         refine ih (i + 1, false, o ++ [⟨L, W, H, F⟩]) _ ⟨by simp only; omega, ?_, by simp; omega⟩ (by simp only; omega) ?_
         ·rw [← hp]; simp
         ·simp +contextual -implicitDefEqProofs (maxSteps := 10^7) only [go_sem, seval, ↓gZ]
          try (simp [Zc.enc]; done)
      ·have : i = l.length := by omega
       subst this
       have hr : (o.length + 1) * 48 ≤ 140737488355328 ∧ o.length ≤ 140737488355327 := by omega
       cases b with
       | true =>
        simp at hp
        simp +contextual -implicitDefEqProofs (maxSteps := 10^7) only [go_sem, seval, ↓gZ]
        rw [hp]
       | false =>
        simp [Qf] at hp
        simp +contextual -implicitDefEqProofs (maxSteps := 10^7) only [go_sem, seval, ↓gZ, eq, hr]
        rw [← hp]
        try (simp [Zc.enc]; done)
    ·have h : ¬ WP (Zc.mk qL qW qH qF) l := fun h => v4 (hA.1 h).2
     have v4' : 0 ≤ QC 0 l qL := by omega
     rw [decide_eq_false h, if_neg h]
     generalize QC 0 l qL = fl at e3 v4'
     refine Ze Xs Ms QO Zak (by show 2 ≤ _; decide) ?_
     simp +contextual -implicitDefEqProofs (maxSteps := 10^7) only [go_sem, seval, ↓gZ, QO, e1, e2, v3', e3, v4']
  ·rw [decide_eq_false v2] at e2
   have h : ¬ WP (Zc.mk qL qW qH qF) l := fun h => v2 h.1.2
   rw [decide_eq_false h, if_neg h]
   refine Ze Xs Ms QO Zak (by show 2 ≤ _; decide) ?_
   simp +contextual -implicitDefEqProofs (maxSteps := 10^7) only [go_sem, seval, ↓gZ, QO, e1, e2]
 ·rw [decide_eq_false v1] at e1
  have h : ¬ WP (Zc.mk qL qW qH qF) l := fun h => v1 h.1.1
  rw [decide_eq_false h, if_neg h]
  refine Ze Xs Ms QO Zak (by show 2 ≤ _; decide) ?_
  simp +contextual -implicitDefEqProofs (maxSteps := 10^7) only [go_sem, seval, ↓gZ, QO, e1]
theorem Zg4 (l : List Zd) (hl : l.length ≤ 1000000) : Zh Xs Ms XS [(.d (.sl (l.map Zd.enc)))] [] = some (.own 0, [.row 5 (l.map Zd.enc) true false]) := by
 refine ZoT Xs Ms Zlh ?_
 unfold ZoH
 simp only
 rw [if_pos ⟨by rw [Ztt]; trivial, by rw [ZqH]; trivial, by simp [ZW]; omega, by simp [ZW]; omega⟩]
theorem Zi6 {α β : Type} (f : α → β) : ∀ (l : List α) (i : Nat), (l.map f).eraseIdx i = (l.eraseIdx i).map f
 | [], _ => rfl
 | _ :: _, 0 => rfl
 | x :: l, i + 1 => by simp [Zi6 f l i]
theorem Zlb (l : List Zd) (i : Nat) (hi : i < l.length) : Zh Xs Ms Z3 [.own 0, (.d (J i)), (.d (J ((i : Int) + 1)))] [.row 5 (l.map Zd.enc) true false] = some (.own 1, [.row 0 [] true false, .row 5 ((l.eraseIdx i).map Zd.enc) true false]) := by
 refine ZoT Xs Ms Zkh ?_
 unfold Zko
 simp only
 rw [if_pos ⟨rfl, by omega, rfl, by simp; omega, by rw [Ztt]; trivial, by rw [ZqH]; trivial, rfl, rfl⟩, Int.toNat_natCast, Zi6]
theorem ZcC (l : List Zd) (xW xH : Int) (xT : Bool) (xK xC : Int) (hl : l.length ≤ 1000000) (hc : ∀ y ∈ l, R64 (y.Count + xC)) : Zh Xs Ms V0 [(.d (.sl (l.map Zd.enc))), (.d (.agg [J xW, J xH, .bool xT, J xK, J xC]))] [] = some (.own 0, [.row 5 ((YB ⟨xW, xH, xT, xK⟩ xC l).map Zd.enc) true false]) := by
 have e1 := Zg4 l hl
 have e2 := Zew l xW xH xT xK (by omega)
 have hr : (l.length + 1) * 40 ≤ 140737488355328 ∧ l.length ≤ 140737488355327 := by omega
 by_cases hf : VY 0 l ⟨xW, xH, xT, xK⟩ < 0
 ·have hn : ¬ 0 ≤ VY 0 l ⟨xW, xH, xT, xK⟩ := by omega
  rw [Zq7 _ _ _ (Zkd hf)]
  refine Ze Xs Ms Uf ZlW (by show 2 ≤ _; decide) ?_
  simp +contextual -implicitDefEqProofs (maxSteps := 10^7) only [go_sem, seval, ↓gZ, Uf, e1, e2, hn, hr]
  try (simp [Zd.enc]; done)
 ·obtain ⟨a, x, h1, h2, h3, h4⟩ := Zio (by omega : 0 ≤ VY 0 l ⟨xW, xH, xT, xK⟩)
  rw [Nat.zero_add] at h1
  rw [h1] at e2
  rw [Zq6 _ _ _ a x h2 h3 h4]
  have hcx := hc x (List.mem_of_getElem? h2)
  obtain ⟨⟨W, H, T, K⟩, C⟩ := x
  simp only [Pane.mk.injEq] at h3 hcx
  obtain ⟨rfl, rfl, rfl, rfl⟩ := h3
  have u0 := wi (C + xC) hcx.1 hcx.2
  have hlt := (List.getElem?_eq_some_iff.1 h2).1
  have ha : (0 : Int) ≤ (a : Int) := by omega
  refine Ze Xs Ms Uf ZlW (by show 2 ≤ _; decide) ?_
  simp +contextual -implicitDefEqProofs (maxSteps := 10^7) only [go_sem, seval, ↓gZ, Uf, e1, e2, ha, h2, hlt, u0]
  try (simp [Zd.enc, List.map_set]; done)
def tkV (l : List Zd) (p : Pane) (c : Int) : AV × List Zr :=
 if Xn p c false l = true then (.tup [.own 0, (.d (.bool true))], [.row 5 ((X6 l p c).map Zd.enc) true false]) else (.tup [.own 0, (.d (.bool false))], [.row 5 [] true false])
theorem Zby (l : List Zd) (xW xH : Int) (xT : Bool) (xK xC : Int) (hl : l.length ≤ 1000000) (hu : UL l) (hc : ∀ y ∈ l, R64 (y.Count - xC)) : Zh Xs Ms Wd [(.d (.sl (l.map Zd.enc))), (.d (.agg [J xW, J xH, .bool xT, J xK, J xC]))] [] = some (tkV l ⟨xW, xH, xT, xK⟩ xC) := by
 have e1 := Zg4 l hl
 have e2 := Zew l xW xH xT xK (by omega)
 by_cases hf : VY 0 l ⟨xW, xH, xT, xK⟩ < 0
 ·have hn := Zip (c := xC) (b := false) (Zkd hf)
  have ek : tkV l ⟨xW, xH, xT, xK⟩ xC = (.tup [.own 0, (.d (.bool false))], [.row 5 [] true false]) := by unfold tkV; rw [hn, if_neg (by simp)]
  rw [ek]
  refine Ze Xs Ms XC ZcG (by show 2 ≤ _; decide) ?_
  simp +contextual -implicitDefEqProofs (maxSteps := 10^7) only [go_sem, seval, ↓gZ, XC, e1, e2, hf]
 ·obtain ⟨a, x, h1, h2, h3, h4⟩ := Zio (by omega : 0 ≤ VY 0 l ⟨xW, xH, xT, xK⟩)
  rw [Nat.zero_add] at h1
  rw [h1] at e2
  obtain ⟨k1, k2⟩ := Zns (c := xC) hu h2 h3
  have hcx := hc x (List.mem_of_getElem? h2)
  obtain ⟨⟨W, H, T, K⟩, C⟩ := x
  simp only [Pane.mk.injEq] at h3 hcx k1 k2
  obtain ⟨rfl, rfl, rfl, rfl⟩ := h3
  have u0 := wi (C - xC) hcx.1 hcx.2
  have hlt := (List.getElem?_eq_some_iff.1 h2).1
  have ha : ¬ (a : Int) < 0 := by omega
  have hw := Zm (k := a) (by omega)
  have e3 := Zlb (l.set a ⟨⟨W, H, T, K⟩, 0⟩) a (by simpa using hlt)
  by_cases hlc : C < xC
  ·have hx : ¬ 0 ≤ C - xC := by omega
   have ek : tkV l ⟨W, H, T, K⟩ xC = (.tup [.own 0, (.d (.bool false))], [.row 5 [] true false]) := by unfold tkV; rw [k1, decide_eq_false hx, if_neg (by simp)]
   rw [ek]
   refine Ze Xs Ms XC ZcG (by show 2 ≤ _; decide) ?_
   simp +contextual -implicitDefEqProofs (maxSteps := 10^7) only [go_sem, seval, ↓gZ, XC, e1, e2, ha, h2, hlt, hlc]
  ·have hx : 0 ≤ C - xC := by omega
   by_cases hz : C - xC = 0
   ·have ek : tkV l ⟨W, H, T, K⟩ xC = (.tup [.own 0, (.d (.bool true))], [.row 5 ((l.eraseIdx a).map Zd.enc) true false]) := by unfold tkV; rw [k1, decide_eq_true hx, if_pos rfl, k2, if_neg (by omega)]
    rw [ek]
    have es : (l.set a ⟨⟨W, H, T, K⟩, 0⟩).eraseIdx a = l.eraseIdx a := by simp [List.eraseIdx_set_eq]
    rw [es, List.map_set] at e3
    simp only [Zd.enc] at e3
    have hcast : ((a : Int) + 1) = ((a + 1 : Nat) : Int) := by omega
    rw [hcast] at e3
    rw [hz] at u0
    refine Ze Xs Ms XC ZcG (by show 2 ≤ _; decide) ?_
    simp +contextual -implicitDefEqProofs (maxSteps := 10^7) only [go_sem, seval, ↓gZ, XC, e1, e2, ha, h2, hlt, hlc, hz, u0, hw, e3, List.map_set, List.getElem?_set, List.length_set]
   ·have ek : tkV l ⟨W, H, T, K⟩ xC = (.tup [.own 0, (.d (.bool true))], [.row 5 ((l.set a ⟨⟨W, H, T, K⟩, C - xC⟩).map Zd.enc) true false]) := by unfold tkV; rw [k1, decide_eq_true hx, if_pos rfl, k2, if_pos (by omega)]
    rw [ek]
    refine Ze Xs Ms XC ZcG (by show 2 ≤ _; decide) ?_
    simp +contextual -implicitDefEqProofs (maxSteps := 10^7) only [go_sem, seval, ↓gZ, XC, e1, e2, ha, h2, hlt, hlc, hz, u0, List.map_set, List.getElem?_set, List.length_set]
theorem WC (sS : List Zc) (sO sD : List Zd) (sL sC : Int) (h : JO (Zp.mk sS sO sD sL sC)) : Zh Xs Ms UA [(.d (.agg [.sl (sS.map Zc.enc), .sl (sO.map Zd.enc), .sl (sD.map Zd.enc), J sL, J sC]))] [] = some (.agg [.own 0, .own 1, .own 2, (.d (J sL)), (.d (J sC))], [.deep 4 4 (sS.map Zc.enc) none, .row 5 (sO.map Zd.enc) true false, .row 5 (sD.map Zd.enc) true false]) := by
 obtain ⟨h1, h2, h3, h4⟩ := h
 simp only at h1 h2 h3 h4
 have e1 := Zc4 sS (by omega) (fun x hx => by have := (h2 x hx).1; omega)
 have r1 : sO.length * 40 ≤ 140737488355328 ∧ sO.length ≤ 140737488355328 := by omega
 have r2 : sD.length * 40 ≤ 140737488355328 ∧ sD.length ≤ 140737488355328 := by omega
 refine Ze Xs Ms Zam Zrg (by show 1 ≤ _; decide) ?_
 simp +contextual -implicitDefEqProofs (maxSteps := 10^7) only [go_sem, seval, ↓gZ, Zam, e1, r1, r2]
theorem JG (xW xH : Int) (xT : Bool) (xK xC : Int) : Zh Xs Ms YI [(.d (.agg [J xW, J xH, .bool xT, J xK, J xC]))] [] = some ((.d (.bool (decide (Wt ⟨⟨xW, xH, xT, xK⟩, xC⟩)))), []) := by
 have e1 := Zc1 xW xH xT xK
 refine Ze Xs Ms Yc ZnM (by show 1 ≤ _; decide) ?_
 by_cases v1 : VP ⟨xW, xH, xT, xK⟩
 ·rw [decide_eq_true v1] at e1
  by_cases v2 : 1 ≤ xC
  ·by_cases v3 : xC ≤ 24
   ·have h : Wt ⟨⟨xW, xH, xT, xK⟩, xC⟩ := ⟨v1, v2, v3⟩
    simp +contextual -implicitDefEqProofs (maxSteps := 10^7) only [go_sem, seval, ↓gZ, Yc, e1, v2, v3, h]
   ·have h : ¬ Wt ⟨⟨xW, xH, xT, xK⟩, xC⟩ := fun h => v3 h.2.2
    simp +contextual -implicitDefEqProofs (maxSteps := 10^7) only [go_sem, seval, ↓gZ, Yc, e1, v2, v3, h]
  ·have h : ¬ Wt ⟨⟨xW, xH, xT, xK⟩, xC⟩ := fun h => v2 h.2.1
   simp +contextual -implicitDefEqProofs (maxSteps := 10^7) only [go_sem, seval, ↓gZ, Yc, e1, v2, h]
 ·rw [decide_eq_false v1] at e1
  have h : ¬ Wt ⟨⟨xW, xH, xT, xK⟩, xC⟩ := fun h => v1 h.1
  simp +contextual -implicitDefEqProofs (maxSteps := 10^7) only [go_sem, seval, ↓gZ, Yc, e1, h]
theorem Zpq (sS : List Zc) (sO sD : List Zd) (sL sC : Int) (eK eL eX eY eW eH epW epH : Int) (epT : Bool) (epK eC eo ea ep : Int) (et : Bool) (ek : List Zg) (hl : sS.length ≤ 100000) (hn : ¬ ((WP ⟨eL, eW, eH, []⟩ sS ∧ eX = 0) ∧ eY = 0)) : Zh Xs Ms Wb [.ptr 0 0, (.d (.agg [J eK, J eL, J eX, J eY, J eW, J eH, J epW, J epH, .bool epT, J epK, J eC, J eo, J ea, J ep, .bool et, .sl (ek.map Zg.enc)]))] [.box [.own 1, .own 2, .own 3, (.d (J sL)), (.d (J sC))], .deep 4 4 (sS.map Zc.enc) none, .row 5 (sO.map Zd.enc) true false, .row 5 (sD.map Zd.enc) true false] = some ((.d (.bool false)), [.box [.own 1, .own 2, .own 3, (.d (J sL)), (.d (J sC))], .deep 4 4 (sS.map Zc.enc) none, .row 5 (sO.map Zd.enc) true false, .row 5 (sD.map Zd.enc) true false]) := by
 by_cases hx : eX = 0
 ·by_cases hy : eY = 0
  ·have ha : ¬ WP ⟨eL, eW, eH, []⟩ sS := fun h => hn ⟨⟨h, hx⟩, hy⟩
   have e1 := Zi5 sS eL eW eH [] hl
   rw [decide_eq_false ha, if_neg ha] at e1
   simp only [List.map_nil] at e1
   refine Ze Xs Ms Xy ZcD (by show 2 ≤ _; decide) ?_
   simp +contextual -implicitDefEqProofs (maxSteps := 10^7) only [go_sem, seval, ↓gZ, Xy, hx, hy, e1]
  ·refine Ze Xs Ms Xy ZcD (by show 2 ≤ _; decide) ?_
   simp +contextual -implicitDefEqProofs (maxSteps := 10^7) only [go_sem, seval, ↓gZ, Xy, hx, hy]
 ·refine Ze Xs Ms Xy ZcD (by show 2 ≤ _; decide) ?_
  simp +contextual -implicitDefEqProofs (maxSteps := 10^7) only [go_sem, seval, ↓gZ, Xy, hx]
theorem Znx (sS : List Zc) (sO sD : List Zd) (sL sC : Int) (eK eL eX eY eW eH epW epH : Int) (epT : Bool) (epK eC eo ea ep : Int) (et : Bool) (ek : List Zg) (hv : ZN (Zp.mk sS sO sD sL sC)) (ha : WP ⟨eL, eW, eH, []⟩ sS) (hx : eX = 0) (hy : eY = 0) : Zh Xs Ms Wb [.ptr 0 0, (.d (.agg [J eK, J eL, J eX, J eY, J eW, J eH, J epW, J epH, .bool epT, J epK, J eC, J eo, J ea, J ep, .bool et, .sl (ek.map Zg.enc)]))] [.box [.own 1, .own 2, .own 3, (.d (J sL)), (.d (J sC))], .deep 4 4 (sS.map Zc.enc) none, .row 5 (sO.map Zd.enc) true false, .row 5 (sD.map Zd.enc) true false] =
  some ((.d (.bool true)), [.box [.own 4, .own 2, .own 3, (.d (J sL)), (.d (J (sC + eW * eH)))], .deep 4 4 (sS.map Zc.enc) none, .row 5 (sO.map Zd.enc) true false, .row 5 (sD.map Zd.enc) true false, .row 4 ((Qf ⟨eL, eW, eH, []⟩ sS).map Zc.enc) true false]) := by
 have h20 := hv.1.1
 simp only at h20
 have e1 := Zi5 sS eL eW eH [] (by omega)
 rw [decide_eq_true ha, if_pos ha] at e1
 simp only [List.map_nil] at e1
 have hp := ha.1.2.1
 simp only at hp
 subst hx hy
 have hb : VB ⟨0, 0, eW, eH⟩ := by simp only [VB]; omega
 have e2 := Zj1 0 0 eW eH hb
 have h3 := UX hb
 simp only at h3
 have h4 := hv.2.2.2
 simp only at h4
 have u0 := wi (sC + eW * eH) (by omega) (by omega)
 generalize Qf ⟨eL, eW, eH, []⟩ sS = Q at *
 refine Ze Xs Ms Xy ZcD (by show 2 ≤ _; decide) ?_
 simp +contextual -implicitDefEqProofs (maxSteps := 10^7) only [go_sem, seval, ↓gZ, Xy, e1, e2, u0]
theorem Zrd (sS : List Zc) (sO sD : List Zd) (sL sC : Int) (eK eL eX eY eW eH epW epH : Int) (epT : Bool) (epK eC eo ea ep : Int) (et : Bool) (ek : List Zg) (hl : sS.length ≤ 100000) (hn : QC 0 sS eL < 0) : Zh Xs Ms W9 [.ptr 0 0, (.d (.agg [J eK, J eL, J eX, J eY, J eW, J eH, J epW, J epH, .bool epT, J epK, J eC, J eo, J ea, J ep, .bool et, .sl (ek.map Zg.enc)]))] [.box [.own 1, .own 2, .own 3, (.d (J sL)), (.d (J sC))], .deep 4 4 (sS.map Zc.enc) none, .row 5 (sO.map Zd.enc) true false, .row 5 (sD.map Zd.enc) true false] = some ((.d (.bool false)), [.box [.own 1, .own 2, .own 3, (.d (J sL)), (.d (J sC))], .deep 4 4 (sS.map Zc.enc) none, .row 5 (sO.map Zd.enc) true false, .row 5 (sD.map Zd.enc) true false]) := by
 have e1 := VC sS eL (by omega)
 refine Ze Xs Ms Ug ZlX (by show 2 ≤ _; decide) ?_
 simp +contextual -implicitDefEqProofs (maxSteps := 10^7) only [go_sem, seval, ↓gZ, Ug, e1, hn]
theorem Zpr (sS : List Zc) (sO sD : List Zd) (sL sC : Int) (eK eL eX eY eW eH epW epH : Int) (epT : Bool) (epK eC eo ea ep : Int) (et : Bool) (ek : List Zg) (hl : sS.length ≤ 100000) (a : Nat) (ha : QC 0 sS eL = (a : Int)) (xL xW xH : Int) (xF : List Box) (hx : sS[a]? = some (Zc.mk xL xW xH xF)) (hF : xF.length ≤ 1000) : Zh Xs Ms W9 [.ptr 0 0, (.d (.agg [J eK, J eL, J eX, J eY, J eW, J eH, J epW, J epH, .bool epT, J epK, J eC, J eo, J ea, J ep, .bool et, .sl (ek.map Zg.enc)]))] [.box [.own 1, .own 2, .own 3, (.d (J sL)), (.d (J sC))], .deep 4 4 (sS.map Zc.enc) none, .row 5 (sO.map Zd.enc) true false, .row 5 (sD.map Zd.enc) true false] =
  some ((.d (.bool true)), [.box [.own 1, .own 2, .own 3, (.d (J sL)), (.d (J sC))], .row 4 ((sS.set a ⟨xL, xW, xH, xF ++ [⟨eX, eY, eW, eH⟩]⟩).map Zc.enc) true false, .row 5 (sO.map Zd.enc) true false, .row 5 (sD.map Zd.enc) true false]) := by
 have e1 := VC sS eL (by omega)
 rw [ha] at e1
 have h0 : ¬ (a : Int) < 0 := by omega
 have h0' : (0 : Int) ≤ (a : Int) := by omega
 have hlt := (List.getElem?_eq_some_iff.1 hx).1
 have hr : (xF.length + 1) * 32 ≤ 140737488355328 ∧ xF.length ≤ 140737488355327 := by omega
 have hfl := Zne xF
 refine Ze Xs Ms Ug ZlX (by show 2 ≤ _; decide) ?_
 simp +contextual -implicitDefEqProofs (maxSteps := 10^7) only [go_sem, seval, ↓gZ, Ug, e1, h0, h0', hx, hlt, hr, hfl]
 simp [Zc.enc, Box.enc, List.map_set]
theorem ZmB (sS : List Zc) (sO sD : List Zd) (sL sC : Int) (eK eL eX eY eW eH epW epH : Int) (epT : Bool) (epK eC eo ea ep : Int) (et : Bool) (ek : List Zg) (hn : ¬ Wt ⟨⟨epW, epH, epT, epK⟩, eC⟩) : Zh Xs Ms YE [.ptr 0 0, (.d (.agg [J eK, J eL, J eX, J eY, J eW, J eH, J epW, J epH, .bool epT, J epK, J eC, J eo, J ea, J ep, .bool et, .sl (ek.map Zg.enc)]))] [.box [.own 1, .own 2, .own 3, (.d (J sL)), (.d (J sC))], .deep 4 4 (sS.map Zc.enc) none, .row 5 (sO.map Zd.enc) true false, .row 5 (sD.map Zd.enc) true false] = some ((.d (.bool false)), [.box [.own 1, .own 2, .own 3, (.d (J sL)), (.d (J sC))], .deep 4 4 (sS.map Zc.enc) none, .row 5 (sO.map Zd.enc) true false, .row 5 (sD.map Zd.enc) true false]) := by
 have e1 := JG epW epH epT epK eC
 rw [decide_eq_false hn] at e1
 refine Ze Xs Ms YO ZhC (by show 2 ≤ _; decide) ?_
 simp +contextual -implicitDefEqProofs (maxSteps := 10^7) only [go_sem, seval, ↓gZ, YO, e1]
theorem Zlc (sS : List Zc) (sO sD : List Zd) (sL sC : Int) (eK eL eX eY eW eH epW epH : Int) (epT : Bool) (epK eC eo ea ep : Int) (et : Bool) (ek : List Zg) (hv : ZN (Zp.mk sS sO sD sL sC)) (hn : Wt ⟨⟨epW, epH, epT, epK⟩, eC⟩) : Zh Xs Ms YE [.ptr 0 0, (.d (.agg [J eK, J eL, J eX, J eY, J eW, J eH, J epW, J epH, .bool epT, J epK, J eC, J eo, J ea, J ep, .bool et, .sl (ek.map Zg.enc)]))] [.box [.own 1, .own 2, .own 3, (.d (J sL)), (.d (J sC))], .deep 4 4 (sS.map Zc.enc) none, .row 5 (sO.map Zd.enc) true false, .row 5 (sD.map Zd.enc) true false] =
  some ((.d (.bool true)), [.box [.own 1, .own 4, .own 3, (.d (J sL)), (.d (J sC))], .deep 4 4 (sS.map Zc.enc) none, .row 5 (sO.map Zd.enc) true false, .row 5 (sD.map Zd.enc) true false, .row 5 ((YB ⟨epW, epH, epT, epK⟩ eC sO).map Zd.enc) true false]) := by
 have e1 := JG epW epH epT epK eC
 rw [decide_eq_true hn] at e1
 have e2 := ZcC sO epW epH epT epK eC (by have := hv.2.1.1; simp only at this; omega) (fun x hx => by have := (QS hv.2.1 x hx).2; have := hn.2; simp only at this; unfold R64; omega)
 refine Ze Xs Ms YO ZhC (by show 2 ≤ _; decide) ?_
 simp +contextual -implicitDefEqProofs (maxSteps := 10^7) only [go_sem, seval, ↓gZ, YO, e1, e2]
theorem ZmC (sS : List Zc) (sO sD : List Zd) (sL sC : Int) (eK eL eX eY eW eH epW epH : Int) (epT : Bool) (epK eC eo ea ep : Int) (et : Bool) (ek : List Zg) (hv : ZN (Zp.mk sS sO sD sL sC)) (hn : ¬ (Wt ⟨⟨epW, epH, epT, epK⟩, eC⟩ ∧ Xn ⟨epW, epH, epT, epK⟩ eC false sD = true)) : Zh Xs Ms YF [.ptr 0 0, (.d (.agg [J eK, J eL, J eX, J eY, J eW, J eH, J epW, J epH, .bool epT, J epK, J eC, J eo, J ea, J ep, .bool et, .sl (ek.map Zg.enc)]))] [.box [.own 1, .own 2, .own 3, (.d (J sL)), (.d (J sC))], .deep 4 4 (sS.map Zc.enc) none, .row 5 (sO.map Zd.enc) true false, .row 5 (sD.map Zd.enc) true false] = some ((.d (.bool false)), [.box [.own 1, .own 2, .own 3, (.d (J sL)), (.d (J sC))], .deep 4 4 (sS.map Zc.enc) none, .row 5 (sO.map Zd.enc) true false, .row 5 (sD.map Zd.enc) true false]) := by
 have e1 := JG epW epH epT epK eC
 by_cases hl : Wt ⟨⟨epW, epH, epT, epK⟩, eC⟩
 ·rw [decide_eq_true hl] at e1
  have e2 := Zby sD epW epH epT epK eC (by have := hv.2.2.1.1; simp only at this; omega) (Zf9 hv.2.2.1) (fun x hx => by have := (QS hv.2.2.1 x hx).2; have := hl.2; simp only at this; unfold R64; omega)
  unfold tkV at e2
  rw [if_neg (fun h => hn ⟨hl, h⟩)] at e2
  refine Ze Xs Ms XA Zdc (by show 2 ≤ _; decide) ?_
  simp +contextual -implicitDefEqProofs (maxSteps := 10^7) only [go_sem, seval, ↓gZ, XA, e1, e2]
 ·rw [decide_eq_false hl] at e1
  refine Ze Xs Ms XA Zdc (by show 2 ≤ _; decide) ?_
  simp +contextual -implicitDefEqProofs (maxSteps := 10^7) only [go_sem, seval, ↓gZ, XA, e1]
theorem Zld (sS : List Zc) (sO sD : List Zd) (sL sC : Int) (eK eL eX eY eW eH epW epH : Int) (epT : Bool) (epK eC eo ea ep : Int) (et : Bool) (ek : List Zg) (hv : ZN (Zp.mk sS sO sD sL sC)) (hl : Wt ⟨⟨epW, epH, epT, epK⟩, eC⟩) (hk : Xn ⟨epW, epH, epT, epK⟩ eC false sD = true) : Zh Xs Ms YF [.ptr 0 0, (.d (.agg [J eK, J eL, J eX, J eY, J eW, J eH, J epW, J epH, .bool epT, J epK, J eC, J eo, J ea, J ep, .bool et, .sl (ek.map Zg.enc)]))] [.box [.own 1, .own 2, .own 3, (.d (J sL)), (.d (J sC))], .deep 4 4 (sS.map Zc.enc) none, .row 5 (sO.map Zd.enc) true false, .row 5 (sD.map Zd.enc) true false] =
  some ((.d (.bool true)), [.box [.own 1, .own 4, .own 5, (.d (J (sL + eC * epW * epH))), (.d (J sC))], .deep 4 4 (sS.map Zc.enc) none, .row 5 (sO.map Zd.enc) true false, .row 5 (sD.map Zd.enc) true false, .row 5 ((YB ⟨epW, epH, epT, epK⟩ eC sO).map Zd.enc) true false, .row 5 ((X6 sD ⟨epW, epH, epT, epK⟩ eC).map Zd.enc) true false]) := by
 have e1 := JG epW epH epT epK eC
 rw [decide_eq_true hl] at e1
 have e2 := Zby sD epW epH epT epK eC (by have := hv.2.2.1.1; simp only at this; omega) (Zf9 hv.2.2.1) (fun x hx => by have := (QS hv.2.2.1 x hx).2; have := hl.2; simp only at this; unfold R64; omega)
 unfold tkV at e2
 rw [if_pos hk] at e2
 have e3 := ZcC sO epW epH epT epK eC (by have := hv.2.1.1; simp only at this; omega) (fun x hx => by have := (QS hv.2.1 x hx).2; have := hl.2; simp only at this; unfold R64; omega)
 have hla := ZcT hl
 have h6 := hv.2.2.2
 simp only at hla h6
 have u0 := wi (eC * epW) (by omega) (by omega)
 have u1 := wi (eC * epW * epH) (by omega) (by omega)
 have u2 := wi (sL + eC * epW * epH) (by omega) (by omega)
 refine Ze Xs Ms XA Zdc (by show 2 ≤ _; decide) ?_
 simp +contextual -implicitDefEqProofs (maxSteps := 10^7) only [go_sem, seval, ↓gZ, XA, e1, e2, e3, u0, u1, u2]
theorem ZmD (sS : List Zc) (sO sD : List Zd) (sL sC : Int) (eK eL eX eY eW eH epW epH : Int) (epT : Bool) (epK eC eo ea ep : Int) (et : Bool) (ek : List Zg) (hn : QC 0 sS eL < 0) : Zh Xs Ms YG [.ptr 0 0, (.d (.agg [J eK, J eL, J eX, J eY, J eW, J eH, J epW, J epH, .bool epT, J epK, J eC, J eo, J ea, J ep, .bool et, .sl (ek.map Zg.enc)]))] [.box [.own 1, .own 2, .own 3, (.d (J sL)), (.d (J sC))], .deep 4 4 (sS.map Zc.enc) none, .row 5 (sO.map Zd.enc) true false, .row 5 (sD.map Zd.enc) true false] = some ((.d (.bool false)), [.box [.own 1, .own 2, .own 3, (.d (J sL)), (.d (J sC))], .deep 4 4 (sS.map Zc.enc) none, .row 5 (sO.map Zd.enc) true false, .row 5 (sD.map Zd.enc) true false]) := by
 have e1 := Zhj sS eL (fun h => by omega)
 refine Ze Xs Ms YP ZhD (by show 2 ≤ _; decide) ?_
 simp +contextual -implicitDefEqProofs (maxSteps := 10^7) only [go_sem, seval, ↓gZ, YP, e1]
theorem Zle (sS : List Zc) (sO sD : List Zd) (sL sC : Int) (eK eL eX eY eW eH epW epH : Int) (epT : Bool) (epK eC eo ea ep : Int) (et : Bool) (ek : List Zg) (hv : ZN (Zp.mk sS sO sD sL sC)) (a : Nat) (ha : QC 0 sS eL = (a : Int)) (xL xW xH : Int) (xF : List Box) (hx : sS[a]? = some (Zc.mk xL xW xH xF)) : Zh Xs Ms YG [.ptr 0 0, (.d (.agg [J eK, J eL, J eX, J eY, J eW, J eH, J epW, J epH, .bool epT, J epK, J eC, J eo, J ea, J ep, .bool et, .sl (ek.map Zg.enc)]))] [.box [.own 1, .own 2, .own 3, (.d (J sL)), (.d (J sC))], .deep 4 4 (sS.map Zc.enc) none, .row 5 (sO.map Zd.enc) true false, .row 5 (sD.map Zd.enc) true false] =
  some ((.d (.bool true)), [.box [.own 4, .own 2, .own 3, (.d (J (sL + xW * xH))), (.d (J sC))], .deep 4 4 (sS.map Zc.enc) none, .row 5 (sO.map Zd.enc) true false, .row 5 (sD.map Zd.enc) true false, .row 4 ((sS.eraseIdx a).map Zc.enc) true false]) := by
 have e1 := Zg1 sS eL hv.1 a ha xL xW xH xF hx
 have hxv := (Qe hv.1.2 _ (List.mem_of_getElem? hx)).1
 simp only at hxv
 have h6 := hv.2.2.2
 simp only at h6
 have hb : VB ⟨0, 0, xW, xH⟩ := by simp only [VB]; omega
 have h3 := UX hb
 simp only at h3
 have u0 := wi (xW * xH) (by omega) (by omega)
 have u1 := wi (sL + xW * xH) (by omega) (by omega)
 refine Ze Xs Ms YP ZhD (by show 2 ≤ _; decide) ?_
 simp +contextual -implicitDefEqProofs (maxSteps := 10^7) only [go_sem, seval, ↓gZ, YP, e1, u0, u1]
end Go.Proofs.YtpobhkoombldlaaGreat
