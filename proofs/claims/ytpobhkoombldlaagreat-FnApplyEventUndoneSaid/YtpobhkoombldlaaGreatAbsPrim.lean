/- The abstract semantics: functions told by what they do. Own text. -/
import Derived.Test.YtpobhkoombldlaaGreatAbsNil
import Derived.Test.YtpobhkoombldlaaGreatAbsEval
set_option linter.unusedVariables false
set_option linter.unusedSimpArgs false
set_option linter.unusedSimpArgs false
namespace Go.Abs
open Go Go.Abs.E
def Zh6 (P : Program) (f : FuncId) (p : List AV → List Zr → Option (AV × List Zr)) : Prop :=
 ∀ as h r hs, p as h = some (r, hs) → ZnV P f as h r hs ∧ ∀ (k : Nat) (cs : List AV), h[k]? = some (Zr.box cs) → ∃ cs', hs[k]? = some (Zr.box cs')
open Classical in
noncomputable def ZoH (s b : Nat) : List AV → List Zr → Option (AV × List Zr)
 | [.d (.sl xs)], [] => if uni s xs ∧ QQ xs ∧ xs.length * b ≤ ZW ∧ xs.length ≤ ZW then some (.own 0, [.row s xs true false]) else none
 | _, _ => none
def Zr0 (s : Nat) : Zb := .keep [0] (.region 1 none [⟨some 2, none, .assign (some s) (.v .nil), false⟩])
def ZlE (s : Nat) : Zb := .seq (.keep [2] (.region 1 none [⟨some 2, none, .assign (some s) (.v .nil), false⟩])) .ret
def ZlF (s b : Nat) : Zb := .seq (.keep [2] (.region 4 none [⟨some 5, none, .buildSl s [], true⟩, ⟨some 6, none, .move (.t 0), false⟩, ⟨some 7, none, .append s b false true (.t 5) (.t 6), true⟩, ⟨some 2, none, .assign (some s) (.t 7), false⟩])) .ret
theorem ZxW {X : Fns} {M : Zq} {c : Zb} {st : St} {Q : Ex → St → Prop} (h : W X M c st Q) : ∃ e st', QV X M c st = some (e, st') ∧ Q e st' := by
 unfold W at h
 cases hv : QV X M c st with
 | none => rw [hv] at h; exact h.elim
 | some r => rw [hv] at h; exact ⟨r.1, r.2, rfl, h⟩
theorem ZoI {P : Program} {f : FuncId} {s b : Nat} (hf : ZrS P f 8 [.tmp 2] (Zr0 s) (ZlE s) (ZlF s b)) (hD : ∀ C M nt, Qs P C → VU C → VV P C M nt) : Zh6 P f (ZoH s b) := by
 intro as h r hs hp
 unfold ZoH at hp
 split at hp
 ·rename_i xs
  split at hp
  ·rename_i hc
   obtain ⟨c1, c2, c3, c4⟩ := hc
   cases hp
   refine ⟨?_, fun k cs hk => by simp at hk⟩
   let X : Fns := fun _ => none
   let M : Zq := fun _ _ => false
   have hX : ZcQ P X M := ⟨(fun f cf h => by cases h), (fun f p h => by cases h)⟩
   have hS := ZgX hX (fun C nt hC hB => hD C M nt hC hB)
   have hB := ZjR hX
   have w0 : W X M (Zr0 s) { sl := [(0, .d (.sl xs))], hp := [], nx := 0, m := 0 } (fun e st => e = .normal ∧ st = { sl := [(0, .d (.sl xs))], hp := [(0, .row s [] true false)], nx := 64, m := 0 }) := by
    unfold Zr0
    simp +contextual -implicitDefEqProofs (maxSteps := 10000000) only [go_sem, seval, ↓gA, ↓gB, ↓gC, ↓gD, ↓gE, ↓gF, ↓gG]
   have w1 : ∀ b', (b' = true → xs = []) → W X M (.seq (.cond (.t 4) (ZlE s) .skip) (ZlF s b)) { sl := Zt (Zt [(0, .d (.sl xs))] (some 3) (.d (.sl xs))) (some 4) (.d (.bool b')), hp := [(0, .row s [] true false)], nx := 64 + 128, m := 0 } (fun e st => Zcr 0 [.tmp 2] (some (e, st)) = some (.own 0, [.row s xs true false])) := by
    intro b' hb'
    cases b' with
    | true =>
     have := hb' rfl
     subst this
     simp +contextual -implicitDefEqProofs (maxSteps := 10000000) only [ZlE, ZlF, go_sem, seval, ↓gA, ↓gB, ↓gC, ↓gD, ↓gE, ↓gF, ↓gG]
     rfl
    | false =>
     simp +contextual -implicitDefEqProofs (maxSteps := 10000000) only [ZlE, ZlF, c1, c2, c3, c4, go_sem, seval, ↓gA, ↓gB, ↓gC, ↓gD, ↓gE, ↓gF, ↓gG]
     exact ⟨fun _ => rfl, fun h => h ⟨c3, c4⟩⟩
   obtain ⟨e0, st0, h0, rfl, rfl⟩ := ZxW w0
   obtain ⟨n0, h0⟩ := ZaW X M h0
   have pick : ∀ b', (b' = true → xs = []) → ∃ n, ∀ m, n ≤ m → Zcr 0 [.tmp 2] (ZI (Qp X M m) M m (.seq (.cond (.t 4) (ZlE s) .skip) (ZlF s b)) { sl := Zt (Zt [(0, .d (.sl xs))] (some 3) (.d (.sl xs))) (some 4) (.d (.bool b')), hp := [(0, .row s [] true false)], nx := 64 + 128, m := 0 }) = some (.own 0, [.row s xs true false]) := by
    intro b' hb'
    obtain ⟨e1, st1, h1, h2⟩ := ZxW (w1 b' hb')
    obtain ⟨n, hn⟩ := ZaW X M h1
    exact ⟨n, fun m hm => by rw [hn m hm]; exact h2⟩
   obtain ⟨nf, hnf⟩ := pick false (by simp)
   by_cases hx : xs = []
   ·obtain ⟨nt, hnt⟩ := pick true fun _ => hx
    have m1 : n0 ≤ n0 + nf + nt := by omega
    exact ZqI (hS (n0 + nf + nt)) (hB (n0 + nf + nt)) hf (hD _ M 8 (hS _) (hB _)) (by omega) (h0 _ m1) rfl rfl fun b' hb' => by
     cases b' with
     | true => exact hnt _ (by omega)
     | false => exact hnf _ (by omega)
   ·have m1 : n0 ≤ n0 + nf := by omega
    exact ZqI (hS (n0 + nf)) (hB (n0 + nf)) hf (hD _ M 8 (hS _) (hB _)) (by omega) (h0 _ m1) rfl rfl fun b' hb' => by
     cases b' with
     | true => exact absurd (hb' rfl) hx
     | false => exact hnf _ (by omega)
  ·cases hp
 ·cases hp
end Go.Abs
