/- The statement that the law FnApplyEventUndone holds of every row of bytes: it answers true, and its argument reads as before. -/
import Derived.Test.YtpobhkoombldlaaGreatAC7
import Derived.Test.YtpobhkoombldlaaGreatACodeOk
import Derived.Test.YtpobhkoombldlaaGreatRows
import Derived.Test.YtpobhkoombldlaaGreatAbsLaw
namespace Go.Proofs.YtpobhkoombldlaaGreat
open Go Go.Abs Go.Abs.L Go.ChangeShapes Go.WideShapes Go.ChangeAt Go.RowKit
def AllOK : List (Nat × Go.Abs.Fn) → Prop
 | [] => True
 | (f, .text cf) :: r => Zl f cf ∧ AllOK r
 | (f, .prim p) :: r => Zh6 Tryz.prog f p ∧ AllOK r
theorem allOK_get : ∀ {l : List (Nat × Go.Abs.Fn)} {f : Nat} {x : Go.Abs.Fn}, AllOK l → lkp l f = some x → (∃ cf, x = .text cf ∧ Zl f cf) ∨ ∃ p, x = .prim p ∧ Zh6 Tryz.prog f p
 | [], f, x, _, h => by cases h
 | (g, .text cf) :: r, f, x, ha, h => by
  simp only [lkp] at h
  split at h
  ·rename_i e
   cases h
   subst e
   exact .inl ⟨cf, rfl, ha.1⟩
  ·exact allOK_get ha.2 h
 | (g, .prim p) :: r, f, x, ha, h => by
  simp only [lkp] at h
  split at h
  ·rename_i e
   cases h
   subst e
   exact .inr ⟨p, rfl, ha.1⟩
  ·exact allOK_get ha.2 h
theorem draws (C : Orc) (M : Zq) (nt : Nat) (hC : Qs Tryz.prog C) (hB : VU C) : VV Tryz.prog C M nt := ZgC (by kernel_rfl) hC hB
theorem all_ok : AllOK tbl :=
 ⟨ZaF, VN, Wm, U7, ZbX, ZbY, Zdj, Zdk, ZeB, Zjr, Zdl, Zdm, Zge, Zdn, ZeC, ZeD, Zdo, Zgf, Zdp, Zbf, ZbZ, ZeE, Zb0, Zdq, Zb1, Zb2, Zb3, Zb4, Zb5, Zdr, Zgg, Zds, Zdt, Zgh, Zgi, Zb6, Zdu, Zdv, ZeF, ZeG, Zgj, ZeH, ZoI ZaG draws, Zgk, ZeI, Zdw, Zgl, ZeJ, ZeK, Zgm, Zb7, ZeL, Zb8, Zb9, Zca, Zcb, ZeM, Zcc, Zdx, ZeN, Zcd, Zdy, ZeO, WQ, Zbg, Zdz, ZdA, Zce, Zgn, ZeP, ZdB, ZeQ, ZdC, ZeR, ZeS, ZhG, Zgo, ZeT, Zgp, Zcf, ZeU, ZhH, ZeV, ZeW, Zcg, ZdD, ZdE, ZdF, ZeX, ZdG, ZeY, ZdH, ZhI, ZeZ, Zgq, Ze0, ZhJ, Zch, Wn, Zci, Zgr, Zjs, Zli, ZdI, Zjt, Ze1, Zcj, Zbh, Zlo JQ draws, Ze2, Ze3, Ze4, Ze5, Ze6, Ze7, Zju, ZdJ, Ze8, ZdK, Ze9, ZhK, Zgs, Zck, ZhL, ZhM, ZdL, Zfa, Zfb, ZhN, Zcl, trivial⟩
theorem table_ok : ZcQ Tryz.prog Xs Ms where
 text := fun f cf h => by
  rcases allOK_get all_ok h with ⟨cf', e, h'⟩ | ⟨p, e, _⟩
  ·cases e
   exact h'
  ·cases e
 prim := fun f p h => by
  rcases allOK_get all_ok h with ⟨cf', e, _⟩ | ⟨p', e, h'⟩
  ·cases e
  ·cases e
   exact h'
theorem sound : Qs Tryz.prog (Zh Xs Ms) := ZgD (by kernel_rfl) table_ok
theorem own : ownKnob Tryz.prog.godebug = none := by kernel_rfl
theorem laidOut : laidOutB Tryz.prog = true := by kernel_rfl
theorem cells5 : Tryz.prog.cellsOf 5 = 1 := by kernel_rfl
set_option maxRecDepth 100000 in
theorem lifted (os : Os) (started : os.Started) (H : Type) (enc : TypeId × Value → H) :
  ReturnsInHanded {} Tryz.checked os 4 .any (Rows.fnApplyEventUndoneSpec.pre6 enc Tryz.prog Tryz.f4 Rows.fnApplyEventUndoneRow.domain false) (Rows.fnApplyEventUndoneSpec.post enc Tryz.prog Tryz.f4 false true false false) := by
 refine returnsInHanded_of_change (C := Tryz.checked) own started (by kernel_rfl) Tryz.func4
  (ChangeSpec.witness6 (enc := enc) (C := Tryz.checked) false ⟨#[], #[.slice none 0 0], []⟩ 8 (by kernel_rfl) (by kernel_rfl) (by kernel_rfl) (by kernel_rfl)) ?_
 intro W base args ds gs before hval0 hW _ _
 have hval : ∀ (j : Nat) t v, Tryz.f4.params[j]? = some t → args[j]? = some v → Value.okWide Tryz.prog W .any base t v := hval0
 have hW' := hW
 obtain ⟨p, q, hA0, hV, rfl, _, _⟩ := hW
 have hA : DataW.TrodAll enc Tryz.prog W 0 (fun _ => true) true Tryz.f4.params.toList args.toList ds p := hA0
 rw [Tryz.params4] at hA hval
 obtain ⟨v0, d0, rfl, rfl, h0⟩ := trodAll_one hA
 obtain ⟨rfl, rfl⟩ := trodVars_none hV
 clear hA0 hval0
 simp only [List.append_nil] at hW'
 have hlt : ∀ x ∈ p, x.block < W.heap.size := fun x hx => by simpa using hW'.lt x hx
 have hargs : ∀ (W' : World), Below W.heap.size W W' → DataW.Trod enc Tryz.prog W' 0 (fun b => decide (b < W.heap.size)) true 22 v0 d0 p :=
  fun W' hn => Below.trod laidOut (by kernel_rfl) (of_decide_eq_true (by kernel_rfl)) h0 hn hlt
 obtain ⟨code, hrep⟩ := Zlx Tryz.underlying22 Tryz.underlying5 cells5 (hval 0 22 v0 rfl rfl) h0
 refine (Zlw sound Zfv (fun q hq => by cases hq) hrep).mono fun e W' ⟨he, hn⟩ => ?_
 subst he
 exact ⟨_, rfl, ⟨_, _, _, [], _, [], hW', trodAll_mk1 (shut_bool Tryz.underlying4 _), trodAll_mk1 (hargs _ hn), rfl, hn.frame _, fun h => by cases h⟩⟩
theorem fnApplyEventUndone_holds : Rows.FnApplyEventUndoneSaid :=
 OpenClaim.holds_of_wide 4 Tryz.f4 rfl rfl rfl rfl rfl rfl rfl ⟨rfl, rfl, rfl, rfl, rfl⟩ rfl rfl rfl rfl rfl (by kernel_rfl) Tryz.func4 (by kernel_rfl)
  (of_decide_eq_true (by kernel_rfl)) (by unfold Func.isWrapper; first | (rw [if_pos (by decide +kernel)]; kernel_rfl) | (rw [if_neg (by decide +kernel)]; exact ⟨rfl, rfl⟩))
  (fun os started H enc _ => lifted os started H enc)
#print axioms fnApplyEventUndone_holds
end Go.Proofs.YtpobhkoombldlaaGreat
