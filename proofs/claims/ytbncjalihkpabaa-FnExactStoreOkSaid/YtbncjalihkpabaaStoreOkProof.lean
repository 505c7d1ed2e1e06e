/-
  The law FnExactStoreOk answers true at every store.
-/
import Derived.Test.YtbncjalihkpabaaStoreOkLaw
import Derived.Test.YtbncjalihkpabaaLaw
namespace Go.Proofs.Ytbncjalihkpabaa.lawFnExactStoreOk
open Go.ChangeShapes Go.WideShapes Go.ChangeAt Go.RowKit
set_option linter.unusedVariables false

set_option maxRecDepth 100000 in
theorem lifted (os : Os) (started : os.Started) (H : Type) (enc : TypeId × Value → H) :
    ReturnsInHanded {} Try.checked os 11 .any (Rows.fnExactStoreOkSpec.pre6 enc Try.prog Try.f11 Rows.fnExactStoreOkRow.domain false) (Rows.fnExactStoreOkSpec.post enc Try.prog Try.f11 false true false false) := by
  refine returnsInHanded_of_change (C := Try.checked) own started (by kernel_rfl) Try.func11
    (ChangeSpec.witness6 (enc := enc) (C := Try.checked) false ⟨#[], #[.agg #[.slice none 0 0, .slice none 0 0]], []⟩ 8 (by kernel_rfl) (by kernel_rfl) (by kernel_rfl) (by kernel_rfl)) ?_
  intro W base args ds gs before hval0 hW _ _
  have hval : ∀ (j : Nat) t v, Try.f11.params[j]? = some t → args[j]? = some v → Value.okWide Try.prog W .any base t v := hval0
  have hW' := hW
  obtain ⟨p, q, hA0, hV, rfl, hfz, hnd⟩ := hW
  have hA : DataW.TrodAll enc Try.prog W 0 (fun _ => true) true Try.f11.params.toList args.toList ds p := hA0
  rw [Try.params11] at hA hval
  obtain ⟨v0, vs0, d0, ds0, p0, q0, hargs, rfl, rfl, h0, r0⟩ := trodAll_cons hA
  obtain ⟨rfl, rfl, rfl⟩ := trodAll_nil r0
  obtain rfl : args = #[v0] := by cases args; simp_all
  obtain ⟨rfl, rfl⟩ := trodVars_none hV
  obtain ⟨va0, vb0, ya0, yb0, k0, rfl, _, _, ga0, gb0⟩ := Go.Joins.open_agg2 Try.underlying52 rfl rfl (hval 0 52 v0 rfl rfl) h0
  obtain ⟨A0_0, n0_0, c0_0, l0_0, rfl, hr0_0, hnc0_0, hcm0_0⟩ := rd_bools_of Try.underlying22 Try.underlying4 (by kernel_rfl) ga0
  obtain ⟨A0_1, n0_1, c0_1, l0_1, rfl, hr0_1, hok0_1, hnc0_1, hcm0_1⟩ := rd_strings_of Try.underlying50 Try.underlying9 (by kernel_rfl) gb0
  refine (lawFnExactStoreOk_walk A0_0 n0_0 c0_0 l0_0 A0_1 n0_1 c0_1 l0_1 W hr0_0 (by simp only [maxLen] at hcm0_0; omega) hr0_1 hok0_1 (by simp only [maxLen] at hcm0_1; omega)).mono fun e W' ⟨he, hf⟩ => ?_
  subst he
  exact ⟨_, rfl, law_post hW' rfl rfl Try.underlying4 laidOut (by kernel_rfl) (by kernel_rfl) hf⟩

theorem holds : Rows.FnExactStoreOkSaid :=
  OpenClaim.holds_of_wide 11 Try.f11 rfl rfl rfl rfl rfl rfl rfl ⟨rfl, rfl, rfl, rfl, rfl⟩ rfl rfl rfl rfl rfl (by kernel_rfl) Try.func11 (by kernel_rfl)
    (of_decide_eq_true (by kernel_rfl)) (by unfold Func.isWrapper; first | (rw [if_pos (by decide +kernel)]; kernel_rfl) | (rw [if_neg (by decide +kernel)]; exact ⟨rfl, rfl⟩))
    (fun os started H enc _ => lifted os started H enc)
end Go.Proofs.Ytbncjalihkpabaa.lawFnExactStoreOk
