/-
  The law FnExactFilCut answers true at every store, file and size.
-/
import Derived.Test.YtbmoolmgfpcnkaaFilCutLaw
import Derived.Test.YtbmoolmgfpcnkaaLaw2
import Derived.Test.YtbmoolmgfpcnkaaChkD
namespace Go.Proofs.Ytbmoolmgfpcnkaa.lawFnExactFilCut
open Go.ChangeShapes Go.WideShapes Go.ChangeAt Go.RowKit
set_option linter.unusedVariables false

set_option maxRecDepth 100000 in
theorem lifted (os : Os) (started : os.Started) (H : Type) (enc : TypeId × Value → H) :
    ReturnsInHanded {} Try.checked os 3 .any (Rows.fnExactFilCutSpec.pre6 enc Try.prog Try.f3 Rows.fnExactFilCutRow.domain false) (Rows.fnExactFilCutSpec.post enc Try.prog Try.f3 false true false false) := by
  refine returnsInHanded_of_change (C := Try.checked) own started (by kernel_rfl) Try.func3
    (ChangeSpec.witness6 (enc := enc) (C := Try.checked) false ⟨#[], #[.agg #[.slice none 0 0, .slice none 0 0], .agg #[.int .i64 0, .slice none 0 0], .int .i64 0], []⟩ 8 (by kernel_rfl) (by kernel_rfl) (by kernel_rfl) (by kernel_rfl)) ?_
  intro W base args ds gs before hval0 hW _ _
  have hval : ∀ (j : Nat) t v, Try.f3.params[j]? = some t → args[j]? = some v → Value.okWide Try.prog W .any base t v := hval0
  have hW' := hW
  obtain ⟨p, q, hA0, hV, rfl, hfz, hnd⟩ := hW
  have hA : DataW.TrodAll enc Try.prog W 0 (fun _ => true) true Try.f3.params.toList args.toList ds p := hA0
  rw [Try.params3] at hA hval
  obtain ⟨v0, vs0, d0, ds0, p0, q0, hargs, rfl, rfl, h0, r0⟩ := trodAll_cons hA
  obtain ⟨v1, vs1, d1, ds1, p1, q1, rfl, rfl, rfl, h1, r1⟩ := trodAll_cons r0
  obtain ⟨v2, vs2, d2, ds2, p2, q2, rfl, rfl, rfl, h2, r2⟩ := trodAll_cons r1
  obtain ⟨rfl, rfl, rfl⟩ := trodAll_nil r2
  obtain rfl : args = #[v0, v1, v2] := by cases args; simp_all
  obtain ⟨rfl, rfl⟩ := trodVars_none hV
  obtain ⟨va0, vb0, ya0, yb0, k0, rfl, _, _, ga0, gb0⟩ := Go.Joins.open_agg2 Try.underlying25 rfl rfl (hval 0 25 v0 rfl rfl) h0
  obtain ⟨A0_0, n0_0, c0_0, l0_0, rfl, hr0_0, hnc0_0, hcm0_0⟩ := rd_bools_of Try.underlying22 Try.underlying4 (by kernel_rfl) ga0
  obtain ⟨A0_1, n0_1, c0_1, l0_1, rfl, hr0_1, hok0_1, hnc0_1, hcm0_1⟩ := rd_strings_of Try.underlying23 Try.underlying9 (by kernel_rfl) gb0
  obtain ⟨va1, vb1, ya1, yb1, k1, rfl, _, _, ga1, gb1⟩ := Go.Joins.open_agg2 Try.underlying28 rfl rfl (hval 1 28 v1 rfl rfl) h1
  obtain ⟨a1_0, ha1, _, wa1⟩ := DataW.trod_int Try.underlying3 ga1
  obtain rfl : va1 = .int .i64 a1_0 := by simpa using ha1
  obtain ⟨A1_1, n1_1, c1_1, l1_1, rfl, hr1_1, hok1_1, hnc1_1, hcm1_1⟩ := rd_triples_of (ti := 3) Try.underlying26 Try.underlying105 (by kernel_rfl) ⟨rfl, rfl⟩ ⟨rfl, rfl⟩ ⟨rfl, rfl⟩ Try.underlying3 (by kernel_rfl) gb1
  obtain ⟨a2, rfl, rfl, rfl, wf2⟩ := open_int Try.underlying3 (hval 2 3 v2 rfl rfl) h2
  refine (lawFnExactFilCut_walk A0_0 n0_0 c0_0 l0_0 A0_1 n0_1 c0_1 l0_1 a1_0 A1_1 n1_1 c1_1 l1_1 a2 W hr0_0 (by simp only [maxLen] at hcm0_0; omega) hr0_1 hok0_1 (by simp only [maxLen] at hcm0_1; omega) (i64_of_wf wa1) hr1_1 hok1_1 (by simp only [maxLen] at hcm1_1; omega) (i64_of_wf wf2)).mono fun e W' ⟨he, hf⟩ => ?_
  subst he
  exact ⟨_, rfl, law_post hW' rfl rfl Try.underlying4 laidOut (by kernel_rfl) (by kernel_rfl) hf⟩

theorem closed : joinedFacts Try.pinned.checked.prog 3 Try.f3 Rows.fnExactFilCutSpec Rows.fnExactFilCutRow = true := by
  unfold joinedFacts
  rw [chk_stops, chk_enter, chk_final, chk_make]
  kernel_rfl

theorem holds : Rows.FnExactFilCutSaid :=
  OpenClaim.holds_of_wide 3 Try.f3 rfl rfl rfl rfl rfl rfl rfl ⟨rfl, rfl, rfl, rfl, rfl⟩ rfl rfl rfl rfl rfl (by kernel_rfl) Try.func3 closed
    (of_decide_eq_true (by kernel_rfl)) (by unfold Func.isWrapper; first | (rw [if_pos (by decide +kernel)]; kernel_rfl) | (rw [if_neg (by decide +kernel)]; exact ⟨rfl, rfl⟩))
    (fun os started H enc _ => lifted os started H enc)
end Go.Proofs.Ytbmoolmgfpcnkaa.lawFnExactFilCut
