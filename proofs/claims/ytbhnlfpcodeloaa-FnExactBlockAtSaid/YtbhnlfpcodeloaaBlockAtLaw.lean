/-
  The law FnExactBlockAt, walked.
-/
import Derived.Test.YtbhnlfpcodeloaaBlockAt
import Derived.Test.YtbhnlfpcodeloaaExtS
import Derived.Test.YtbhnlfpcodeloaaLaw
namespace Go.Proofs.Ytbhnlfpcodeloaa
open Go.RowKit

set_option linter.unusedVariables false
set_option maxHeartbeats 4000000 in
theorem lawFnExactBlockAt_walk (A0 : Option Addr) (n0 c0 : Nat) (l0 : List (Int × Int × Int)) (a1 : Int) (w : World) (h0 : Rd w A0 n0 3 ((l0).flatMap cExt)) (ok0 : ∀ r ∈ l0, I64 r.1 ∧ I64 r.2.1 ∧ I64 r.2.2) (hcap0 : n0 ≤ 9223372036854775807) (i1 : I64 a1) :
    Calls Try.prog 7 #[.slice A0 n0 c0, .int .i64 a1] w fun e w' => e = .returned (.bool true) ∧ Fr w w' := by
  by_cases hbig0 : (1048576 : Int) < (n0 : Nat)
  · go_enter Try.func7, Try.ntmps7
    go_wp2_with fail
    refine (szExtS_fr A0 n0 c0 _ _ hcap0 (by omega) (by omega)).mono ?_
    rintro e w1 ⟨rfl, f1⟩
    have fr1 : Fr w w1 := Fr.then (Below.refl _ _) f1
    rw [szOf_no (by omega)]
    go_wp2_with fail
    go_ret
    exact ⟨rfl, fr1⟩
  have hs0 : n0 ≤ 1048576 := by omega
  go_enter Try.func7, Try.ntmps7
  go_wp2_with fail
  refine (szExtS_fr A0 n0 c0 _ _ hcap0 (by omega) (by omega)).mono ?_
  rintro e w1 ⟨rfl, f1⟩
  have fr1 : Fr w w1 := Fr.then (Below.refl _ _) f1
  rw [szOf_yes (by omega)]
  go_wp2_with fail
  refine (toExtS_any A0 n0 c0 l0 _ (h0.fr fr1) hs0).mono ?_
  rintro e w2 ⟨g2, rfl, o2, f2⟩
  have fr2 : Fr w w2 := Fr.then fr1 f2
  go_wp2_with fail
  refine (specBlockAt_any _ _ _ l0 a1 _ (Rd.of_own o2) hs0).mono ?_
  rintro e w3 ⟨rfl, d3⟩
  have f3 := d3
  have s0_3 := own_fr o2 f3
  have fr3 : Fr w w3 := Fr.then fr2 f3
  go_wp2_with fail
  refine (toExtS_any A0 n0 c0 l0 _ (h0.fr fr3) hs0).mono ?_
  rintro e w4 ⟨g4, rfl, o4, f4⟩
  have fr4 : Fr w w4 := Fr.then fr3 f4
  go_wp2_with fail
  refine (implBlockAt_any _ _ _ l0 a1 _ (Rd.of_own o4) hs0).mono ?_
  rintro e w5 ⟨rfl, d5⟩
  have f5 := d5
  have x0_5 := own_fr o4 f5
  have fr5 : Fr w w5 := Fr.then fr4 f5
  go_wp2_with fail
  refine (toExtS_any A0 n0 c0 l0 _ (h0.fr fr5) hs0).mono ?_
  rintro e w6 ⟨g6, rfl, o6, f6⟩
  have x0_6 := own_fr x0_5 f6
  have fr6 : Fr w w6 := Fr.then fr5 f6
  go_wp2_with fail
  refine (eqExtS_any _ _ _ _ _ _ (l0) (l0) _ (Rd.of_own x0_6) (Rd.of_own o6) (Nat.le_trans hs0 (by omega)) (Nat.le_trans hs0 (by omega))).mono ?_
  rintro e w7 ⟨rfl, d7⟩
  rw [decide_eq_true rfl]
  have f7 := d7
  have x0_7 := own_fr x0_6 f7
  have t0_7 := own_fr o6 f7
  have fr7 : Fr w w7 := Fr.then fr6 f7
  go_wp2
  go_ret
  exact ⟨rfl, fr7⟩
end Go.Proofs.Ytbhnlfpcodeloaa
