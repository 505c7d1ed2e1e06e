/-
  The law FnExactExtsOk, walked.
-/
import Derived.Test.YtbncjalihkpabaaExtsOk
import Derived.Test.YtbncjalihkpabaaExtsOkI
import Derived.Test.YtbncjalihkpabaaLaw
namespace Go.Proofs.Ytbncjalihkpabaa
open Go.RowKit

set_option linter.unusedVariables false
set_option maxHeartbeats 2000000 in
theorem lawFnExactExtsOk_walk (A0 : Option Addr) (n0 c0 : Nat) (l0 : List (Int × Int × Int)) (w : World) (h0 : Rd w A0 n0 3 ((l0).flatMap cExt)) (ok0 : ∀ r ∈ l0, I64 r.1 ∧ I64 r.2.1 ∧ I64 r.2.2) (hcap0 : n0 ≤ 9223372036854775807) :
    Calls Try.prog 9 #[.slice A0 n0 c0] w fun e w' => e = .returned (.bool true) ∧ Fr w w' := by
  by_cases hbig0 : (1048576 : Int) < n0
  · go_enter Try.func9, Try.ntmps9
    go_wp2_with fail
    refine (szExtS_any A0 n0 c0 _ _ hcap0 (by omega) (by omega)).mono ?_
    rintro e w' ⟨rfl, rfl⟩
    rw [szOf_no (by omega)]
    go_wp2_with fail
    go_ret
    exact ⟨rfl, Below.refl _ _⟩
  have hs0 : n0 ≤ 1048576 := by omega
  go_enter Try.func9, Try.ntmps9
  go_wp2_with fail
  refine (szExtS_any A0 n0 c0 _ _ hcap0 (by omega) (by omega)).mono ?_
  rintro e w' ⟨rfl, rfl⟩
  rw [szOf_yes (by omega)]
  go_wp2_with fail
  refine (toExtS_any A0 n0 c0 l0 _ (h0.fr (Below.refl _ _)) hs0).mono ?_
  rintro e w1 ⟨g1, rfl, o1, f1⟩
  have fr1 : Fr w w1 := Fr.then (Below.refl _ _) f1
  go_wp2_with fail
  refine (specExtsOk_any _ _ _ l0 _ (Rd.of_own o1) hs0).mono ?_
  rintro e w2 ⟨rfl, d2⟩
  have f2 := d2
  have s0_2 := own_fr o1 f2
  have fr2 : Fr w w2 := Fr.then fr1 f2
  go_wp2_with fail
  refine (toExtS_any A0 n0 c0 l0 _ (h0.fr fr2) hs0).mono ?_
  rintro e w3 ⟨g3, rfl, o3, f3⟩
  have fr3 : Fr w w3 := Fr.then fr2 f3
  go_wp2_with fail
  refine (implExtsOk_any _ _ _ l0 _ (Rd.of_own o3) hs0).mono ?_
  rintro e w4 ⟨rfl, d4⟩
  have f4 := d4
  have x0_4 := own_fr o3 f4
  have fr4 : Fr w w4 := Fr.then fr3 f4
  go_wp2_with fail
  refine (toExtS_any A0 n0 c0 l0 _ (h0.fr fr4) hs0).mono ?_
  rintro e w5 ⟨g5, rfl, o5, f5⟩
  have x0_5 := own_fr x0_4 f5
  have fr5 : Fr w w5 := Fr.then fr4 f5
  go_wp2_with fail
  refine (eqExtS_any _ _ _ _ _ _ (l0) (l0) _ (Rd.of_own x0_5) (Rd.of_own o5) hs0 hs0).mono ?_
  rintro e w6 ⟨rfl, d6⟩
  rw [decide_eq_true rfl]
  have f6 := d6
  have x0_6 := own_fr x0_5 f6
  have t0_6 := own_fr o5 f6
  have fr6 : Fr w w6 := Fr.then fr5 f6
  go_wp2
  go_ret
  exact ⟨rfl, fr6⟩
end Go.Proofs.Ytbncjalihkpabaa
