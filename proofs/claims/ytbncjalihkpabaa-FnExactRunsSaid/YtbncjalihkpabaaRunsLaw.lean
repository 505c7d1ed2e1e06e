/-
  The law FnExactRuns, walked.
-/
import Derived.Test.YtbncjalihkpabaaFreeOf
import Derived.Test.YtbncjalihkpabaaLaw
namespace Go.Proofs.Ytbncjalihkpabaa
open Go.RowKit

set_option linter.unusedVariables false
set_option maxHeartbeats 2000000 in
theorem lawFnExactRuns_walk (A0 : Option Addr) (n0 c0 : Nat) (l0 : List Bool) (w : World) (h0 : Rd w A0 n0 1 ((l0).map Value.bool)) (hcap0 : n0 ≤ 9223372036854775807) :
    Calls Try.prog 10 #[.slice A0 n0 c0] w fun e w' => e = .returned (.bool true) ∧ Fr w w' := by
  by_cases hbig : (1048576 : Int) < n0
  · go_enter Try.func10, Try.ntmps10
    go_wp2
    go_ret
    exact ⟨rfl, Below.refl _ _⟩
  have hs0 : n0 ≤ 1048576 := by omega
  have lr0 : (runs l0).length ≤ 1048576 := by have := (runs_bounds l0).1; omega
  go_enter Try.func10, Try.ntmps10
  go_wp2_with fail
  refine (toBoolS_any A0 n0 c0 l0 _ (h0.fr (Below.refl _ _)) hs0).mono ?_
  rintro e w1 ⟨g1, rfl, o1, f1⟩
  have fr1 : Fr w w1 := Fr.then (Below.refl _ _) f1
  go_wp2_with fail
  refine (specRuns_any _ _ _ l0 _ (Rd.of_own o1) ).mono ?_
  rintro e w2 ⟨A2, c2, rfl, o2, f2⟩
  have s0_2 := own_fr o1 f2
  have fr2 : Fr w w2 := Fr.then fr1 f2
  go_wp2_with fail
  refine (toBoolS_any A0 n0 c0 l0 _ (h0.fr fr2) hs0).mono ?_
  rintro e w3 ⟨g3, rfl, o3, f3⟩
  have u0_3 := own_fr o2 f3
  have fr3 : Fr w w3 := Fr.then fr2 f3
  go_wp2_with fail
  refine (implRuns_any _ _ _ l0 _ (Rd.of_own o3) ).mono ?_
  rintro e w4 ⟨A4, c4, rfl, o4, f4⟩
  have u0_4 := own_fr u0_3 f4
  have x0_4 := own_fr o3 f4
  have fr4 : Fr w w4 := Fr.then fr3 f4
  go_wp2_with fail
  refine (eqRunS_any _ _ _ _ _ _ (runs l0) (runs l0) _ (Rd.of_own o4) (Rd.of_own u0_4) lr0 lr0).mono ?_
  rintro e w5 ⟨rfl, d5⟩
  rw [decide_eq_true rfl]
  have f5 := d5
  have u0_5 := own_fr u0_4 f5
  have x0_5 := own_fr x0_4 f5
  have v0_5 := own_fr o4 f5
  have fr5 : Fr w w5 := Fr.then fr4 f5
  go_wp2_with fail
  refine (toBoolS_any A0 n0 c0 l0 _ (h0.fr fr5) hs0).mono ?_
  rintro e w6 ⟨g6, rfl, o6, f6⟩
  have u0_6 := own_fr u0_5 f6
  have x0_6 := own_fr x0_5 f6
  have v0_6 := own_fr v0_5 f6
  have fr6 : Fr w w6 := Fr.then fr5 f6
  go_wp2_with fail
  refine (eqBoolS_any _ _ _ _ _ _ (l0) (l0) _ (Rd.of_own x0_6) (Rd.of_own o6) hs0 hs0).mono ?_
  rintro e w7 ⟨rfl, d7⟩
  rw [decide_eq_true rfl]
  have f7 := d7.fr
  have u0_7 := own_fr u0_6 f7
  have x0_7 := own_fr x0_6 f7
  have v0_7 := own_fr v0_6 f7
  have t0_7 := own_fr o6 f7
  have fr7 : Fr w w7 := Fr.then fr6 f7
  go_wp2_with fail
  refine (markBoolS_any _ _ _ 1 _ _ _ x0_7 (Nat.le_trans hs0 (by omega)) (by omega)).mono ?_
  rintro e w8 ⟨rfl, o8, g8⟩
  have u0_8 := own_kept_before u0_7 g8 o2 (Nat.le_refl _) x0_7
  have v0_8 := own_kept_after v0_7 g8 o3 (Nat.le_refl _)
  have fr8 : Fr w w8 := Fr.wrote fr7 g8 x0_7 (by have q1 := f1.size; have q2 := f2.size; omega)
  obtain ⟨k8, ek8⟩ : ∃ q : Nat, q = 1 + n0 := ⟨_, rfl⟩
  rw [← ek8]
  have bk8 : k8 ≤ 16777217 := by have q1 : n0 ≤ 1048576 := hs0; omega
  have Ek8 := Lib.hid ek8
  clear ek8
  go_wp2_with fail
  refine (eqRunS_any _ _ _ _ _ _ (runs l0) (runs l0) _ (Rd.of_own v0_8) (Rd.of_own u0_8) lr0 lr0).mono ?_
  rintro e w9 ⟨rfl, d9⟩
  rw [decide_eq_true rfl]
  have f9 := d9
  have u0_9 := own_fr u0_8 f9
  have v0_9 := own_fr v0_8 f9
  have fr9 : Fr w w9 := Fr.then fr8 f9
  go_wp2_with fail
  refine (markRunS_any _ _ _ 1 _ _ _ v0_9 (Nat.le_trans lr0 (by omega)) (by omega)).mono ?_
  rintro e w10 ⟨rfl, o10, g10⟩
  have u0_10 := own_kept_before u0_9 g10 o2 (by have q3 := f3.size; omega) v0_9
  have fr10 : Fr w w10 := Fr.wrote fr9 g10 v0_9 (by have q1 := f1.size; have q2 := f2.size; have q3 := f3.size; omega)
  obtain ⟨k10, ek10⟩ : ∃ q : Nat, q = 1 + (runs l0).length * 2 := ⟨_, rfl⟩
  rw [← ek10]
  have bk10 : k10 ≤ 16777217 := by have q1 : (runs l0).length ≤ 1048576 := lr0; omega
  have Ek10 := Lib.hid ek10
  clear ek10
  go_wp2_with fail
  refine (heldRunS_any _ (runs l0).length _ 1 _ (Rd.of_own o10) (Nat.le_trans lr0 (by omega)) (by omega)).mono ?_
  rintro e w11 ⟨rfl, f11⟩
  rw [← Ek10.out]
  have u0_11 := own_fr u0_10 f11
  have v0_11 := own_fr o10 f11
  have fr11 : Fr w w11 := Fr.then fr10 f11
  go_wp2_with fail
  refine (toBoolS_any A0 n0 c0 l0 _ (h0.fr fr11) hs0).mono ?_
  rintro e w12 ⟨g12, rfl, o12, f12⟩
  have u0_12 := own_fr u0_11 f12
  have v0_12 := own_fr v0_11 f12
  have fr12 : Fr w w12 := Fr.then fr11 f12
  go_wp2_with fail
  refine (implRuns_any _ _ _ l0 _ (Rd.of_own o12) ).mono ?_
  rintro e w13 ⟨A13, c13, rfl, o13, f13⟩
  have u0_13 := own_fr u0_12 f13
  have v0_13 := own_fr v0_12 f13
  have y0_13 := own_fr o12 f13
  have fr13 : Fr w w13 := Fr.then fr12 f13
  go_wp2_with fail
  refine (eqRunS_any _ _ _ _ _ _ (runs l0) (runs l0) _ (Rd.of_own o13) (Rd.of_own u0_13) lr0 lr0).mono ?_
  rintro e w14 ⟨rfl, d14⟩
  rw [decide_eq_true rfl]
  have f14 := d14
  have u0_14 := own_fr u0_13 f14
  have v0_14 := own_fr v0_13 f14
  have z0_14 := own_fr o13 f14
  have fr14 : Fr w w14 := Fr.then fr13 f14
  go_wp2_with fail
  refine (heldRunS_any _ (runs l0).length _ 1 _ (Rd.of_own v0_14) (Nat.le_trans lr0 (by omega)) (by omega)).mono ?_
  rintro e w15 ⟨rfl, f15⟩
  rw [← Ek10.out]
  have u0_15 := own_fr u0_14 f15
  have v0_15 := own_fr v0_14 f15
  have z0_15 := own_fr z0_14 f15
  have fr15 : Fr w w15 := Fr.then fr14 f15
  go_wp2
  go_ret
  exact ⟨rfl, fr15⟩
end Go.Proofs.Ytbncjalihkpabaa
