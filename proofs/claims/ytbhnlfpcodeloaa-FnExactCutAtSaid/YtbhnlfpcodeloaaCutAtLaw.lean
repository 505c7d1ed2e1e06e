/-
  The law FnExactCutAt, walked.
-/
import Derived.Test.YtbhnlfpcodeloaaCutAt
import Derived.Test.YtbhnlfpcodeloaaExtS
import Derived.Test.YtbhnlfpcodeloaaInts
import Derived.Test.YtbhnlfpcodeloaaLaw
namespace Go.Proofs.Ytbhnlfpcodeloaa
open Go.RowKit

set_option linter.unusedVariables false
set_option maxHeartbeats 4000000 in
theorem lawFnExactCutAt_walk (A0 : Option Addr) (n0 c0 : Nat) (l0 : List (Int × Int × Int)) (a1 : Int) (w : World) (h0 : Rd w A0 n0 3 ((l0).flatMap cExt)) (ok0 : ∀ r ∈ l0, I64 r.1 ∧ I64 r.2.1 ∧ I64 r.2.2) (hcap0 : n0 ≤ 9223372036854775807) (i1 : I64 a1) :
    Calls Try.prog 12 #[.slice A0 n0 c0, .int .i64 a1] w fun e w' => e = .returned (.bool true) ∧ Fr w w' := by
  by_cases hbig0 : (1048576 : Int) < (n0 : Nat)
  · go_enter Try.func12, Try.ntmps12
    go_wp2_with fail
    refine (szExtS_fr A0 n0 c0 _ _ hcap0 (by omega) (by omega)).mono ?_
    rintro e w1 ⟨rfl, f1⟩
    have fr1 : Fr w w1 := Fr.then (Below.refl _ _) f1
    rw [szOf_no (by omega)]
    go_wp2_with fail
    go_ret
    exact ⟨rfl, fr1⟩
  have hs0 : n0 ≤ 1048576 := by omega
  have lr0_0 : (cutExts l0 a1).length ≤ 1048576 := by have q := cutExts_len l0 a1; omega
  have lr1_0 : (cutGone l0 a1).length ≤ 1048576 := by have q := cutGone_len l0 a1; omega
  go_enter Try.func12, Try.ntmps12
  go_wp2_with fail
  refine (szExtS_fr A0 n0 c0 _ _ hcap0 (by omega) (by omega)).mono ?_
  rintro e w1 ⟨rfl, f1⟩
  have fr1 : Fr w w1 := Fr.then (Below.refl _ _) f1
  rw [szOf_yes (by omega)]
  go_wp2_with fail
  refine (toExtS_any A0 n0 c0 l0 _ (h0.fr fr1) hs0).mono ?_
  rintro e w2 ⟨g2, rfl, o2, f2⟩
  have fr2 : Fr w w2 := Fr.then fr1 f2
  go_wp2_with fail
  refine (specCutAt_any _ _ _ l0 a1 _ (Rd.of_own o2) hs0).mono ?_
  rintro e w3 ⟨A3_0_0, c3_0_0, A3_1_0, c3_1_0, rfl, o3_0_0, o3_1_0, d3⟩
  have f3 := d3
  have s0_3 := own_fr o2 f3
  have fr3 : Fr w w3 := Fr.then fr2 f3
  go_wp2_with fail
  refine (toExtS_any A0 n0 c0 l0 _ (h0.fr fr3) hs0).mono ?_
  rintro e w4 ⟨g4, rfl, o4, f4⟩
  have u0_0_4 := own_fr o3_0_0 f4
  have u1_0_4 := own_fr o3_1_0 f4
  have fr4 : Fr w w4 := Fr.then fr3 f4
  go_wp2_with fail
  refine (implCutAt_any _ _ _ l0 a1 _ (Rd.of_own o4) hs0).mono ?_
  rintro e w5 ⟨A5_0_0, c5_0_0, A5_1_0, c5_1_0, rfl, o5_0_0, o5_1_0, d5⟩
  have f5 := d5
  have u0_0_5 := own_fr u0_0_4 f5
  have u1_0_5 := own_fr u1_0_4 f5
  have x0_5 := own_fr o4 f5
  have fr5 : Fr w w5 := Fr.then fr4 f5
  go_wp2_with fail
  refine (eqExtS_any _ _ _ _ _ _ (cutExts l0 a1) (cutExts l0 a1) _ (Rd.of_own o5_0_0) (Rd.of_own u0_0_5) (Nat.le_trans lr0_0 (by omega)) (Nat.le_trans lr0_0 (by omega))).mono ?_
  rintro e w6 ⟨rfl, d6⟩
  rw [decide_eq_true rfl]
  have f6 := d6
  have u0_0_6 := own_fr u0_0_5 f6
  have u1_0_6 := own_fr u1_0_5 f6
  have x0_6 := own_fr x0_5 f6
  have v0_0_6 := own_fr o5_0_0 f6
  have v1_0_6 := own_fr o5_1_0 f6
  have fr6 : Fr w w6 := Fr.then fr5 f6
  go_wp2_with fail
  refine (eqIntS_any _ _ _ _ _ _ (cutGone l0 a1) (cutGone l0 a1) _ (Rd.of_own v1_0_6) (Rd.of_own u1_0_6) (Nat.le_trans lr1_0 (by omega)) (Nat.le_trans lr1_0 (by omega))).mono ?_
  rintro e w7 ⟨rfl, d7⟩
  rw [decide_eq_true rfl]
  have f7 := d7.fr
  have u0_0_7 := own_fr u0_0_6 f7
  have u1_0_7 := own_fr u1_0_6 f7
  have x0_7 := own_fr x0_6 f7
  have v0_0_7 := own_fr v0_0_6 f7
  have v1_0_7 := own_fr v1_0_6 f7
  have fr7 : Fr w w7 := Fr.then fr6 f7
  go_wp2_with fail
  refine (toExtS_any A0 n0 c0 l0 _ (h0.fr fr7) hs0).mono ?_
  rintro e w8 ⟨g8, rfl, o8, f8⟩
  have u0_0_8 := own_fr u0_0_7 f8
  have u1_0_8 := own_fr u1_0_7 f8
  have x0_8 := own_fr x0_7 f8
  have v0_0_8 := own_fr v0_0_7 f8
  have v1_0_8 := own_fr v1_0_7 f8
  have fr8 : Fr w w8 := Fr.then fr7 f8
  go_wp2_with fail
  refine (eqExtS_any _ _ _ _ _ _ (l0) (l0) _ (Rd.of_own x0_8) (Rd.of_own o8) (Nat.le_trans hs0 (by omega)) (Nat.le_trans hs0 (by omega))).mono ?_
  rintro e w9 ⟨rfl, d9⟩
  rw [decide_eq_true rfl]
  have f9 := d9
  have u0_0_9 := own_fr u0_0_8 f9
  have u1_0_9 := own_fr u1_0_8 f9
  have x0_9 := own_fr x0_8 f9
  have v0_0_9 := own_fr v0_0_8 f9
  have v1_0_9 := own_fr v1_0_8 f9
  have t0_9 := own_fr o8 f9
  have fr9 : Fr w w9 := Fr.then fr8 f9
  go_wp2_with fail
  refine (markExtS_any _ _ _ 1 _ _ _ x0_9 (Nat.le_trans hs0 (by omega)) (by omega)).mono ?_
  rintro e w10 ⟨rfl, o10, g10⟩
  have u0_0_10 := own_kept_before u0_0_9 g10 o3_0_0 (Nat.le_refl _) x0_9
  have u1_0_10 := own_kept_before u1_0_9 g10 o3_1_0 (Nat.le_refl _) x0_9
  have v0_0_10 := own_kept_after v0_0_9 g10 o4 (Nat.le_refl _)
  have v1_0_10 := own_kept_after v1_0_9 g10 o4 (Nat.le_refl _)
  have fr10 : Fr w w10 := Fr.wrote fr9 g10 x0_9 (by have q1 := f1.size; have q2 := f2.size; have q3 := f3.size; omega)
  obtain ⟨k10, ek10⟩ : ∃ q : Nat, q = 1 + n0 * 3 := ⟨_, rfl⟩
  rw [← ek10]
  have bk10 : k10 ≤ 16777217 := by have q0 : n0 ≤ 1048576 := hs0; omega
  have Ek10 := Lib.hid ek10
  clear ek10
  go_wp2_with fail
  refine (eqExtS_any _ _ _ _ _ _ (cutExts l0 a1) (cutExts l0 a1) _ (Rd.of_own v0_0_10) (Rd.of_own u0_0_10) (Nat.le_trans lr0_0 (by omega)) (Nat.le_trans lr0_0 (by omega))).mono ?_
  rintro e w11 ⟨rfl, d11⟩
  rw [decide_eq_true rfl]
  have f11 := d11
  have u0_0_11 := own_fr u0_0_10 f11
  have u1_0_11 := own_fr u1_0_10 f11
  have v0_0_11 := own_fr v0_0_10 f11
  have v1_0_11 := own_fr v1_0_10 f11
  have fr11 : Fr w w11 := Fr.then fr10 f11
  go_wp2_with fail
  refine (eqIntS_any _ _ _ _ _ _ (cutGone l0 a1) (cutGone l0 a1) _ (Rd.of_own v1_0_11) (Rd.of_own u1_0_11) (Nat.le_trans lr1_0 (by omega)) (Nat.le_trans lr1_0 (by omega))).mono ?_
  rintro e w12 ⟨rfl, d12⟩
  rw [decide_eq_true rfl]
  have f12 := d12.fr
  have u0_0_12 := own_fr u0_0_11 f12
  have u1_0_12 := own_fr u1_0_11 f12
  have v0_0_12 := own_fr v0_0_11 f12
  have v1_0_12 := own_fr v1_0_11 f12
  have fr12 : Fr w w12 := Fr.then fr11 f12
  go_wp2_with fail
  refine (markExtS_any _ _ _ 1 _ _ _ v0_0_12 (Nat.le_trans lr0_0 (by omega)) (by omega)).mono ?_
  rintro e w13 ⟨rfl, o13, g13⟩
  have u0_0_13 := own_kept_before u0_0_12 g13 o3_0_0 (by have q4 := f4.size; omega) v0_0_12
  have u1_0_13 := own_kept_before u1_0_12 g13 o3_1_0 (by have q4 := f4.size; omega) v0_0_12
  have v1_0_13 := own_kept_type v1_0_12 g13 v0_0_12 (by decide)
  have fr13 : Fr w w13 := Fr.wrote fr12 g13 v0_0_12 (by have q1 := f1.size; have q2 := f2.size; have q3 := f3.size; have q4 := f4.size; omega)
  obtain ⟨k13, ek13⟩ : ∃ q : Nat, q = 1 + (cutExts l0 a1).length * 3 := ⟨_, rfl⟩
  rw [← ek13]
  have bk13 : k13 ≤ 16777217 := by have q0 : (cutExts l0 a1).length ≤ 1048576 := lr0_0; omega
  have Ek13 := Lib.hid ek13
  clear ek13
  go_wp2_with fail
  refine (markIntS_any _ _ _ k13 _ _ _ v1_0_13 (Nat.le_trans lr1_0 (by omega)) (by omega)).mono ?_
  rintro e w14 ⟨rfl, o14, g14⟩
  have u0_0_14 := own_kept_before u0_0_13 g14 o3_0_0 (by have q4 := f4.size; omega) v1_0_13
  have u1_0_14 := own_kept_before u1_0_13 g14 o3_1_0 (by have q4 := f4.size; omega) v1_0_13
  have v0_0_14 := own_kept_type o13 g14 v1_0_13 (by decide)
  have fr14 : Fr w w14 := Fr.wrote fr13 g14 v1_0_13 (by have q1 := f1.size; have q2 := f2.size; have q3 := f3.size; have q4 := f4.size; omega)
  obtain ⟨k14, ek14⟩ : ∃ q : Nat, q = k13 + (cutGone l0 a1).length := ⟨_, rfl⟩
  rw [← ek14]
  have bk14 : k14 ≤ 33554433 := by have q0 : (cutGone l0 a1).length ≤ 1048576 := lr1_0; omega
  have Ek14 := Lib.hid ek14
  clear ek14
  go_wp2_with fail
  refine (heldExtS_any _ (cutExts l0 a1).length _ 1 _ (Rd.of_own v0_0_14) (Nat.le_trans lr0_0 (by omega)) (by omega)).mono ?_
  rintro e w15 ⟨rfl, f15⟩
  rw [← Ek13.out]
  have u0_0_15 := own_fr u0_0_14 f15
  have u1_0_15 := own_fr u1_0_14 f15
  have v0_0_15 := own_fr v0_0_14 f15
  have v1_0_15 := own_fr o14 f15
  have fr15 : Fr w w15 := Fr.then fr14 f15
  go_wp2_with fail
  refine (heldIntS_any _ (cutGone l0 a1).length _ k13 _ (Rd.of_own v1_0_15) (Nat.le_trans lr1_0 (by omega)) (by omega)).mono ?_
  rintro e w16 ⟨rfl, f16⟩
  rw [← Ek14.out]
  have u0_0_16 := own_fr u0_0_15 f16
  have u1_0_16 := own_fr u1_0_15 f16
  have v0_0_16 := own_fr v0_0_15 f16
  have v1_0_16 := own_fr v1_0_15 f16
  have fr16 : Fr w w16 := Fr.then fr15 f16
  go_wp2_with fail
  refine (toExtS_any A0 n0 c0 l0 _ (h0.fr fr16) hs0).mono ?_
  rintro e w17 ⟨g17, rfl, o17, f17⟩
  have u0_0_17 := own_fr u0_0_16 f17
  have u1_0_17 := own_fr u1_0_16 f17
  have v0_0_17 := own_fr v0_0_16 f17
  have v1_0_17 := own_fr v1_0_16 f17
  have fr17 : Fr w w17 := Fr.then fr16 f17
  go_wp2_with fail
  refine (implCutAt_any _ _ _ l0 a1 _ (Rd.of_own o17) hs0).mono ?_
  rintro e w18 ⟨A18_0_0, c18_0_0, A18_1_0, c18_1_0, rfl, o18_0_0, o18_1_0, d18⟩
  have f18 := d18
  have u0_0_18 := own_fr u0_0_17 f18
  have u1_0_18 := own_fr u1_0_17 f18
  have v0_0_18 := own_fr v0_0_17 f18
  have v1_0_18 := own_fr v1_0_17 f18
  have y0_18 := own_fr o17 f18
  have fr18 : Fr w w18 := Fr.then fr17 f18
  go_wp2_with fail
  refine (eqExtS_any _ _ _ _ _ _ (cutExts l0 a1) (cutExts l0 a1) _ (Rd.of_own o18_0_0) (Rd.of_own u0_0_18) (Nat.le_trans lr0_0 (by omega)) (Nat.le_trans lr0_0 (by omega))).mono ?_
  rintro e w19 ⟨rfl, d19⟩
  rw [decide_eq_true rfl]
  have f19 := d19
  have u0_0_19 := own_fr u0_0_18 f19
  have u1_0_19 := own_fr u1_0_18 f19
  have v0_0_19 := own_fr v0_0_18 f19
  have v1_0_19 := own_fr v1_0_18 f19
  have z0_0_19 := own_fr o18_0_0 f19
  have z1_0_19 := own_fr o18_1_0 f19
  have fr19 : Fr w w19 := Fr.then fr18 f19
  go_wp2_with fail
  refine (eqIntS_any _ _ _ _ _ _ (cutGone l0 a1) (cutGone l0 a1) _ (Rd.of_own z1_0_19) (Rd.of_own u1_0_19) (Nat.le_trans lr1_0 (by omega)) (Nat.le_trans lr1_0 (by omega))).mono ?_
  rintro e w20 ⟨rfl, d20⟩
  rw [decide_eq_true rfl]
  have f20 := d20.fr
  have u0_0_20 := own_fr u0_0_19 f20
  have u1_0_20 := own_fr u1_0_19 f20
  have v0_0_20 := own_fr v0_0_19 f20
  have v1_0_20 := own_fr v1_0_19 f20
  have z0_0_20 := own_fr z0_0_19 f20
  have z1_0_20 := own_fr z1_0_19 f20
  have fr20 : Fr w w20 := Fr.then fr19 f20
  go_wp2_with fail
  refine (heldExtS_any _ (cutExts l0 a1).length _ 1 _ (Rd.of_own v0_0_20) (Nat.le_trans lr0_0 (by omega)) (by omega)).mono ?_
  rintro e w21 ⟨rfl, f21⟩
  rw [← Ek13.out]
  have u0_0_21 := own_fr u0_0_20 f21
  have u1_0_21 := own_fr u1_0_20 f21
  have v0_0_21 := own_fr v0_0_20 f21
  have v1_0_21 := own_fr v1_0_20 f21
  have z0_0_21 := own_fr z0_0_20 f21
  have z1_0_21 := own_fr z1_0_20 f21
  have fr21 : Fr w w21 := Fr.then fr20 f21
  go_wp2_with fail
  refine (heldIntS_any _ (cutGone l0 a1).length _ k13 _ (Rd.of_own v1_0_21) (Nat.le_trans lr1_0 (by omega)) (by omega)).mono ?_
  rintro e w22 ⟨rfl, f22⟩
  rw [← Ek14.out]
  have u0_0_22 := own_fr u0_0_21 f22
  have u1_0_22 := own_fr u1_0_21 f22
  have v0_0_22 := own_fr v0_0_21 f22
  have v1_0_22 := own_fr v1_0_21 f22
  have z0_0_22 := own_fr z0_0_21 f22
  have z1_0_22 := own_fr z1_0_21 f22
  have fr22 : Fr w w22 := Fr.then fr21 f22
  go_wp2
  go_ret
  exact ⟨rfl, fr22⟩
end Go.Proofs.Ytbhnlfpcodeloaa
