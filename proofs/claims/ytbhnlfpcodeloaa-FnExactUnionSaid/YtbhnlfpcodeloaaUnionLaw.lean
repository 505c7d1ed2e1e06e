/-
  The law FnExactUnion, walked.
-/
import Derived.Test.YtbhnlfpcodeloaaUnion
import Derived.Test.YtbhnlfpcodeloaaLaw
namespace Go.Proofs.Ytbhnlfpcodeloaa
open Go.RowKit

set_option linter.unusedVariables false
set_option maxHeartbeats 4000000 in
theorem lawFnExactUnion_walk (A0 : Option Addr) (n0 c0 : Nat) (l0 : List (Int × Int)) (A1 : Option Addr) (n1 c1 : Nat) (l1 : List (Int × Int)) (w : World) (h0 : Rd w A0 n0 2 ((l0).flatMap cRange)) (ok0 : ∀ r ∈ l0, I64 r.1 ∧ I64 r.2) (hcap0 : n0 ≤ 9223372036854775807) (h1 : Rd w A1 n1 2 ((l1).flatMap cRange)) (ok1 : ∀ r ∈ l1, I64 r.1 ∧ I64 r.2) (hcap1 : n1 ≤ 9223372036854775807) :
    Calls Try.prog 9 #[.slice A0 n0 c0, .slice A1 n1 c1] w fun e w' => e = .returned (.bool true) ∧ Fr w w' := by
  by_cases hbig0 : (1048576 : Int) < (n0 : Nat)
  · go_enter Try.func9, Try.ntmps9
    go_wp2_with fail
    refine (szRangeS_fr A0 n0 c0 _ _ hcap0 (by omega) (by omega)).mono ?_
    rintro e w1 ⟨rfl, f1⟩
    have fr1 : Fr w w1 := Fr.then (Below.refl _ _) f1
    rw [szOf_no (by omega)]
    go_wp2_with fail
    go_ret
    exact ⟨rfl, fr1⟩
  by_cases hbig1 : (1048576 : Int) - n0 < (n1 : Nat)
  · go_enter Try.func9, Try.ntmps9
    go_wp2_with fail
    refine (szRangeS_fr A0 n0 c0 _ _ hcap0 (by omega) (by omega)).mono ?_
    rintro e w1 ⟨rfl, f1⟩
    have fr1 : Fr w w1 := Fr.then (Below.refl _ _) f1
    rw [szOf_yes (by omega)]
    go_wp2_with fail
    refine (szRangeS_fr A1 n1 c1 _ _ hcap1 (by omega) (by omega)).mono ?_
    rintro e w2 ⟨rfl, f2⟩
    have fr2 : Fr w w2 := Fr.then fr1 f2
    rw [szOf_no (by omega)]
    go_wp2_with fail
    go_ret
    exact ⟨rfl, fr2⟩
  have hs0 : n0 ≤ 1048576 := by omega
  have hs1 : n1 ≤ 1048576 := by omega
  have lr0_0 : (union l0 l1).length ≤ 1114112 := by have q := union_len l0 l1; have q0 := h0.lenk cRange_len (by omega); have q1 := h1.lenk cRange_len (by omega); omega
  go_enter Try.func9, Try.ntmps9
  go_wp2_with fail
  refine (szRangeS_fr A0 n0 c0 _ _ hcap0 (by omega) (by omega)).mono ?_
  rintro e w1 ⟨rfl, f1⟩
  have fr1 : Fr w w1 := Fr.then (Below.refl _ _) f1
  rw [szOf_yes (by omega)]
  go_wp2_with fail
  refine (szRangeS_fr A1 n1 c1 _ _ hcap1 (by omega) (by omega)).mono ?_
  rintro e w2 ⟨rfl, f2⟩
  have fr2 : Fr w w2 := Fr.then fr1 f2
  rw [szOf_yes (by omega)]
  go_wp2_with fail
  refine (toRangeS_any A0 n0 c0 l0 _ (h0.fr fr2) hs0).mono ?_
  rintro e w3 ⟨g3, rfl, o3, f3⟩
  have fr3 : Fr w w3 := Fr.then fr2 f3
  go_wp2_with fail
  refine (toRangeS_any A1 n1 c1 l1 _ (h1.fr fr3) hs1).mono ?_
  rintro e w4 ⟨g4, rfl, o4, f4⟩
  have s0_4 := own_fr o3 f4
  have fr4 : Fr w w4 := Fr.then fr3 f4
  go_wp2_with fail
  refine (specUnion_any _ _ _ l0 _ _ _ l1 _ (Rd.of_own s0_4) (Rd.of_own o4) hs0 hs1).mono ?_
  rintro e w5 ⟨A5_0_0, c5_0_0, rfl, o5_0_0, d5⟩
  have f5 := d5
  have s0_5 := own_fr s0_4 f5
  have s1_5 := own_fr o4 f5
  have fr5 : Fr w w5 := Fr.then fr4 f5
  go_wp2_with fail
  refine (toRangeS_any A0 n0 c0 l0 _ (h0.fr fr5) hs0).mono ?_
  rintro e w6 ⟨g6, rfl, o6, f6⟩
  have u0_0_6 := own_fr o5_0_0 f6
  have fr6 : Fr w w6 := Fr.then fr5 f6
  go_wp2_with fail
  refine (toRangeS_any A1 n1 c1 l1 _ (h1.fr fr6) hs1).mono ?_
  rintro e w7 ⟨g7, rfl, o7, f7⟩
  have u0_0_7 := own_fr u0_0_6 f7
  have x0_7 := own_fr o6 f7
  have fr7 : Fr w w7 := Fr.then fr6 f7
  go_wp2_with fail
  refine (implUnion_any _ _ _ l0 _ _ _ l1 _ (Rd.of_own x0_7) (Rd.of_own o7) hs0 hs1).mono ?_
  rintro e w8 ⟨A8_0_0, c8_0_0, rfl, o8_0_0, d8⟩
  have f8 := d8
  have u0_0_8 := own_fr u0_0_7 f8
  have x0_8 := own_fr x0_7 f8
  have x1_8 := own_fr o7 f8
  have fr8 : Fr w w8 := Fr.then fr7 f8
  go_wp2_with fail
  refine (eqRangeS_any _ _ _ _ _ _ (union l0 l1) (union l0 l1) _ (Rd.of_own o8_0_0) (Rd.of_own u0_0_8) (Nat.le_trans lr0_0 (by omega)) (Nat.le_trans lr0_0 (by omega))).mono ?_
  rintro e w9 ⟨rfl, d9⟩
  rw [decide_eq_true rfl]
  have f9 := d9
  have u0_0_9 := own_fr u0_0_8 f9
  have x0_9 := own_fr x0_8 f9
  have x1_9 := own_fr x1_8 f9
  have v0_0_9 := own_fr o8_0_0 f9
  have fr9 : Fr w w9 := Fr.then fr8 f9
  go_wp2_with fail
  refine (toRangeS_any A0 n0 c0 l0 _ (h0.fr fr9) hs0).mono ?_
  rintro e w10 ⟨g10, rfl, o10, f10⟩
  have u0_0_10 := own_fr u0_0_9 f10
  have x0_10 := own_fr x0_9 f10
  have x1_10 := own_fr x1_9 f10
  have v0_0_10 := own_fr v0_0_9 f10
  have fr10 : Fr w w10 := Fr.then fr9 f10
  go_wp2_with fail
  refine (eqRangeS_any _ _ _ _ _ _ (l0) (l0) _ (Rd.of_own x0_10) (Rd.of_own o10) (Nat.le_trans hs0 (by omega)) (Nat.le_trans hs0 (by omega))).mono ?_
  rintro e w11 ⟨rfl, d11⟩
  rw [decide_eq_true rfl]
  have f11 := d11
  have u0_0_11 := own_fr u0_0_10 f11
  have x0_11 := own_fr x0_10 f11
  have x1_11 := own_fr x1_10 f11
  have v0_0_11 := own_fr v0_0_10 f11
  have t0_11 := own_fr o10 f11
  have fr11 : Fr w w11 := Fr.then fr10 f11
  go_wp2_with fail
  refine (toRangeS_any A1 n1 c1 l1 _ (h1.fr fr11) hs1).mono ?_
  rintro e w12 ⟨g12, rfl, o12, f12⟩
  have u0_0_12 := own_fr u0_0_11 f12
  have x0_12 := own_fr x0_11 f12
  have x1_12 := own_fr x1_11 f12
  have v0_0_12 := own_fr v0_0_11 f12
  have fr12 : Fr w w12 := Fr.then fr11 f12
  go_wp2_with fail
  refine (eqRangeS_any _ _ _ _ _ _ (l1) (l1) _ (Rd.of_own x1_12) (Rd.of_own o12) (Nat.le_trans hs1 (by omega)) (Nat.le_trans hs1 (by omega))).mono ?_
  rintro e w13 ⟨rfl, d13⟩
  rw [decide_eq_true rfl]
  have f13 := d13
  have u0_0_13 := own_fr u0_0_12 f13
  have x0_13 := own_fr x0_12 f13
  have x1_13 := own_fr x1_12 f13
  have v0_0_13 := own_fr v0_0_12 f13
  have t1_13 := own_fr o12 f13
  have fr13 : Fr w w13 := Fr.then fr12 f13
  go_wp2_with fail
  refine (markRangeS_any _ _ _ 1 _ _ _ x0_13 (Nat.le_trans hs0 (by omega)) (by omega)).mono ?_
  rintro e w14 ⟨rfl, o14, g14⟩
  have u0_0_14 := own_kept_before u0_0_13 g14 o5_0_0 (Nat.le_refl _) x0_13
  have x1_14 := own_kept_after x1_13 g14 o6 (Nat.le_refl _)
  have v0_0_14 := own_kept_after v0_0_13 g14 o6 (by have q7 := f7.size; omega)
  have fr14 : Fr w w14 := Fr.wrote fr13 g14 x0_13 (by have q1 := f1.size; have q2 := f2.size; have q3 := f3.size; have q4 := f4.size; have q5 := f5.size; omega)
  obtain ⟨k14, ek14⟩ : ∃ q : Nat, q = 1 + n0 * 2 := ⟨_, rfl⟩
  rw [← ek14]
  have bk14 : k14 ≤ 16777217 := by have q0 : n0 ≤ 1048576 := hs0; omega
  have Ek14 := Lib.hid ek14
  clear ek14
  go_wp2_with fail
  refine (markRangeS_any _ _ _ k14 _ _ _ x1_14 (Nat.le_trans hs1 (by omega)) (by omega)).mono ?_
  rintro e w15 ⟨rfl, o15, g15⟩
  have u0_0_15 := own_kept_before u0_0_14 g15 o5_0_0 (by have q6 := f6.size; omega) x1_14
  have x0_15 := own_kept_before o14 g15 o6 (Nat.le_refl _) x1_14
  have v0_0_15 := own_kept_after v0_0_14 g15 o7 (Nat.le_refl _)
  have fr15 : Fr w w15 := Fr.wrote fr14 g15 x1_14 (by have q1 := f1.size; have q2 := f2.size; have q3 := f3.size; have q4 := f4.size; have q5 := f5.size; have q6 := f6.size; omega)
  obtain ⟨k15, ek15⟩ : ∃ q : Nat, q = k14 + n1 * 2 := ⟨_, rfl⟩
  rw [← ek15]
  have bk15 : k15 ≤ 33554433 := by have q0 : n1 ≤ 1048576 := hs1; omega
  have Ek15 := Lib.hid ek15
  clear ek15
  go_wp2_with fail
  refine (eqRangeS_any _ _ _ _ _ _ (union l0 l1) (union l0 l1) _ (Rd.of_own v0_0_15) (Rd.of_own u0_0_15) (Nat.le_trans lr0_0 (by omega)) (Nat.le_trans lr0_0 (by omega))).mono ?_
  rintro e w16 ⟨rfl, d16⟩
  rw [decide_eq_true rfl]
  have f16 := d16
  have u0_0_16 := own_fr u0_0_15 f16
  have v0_0_16 := own_fr v0_0_15 f16
  have fr16 : Fr w w16 := Fr.then fr15 f16
  go_wp2_with fail
  refine (markRangeS_any _ _ _ 1 _ _ _ v0_0_16 (Nat.le_trans lr0_0 (by omega)) (by omega)).mono ?_
  rintro e w17 ⟨rfl, o17, g17⟩
  have u0_0_17 := own_kept_before u0_0_16 g17 o5_0_0 (by have q6 := f6.size; have q7 := f7.size; omega) v0_0_16
  have fr17 : Fr w w17 := Fr.wrote fr16 g17 v0_0_16 (by have q1 := f1.size; have q2 := f2.size; have q3 := f3.size; have q4 := f4.size; have q5 := f5.size; have q6 := f6.size; have q7 := f7.size; omega)
  obtain ⟨k17, ek17⟩ : ∃ q : Nat, q = 1 + (union l0 l1).length * 2 := ⟨_, rfl⟩
  rw [← ek17]
  have bk17 : k17 ≤ 16777217 := by have q0 : (union l0 l1).length ≤ 1114112 := lr0_0; omega
  have Ek17 := Lib.hid ek17
  clear ek17
  go_wp2_with fail
  refine (heldRangeS_any _ (union l0 l1).length _ 1 _ (Rd.of_own o17) (Nat.le_trans lr0_0 (by omega)) (by omega)).mono ?_
  rintro e w18 ⟨rfl, f18⟩
  rw [← Ek17.out]
  have u0_0_18 := own_fr u0_0_17 f18
  have v0_0_18 := own_fr o17 f18
  have fr18 : Fr w w18 := Fr.then fr17 f18
  go_wp2_with fail
  refine (toRangeS_any A0 n0 c0 l0 _ (h0.fr fr18) hs0).mono ?_
  rintro e w19 ⟨g19, rfl, o19, f19⟩
  have u0_0_19 := own_fr u0_0_18 f19
  have v0_0_19 := own_fr v0_0_18 f19
  have fr19 : Fr w w19 := Fr.then fr18 f19
  go_wp2_with fail
  refine (toRangeS_any A1 n1 c1 l1 _ (h1.fr fr19) hs1).mono ?_
  rintro e w20 ⟨g20, rfl, o20, f20⟩
  have u0_0_20 := own_fr u0_0_19 f20
  have v0_0_20 := own_fr v0_0_19 f20
  have y0_20 := own_fr o19 f20
  have fr20 : Fr w w20 := Fr.then fr19 f20
  go_wp2_with fail
  refine (implUnion_any _ _ _ l0 _ _ _ l1 _ (Rd.of_own y0_20) (Rd.of_own o20) hs0 hs1).mono ?_
  rintro e w21 ⟨A21_0_0, c21_0_0, rfl, o21_0_0, d21⟩
  have f21 := d21
  have u0_0_21 := own_fr u0_0_20 f21
  have v0_0_21 := own_fr v0_0_20 f21
  have y0_21 := own_fr y0_20 f21
  have y1_21 := own_fr o20 f21
  have fr21 : Fr w w21 := Fr.then fr20 f21
  go_wp2_with fail
  refine (eqRangeS_any _ _ _ _ _ _ (union l0 l1) (union l0 l1) _ (Rd.of_own o21_0_0) (Rd.of_own u0_0_21) (Nat.le_trans lr0_0 (by omega)) (Nat.le_trans lr0_0 (by omega))).mono ?_
  rintro e w22 ⟨rfl, d22⟩
  rw [decide_eq_true rfl]
  have f22 := d22
  have u0_0_22 := own_fr u0_0_21 f22
  have v0_0_22 := own_fr v0_0_21 f22
  have z0_0_22 := own_fr o21_0_0 f22
  have fr22 : Fr w w22 := Fr.then fr21 f22
  go_wp2_with fail
  refine (heldRangeS_any _ (union l0 l1).length _ 1 _ (Rd.of_own v0_0_22) (Nat.le_trans lr0_0 (by omega)) (by omega)).mono ?_
  rintro e w23 ⟨rfl, f23⟩
  rw [← Ek17.out]
  have u0_0_23 := own_fr u0_0_22 f23
  have v0_0_23 := own_fr v0_0_22 f23
  have z0_0_23 := own_fr z0_0_22 f23
  have fr23 : Fr w w23 := Fr.then fr22 f23
  go_wp2
  go_ret
  exact ⟨rfl, fr23⟩
end Go.Proofs.Ytbhnlfpcodeloaa
