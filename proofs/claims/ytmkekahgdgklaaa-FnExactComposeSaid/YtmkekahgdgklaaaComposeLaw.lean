/-
  The law FnExactCompose, walked.
-/
import Derived.Test.YtmkekahgdgklaaaComposeS
import Derived.Test.YtmkekahgdgklaaaInts
import Derived.Test.YtmkekahgdgklaaaLaw2
import Derived.Deep.RegionHeld3
namespace Go.Proofs.Ytmkekahgdgklaaa
open Go.RowKit

set_option linter.unusedVariables false
set_option maxRecDepth 100000 in
set_option maxHeartbeats 4000000 in
theorem lawFnExactCompose_walk (A0 : Option Addr) (n0 c0 : Nat) (l0 : List Int) (w : World) (h0 : Rd w A0 n0 1 ((l0).map (Value.int .i64))) (ok0 : ∀ x ∈ l0, I64 x) (hcap0 : n0 ≤ 9223372036854775807) :
    Calls Try.prog 3 #[.slice A0 n0 c0] w fun e w' => e = .returned (.bool true) ∧ Fr w w' := by
  by_cases hbig : (1048576 : Int) < n0
  · go_enter Try.func3, Try.ntmps3
    go_wp2
    go_ret
    exact ⟨rfl, Below.refl _ _⟩
  have hs0 : n0 ≤ 1048576 := by omega
  have lr0_0 : (compL l0).length ≤ 28311552 := by have q0 := comp_len l0; have q1 := h0.len1; omega
  have H := Hp.start w
  go_enter Try.func3, Try.ntmps3
  go_wp2_with fail
  refine (toIntS_any A0 n0 c0 l0 _ (H.old h0) hs0).mono ?_
  rintro e w1 ⟨g1_0, rfl, o1_0, f1⟩
  have H1 := H.made o1_0 f1
  go_wp2_with fail
  refine (specCompose_any _ _ _ l0 _ (H1.rd 0 rfl) (by omega) ok0).mono ?_
  rintro e w2 ⟨A2_0_0, c2_0_0, rfl, o2_0_0, d2⟩
  have H2 := H1.made o2_0_0 d2
  go_wp2_with fail
  refine (toIntS_any A0 n0 c0 l0 _ (H2.old h0) hs0).mono ?_
  rintro e w3 ⟨g3_0, rfl, o3_0, f3⟩
  have H3 := H2.made o3_0 f3
  go_wp2_with fail
  refine (implCompose_any _ _ _ l0 _ (H3.rd 0 rfl) (by omega) ok0).mono ?_
  rintro e w4 ⟨A4_0_0, c4_0_0, rfl, o4_0_0, d4⟩
  have H4 := H3.made o4_0_0 d4
  go_wp2_with fail
  refine (eqIntS_any _ _ _ _ _ _ ((compL l0)) ((compL l0)) _ (H4.rd 0 rfl) (H4.rd 2 rfl) (Nat.le_trans lr0_0 (by omega)) (Nat.le_trans lr0_0 (by omega))).mono ?_
  rintro e w5 ⟨rfl, d5⟩
  rw [decide_eq_true rfl]
  have H5 := H4.go d5.fr
  go_wp2_with fail
  refine (toIntS_any A0 n0 c0 l0 _ (H5.old h0) hs0).mono ?_
  rintro e w6 ⟨g6_0, rfl, o6_0, f6⟩
  have H6 := H5.made o6_0 f6
  go_wp2_with fail
  refine (eqIntS_any _ _ _ _ _ _ (l0) (l0) _ (H6.rd 2 rfl) (H6.rd 0 rfl) (Nat.le_trans hs0 (by omega)) (Nat.le_trans hs0 (by omega))).mono ?_
  rintro e w7 ⟨rfl, d7⟩
  rw [decide_eq_true rfl]
  have H7 := H6.go d7.fr
  go_wp2_with fail
  refine (markIntS_any _ _ _ 1 _ _ _ (H7.row 2 rfl) (Nat.le_trans hs0 (by omega)) (by omega)).mono ?_
  rintro e w8 ⟨rfl, o8, g8⟩
  have H8 := H7.grow 2 rfl g8 o8 (.inl rfl)
  obtain ⟨k8, ek8⟩ : ∃ q : Nat, q = 1 + n0 := ⟨_, rfl⟩
  rw [← ek8]
  have bk8 : k8 ≤ 28311553 := by have q0 : n0 ≤ 1048576 := hs0; omega
  have Ek8 := Lib.hid ek8
  clear ek8
  go_wp2_with fail
  refine (eqIntS_any _ _ _ _ _ _ ((compL l0)) ((compL l0)) _ (H8.rd 1 rfl) (H8.rd 3 rfl) (Nat.le_trans lr0_0 (by omega)) (Nat.le_trans lr0_0 (by omega))).mono ?_
  rintro e w9 ⟨rfl, d9⟩
  rw [decide_eq_true rfl]
  have H9 := H8.go d9.fr
  go_wp2_with fail
  refine (markIntS_any _ _ _ 1 _ _ _ (H9.row 1 rfl) (Nat.le_trans lr0_0 (by omega)) (by omega)).mono ?_
  rintro e w10 ⟨rfl, o10, g10⟩
  have H10 := H9.grow 1 rfl g10 o10 (.inl rfl)
  obtain ⟨k10, ek10⟩ : ∃ q : Nat, q = 1 + (compL l0).length := ⟨_, rfl⟩
  rw [← ek10]
  have bk10 : k10 ≤ 28311553 := by have q0 : (compL l0).length ≤ 28311552 := lr0_0; omega
  have Ek10 := Lib.hid ek10
  clear ek10
  go_wp2_with fail
  refine (heldIntS_any _ ((compL l0).length) _ 1 _ (H10.rd 1 rfl) (Nat.le_trans lr0_0 (by omega)) (by omega)).mono ?_
  rintro e w11 ⟨rfl, f11⟩
  rw [← Ek10.out]
  have H11 := H10.go f11
  go_wp2_with fail
  refine (toIntS_any A0 n0 c0 l0 _ (H11.old h0) hs0).mono ?_
  rintro e w12 ⟨g12_0, rfl, o12_0, f12⟩
  have H12 := H11.made o12_0 f12
  go_wp2_with fail
  refine (implCompose_any _ _ _ l0 _ (H12.rd 0 rfl) (by omega) ok0).mono ?_
  rintro e w13 ⟨A13_0_0, c13_0_0, rfl, o13_0_0, d13⟩
  have H13 := H12.made o13_0_0 d13
  go_wp2_with fail
  refine (eqIntS_any _ _ _ _ _ _ ((compL l0)) ((compL l0)) _ (H13.rd 0 rfl) (H13.rd 5 rfl) (Nat.le_trans lr0_0 (by omega)) (Nat.le_trans lr0_0 (by omega))).mono ?_
  rintro e w14 ⟨rfl, d14⟩
  rw [decide_eq_true rfl]
  have H14 := H13.go d14.fr
  go_wp2_with fail
  refine (heldIntS_any _ ((compL l0).length) _ 1 _ (H14.rd 3 rfl) (Nat.le_trans lr0_0 (by omega)) (by omega)).mono ?_
  rintro e w15 ⟨rfl, f15⟩
  rw [← Ek10.out]
  have H15 := H14.go f15
  go_wp2
  go_ret
  exact ⟨rfl, H15.fr⟩
end Go.Proofs.Ytmkekahgdgklaaa
