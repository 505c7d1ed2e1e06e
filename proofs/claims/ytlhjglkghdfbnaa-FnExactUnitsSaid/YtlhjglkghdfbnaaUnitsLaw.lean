/-
  The law FnExactUnits, walked.
-/
import Derived.Test.YtlhjglkghdfbnaaUnits
import Derived.Test.YtlhjglkghdfbnaaIntSS
import Derived.Test.YtlhjglkghdfbnaaLaw2
namespace Go.Proofs.Ytlhjglkghdfbnaa
open Go.RowKit

set_option linter.unusedVariables false
set_option maxRecDepth 100000 in
set_option maxHeartbeats 4000000 in
theorem lawFnExactUnits_walk (A0 : Option Addr) (n0 c0 : Nat) (l0 : List Int) (w : World) (h0 : Rd w A0 n0 1 ((l0).map (Value.int .i64))) (ok0 : ∀ x ∈ l0, I64 x) (hcap0 : n0 ≤ 9223372036854775807) :
    Calls Try.prog 3 #[.slice A0 n0 c0] w fun e w' => e = .returned (.bool true) ∧ Fr w w' := by
  by_cases hbig : (1048576 : Int) < n0
  · go_enter Try.func3, Try.ntmps3
    go_wp2
    go_ret
    exact ⟨rfl, Below.refl _ _⟩
  have hs0 : n0 ≤ 1048576 := by omega
  have q1 := h0.len1
  have lr : (unitsL l0).length ≤ 1048576 := Nat.le_trans (units_len l0) (by omega)
  have li : ∀ u ∈ unitsL l0, u.length ≤ 100000000 := fun u hu => Nat.le_trans (units_in hu) (by omega)
  have lt : totR (unitsL l0) ≤ 1048576 := by rw [totR_flat, units_flat]; omega
  clear q1
  generalize hul : unitsL l0 = ul at lr li lt
  have HUL := Lib.hid hul
  clear hul
  have H := Hp.start w
  go_enter Try.func3, Try.ntmps3
  go_wp2_with fail
  refine (toIntS_any A0 n0 c0 l0 _ (H.old h0) hs0).mono ?_
  rintro e w1 ⟨g1_0, rfl, o1_0, f1⟩
  have H1 := H.made o1_0 f1
  go_wp2_with fail
  refine (specUnits_any _ _ _ l0 _ (H1.rd 0 rfl) (by omega) (by omega)).mono ?_
  rintro e w2 ⟨A2, c2, vs2, rfl, v2, K2⟩
  rw [HUL.out] at v2 K2 ⊢
  have H2 := H1.join K2
  have V2 := Lib.hid v2
  clear v2
  go_wp2_with fail
  refine (toIntS_any A0 n0 c0 l0 _ (H2.old h0) hs0).mono ?_
  rintro e w3 ⟨g3_0, rfl, o3_0, f3⟩
  have H3 := H2.made o3_0 f3
  go_wp2_with fail
  refine (implUnits_any _ _ _ l0 _ (H3.rd 0 rfl) (by omega)).mono ?_
  rintro e w4 ⟨A4, c4, vs4, rfl, v4, K4⟩
  rw [HUL.out] at v4 K4 ⊢
  have H4 := H3.join K4
  have V4 := Lib.hid v4
  clear v4
  go_wp2_with fail
  refine (eqIntSS_yes _ _ _ _ _ ul _ (H4.rdR 0 rfl V4.out V4.out) (H4.rdR 2 rfl V2.out V2.out) (by omega) li).mono ?_
  rintro e w5 ⟨rfl, d5⟩
  have H5 := H4.go d5
  go_wp2_with fail
  refine (toIntS_any A0 n0 c0 l0 _ (H5.old h0) hs0).mono ?_
  rintro e w6 ⟨g6_0, rfl, o6_0, f6⟩
  have H6 := H5.made o6_0 f6
  go_wp2_with fail
  refine (eqIntS_any _ _ _ _ _ _ (l0) (l0) _ (H6.rd 2 rfl) (H6.rd 0 rfl) (Nat.le_trans hs0 (by omega)) (Nat.le_trans hs0 (by omega))).mono ?_
  rintro e w7 ⟨rfl, d7⟩
  rw [decide_eq_true rfl]
  have H7 := H6.go d7.fr
  go_wp2_with fail
  refine (markIntS_any _ _ _ 1 _ _ _ (H7.row 2 rfl) (Nat.le_trans hs0 (by omega)) (by omega)).mono ?_
  rintro e w8 ⟨rfl, o8, g8⟩
  have H8 := H7.grow 2 rfl g8 o8 (.inl rfl)
  obtain ⟨k8, ek8⟩ : ∃ q : Nat, q = 1 + n0 := ⟨_, rfl⟩
  rw [← ek8]
  have bk8 : k8 ≤ 28311553 := by have q0 : n0 ≤ 1048576 := hs0; omega
  have Ek8 := Lib.hid ek8
  clear ek8
  go_wp2_with fail
  refine (eqIntSS_yes _ _ _ _ _ ul _ (H8.rdR 1 rfl V4.out V4.out) (H8.rdR 3 rfl V2.out V2.out) (by omega) li).mono ?_
  rintro e w9 ⟨rfl, d9⟩
  have H9 := H8.go d9
  go_wp2_with fail
  refine (markIntSS_any _ _ _ 1 vs4 ul _ (H9.ok _ (List.mem_of_getElem? (i := 1) rfl)) V4.out V4.out (by omega) (by omega) (by omega)).mono ?_
  rintro e w10 ⟨rfl, K10⟩
  have H10 := H9.turnMany 1 rfl K10
  obtain ⟨k10, ek10⟩ : ∃ q : Nat, q = 1 + totR ul := ⟨_, rfl⟩
  rw [← ek10]
  have bk10 : k10 ≤ 28311553 := by omega
  have Ek10 := Lib.hid ek10
  clear ek10 K10
  have VM := Lib.hid (show vs4.length = (marksR ul 1).length by rw [marksR_len]; exact V4.out)
  go_wp2_with fail
  refine (heldIntSS_any _ _ _ 1 ul _ (H10.rdR 1 rfl V4.out VM.out) (by omega) (by omega) (by omega)).mono ?_
  rintro e w11 ⟨rfl, f11⟩
  rw [← Ek10.out]
  have H11 := H10.go f11
  go_wp2_with fail
  refine (toIntS_any A0 n0 c0 l0 _ (H11.old h0) hs0).mono ?_
  rintro e w12 ⟨g12_0, rfl, o12_0, f12⟩
  have H12 := H11.made o12_0 f12
  go_wp2_with fail
  refine (implUnits_any _ _ _ l0 _ (H12.rd 0 rfl) (by omega)).mono ?_
  rintro e w13 ⟨A13, c13, vs13, rfl, v13, K13⟩
  rw [HUL.out] at v13 K13 ⊢
  have H13 := H12.join K13
  have V13 := Lib.hid v13
  clear v13
  go_wp2_with fail
  refine (eqIntSS_yes _ _ _ _ _ ul _ (H13.rdR 0 rfl V13.out V13.out) (H13.rdR 5 rfl V2.out V2.out) (by omega) li).mono ?_
  rintro e w14 ⟨rfl, d14⟩
  have H14 := H13.go d14
  go_wp2_with fail
  refine (heldIntSS_any _ _ _ 1 ul _ (H14.rdR 3 rfl V4.out VM.out) (by omega) (by omega) (by omega)).mono ?_
  rintro e w15 ⟨rfl, f15⟩
  rw [← Ek10.out]
  have H15 := H14.go f15
  go_wp2
  go_ret
  exact ⟨rfl, H15.fr⟩
end Go.Proofs.Ytlhjglkghdfbnaa
