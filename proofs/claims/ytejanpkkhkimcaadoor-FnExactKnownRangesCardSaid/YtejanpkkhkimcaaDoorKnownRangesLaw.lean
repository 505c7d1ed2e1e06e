/-
  The law FnExactKnownRanges, walked.
-/
import Derived.Test.YtejanpkkhkimcaaDoorKnownR
import Derived.Test.YtejanpkkhkimcaaDoorRangeS
import Derived.Test.YtejanpkkhkimcaaDoorLaw
import Derived.Deep.RegionHeld3
namespace Go.Proofs.YtejanpkkhkimcaaDoor
open Go.RowKit

set_option linter.unusedVariables false
set_option maxRecDepth 100000 in
set_option maxHeartbeats 4000000 in
theorem lawFnExactKnownRanges_walk (w : World) (hk : KT w) :
    Calls Tryd.prog 3 #[] w fun e w' => e = .returned (.bool true) ∧ Fr w w' := by
  have lr0_0 : KR.length ≤ 1048576 := by decide
  have G := Lib.hid hk
  clear hk
  have H := Hp.start w
  go_enter Tryd.func3, Tryd.ntmps3
  go_wp2_with fail
  refine (specKnownRanges_any _).mono ?_
  rintro e w1 ⟨A1_0_0, c1_0_0, rfl, o1_0_0, d1⟩
  have H1 := H.made o1_0_0 d1
  go_wp2_with fail
  refine (implKnownRanges_any _ (H1.old G.out)).mono ?_
  rintro e w2 ⟨A2_0_0, c2_0_0, rfl, o2_0_0, d2⟩
  have H2 := H1.made o2_0_0 d2
  go_wp2_with fail
  refine (eqRangeS_any _ _ _ _ _ _ (KR) (KR) _ (H2.rd 0 rfl) (H2.rd 1 rfl) (Nat.le_trans lr0_0 (by omega)) (Nat.le_trans lr0_0 (by omega))).mono ?_
  rintro e w3 ⟨rfl, d3⟩
  rw [decide_eq_true rfl]
  have H3 := H2.go d3
  go_wp2_with fail
  refine (markRangeS_any _ _ _ 1 _ _ _ (H3.row 0 rfl) (Nat.le_trans lr0_0 (by omega)) (by omega)).mono ?_
  rintro e w4 ⟨rfl, o4, g4⟩
  have H4 := H3.grow 0 rfl g4 o4 (.inl rfl)
  obtain ⟨k4, ek4⟩ : ∃ q : Nat, q = 1 + KR.length * 2 := ⟨_, rfl⟩
  rw [← ek4]
  have bk4 : k4 ≤ 16777217 := by have q0 : KR.length ≤ 1048576 := lr0_0; omega
  have Ek4 := Lib.hid ek4
  clear ek4
  go_wp2_with fail
  refine (heldRangeS_any _ (KR.length) _ 1 _ (H4.rd 0 rfl) (Nat.le_trans lr0_0 (by omega)) (by omega)).mono ?_
  rintro e w5 ⟨rfl, f5⟩
  rw [← Ek4.out]
  have H5 := H4.go f5
  go_wp2_with fail
  refine (implKnownRanges_any _ (H5.old G.out)).mono ?_
  rintro e w6 ⟨A6_0_0, c6_0_0, rfl, o6_0_0, d6⟩
  have H6 := H5.made o6_0_0 d6
  go_wp2_with fail
  refine (eqRangeS_any _ _ _ _ _ _ (KR) (KR) _ (H6.rd 0 rfl) (H6.rd 2 rfl) (Nat.le_trans lr0_0 (by omega)) (Nat.le_trans lr0_0 (by omega))).mono ?_
  rintro e w7 ⟨rfl, d7⟩
  rw [decide_eq_true rfl]
  have H7 := H6.go d7
  go_wp2_with fail
  refine (heldRangeS_any _ (KR.length) _ 1 _ (H7.rd 1 rfl) (Nat.le_trans lr0_0 (by omega)) (by omega)).mono ?_
  rintro e w8 ⟨rfl, f8⟩
  rw [← Ek4.out]
  have H8 := H7.go f8
  go_wp2
  go_ret
  exact ⟨rfl, H8.fr⟩
end Go.Proofs.YtejanpkkhkimcaaDoor
