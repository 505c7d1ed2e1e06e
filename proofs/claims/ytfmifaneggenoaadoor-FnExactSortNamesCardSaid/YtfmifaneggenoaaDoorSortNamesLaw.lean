/-
  The law FnExactSortNames, walked.
-/
import Derived.Test.YtfmifaneggenoaaDoorSortL
import Derived.Test.YtfmifaneggenoaaDoorStrings
import Derived.Test.YtfmifaneggenoaaDoorMark
import Derived.Test.YtfmifaneggenoaaDoorLaw2
import Derived.Deep.RegionHeld3
namespace Go.Proofs.YtfmifaneggenoaaDoor
open Go.RowKit

set_option linter.unusedVariables false
set_option linter.unusedSimpArgs false
set_option maxRecDepth 100000 in
set_option maxHeartbeats 4000000 in
theorem lawFnExactSortNames_walk (A0 : Option Addr) (n0 c0 : Nat) (l0 : List ByteArray) (w : World) (h0 : Rd w A0 n0 1 ((l0).map Value.string)) (ok0 : ∀ s ∈ l0, s.size ≤ 9223372036854775807) (hcap0 : n0 ≤ 9223372036854775807)  (hk : KT w) :
    Calls Tryd.prog 8 #[.slice A0 n0 c0] w fun e w' => e = .returned (.bool true) ∧ Fr w w' := by
  by_cases hbig0 : (1048576 : Int) < (strTot l0 : Nat)
  ·
    have H := Hp.start w
    go_enter Tryd.func8, Tryd.ntmps8
    go_wp2_with fail
    refine (szStringS_fr A0 n0 c0 l0 _ _ (H.old h0) ok0 hcap0 (by omega) (by omega)).mono ?_
    rintro e w1 ⟨rfl, f1⟩
    have H1 := H.go f1
    rw [szOf_no (by omega)]
    go_wp2_with fail
    go_ret
    exact ⟨rfl, H1.fr⟩
  have hs0 : n0 ≤ 1048576 := by have q1 := strTot_len l0; have q2 := h0.len1; omega
  have hz0 : ∀ s ∈ l0, s.size ≤ 1048576 := fun s hs => by have q1 := strTot_mem hs; omega
  have lr0_0 : n0 ≤ 1048576 := by exact hs0
  have H := Hp.start w
  go_enter Tryd.func8, Tryd.ntmps8
  go_wp2_with fail
  refine (szStringS_fr A0 n0 c0 l0 _ _ (H.old h0) ok0 hcap0 (by omega) (by omega)).mono ?_
  rintro e w1 ⟨rfl, f1⟩
  have H1 := H.go f1
  rw [szOf_yes (by omega)]
  go_wp2_with fail
  refine (toStringS_any A0 n0 c0 l0 _ (H1.old h0) hs0).mono ?_
  rintro e w2 ⟨g2_0, rfl, o2_0, f2⟩
  have H2 := H1.made o2_0 f2
  go_wp2_with fail
  refine (specSortNames_any _ _ _ l0 _ (H2.rd 0 rfl) hs0 (fun s hs => Nat.le_trans (hz0 s hs) (by decide))).mono ?_
  rintro e w3 ⟨A3_0_0, c3_0_0, rfl, o3_0_0, d3⟩
  have H3 := H2.made o3_0_0 d3
  go_wp2_with fail
  refine (toStringS_any A0 n0 c0 l0 _ (H3.old h0) hs0).mono ?_
  rintro e w4 ⟨g4_0, rfl, o4_0, f4⟩
  have H4 := H3.made o4_0 f4
  go_wp2_with fail
  refine (implSortNames_any _ _ _ l0 _ (H4.rd 0 rfl) (fun e => nomatch e) hs0 (fun s hs => Nat.le_trans (hz0 s hs) (by decide)) (hk.fr H4.fr)).mono ?_
  rintro e w5 ⟨A5_0_0, c5_0_0, rfl, o5_0_0, d5⟩
  have H5 := H4.made o5_0_0 d5
  go_wp2_with fail
  refine (eqStringS_any _ _ _ _ _ _ ((sortL l0)) ((sortL l0)) _ (H5.rd 0 rfl) (H5.rd 2 rfl) (Nat.le_trans lr0_0 (by omega)) (Nat.le_trans lr0_0 (by omega))).mono ?_
  rintro e w6 ⟨rfl, d6⟩
  rw [decide_eq_true rfl]
  have H6 := H5.go d6.fr
  go_wp2_with fail
  refine (toStringS_any A0 n0 c0 l0 _ (H6.old h0) hs0).mono ?_
  rintro e w7 ⟨g7_0, rfl, o7_0, f7⟩
  have H7 := H6.made o7_0 f7
  go_wp2_with fail
  refine (eqStringS_any _ _ _ _ _ _ (l0) (l0) _ (H7.rd 2 rfl) (H7.rd 0 rfl) (Nat.le_trans hs0 (by omega)) (Nat.le_trans hs0 (by omega))).mono ?_
  rintro e w8 ⟨rfl, d8⟩
  rw [decide_eq_true rfl]
  have H8 := H7.go d8.fr
  go_wp2_with fail
  refine (markStringS_any _ _ _ 1 _ _ _ (H8.row 2 rfl) (Nat.le_trans hs0 (by omega)) (by omega)).mono ?_
  rintro e w9 ⟨rfl, o9, g9⟩
  have H9 := H8.grow 2 rfl g9 o9 (.inl rfl)
  obtain ⟨k9, ek9⟩ : ∃ q : Nat, q = 1 + n0 := ⟨_, rfl⟩
  rw [← ek9]
  have bk9 : k9 ≤ 16777217 := by have q0 : n0 ≤ 1048576 := hs0; omega
  have Ek9 := Lib.hid ek9
  clear ek9
  go_wp2_with fail
  refine (eqStringS_any _ _ _ _ _ _ ((sortL l0)) ((sortL l0)) _ (H9.rd 1 rfl) (H9.rd 3 rfl) (Nat.le_trans lr0_0 (by omega)) (Nat.le_trans lr0_0 (by omega))).mono ?_
  rintro e w10 ⟨rfl, d10⟩
  rw [decide_eq_true rfl]
  have H10 := H9.go d10.fr
  go_wp2_with fail
  refine (markStringS_any _ _ _ 1 _ _ _ (H10.row 1 rfl) (Nat.le_trans lr0_0 (by omega)) (by omega)).mono ?_
  rintro e w11 ⟨rfl, o11, g11⟩
  have H11 := H10.grow 1 rfl g11 o11 (.inl rfl)
  obtain ⟨k11, ek11⟩ : ∃ q : Nat, q = 1 + n0 := ⟨_, rfl⟩
  rw [← ek11]
  have bk11 : k11 ≤ 16777217 := by have q0 : n0 ≤ 1048576 := lr0_0; omega
  have Ek11 := Lib.hid ek11
  clear ek11
  go_wp2_with fail
  refine (heldStringS_any _ (n0) _ 1 _ (H11.rd 1 rfl) (Nat.le_trans lr0_0 (by omega)) (by omega)).mono ?_
  rintro e w12 ⟨rfl, f12⟩
  rw [← Ek11.out]
  have H12 := H11.go f12
  go_wp2_with fail
  refine (toStringS_any A0 n0 c0 l0 _ (H12.old h0) hs0).mono ?_
  rintro e w13 ⟨g13_0, rfl, o13_0, f13⟩
  have H13 := H12.made o13_0 f13
  go_wp2_with fail
  refine (implSortNames_any _ _ _ l0 _ (H13.rd 0 rfl) (fun e => nomatch e) hs0 (fun s hs => Nat.le_trans (hz0 s hs) (by decide)) (hk.fr H13.fr)).mono ?_
  rintro e w14 ⟨A14_0_0, c14_0_0, rfl, o14_0_0, d14⟩
  have H14 := H13.made o14_0_0 d14
  go_wp2_with fail
  refine (eqStringS_any _ _ _ _ _ _ ((sortL l0)) ((sortL l0)) _ (H14.rd 0 rfl) (H14.rd 5 rfl) (Nat.le_trans lr0_0 (by omega)) (Nat.le_trans lr0_0 (by omega))).mono ?_
  rintro e w15 ⟨rfl, d15⟩
  rw [decide_eq_true rfl]
  have H15 := H14.go d15.fr
  go_wp2_with fail
  refine (heldStringS_any _ (n0) _ 1 _ (H15.rd 3 rfl) (Nat.le_trans lr0_0 (by omega)) (by omega)).mono ?_
  rintro e w16 ⟨rfl, f16⟩
  rw [← Ek11.out]
  have H16 := H15.go f16
  go_wp2
  go_ret
  exact ⟨rfl, H16.fr⟩
end Go.Proofs.YtfmifaneggenoaaDoor
