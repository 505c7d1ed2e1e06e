/-
  The law FnExactFilRead, walked.
-/
import Derived.Test.YtbhnlfpcodeloaaFilRead
import Derived.Test.YtbhnlfpcodeloaaFil
import Derived.Test.YtbhnlfpcodeloaaStore
import Derived.Test.YtbhnlfpcodeloaaLaw
import Derived.Deep.RegionHeld3
namespace Go.Proofs.Ytbhnlfpcodeloaa
open Go.RowKit

set_option linter.unusedVariables false
set_option maxRecDepth 100000 in
set_option maxHeartbeats 4000000 in
theorem lawFnExactFilRead_walk (A0_0 : Option Addr) (n0_0 c0_0 : Nat) (l0_0 : List Bool) (A0_1 : Option Addr) (n0_1 c0_1 : Nat) (l0_1 : List ByteArray) (a1_0 : Int) (A1_1 : Option Addr) (n1_1 c1_1 : Nat) (l1_1 : List (Int × Int × Int)) (a2 : Int) (a3 : Int) (w : World) (h0_0 : Rd w A0_0 n0_0 1 ((l0_0).map Value.bool)) (hcap0_0 : n0_0 ≤ 9223372036854775807) (h0_1 : Rd w A0_1 n0_1 1 ((l0_1).map Value.string)) (ok0_1 : ∀ s ∈ l0_1, s.size ≤ 9223372036854775807) (hcap0_1 : n0_1 ≤ 9223372036854775807) (i1_0 : I64 a1_0) (h1_1 : Rd w A1_1 n1_1 3 ((l1_1).flatMap cExt)) (ok1_1 : ∀ r ∈ l1_1, I64 r.1 ∧ I64 r.2.1 ∧ I64 r.2.2) (hcap1_1 : n1_1 ≤ 9223372036854775807) (i2 : I64 a2) (i3 : I64 a3) :
    Calls Try.prog 15 #[.agg #[.slice A0_0 n0_0 c0_0, .slice A0_1 n0_1 c0_1], .agg #[.int .i64 a1_0, .slice A1_1 n1_1 c1_1], .int .i64 a2, .int .i64 a3] w fun e w' => e = .returned (.bool true) ∧ Fr w w' := by
  by_cases hbig0 : (1048576 : Int) < ((n0_0 + strTot l0_1) : Nat)
  ·
    have H := Hp.start w
    go_enter Try.func15, Try.ntmps15
    go_wp2_with fail
    have H1 := H.lay_ 89 [.slice A0_0 n0_0 c0_0, .slice A0_1 n0_1 c0_1] (g := w.heap.size) (by simp)
    have H2 := H1.lay_ 91 [.int .i64 a1_0, .slice A1_1 n1_1 c1_1] (g := w.heap.size + 1) (by simp)
    refine (szStore_any A0_0 n0_0 c0_0 l0_0 A0_1 n0_1 c0_1 l0_1 _ _ hcap0_0 (H2.old h0_1) ok0_1 hcap0_1 (by omega) (by omega)).mono ?_
    rintro e w3 ⟨rfl, f3⟩
    have H3 := H2.go f3
    rw [szOf_no (by omega)]
    go_wp2_with fail
    go_ret
    exact ⟨rfl, H3.fr⟩
  by_cases hbig1 : (1048576 : Int) - (n0_0 + strTot l0_1) < (n1_1 : Nat)
  ·
    have H := Hp.start w
    go_enter Try.func15, Try.ntmps15
    go_wp2_with fail
    have H1 := H.lay_ 89 [.slice A0_0 n0_0 c0_0, .slice A0_1 n0_1 c0_1] (g := w.heap.size) (by simp)
    have H2 := H1.lay_ 91 [.int .i64 a1_0, .slice A1_1 n1_1 c1_1] (g := w.heap.size + 1) (by simp)
    refine (szStore_any A0_0 n0_0 c0_0 l0_0 A0_1 n0_1 c0_1 l0_1 _ _ hcap0_0 (H2.old h0_1) ok0_1 hcap0_1 (by omega) (by omega)).mono ?_
    rintro e w3 ⟨rfl, f3⟩
    have H3 := H2.go f3
    rw [szOf_yes (by omega)]
    have cf0 := H3.bat 0 rfl (j := 0) rfl
    have cf1 := H3.bat 0 rfl (j := 1) rfl
    have cf2 := H3.lt 0 rfl rfl
    go_wp2_with fail
    clear cf0 cf1 cf2
    refine (szFil_any A1_1 n1_1 c1_1 l1_1 a1_0 _ _ hcap1_1 (by omega) (by omega)).mono ?_
    rintro e w4 ⟨rfl, f4⟩
    have H4 := H3.go f4
    rw [szOf_no (by omega)]
    go_wp2_with fail
    go_ret
    exact ⟨rfl, H4.fr⟩
  have hs0_0 : n0_0 ≤ 1048576 := by omega
  have hs0_1 : n0_1 ≤ 1048576 := by have q1 := strTot_len l0_1; have q2 := h0_1.len1; omega
  have hz0_1 : ∀ s ∈ l0_1, s.size ≤ 1048576 := fun s hs => by have q1 := strTot_mem hs; omega
  have hs1_1 : n1_1 ≤ 1048576 := by omega
  have H := Hp.start w
  go_enter Try.func15, Try.ntmps15
  go_wp2_with fail
  have H1 := H.lay_ 89 [.slice A0_0 n0_0 c0_0, .slice A0_1 n0_1 c0_1] (g := w.heap.size) (by simp)
  have H2 := H1.lay_ 91 [.int .i64 a1_0, .slice A1_1 n1_1 c1_1] (g := w.heap.size + 1) (by simp)
  refine (szStore_any A0_0 n0_0 c0_0 l0_0 A0_1 n0_1 c0_1 l0_1 _ _ hcap0_0 (H2.old h0_1) ok0_1 hcap0_1 (by omega) (by omega)).mono ?_
  rintro e w3 ⟨rfl, f3⟩
  have H3 := H2.go f3
  rw [szOf_yes (by omega)]
  have cf0 := H3.bat 0 rfl (j := 0) rfl
  have cf1 := H3.bat 0 rfl (j := 1) rfl
  have cf2 := H3.lt 0 rfl rfl
  go_wp2_with fail
  clear cf0 cf1 cf2
  refine (szFil_any A1_1 n1_1 c1_1 l1_1 a1_0 _ _ hcap1_1 (by omega) (by omega)).mono ?_
  rintro e w4 ⟨rfl, f4⟩
  have H4 := H3.go f4
  rw [szOf_yes (by omega)]
  have cf0 := H4.bat 1 rfl (j := 0) rfl
  have cf1 := H4.bat 1 rfl (j := 1) rfl
  have cf2 := H4.lt 1 rfl rfl
  have cf3 := H4.bat 0 rfl (j := 0) rfl
  have cf4 := H4.bat 0 rfl (j := 1) rfl
  have cf5 := H4.lt 0 rfl rfl
  go_wp2_with fail
  clear cf0 cf1 cf2 cf3 cf4 cf5
  go_region_held3 (fun w' => w'.cell? ⟨w.heap.size, 0, none⟩ = some (.slice A0_0 n0_0 c0_0) ∧ w'.cell? ⟨w.heap.size, 1, none⟩ = some (.slice A0_1 n0_1 c0_1) ∧ w'.cell? ⟨w.heap.size + 1, 0, none⟩ = some (.int .i64 a1_0) ∧ w'.cell? ⟨w.heap.size + 1, 1, none⟩ = some (.slice A1_1 n1_1 c1_1))
    (first
      | exact ⟨H4.bat 1 rfl (j := 0) rfl, H4.bat 1 rfl (j := 1) rfl, H4.bat 0 rfl (j := 0) rfl, H4.bat 0 rfl (j := 1) rfl⟩
      | exact ⟨H5.bat 3 rfl (j := 0) rfl, H5.bat 3 rfl (j := 1) rfl, H5.bat 2 rfl (j := 0) rfl, H5.bat 2 rfl (j := 1) rfl⟩
      | exact ⟨H6.bat 4 rfl (j := 0) rfl, H6.bat 4 rfl (j := 1) rfl, H6.bat 3 rfl (j := 0) rfl, H6.bat 3 rfl (j := 1) rfl⟩
      | exact ⟨H7.bat 4 rfl (j := 0) rfl, H7.bat 4 rfl (j := 1) rfl, H7.bat 3 rfl (j := 0) rfl, H7.bat 3 rfl (j := 1) rfl⟩)
    ((first
     | (go_at_call 79
        refine (toStore_any A0_0 n0_0 c0_0 l0_0 A0_1 n0_1 c0_1 l0_1 _ (H4.drew.old h0_0) (H4.drew.old h0_1) hs0_0 hs0_1).mono ?_
        rintro e w5 ⟨g5_0, g5_1, rfl, o5_0, o5_1, f5⟩
        have H5 := H4.drew.made2 o5_0 o5_1 f5 (by decide))
     | (go_at_call 80
        refine (toFil_any a1_0 A1_1 n1_1 c1_1 l1_1 _ (H5.old h1_1) hs1_1).mono ?_
        rintro e w6 ⟨g6_0, rfl, o6_0, f6⟩
        have H6 := H5.made o6_0 f6)
     | (go_at_call 86
        refine (specFilRead_any _ _ _ l0_0 _ _ _ l0_1 a1_0 _ _ _ l1_1 a2 a3 _ (H6.rd 1 rfl) (H6.rd 2 rfl) (H6.rd 0 rfl) hs0_1 hz0_1 hs1_1).mono ?_
        rintro e w7 ⟨rfl, d7⟩
        have H7 := H6.go d7)))
  have cf0 := H7.bat 4 rfl (j := 0) rfl
  have cf1 := H7.bat 4 rfl (j := 1) rfl
  have cf2 := H7.lt 4 rfl rfl
  go_wp2_with fail
  clear cf0 cf1 cf2
  refine (toStore_any A0_0 n0_0 c0_0 l0_0 A0_1 n0_1 c0_1 l0_1 _ (H7.old h0_0) (H7.old h0_1) hs0_0 hs0_1).mono ?_
  rintro e w8 ⟨g8_0, g8_1, rfl, o8_0, o8_1, f8⟩
  have H8 := H7.made2 o8_0 o8_1 f8 (by decide)
  have cf0 := H8.bat 5 rfl (j := 0) rfl
  have cf1 := H8.bat 5 rfl (j := 1) rfl
  have cf2 := H8.lt 5 rfl rfl
  go_wp2_with fail
  clear cf0 cf1 cf2
  have H9 := H8.lay_ 27 [.slice (some ⟨g8_0, 0, none⟩) n0_0 n0_0, .slice (some ⟨g8_1, 0, none⟩) n0_1 n0_1] (g := w8.heap.size) (by simp)
  refine (toFil_any a1_0 A1_1 n1_1 c1_1 l1_1 _ (H9.old h1_1) hs1_1).mono ?_
  rintro e w10 ⟨g10_0, rfl, o10_0, f10⟩
  have H10 := H9.made o10_0 f10
  have cf0 := H10.bat 1 rfl (j := 0) rfl
  have cf1 := H10.bat 1 rfl (j := 1) rfl
  have cf2 := H10.lt 1 rfl rfl
  go_wp2_with fail
  clear cf0 cf1 cf2
  have H11 := H10.lay_ 31 [.int .i64 a1_0, .slice (some ⟨g10_0, 0, none⟩) n1_1 n1_1] (g := w10.heap.size) (by simp)
  refine (implFilRead_any _ _ _ l0_0 _ _ _ l0_1 a1_0 _ _ _ l1_1 a2 a3 _ (H11.rd 3 rfl) (H11.rd 4 rfl) (H11.rd 1 rfl) hs0_1 hz0_1 hs1_1).mono ?_
  rintro e w12 ⟨rfl, d12⟩
  have H12 := H11.go d12
  have cf0 := H12.bat 9 rfl (j := 0) rfl
  have cf1 := H12.bat 9 rfl (j := 1) rfl
  have cf2 := H12.lt 9 rfl rfl
  have cf3 := H12.bat 2 rfl (j := 0) rfl
  have cf4 := H12.bat 2 rfl (j := 1) rfl
  have cf5 := H12.lt 2 rfl rfl
  go_wp2_with fail
  clear cf0 cf1 cf2 cf3 cf4 cf5
  go_region_held3 (fun w' => w'.cell? ⟨w.heap.size, 0, none⟩ = some (.slice A0_0 n0_0 c0_0) ∧ w'.cell? ⟨w.heap.size, 1, none⟩ = some (.slice A0_1 n0_1 c0_1) ∧ w'.cell? ⟨w8.heap.size, 0, none⟩ = some (.slice (some ⟨g8_0, 0, none⟩) n0_0 n0_0) ∧ w'.cell? ⟨w8.heap.size, 1, none⟩ = some (.slice (some ⟨g8_1, 0, none⟩) n0_1 n0_1))
    (first
      | exact ⟨H12.bat 9 rfl (j := 0) rfl, H12.bat 9 rfl (j := 1) rfl, H12.bat 2 rfl (j := 0) rfl, H12.bat 2 rfl (j := 1) rfl⟩
      | exact ⟨H13.bat 11 rfl (j := 0) rfl, H13.bat 11 rfl (j := 1) rfl, H13.bat 4 rfl (j := 0) rfl, H13.bat 4 rfl (j := 1) rfl⟩
      | exact ⟨H14.bat 11 rfl (j := 0) rfl, H14.bat 11 rfl (j := 1) rfl, H14.bat 4 rfl (j := 0) rfl, H14.bat 4 rfl (j := 1) rfl⟩)
    ((first
     | (go_at_call 79
        refine (toStore_any A0_0 n0_0 c0_0 l0_0 A0_1 n0_1 c0_1 l0_1 _ (H12.drew.old h0_0) (H12.drew.old h0_1) hs0_0 hs0_1).mono ?_
        rintro e w13 ⟨g13_0, g13_1, rfl, o13_0, o13_1, f13⟩
        have H13 := H12.drew.made2 o13_0 o13_1 f13 (by decide))
     | (go_at_call 82
        refine (eqStore_yes _ _ _ _ _ _ _ _ _ _ _ _ (l0_0) (l0_1) _ (H13.rd 5 rfl) (H13.rd 6 rfl) (H13.rd 0 rfl) (H13.rd 1 rfl) (Nat.le_trans hs0_0 (by omega)) (Nat.le_trans hs0_1 (by omega))).mono ?_
        rintro e w14 ⟨rfl, d14⟩
        have H14 := H13.go d14)))
  have cf0 := H14.bat 10 rfl (j := 0) rfl
  have cf1 := H14.bat 10 rfl (j := 1) rfl
  have cf2 := H14.lt 10 rfl rfl
  have cf3 := H14.bat 2 rfl (j := 0) rfl
  have cf4 := H14.bat 2 rfl (j := 1) rfl
  have cf5 := H14.lt 2 rfl rfl
  go_wp2_with fail
  clear cf0 cf1 cf2 cf3 cf4 cf5
  go_region_held3 (fun w' => w'.cell? ⟨w.heap.size + 1, 0, none⟩ = some (.int .i64 a1_0) ∧ w'.cell? ⟨w.heap.size + 1, 1, none⟩ = some (.slice A1_1 n1_1 c1_1) ∧ w'.cell? ⟨w10.heap.size, 0, none⟩ = some (.int .i64 a1_0) ∧ w'.cell? ⟨w10.heap.size, 1, none⟩ = some (.slice (some ⟨g10_0, 0, none⟩) n1_1 n1_1))
    (first
      | exact ⟨H14.bat 10 rfl (j := 0) rfl, H14.bat 10 rfl (j := 1) rfl, H14.bat 2 rfl (j := 0) rfl, H14.bat 2 rfl (j := 1) rfl⟩
      | exact ⟨H15.bat 11 rfl (j := 0) rfl, H15.bat 11 rfl (j := 1) rfl, H15.bat 3 rfl (j := 0) rfl, H15.bat 3 rfl (j := 1) rfl⟩
      | exact ⟨H16.bat 11 rfl (j := 0) rfl, H16.bat 11 rfl (j := 1) rfl, H16.bat 3 rfl (j := 0) rfl, H16.bat 3 rfl (j := 1) rfl⟩)
    ((first
     | (go_at_call 80
        refine (toFil_any a1_0 A1_1 n1_1 c1_1 l1_1 _ (H14.drew.old h1_1) hs1_1).mono ?_
        rintro e w15 ⟨g15_0, rfl, o15_0, f15⟩
        have H15 := H14.drew.made o15_0 f15)
     | (go_at_call 83
        refine (eqFil_yes _ _ _ _ _ _ _ (l1_1) _ (H15.rd 4 rfl) (H15.rd 0 rfl) (Nat.le_trans hs1_1 (by omega))).mono ?_
        rintro e w16 ⟨rfl, d16⟩
        have H16 := H15.go d16)))
  go_wp2
  go_ret
  exact ⟨rfl, H16.fr⟩
end Go.Proofs.Ytbhnlfpcodeloaa
