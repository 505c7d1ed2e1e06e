/-
  The law FnExactStoreOk, walked.
-/
import Derived.Test.YtbncjalihkpabaaStoreOk
import Derived.Test.YtbncjalihkpabaaLaw
import Derived.Deep.RegionHeld3
namespace Go.Proofs.Ytbncjalihkpabaa
open Go.RowKit

set_option linter.unusedVariables false
set_option maxHeartbeats 4000000 in
theorem lawFnExactStoreOk_walk (A0_0 : Option Addr) (n0_0 c0_0 : Nat) (l0_0 : List Bool) (A0_1 : Option Addr) (n0_1 c0_1 : Nat) (l0_1 : List ByteArray) (w : World) (h0_0 : Rd w A0_0 n0_0 1 ((l0_0).map Value.bool)) (hcap0_0 : n0_0 ≤ 9223372036854775807) (h0_1 : Rd w A0_1 n0_1 1 ((l0_1).map Value.string)) (ok0_1 : ∀ s ∈ l0_1, s.size ≤ 9223372036854775807) (hcap0_1 : n0_1 ≤ 9223372036854775807) :
    Calls Try.prog 11 #[.agg #[.slice A0_0 n0_0 c0_0, .slice A0_1 n0_1 c0_1]] w fun e w' => e = .returned (.bool true) ∧ Fr w w' := by
  by_cases hbig0 : (1048576 : Int) < ((n0_0 + strTot l0_1) : Nat)
  · go_enter Try.func11, Try.ntmps11
    go_wp2_with fail
    obtain ⟨w1, hw1⟩ : ∃ q : World, q = w.alloc (.cells #[.slice A0_0 n0_0 c0_0, .slice A0_1 n0_1 c0_1] 52) := ⟨_, rfl⟩
    rw [← hw1]
    have f1 : Fr w w1 := by rw [hw1]; exact Fr.al (Below.refl _ _) _
    have kb1 : Bk w1 w.heap.size 52 [.slice A0_0 n0_0 c0_0, .slice A0_1 n0_1 c0_1] := by rw [hw1]; exact Bk.new_ _ _ _ rfl
    clear hw1
    have fr1 : Fr w w1 := Fr.then (Below.refl _ _) f1
    refine (szStore_any A0_0 n0_0 c0_0 l0_0 A0_1 n0_1 c0_1 l0_1 _ _  hcap0_0 (h0_1.fr fr1) ok0_1 hcap0_1 (by omega) (by omega)).mono ?_
    rintro e w2 ⟨rfl, f2⟩
    have kb1_2 := kb1.fr f2
    have fr2 : Fr w w2 := Fr.then fr1 f2
    rw [szOf_no (by omega)]
    go_wp2_with fail
    go_ret
    exact ⟨rfl, fr2⟩
  have hs0_0 : n0_0 ≤ 1048576 := by omega
  have hs0_1 : n0_1 ≤ 1048576 := by have q1 := strTot_len l0_1; have q2 := h0_1.len1; omega
  have hz0_1 : ∀ s ∈ l0_1, s.size ≤ 1048576 := fun s hs => by have q1 := strTot_mem hs; omega
  go_enter Try.func11, Try.ntmps11
  go_wp2_with fail
  obtain ⟨w1, hw1⟩ : ∃ q : World, q = w.alloc (.cells #[.slice A0_0 n0_0 c0_0, .slice A0_1 n0_1 c0_1] 52) := ⟨_, rfl⟩
  rw [← hw1]
  have f1 : Fr w w1 := by rw [hw1]; exact Fr.al (Below.refl _ _) _
  have kb1 : Bk w1 w.heap.size 52 [.slice A0_0 n0_0 c0_0, .slice A0_1 n0_1 c0_1] := by rw [hw1]; exact Bk.new_ _ _ _ rfl
  clear hw1
  have fr1 : Fr w w1 := Fr.then (Below.refl _ _) f1
  refine (szStore_any A0_0 n0_0 c0_0 l0_0 A0_1 n0_1 c0_1 l0_1 _ _  hcap0_0 (h0_1.fr fr1) ok0_1 hcap0_1 (by omega) (by omega)).mono ?_
  rintro e w2 ⟨rfl, f2⟩
  have kb1_2 := kb1.fr f2
  have fr2 : Fr w w2 := Fr.then fr1 f2
  rw [szOf_yes (by omega)]
  have cf0 := kb1_2.at_ (j := 0) rfl
  have cf1 := kb1_2.at_ (j := 1) rfl
  go_wp2_with fail
  clear cf0 cf1
  refine (toStore_any A0_0 n0_0 c0_0 l0_0 A0_1 n0_1 c0_1 l0_1 _ (h0_0.fr fr2) (h0_1.fr fr2) hs0_0 hs0_1).mono ?_
  rintro e w3 ⟨g3_0, g3_1, rfl, o3_0, o3_1, f3⟩
  have kb1_3 := kb1_2.fr f3
  have fr3 : Fr w w3 := Fr.then fr2 f3
  go_wp2_with fail
  refine (specStoreOk_any _ _ _ l0_0 _ _ _ l0_1 _ (Rd.of_own o3_0) (Rd.of_own o3_1) hs0_1 hz0_1).mono ?_
  rintro e w4 ⟨rfl, d4⟩
  have f4 := d4
  have s0_0_4 := own_fr o3_0 f4
  have s0_1_4 := own_fr o3_1 f4
  have kb1_4 := kb1_3.fr f4
  have fr4 : Fr w w4 := Fr.then fr3 f4
  have cf0 := kb1_4.at_ (j := 0) rfl
  have cf1 := kb1_4.at_ (j := 1) rfl
  go_wp2_with fail
  clear cf0 cf1
  refine (toStore_any A0_0 n0_0 c0_0 l0_0 A0_1 n0_1 c0_1 l0_1 _ (h0_0.fr fr4) (h0_1.fr fr4) hs0_0 hs0_1).mono ?_
  rintro e w5 ⟨g5_0, g5_1, rfl, o5_0, o5_1, f5⟩
  have kb1_5 := kb1_4.fr f5
  have fr5 : Fr w w5 := Fr.then fr4 f5
  go_wp2_with fail
  obtain ⟨w6, hw6⟩ : ∃ q : World, q = w5.alloc (.cells #[.slice (some ⟨g5_0, 0, none⟩) n0_0 n0_0, .slice (some ⟨g5_1, 0, none⟩) n0_1 n0_1] 55) := ⟨_, rfl⟩
  rw [← hw6]
  have f6 : Fr w5 w6 := by rw [hw6]; exact Fr.al (Below.refl _ _) _
  have kb6 : Bk w6 w5.heap.size 55 [.slice (some ⟨g5_0, 0, none⟩) n0_0 n0_0, .slice (some ⟨g5_1, 0, none⟩) n0_1 n0_1] := by rw [hw6]; exact Bk.new_ _ _ _ rfl
  clear hw6
  have x0_0_6 := own_fr o5_0 f6
  have x0_1_6 := own_fr o5_1 f6
  have kb1_6 := kb1_5.fr f6
  have fr6 : Fr w w6 := Fr.then fr5 f6
  refine (implStoreOk_any _ _ _ l0_0 _ _ _ l0_1 _ (Rd.of_own x0_0_6) (Rd.of_own x0_1_6) hs0_1 hz0_1).mono ?_
  rintro e w7 ⟨rfl, d7⟩
  have f7 := d7
  have x0_0_7 := own_fr x0_0_6 f7
  have x0_1_7 := own_fr x0_1_6 f7
  have kb1_7 := kb1_6.fr f7
  have kb6_7 := kb6.fr f7
  have fr7 : Fr w w7 := Fr.then fr6 f7
  go_wp2_with fail
  go_region_held3 (fun w' => w'.cell? ⟨w.heap.size, 0, none⟩ = some (.slice A0_0 n0_0 c0_0) ∧ w'.cell? ⟨w.heap.size, 1, none⟩ = some (.slice A0_1 n0_1 c0_1) ∧ w'.cell? ⟨w5.heap.size, 0, none⟩ = some (.slice (some ⟨g5_0, 0, none⟩) n0_0 n0_0) ∧ w'.cell? ⟨w5.heap.size, 1, none⟩ = some (.slice (some ⟨g5_1, 0, none⟩) n0_1 n0_1))
    (first
      | exact ⟨kb1_7.at_ (j := 0) rfl, kb1_7.at_ (j := 1) rfl, kb6_7.at_ (j := 0) rfl, kb6_7.at_ (j := 1) rfl⟩
      | exact ⟨kb1_8.at_ (j := 0) rfl, kb1_8.at_ (j := 1) rfl, kb6_8.at_ (j := 0) rfl, kb6_8.at_ (j := 1) rfl⟩
      | exact ⟨kb1_9.at_ (j := 0) rfl, kb1_9.at_ (j := 1) rfl, kb6_9.at_ (j := 0) rfl, kb6_9.at_ (j := 1) rfl⟩)
    ((first
      | (go_at_call 43
         refine (toStore_any A0_0 n0_0 c0_0 l0_0 A0_1 n0_1 c0_1 l0_1 _ (h0_0.fr fr7).drew (h0_1.fr fr7).drew hs0_0 hs0_1).mono ?_
         rintro e w8 ⟨g8_0, g8_1, rfl, o8_0, o8_1, g8⟩
         have f8 : Fr w7 w8 := (Fr.drewN_ w7 1).then g8
         have x0_0_8 := own_fr x0_0_7 f8
         have x0_1_8 := own_fr x0_1_7 f8
         have kb1_8 := kb1_7.fr f8
         have kb6_8 := kb6_7.fr f8
         have fr8 : Fr w w8 := Fr.then fr7 f8)
      | (go_at_call 45
         refine (eqStore_yes _ _ _ _ _ _ _ _ _ _ _ _ (l0_0) (l0_1) _ (Rd.of_own x0_0_8) (Rd.of_own x0_1_8) (Rd.of_own o8_0) (Rd.of_own o8_1) hs0_0 hs0_1).mono ?_
         rintro e w9 ⟨rfl, f9⟩
         have kb1_9 := kb1_8.fr f9
         have kb6_9 := kb6_8.fr f9
         have fr9 : Fr w w9 := Fr.then fr8 f9)))
  go_wp2
  go_ret
  exact ⟨rfl, fr9⟩
end Go.Proofs.Ytbncjalihkpabaa
