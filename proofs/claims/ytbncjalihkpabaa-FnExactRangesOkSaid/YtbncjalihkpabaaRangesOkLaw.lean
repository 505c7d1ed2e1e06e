/-
  The law on RangesOk, walked.
-/
import Derived.Test.YtbncjalihkpabaaRangesOk
import Derived.Test.YtbncjalihkpabaaLaw
namespace Go.Proofs.Ytbncjalihkpabaa
open Go.RowKit

set_option maxHeartbeats 400000 in
theorem lawRangesOk_walk (A : Option Addr) (n c : Nat) (l : List (Int × Int)) (w : World) (h : Rd w A n 2 (l.flatMap cRange)) (_hok : ∀ r ∈ l, I64 r.1 ∧ I64 r.2) (hcap : n ≤ 9223372036854775807) :
    Calls Try.prog 4 #[.slice A n c] w fun e w' => e = .returned (.bool true) ∧ Fr w w' := by
  by_cases hbig : (1048576 : Int) < n
  · go_enter Try.func4, Try.ntmps4
    go_wp2_with fail
    refine (szRangeS_any A n c _ _ hcap (by omega) (by omega)).mono ?_
    rintro e w' ⟨rfl, rfl⟩
    rw [szOf_no hbig]
    go_wp2_with fail
    go_ret
    exact ⟨rfl, Below.refl _ _⟩
  · have hs : n ≤ 1048576 := by omega
    go_enter Try.func4, Try.ntmps4
    go_wp2_with fail
    refine (szRangeS_any A n c _ _ hcap (by omega) (by omega)).mono ?_
    rintro e w' ⟨rfl, rfl⟩
    rw [szOf_yes (by omega)]
    go_wp2_with fail
    refine (toRangeS_any A n c l _ h hs).mono ?_
    rintro e w1 ⟨g1, rfl, o1, f1⟩
    go_wp2_with fail
    refine (specRangesOk_any _ _ _ l _ (Rd.of_own o1) hs).mono ?_
    rintro e w2 ⟨rfl, d2⟩
    have f2 := f1.then d2.fr
    go_wp2_with fail
    refine (toRangeS_any A n c l _ (h.fr f2) hs).mono ?_
    rintro e w3 ⟨g3, rfl, o3, f3⟩
    have f4 := f2.then f3
    go_wp2_with fail
    refine (implRangesOk_any _ _ _ l _ (Rd.of_own o3) hs).mono ?_
    rintro e w5 ⟨rfl, f5⟩
    have f6 := f4.then f5
    go_wp2_with fail
    refine (toRangeS_any A n c l _ (h.fr f6) hs).mono ?_
    rintro e w7 ⟨g7, rfl, o7, f7⟩
    have f8 := f6.then f7
    go_wp2_with fail
    refine (eqRangeS_any _ _ _ _ _ _ l l _ (Rd.of_own (own_fr (own_fr o3 f5) f7)) (Rd.of_own o7) hs hs).mono ?_
    rintro e w9 ⟨rfl, f9⟩
    go_wp2
    go_ret
    exact ⟨rfl, f8.then f9⟩
end Go.Proofs.Ytbncjalihkpabaa
