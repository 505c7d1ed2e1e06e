/-
  BitsOk: the program's and the reference's both say whether there are 24 flags.
-/
import Derived.Test.YtbncjalihkpabaaBools
namespace Go.Proofs.Ytbncjalihkpabaa
open Go.RowKit

theorem specBitsOk_any (A : Option Addr) (n c : Nat) (w : World) :
    Calls Try.prog 13 #[.slice A n c] w fun e w' => e = .returned (.bool (decide (n = 24))) ∧ w = w' := by
  go_enter Try.func13, Try.ntmps13
  go_wp2
  go_ret
  exact ⟨by simp [Bool.beq_eq_decide_eq]; omega, rfl⟩

theorem implBitsOk_any (A : Option Addr) (n c : Nat) (w : World) :
    Calls Try.prog 15 #[.slice A n c] w fun e w' => e = .returned (.bool (decide (n = 24))) ∧ w = w' := by
  go_enter Try.func15, Try.ntmps15
  go_wp2
  go_ret
  exact ⟨by simp [Bool.beq_eq_decide_eq]; omega, rfl⟩

set_option maxHeartbeats 400000 in
theorem lawBitsOk_walk (A : Option Addr) (n c : Nat) (l : List Bool) (w : World) (h : Rd w A n 1 (l.map .bool)) :
    Calls Try.prog 3 #[.slice A n c] w fun e w' => e = .returned (.bool true) ∧ Fr w w' := by
  by_cases hbig : 1048576 < n
  · go_enter Try.func3, Try.ntmps3
    go_wp2
    go_ret
    exact ⟨rfl, Below.refl _ _⟩
  · have hs : n ≤ 1048576 := by omega
    go_enter Try.func3, Try.ntmps3
    go_wp2_with fail
    refine (toBoolS_any A n c l _ h hs).mono ?_
    rintro e w1 ⟨g1, rfl, o1, f1⟩
    go_wp2_with fail
    refine (specBitsOk_any _ _ _ _).mono ?_
    rintro e w' ⟨rfl, rfl⟩
    go_wp2_with fail
    refine (toBoolS_any A n c l _ (h.fr f1) hs).mono ?_
    rintro e w2 ⟨g2, rfl, o2, f2⟩
    go_wp2_with fail
    refine (implBitsOk_any _ _ _ _).mono ?_
    rintro e w' ⟨rfl, rfl⟩
    go_wp2_with fail
    refine (toBoolS_any A n c l _ ((h.fr f1).fr f2) hs).mono ?_
    rintro e w3 ⟨g3, rfl, o3, f3⟩
    go_wp2_with fail
    refine (eqBoolS_any _ _ _ _ _ _ l l _ (Rd.of_own (own_fr o2 f3)) (Rd.of_own o3) hs hs).mono ?_
    rintro e w4 ⟨rfl, f4⟩
    go_wp2
    all_goals go_ret
    exact ⟨rfl, (f1.then f2).then (f3.then f4.fr)⟩
end Go.Proofs.Ytbncjalihkpabaa
