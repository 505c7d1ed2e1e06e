/-
  BitsOk: the program's and the reference's both say whether there are 24 flags.
-/
import Derived.Test.YtbmoolmgfpcnkaaBools
namespace Go.Proofs.Ytbmoolmgfpcnkaa
open Go.RowKit

theorem specBitsOk_any (A : Option Addr) (n c : Nat) (w : World) :
    Calls Try.prog 100 #[.slice A n c] w fun e w' => e = .returned (.bool (decide (n = 24))) ∧ w = w' := by
  go_enter Try.func100, Try.ntmps100
  go_wp2
  go_ret
  exact ⟨by simp [Bool.beq_eq_decide_eq]; omega, rfl⟩

theorem implBitsOk_any (A : Option Addr) (n c : Nat) (w : World) :
    Calls Try.prog 102 #[.slice A n c] w fun e w' => e = .returned (.bool (decide (n = 24))) ∧ w = w' := by
  go_enter Try.func102, Try.ntmps102
  go_wp2
  go_ret
  exact ⟨by simp [Bool.beq_eq_decide_eq]; omega, rfl⟩

end Go.Proofs.Ytbmoolmgfpcnkaa
