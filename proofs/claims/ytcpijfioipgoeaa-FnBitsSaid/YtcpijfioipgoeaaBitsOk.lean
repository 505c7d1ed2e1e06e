/-
  BitsOk: the program's and the reference's both say whether there are 24 flags.
-/
import Derived.Test.YtcpijfioipgoeaaBools
namespace Go.Proofs.Ytcpijfioipgoeaa
open Go.RowKit

theorem specBitsOk_any (A : Option Addr) (n c : Nat) (w : World) :
    Calls Try.prog 9 #[.slice A n c] w fun e w' => e = .returned (.bool (decide (n = 24))) ∧ w = w' := by
  go_enter Try.func9, Try.ntmps9
  go_wp2
  go_ret
  exact ⟨by simp [Bool.beq_eq_decide_eq]; omega, rfl⟩

theorem implBitsOk_any (A : Option Addr) (n c : Nat) (w : World) :
    Calls Try.prog 19 #[.slice A n c] w fun e w' => e = .returned (.bool (decide (n = 24))) ∧ w = w' := by
  go_enter Try.func19, Try.ntmps19
  go_wp2
  go_ret
  exact ⟨by simp [Bool.beq_eq_decide_eq]; omega, rfl⟩

end Go.Proofs.Ytcpijfioipgoeaa
