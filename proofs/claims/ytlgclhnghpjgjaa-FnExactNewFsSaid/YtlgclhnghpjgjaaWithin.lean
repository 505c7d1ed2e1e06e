/-
  The program's within.
-/
import Derived.Test.YtlgclhnghpjgjaaMRangesOk
namespace Go.Proofs.Ytlgclhnghpjgjaa
open Go.RowKit

theorem within_any (x lo hi : Int) (w : World) :
    Calls Try.prog 42 #[.int .i64 x, .int .i64 lo, .int .i64 hi] w fun e w' => e = .returned (.bool (inB x lo hi)) ∧ w' = w := by
  go_enter Try.func42, Try.ntmps42
  go_wp2
  all_goals go_ret
  · exact ⟨by simp [inB, *], rfl⟩
  · exact ⟨by simp [inB]; omega, rfl⟩

end Go.Proofs.Ytlgclhnghpjgjaa
