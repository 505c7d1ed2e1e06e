/-
  What the claims ask of the whole translation, once for all laws of the seat.
-/
import Derived.Test.YtjkeidhdinogdaaKit
import Derived.Test.YtjkeidhdinogdaaRows
namespace Go.Proofs.Ytjkeidhdinogdaa
theorem chk_stops : Try.pinned.checked.prog.stopsHeard = true := by kernel_rfl
end Go.Proofs.Ytjkeidhdinogdaa
