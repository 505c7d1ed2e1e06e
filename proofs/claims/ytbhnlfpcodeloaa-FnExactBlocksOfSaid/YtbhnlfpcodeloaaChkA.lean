/-
  What the claims ask of the whole translation, once for all laws of the seat.
-/
import Derived.Test.YtbhnlfpcodeloaaKit
import Derived.Test.YtbhnlfpcodeloaaRows
namespace Go.Proofs.Ytbhnlfpcodeloaa
theorem chk_stops : Try.pinned.checked.prog.stopsHeard = true := by kernel_rfl
end Go.Proofs.Ytbhnlfpcodeloaa
