/-
  What the claims ask of the whole translation, once for all laws of the seat.
-/
import Derived.Test.YtlhjglkghdfbnaaKit
import Derived.Test.YtlhjglkghdfbnaaRows
namespace Go.Proofs.Ytlhjglkghdfbnaa
theorem chk_stops : Try.pinned.checked.prog.stopsHeard = true := by kernel_rfl
end Go.Proofs.Ytlhjglkghdfbnaa
