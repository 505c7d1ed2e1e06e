/-
  What the claims ask of the whole translation, once for all laws of the seat.
-/
import Derived.Test.YtcpijfioipgoeaaKit
import Derived.Test.YtcpijfioipgoeaaRows
namespace Go.Proofs.Ytcpijfioipgoeaa
theorem chk_stops : Try.pinned.checked.prog.stopsHeard = true := by kernel_rfl
end Go.Proofs.Ytcpijfioipgoeaa
