/-
  What the claims ask of the whole translation, once for all laws of the seat.
-/
import Derived.Test.YtmkekahgdgklaaaKit
import Derived.Test.YtmkekahgdgklaaaRows
namespace Go.Proofs.Ytmkekahgdgklaaa
theorem chk_stops : Try.pinned.checked.prog.stopsHeard = true := by kernel_rfl
end Go.Proofs.Ytmkekahgdgklaaa
