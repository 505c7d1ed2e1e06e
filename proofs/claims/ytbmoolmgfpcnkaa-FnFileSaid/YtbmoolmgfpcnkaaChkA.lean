/-
  What the claims ask of the whole translation, once for all laws of the seat.
-/
import Derived.Test.YtbmoolmgfpcnkaaGa
import Derived.Test.YtbmoolmgfpcnkaaRows
namespace Go.Proofs.Ytbmoolmgfpcnkaa
theorem chk_stops : Try.pinned.checked.prog.stopsHeard = true := by kernel_rfl
end Go.Proofs.Ytbmoolmgfpcnkaa
