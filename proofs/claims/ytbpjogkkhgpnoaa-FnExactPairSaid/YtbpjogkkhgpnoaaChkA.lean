/-
  What the claims ask of the whole translation, once for all laws of the seat.
-/
import Derived.Test.YtbpjogkkhgpnoaaKit
import Derived.Test.YtbpjogkkhgpnoaaRows
namespace Go.Proofs.Ytbpjogkkhgpnoaa
theorem chk_stops : Try.pinned.checked.prog.stopsHeard = true := by kernel_rfl
end Go.Proofs.Ytbpjogkkhgpnoaa
