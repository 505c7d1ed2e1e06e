/-
  What the claims ask of the whole translation, once for all laws of the seat.
-/
import Derived.Test.YtlgclhnghpjgjaaKit
import Derived.Test.YtlgclhnghpjgjaaRows
namespace Go.Proofs.Ytlgclhnghpjgjaa
theorem chk_stops : Try.pinned.checked.prog.stopsHeard = true := by kernel_rfl
end Go.Proofs.Ytlgclhnghpjgjaa
