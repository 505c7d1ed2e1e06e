/-
  What the claims ask of the whole translation, once for all laws of the seat.
-/
import Derived.Test.YtfmifaneggenoaaDoorKit
import Derived.Test.YtfmifaneggenoaaDoorRows
namespace Go.Proofs.YtfmifaneggenoaaDoor
theorem chk_stops : Tryd.pinned.checked.prog.stopsHeard = true := by kernel_rfl
end Go.Proofs.YtfmifaneggenoaaDoor
