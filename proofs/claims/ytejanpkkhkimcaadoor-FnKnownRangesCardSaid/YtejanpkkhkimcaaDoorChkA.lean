/-
  What the claims ask of the whole translation, once for all laws of the seat.
-/
import Derived.Test.YtejanpkkhkimcaaDoorKit
import Derived.Test.YtejanpkkhkimcaaDoorRows
namespace Go.Proofs.YtejanpkkhkimcaaDoor
theorem chk_stops : Tryd.pinned.checked.prog.stopsHeard = true := by kernel_rfl
end Go.Proofs.YtejanpkkhkimcaaDoor
