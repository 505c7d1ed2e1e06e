/-
  What the claims ask of the whole translation, once for all laws of the seat.
-/
import Derived.Test.YtfmifaneggenoaaDoorChkA
namespace Go.Proofs.YtfmifaneggenoaaDoor
theorem chk_enter : Tryd.pinned.checked.prog.mayEnter = true := by kernel_rfl
end Go.Proofs.YtfmifaneggenoaaDoor
