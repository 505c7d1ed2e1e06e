/-
  What the claims ask of the whole translation, once for all laws of the seat.
-/
import Derived.Test.YtfmifaneggenoaaDoorChkC
namespace Go.Proofs.YtfmifaneggenoaaDoor
theorem chk_make : Tryd.pinned.checked.prog.make = some (OpenClaim.make { program := "", sum := "", func := "", spec := "" }) := by kernel_rfl
end Go.Proofs.YtfmifaneggenoaaDoor
