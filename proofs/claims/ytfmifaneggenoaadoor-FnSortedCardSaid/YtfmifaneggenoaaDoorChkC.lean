/-
  What the claims ask of the whole translation, once for all laws of the seat.
-/
import Derived.Test.YtfmifaneggenoaaDoorChkB
namespace Go.Proofs.YtfmifaneggenoaaDoor
theorem chk_final : Tryd.pinned.checked.prog.liftsFinal = false := by kernel_rfl
end Go.Proofs.YtfmifaneggenoaaDoor
