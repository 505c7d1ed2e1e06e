/-
  What the claims ask of the whole translation, once for all laws of the seat.
-/
import Derived.Test.YtejanpkkhkimcaaDoorChkB
namespace Go.Proofs.YtejanpkkhkimcaaDoor
theorem chk_final : Tryd.pinned.checked.prog.liftsFinal = false := by kernel_rfl
end Go.Proofs.YtejanpkkhkimcaaDoor
