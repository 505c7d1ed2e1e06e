/-
  What the claims ask of the whole translation, once for all laws of the seat.
-/
import Derived.Test.YtaogikhpglcmjaaGreatDoorChkB
namespace Go.Proofs.YtaogikhpglcmjaaGreatDoor
theorem chk_final : Tryz.pinned.checked.prog.liftsFinal = false := by kernel_rfl
end Go.Proofs.YtaogikhpglcmjaaGreatDoor
