/-
What the claims ask of the whole translation, once for all laws of the seat.
-/
import Derived.Test.YtllonpbhgbhogaaGreatDoorChkB
namespace Go.Proofs.YtllonpbhgbhogaaGreatDoor
theorem chk_final : Tryz.pinned.checked.prog.liftsFinal = false := by kernel_rfl
end Go.Proofs.YtllonpbhgbhogaaGreatDoor
