/-
What the claims ask of the whole translation, once for all laws of the seat.
-/
import Derived.Test.YtmpldngnkacnmaaGreatDoorChkB
namespace Go.Proofs.YtmpldngnkacnmaaGreatDoor
theorem chk_final : Tryz.pinned.checked.prog.liftsFinal = false := by kernel_rfl
end Go.Proofs.YtmpldngnkacnmaaGreatDoor
