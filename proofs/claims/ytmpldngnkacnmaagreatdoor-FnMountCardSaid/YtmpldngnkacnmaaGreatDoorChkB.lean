/-
What the claims ask of the whole translation, once for all laws of the seat.
-/
import Derived.Test.YtmpldngnkacnmaaGreatDoorChkA
namespace Go.Proofs.YtmpldngnkacnmaaGreatDoor
theorem chk_enter : Tryz.pinned.checked.prog.mayEnter = true := by kernel_rfl
end Go.Proofs.YtmpldngnkacnmaaGreatDoor
