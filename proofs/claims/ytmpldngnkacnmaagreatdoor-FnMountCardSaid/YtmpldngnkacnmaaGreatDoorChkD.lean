/-
What the claims ask of the whole translation, once for all laws of the seat.
-/
import Derived.Test.YtmpldngnkacnmaaGreatDoorChkC
namespace Go.Proofs.YtmpldngnkacnmaaGreatDoor
theorem chk_make : Tryz.pinned.checked.prog.make = some (OpenClaim.make { program := "", sum := "", func := "", spec := "" }) := by kernel_rfl
end Go.Proofs.YtmpldngnkacnmaaGreatDoor
