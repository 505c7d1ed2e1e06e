/-
What the claims ask of the whole translation, once for all laws of the seat.
-/
import Derived.Test.YtmpldngnkacnmaaGreatDoorGa
import Derived.Test.YtmpldngnkacnmaaGreatDoorRows
namespace Go.Proofs.YtmpldngnkacnmaaGreatDoor
theorem chk_stops : Tryz.pinned.checked.prog.stopsHeard = true := by kernel_rfl
end Go.Proofs.YtmpldngnkacnmaaGreatDoor
