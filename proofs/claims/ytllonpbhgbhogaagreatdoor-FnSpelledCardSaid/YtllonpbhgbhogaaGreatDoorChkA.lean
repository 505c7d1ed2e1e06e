/-
What the claims ask of the whole translation, once for all laws of the seat.
-/
import Derived.Test.YtllonpbhgbhogaaGreatDoorGa
import Derived.Test.YtllonpbhgbhogaaGreatDoorRows
namespace Go.Proofs.YtllonpbhgbhogaaGreatDoor
theorem chk_stops : Tryz.pinned.checked.prog.stopsHeard = true := by kernel_rfl
end Go.Proofs.YtllonpbhgbhogaaGreatDoor
