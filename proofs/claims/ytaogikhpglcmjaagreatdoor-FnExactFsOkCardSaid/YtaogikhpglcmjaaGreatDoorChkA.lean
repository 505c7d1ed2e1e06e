/-
  What the claims ask of the whole translation, once for all laws of the seat.
-/
import Derived.Test.YtaogikhpglcmjaaGreatDoorGa
import Derived.Test.YtaogikhpglcmjaaGreatDoorRows
namespace Go.Proofs.YtaogikhpglcmjaaGreatDoor
theorem chk_stops : Tryz.pinned.checked.prog.stopsHeard = true := by kernel_rfl
end Go.Proofs.YtaogikhpglcmjaaGreatDoor
