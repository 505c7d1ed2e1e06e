import Derived.Test.YtecfeojhkcohfaaGreatDoorGa
set_option linter.all false
set_option maxRecDepth 100000
set_option maxHeartbeats 64000000
namespace Go.Proofs.YtecfeojhkcohfaaGreatDoor
theorem Cv:Tryz.pinned.checked.prog.stopsHeard=true:=by kernel_rfl
