import Derived.Test.YtbaadmhbpkfjbaaGreatDoorGa
set_option linter.all false
set_option maxRecDepth 100000
set_option maxHeartbeats 64000000
namespace Go.Proofs.YtbaadmhbpkfjbaaGreatDoor
theorem AW:Tryz.pinned.checked.prog.stopsHeard=true:=by kernel_rfl
