import Derived.Test.YtbaadmhbpkfjbaaGreatDoorChkA
set_option linter.all false
set_option maxRecDepth 100000
set_option maxHeartbeats 64000000
namespace Go.Proofs.YtbaadmhbpkfjbaaGreatDoor
theorem AX:Tryz.pinned.checked.prog.mayEnter=true:=by kernel_rfl
