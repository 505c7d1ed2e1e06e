import Derived.Test.YtbaadmhbpkfjbaaGreatDoorChkC
set_option linter.all false
set_option maxRecDepth 100000
set_option maxHeartbeats 64000000
namespace Go.Proofs.YtbaadmhbpkfjbaaGreatDoor
theorem CW:Tryz.pinned.checked.prog.make=some (OpenClaim.make {program:= "",sum:= "",func:= "",spec:= ""}):=by kernel_rfl
