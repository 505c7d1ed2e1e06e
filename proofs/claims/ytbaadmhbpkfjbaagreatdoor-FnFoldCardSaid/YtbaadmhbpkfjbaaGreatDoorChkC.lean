import Derived.Test.YtbaadmhbpkfjbaaGreatDoorChkB
set_option linter.all false
set_option maxRecDepth 100000
set_option maxHeartbeats 64000000
namespace Go.Proofs.YtbaadmhbpkfjbaaGreatDoor
theorem AY:Tryz.pinned.checked.prog.liftsFinal=false:=by kernel_rfl
