import Derived.Test.YtecfeojhkcohfaaGreatDoorChkA
set_option linter.all false
set_option maxRecDepth 100000
set_option maxHeartbeats 64000000
namespace Go.Proofs.YtecfeojhkcohfaaGreatDoor
theorem Cw:Tryz.pinned.checked.prog.mayEnter=true:=by kernel_rfl
