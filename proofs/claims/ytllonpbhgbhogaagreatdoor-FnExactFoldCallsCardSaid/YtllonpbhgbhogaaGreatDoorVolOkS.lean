/-
VolOk of the reference.
-/
import Derived.Test.YtllonpbhgbhogaaGreatDoorInodeOk
import Derived.Test.YtllonpbhgbhogaaGreatDoorGh
import Derived.Test.YtllonpbhgbhogaaGreatDoorGf
namespace Go.Proofs.YtllonpbhgbhogaaGreatDoor
open Go.RowKit
set_option linter.unusedVariables false
set_option linter.unusedSimpArgs false
end Go.Proofs.YtllonpbhgbhogaaGreatDoor
