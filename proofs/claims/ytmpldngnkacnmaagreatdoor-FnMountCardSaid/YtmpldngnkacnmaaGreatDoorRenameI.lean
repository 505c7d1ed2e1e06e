/-
rename of the program, in place.
-/
import Derived.Test.YtmpldngnkacnmaaGreatDoorGs
import Derived.Test.YtmpldngnkacnmaaGreatDoorGp
import Derived.Test.YtmpldngnkacnmaaGreatDoorGk
namespace Go.Proofs.YtmpldngnkacnmaaGreatDoor
open Go.RowKit
set_option linter.unusedVariables false
set_option linter.unusedSimpArgs false
theorem ids_set {l : List Nod} {t : Nat} {x y : Nod} (h : l[t]? = some x) (e : y.1 = x.1) : (l.set t y).map (·.1) = l.map (·.1) := by
 rw [List.map_set];exact set_self' _ _ _ (by rw [List.getElem?_map, h, e]; rfl)
end Go.Proofs.YtmpldngnkacnmaaGreatDoor
