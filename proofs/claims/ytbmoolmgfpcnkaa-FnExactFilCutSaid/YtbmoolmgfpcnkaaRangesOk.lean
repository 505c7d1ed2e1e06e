/-
  RangesOk: the program and the reference say the same of every list of ranges.
-/
import Derived.Test.YtbmoolmgfpcnkaaL1In
import Derived.Test.YtbmoolmgfpcnkaaWithin
namespace Go.Proofs.Ytbmoolmgfpcnkaa
open Go.RowKit

end Go.Proofs.Ytbmoolmgfpcnkaa
