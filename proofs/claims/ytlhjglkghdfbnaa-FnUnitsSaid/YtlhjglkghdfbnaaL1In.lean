/-
  The reference's l1In.
-/
import Derived.Test.YtlhjglkghdfbnaaMRangesOk
namespace Go.Proofs.Ytlhjglkghdfbnaa
open Go.RowKit

end Go.Proofs.Ytlhjglkghdfbnaa
