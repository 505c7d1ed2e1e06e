/-
  Texts of noughts.
-/
import Derived.Test.YtfmifaneggenoaaDoorBytes
namespace Go.Proofs.YtfmifaneggenoaaDoor
open Go.RowKit

def zB (n : Nat) : List UInt8 := List.replicate n 0

end Go.Proofs.YtfmifaneggenoaaDoor
