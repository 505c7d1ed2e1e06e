/-
  Texts of noughts.
-/
import Derived.Test.YtlgclhnghpjgjaaBytes
namespace Go.Proofs.Ytlgclhnghpjgjaa
open Go.RowKit

def zB (n : Nat) : List UInt8 := List.replicate n 0

end Go.Proofs.Ytlgclhnghpjgjaa
