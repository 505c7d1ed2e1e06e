/-
  What the claims ask of the whole translation, once for all laws of the seat.
-/
import Derived.Test.YtbmoolmgfpcnkaaChkC
namespace Go.Proofs.Ytbmoolmgfpcnkaa
theorem chk_make : Try.pinned.checked.prog.make = some (OpenClaim.make { program := "", sum := "", func := "", spec := "" }) := by kernel_rfl
end Go.Proofs.Ytbmoolmgfpcnkaa
