/-
  What the claims ask of the whole translation, once for all laws of the seat.
-/
import Derived.Test.YtlgclhnghpjgjaaChkC
namespace Go.Proofs.Ytlgclhnghpjgjaa
theorem chk_make : Try.pinned.checked.prog.make = some (OpenClaim.make { program := "", sum := "", func := "", spec := "" }) := by kernel_rfl
end Go.Proofs.Ytlgclhnghpjgjaa
