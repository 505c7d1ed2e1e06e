/-
  What the claims ask of the whole translation, once for all laws of the seat.
-/
import Derived.Test.YtlgclhnghpjgjaaChkA
namespace Go.Proofs.Ytlgclhnghpjgjaa
theorem chk_enter : Try.pinned.checked.prog.mayEnter = true := by kernel_rfl
end Go.Proofs.Ytlgclhnghpjgjaa
