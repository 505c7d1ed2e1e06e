/-
  What the claims ask of the whole translation, once for all laws of the seat.
-/
import Derived.Test.YtlgclhnghpjgjaaChkB
namespace Go.Proofs.Ytlgclhnghpjgjaa
theorem chk_final : Try.pinned.checked.prog.liftsFinal = false := by kernel_rfl
end Go.Proofs.Ytlgclhnghpjgjaa
