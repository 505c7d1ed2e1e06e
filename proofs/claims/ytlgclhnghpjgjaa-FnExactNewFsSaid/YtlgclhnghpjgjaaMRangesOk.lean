/-
  What lies between two numbers; no program in sight.
-/
import Derived.Test.YtlgclhnghpjgjaaKit
namespace Go.Proofs.Ytlgclhnghpjgjaa
def inB (x lo hi : Int) : Bool := decide (lo ≤ x) && decide (x ≤ hi)
theorem inB_iff {x lo hi : Int} : inB x lo hi = true ↔ lo ≤ x ∧ x ≤ hi := by simp [inB]
end Go.Proofs.Ytlgclhnghpjgjaa
