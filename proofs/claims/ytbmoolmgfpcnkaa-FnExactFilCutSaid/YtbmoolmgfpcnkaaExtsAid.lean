/-
  Small facts for the walks of ExtsOk.
-/
import Derived.Test.YtbmoolmgfpcnkaaMExts
namespace Go.Proofs.Ytbmoolmgfpcnkaa
open Go.RowKit
theorem all_false {f : Nat → Bool} {B t : Nat} (h : ∀ q, q < t → f (B + q) = false) (ht : f (B + t) = false) : ∀ q, q < t + 1 → f (B + q) = false := by
  intro q hq
  rcases Nat.lt_or_ge q t with h1 | h1
  · exact h q h1
  · obtain rfl : q = t := by omega
    exact ht
theorem used_none {f : Nat → Bool} {a : Int} {B N : Nat} (h : ∀ q, q < N → f (B + q) = false) : ∀ m, m < 24 → inE (a, (B : Int), (N : Int)) m = true → f m = false := by
  intro m _ hm
  rw [inE_iff] at hm
  simp only at hm
  have := h (m - B) (by omega)
  rwa [show B + (m - B) = m from by omega] at this

/-- A beginning and a length within a size. -/
def isP (x n size : Int) : Bool := inB x 0 (size - 1) && inB n 1 (size - x)
theorem eRange_isP (e : Int × Int × Int) : eRange e = (isP e.1 e.2.2 12 && isP e.2.1 e.2.2 24) := by
  rw [Bool.eq_iff_iff]
  simp [eRange, isP, inB]
  omega
theorem isP_iff {x n size : Int} : isP x n size = true ↔ 0 ≤ x ∧ x ≤ size - 1 ∧ 1 ≤ n ∧ n ≤ size - x := by simp [isP, inB]; omega
end Go.Proofs.Ytbmoolmgfpcnkaa
