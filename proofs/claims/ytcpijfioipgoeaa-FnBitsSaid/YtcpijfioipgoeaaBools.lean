/-
  Slices of bool in the laws: made anew, compared, marked.
-/
import Derived.Test.YtcpijfioipgoeaaInfo
namespace Go.Proofs.Ytcpijfioipgoeaa
open Go.RowKit


/-- The marks of n elements, from the number k on. -/
def marksBool (n k : Nat) : List Bool := (List.range n).map fun (i : Nat) => (((k : Int) + (i : Int)) % 3 == 0)
theorem marksBool_at {n k i : Nat} (h : i < n) : (marksBool n k)[i]? = some ((((k : Int) + (i : Int)) % 3 == 0)) := by simp [marksBool, h]
theorem marksBool_take (n k i : Nat) (h : i ≤ n) : (marksBool n k).take i = marksBool i k := by
  rw [marksBool, marksBool, ← List.map_take, List.take_range, Nat.min_eq_left h]

end Go.Proofs.Ytcpijfioipgoeaa

