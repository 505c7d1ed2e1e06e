/-
  When a list of ranges is right; no program in sight.
-/
import Derived.Test.YtejanpkkhkimcaaDoorRangeS
namespace Go.Proofs.YtejanpkkhkimcaaDoor
open Go.RowKit

/-- Is x from lo to hi? -/
def inB (x lo hi : Int) : Bool := decide (lo ≤ x) && decide (x ≤ hi)

/-- Is the range at place i right, as it stands behind the one ahead? -/
def rAt (l : List (Int × Int)) (i : Nat) : Bool :=
  inB (l.getD i (0, 0)).1 0 1114111 && inB (l.getD i (0, 0)).2 (l.getD i (0, 0)).1 1114111 && !(decide (0 < i) && decide ((l.getD i (0, 0)).1 ≤ (l.getD (i - 1) (0, 0)).2 + 1))
def rOk (l : List (Int × Int)) : Bool := (List.range l.length).all (rAt l)

theorem rAt_zero {l : List (Int × Int)} {a b : Int} (h : l[0]? = some (a, b)) : rAt l 0 = (inB a 0 1114111 && inB b a 1114111) := by
  simp [rAt, h]
theorem rAt_succ {l : List (Int × Int)} {k : Nat} {a b a' b' : Int} (h : l[k + 1]? = some (a, b)) (h' : l[k]? = some (a', b')) :
    rAt l (k + 1) = (inB a 0 1114111 && inB b a 1114111 && !decide (a ≤ b' + 1)) := by
  simp [rAt, h, h']
theorem rOk_yes {l : List (Int × Int)} {n : Nat} (hl : l.length = n) (h : ∀ j, j < n → rAt l j = true) : rOk l = true := by
  subst hl
  simpa [rOk] using h
theorem rOk_no {l : List (Int × Int)} {n k : Nat} (hl : l.length = n) (hk : k < n) (h : rAt l k = false) : rOk l = false := by
  subst hl
  simp only [rOk, List.all_eq_false, List.mem_range]
  exact ⟨k, hk, by simp [h]⟩
theorem all_step {p : Nat → Bool} {k : Nat} (h : ∀ j, j < k → p j = true) (hk : p k = true) : ∀ j, j < k + 1 → p j = true := by
  intro j hj
  rcases Nat.lt_or_ge j k with h1 | h1
  · exact h j h1
  · obtain rfl : j = k := by omega
    exact hk
theorem inB_iff {x lo hi : Int} : inB x lo hi = true ↔ lo ≤ x ∧ x ≤ hi := by simp [inB]
theorem rAt_bounds {l : List (Int × Int)} {k : Nat} {a b : Int} (hx : l[k]? = some (a, b)) (h : rAt l k = true) : 0 ≤ b ∧ b ≤ 1114111 := by
  simp only [rAt, List.getD, hx, Option.getD_some, Bool.and_eq_true, inB_iff] at h
  omega

end Go.Proofs.YtejanpkkhkimcaaDoor
