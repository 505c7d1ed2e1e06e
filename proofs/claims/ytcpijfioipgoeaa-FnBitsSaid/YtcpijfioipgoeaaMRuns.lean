/-
  Free runs of flags, as lists; no program in sight.
-/
import Derived.Test.YtcpijfioipgoeaaKit
namespace Go.Proofs.Ytcpijfioipgoeaa

def bump (o : List (Int × Int)) : List (Int × Int) := o.dropLast ++ [((o.getLastD (0, 0)).1, (o.getLastD (0, 0)).2 + 1)]
/-- The runs among the first k flags, as the program goes. -/
def runsTo (bs : List Bool) : Nat → List (Int × Int)
  | 0 => []
  | k + 1 => if bs.getD k true = true then runsTo bs k else if 0 < k ∧ bs.getD (k - 1) true = false then bump (runsTo bs k) else runsTo bs k ++ [((k : Int), 1)]
/-- The run that is open at k. -/
def opn (f k : Nat) : List (Int × Int) := if f < k then [((f : Int), (k : Int) - f)] else []
/-- The runs that are closed at k, and where the open one began, as the reference goes. -/
def stR (bs : List Bool) : Nat → List (Int × Int) × Nat
  | 0 => ([], 0)
  | k + 1 => if bs.getD k true = true then ((stR bs k).1 ++ opn (stR bs k).2 k, k + 1) else stR bs k

theorem bump_snoc (o : List (Int × Int)) (r : Int × Int) : bump (o ++ [r]) = o ++ [(r.1, r.2 + 1)] := by simp [bump]

theorem runs_inv (bs : List Bool) : ∀ k, runsTo bs k = (stR bs k).1 ++ opn (stR bs k).2 k ∧ (stR bs k).2 ≤ k ∧ ((stR bs k).2 < k ↔ 0 < k ∧ bs.getD (k - 1) true = false)
  | 0 => by simp [runsTo, stR, opn]
  | k + 1 => by
    obtain ⟨h1, h2, h3⟩ := runs_inv bs k
    by_cases hb : bs.getD k true = true
    · have e : stR bs (k + 1) = ((stR bs k).1 ++ opn (stR bs k).2 k, k + 1) := by rw [stR, if_pos hb]
      refine ⟨?_, ?_, ?_⟩
      · rw [runsTo, if_pos hb, e, h1]; simp [opn]
      · rw [e]; exact Nat.le_refl _
      · rw [e, show k + 1 - 1 = k from by omega, hb]; simp
    · have e : stR bs (k + 1) = stR bs k := by rw [stR, if_neg hb]
      have hb' : bs.getD k true = false := by simpa using hb
      refine ⟨?_, by rw [e]; omega, ?_⟩
      · rw [runsTo, if_neg hb, e]
        by_cases hp : 0 < k ∧ bs.getD (k - 1) true = false
        · have hlt := h3.2 hp
          rw [if_pos hp, h1]
          simp only [opn, if_pos hlt, if_pos (show (stR bs k).2 < k + 1 by omega)]
          rw [bump_snoc]
          congr 3
          omega
        · have hlt : ¬ (stR bs k).2 < k := fun h => hp (h3.1 h)
          have hk : (stR bs k).2 = k := by omega
          rw [if_neg hp, h1, hk]
          simp [opn]
          omega
      · rw [e, show k + 1 - 1 = k from by omega]
        simp only [hb', and_true]
        omega

/-- All free runs of 24 flags; none of another number. -/
def runs (bs : List Bool) : List (Int × Int) := if bs.length = 24 then runsTo bs 24 else []

theorem stR_last {bs : List Bool} {n : Nat} (h : bs.length = n) : (stR bs (n + 1)).1 = runsTo bs n := by
  have : bs.getD n true = true := by simp [List.getD, ← h]
  rw [stR, if_pos this, (runs_inv bs n).1]

theorem stR_false {bs : List Bool} {k : Nat} (h : bs[k]? = some false) : stR bs (k + 1) = stR bs k := by rw [stR, if_neg (by simp [List.getD, h])]
theorem stR_true {bs : List Bool} {k : Nat} {o : List (Int × Int)} {f : Nat} (h : bs[k]? = some true ∨ bs.length = k) (hst : stR bs k = (o, f)) : stR bs (k + 1) = (o ++ opn f k, k + 1) := by
  rw [stR, if_pos (by rcases h with h | h <;> simp [List.getD, h]), hst]

theorem runsTo_bounds (bs : List Bool) : ∀ k, (runsTo bs k).length ≤ k ∧ ∀ r ∈ runsTo bs k, 0 ≤ r.1 ∧ r.1 ≤ k ∧ 1 ≤ r.2 ∧ r.2 ≤ k
  | 0 => by simp [runsTo]
  | k + 1 => by
    obtain ⟨h1, h2⟩ := runsTo_bounds bs k
    rw [runsTo]
    split
    · exact ⟨by omega, fun r hr => by have := h2 r hr; omega⟩
    · split
      · rename_i hp
        have hne : runsTo bs k ≠ [] := by
          intro e
          have h3 := runs_inv bs k
          rw [e] at h3
          have h4 := h3.2.2.2 hp
          have h5 := h3.1
          simp [opn, h4] at h5
        have hlast := h2 _ (List.getLast_mem hne)
        have hg : (runsTo bs k).getLastD (0, 0) = (runsTo bs k).getLast hne := by rw [List.getLastD_eq_getLast?, List.getLast?_eq_some_getLast hne]; rfl
        refine ⟨by simp [bump]; have := List.length_pos_iff.2 hne; omega, fun r hr => ?_⟩
        simp only [bump, List.mem_append, List.mem_singleton] at hr
        rcases hr with hr | hr
        · have := h2 r (List.dropLast_subset _ hr); omega
        · subst hr
          rw [hg]
          simp only
          omega
      · refine ⟨by simp; omega, fun r hr => ?_⟩
        simp only [List.mem_append, List.mem_singleton] at hr
        rcases hr with hr | hr
        · have := h2 r hr; omega
        · subst hr; simp only; omega

theorem runsTo_set {bs : List Bool} {k : Nat} (h : bs[k]? = some true) : runsTo bs (k + 1) = runsTo bs k := by rw [runsTo, if_pos (by simp [List.getD, h])]
theorem runsTo_first {bs : List Bool} (h : bs[0]? = some false) : runsTo bs (0 + 1) = runsTo bs 0 ++ [(0, 1)] := by
  simp [runsTo, List.getD, h]
theorem stR_len (bs : List Bool) (k : Nat) : (stR bs k).1.length ≤ k := by
  have h := (runsTo_bounds bs k).1
  rw [(runs_inv bs k).1, List.length_append] at h
  omega
theorem runs_bounds (bs : List Bool) : (runs bs).length ≤ 24 ∧ ∀ r ∈ runs bs, 0 ≤ r.1 ∧ r.1 ≤ 24 ∧ 1 ≤ r.2 ∧ r.2 ≤ 24 := by
  unfold runs
  split
  · exact runsTo_bounds bs 24
  · simp

/-- The lengths of runs, one by one. -/
def sumLen (l : List (Int × Int)) : Int := (l.map (·.2)).sum
theorem sumLen_snoc (l : List (Int × Int)) (r : Int × Int) : sumLen (l ++ [r]) = sumLen l + r.2 := by simp [sumLen]
theorem sumLen_bound : ∀ (l : List (Int × Int)), (∀ r ∈ l, 1 ≤ r.2 ∧ r.2 ≤ 24) → 0 ≤ sumLen l ∧ sumLen l ≤ 24 * l.length
  | [], _ => by simp [sumLen]
  | r :: l, h => by
    have h1 := sumLen_bound l fun x hx => h x (by simp [hx])
    have h2 := h r (by simp)
    simp only [sumLen, List.map_cons, List.sum_cons, List.length_cons] at h1 ⊢
    omega
/-- Where the first run of at least m begins. -/
def findR (l : List (Int × Int)) (m : Int) : Int := if 1 ≤ m then ((l.find? fun r => decide (m ≤ r.2)).map (·.1)).getD (-1) else -1

end Go.Proofs.Ytcpijfioipgoeaa
