/-
  Flags that are set in a row, and free runs that lie apart; no program in sight.
-/
import Derived.Test.YtcpijfioipgoeaaMRuns
import Derived.Test.YtcpijfioipgoeaaMRangesOk
namespace Go.Proofs.Ytcpijfioipgoeaa

/-- The flags a .. a + j - 1 set to v. -/
def setN (b : List Bool) (a : Nat) (v : Bool) : Nat → List Bool
  | 0 => b
  | j + 1 => (setN b a v j).set (a + j) v
theorem setN_len (b : List Bool) (a : Nat) (v : Bool) : ∀ j, (setN b a v j).length = b.length
  | 0 => rfl
  | j + 1 => by rw [setN, List.length_set, setN_len b a v j]
theorem setN_get (b : List Bool) (a : Nat) (v : Bool) (i : Nat) : ∀ j, a + j ≤ b.length → (setN b a v j)[i]? = if a ≤ i ∧ i < a + j then some v else b[i]?
  | 0, _ => by rw [if_neg (by omega)]; rfl
  | j + 1, h => by
    rw [setN]
    by_cases hi : a + j = i
    · subst hi
      rw [List.getElem?_set_self (by rw [setN_len]; omega), if_pos (by omega)]
    · rw [List.getElem?_set_ne hi, setN_get b a v i j (by omega)]
      by_cases hc : a ≤ i ∧ i < a + j
      · rw [if_pos hc, if_pos (by omega)]
      · rw [if_neg hc, if_neg (by omega)]
/-- No flag of the first j from a on is v. -/
def noneV (b : List Bool) (a : Nat) (v : Bool) (j : Nat) : Bool := decide (∀ i, i < j → b[a + i]? = some (!v))
theorem noneV_iff {b : List Bool} {a j : Nat} {v : Bool} : noneV b a v j = true ↔ ∀ i, i < j → b[a + i]? = some (!v) := by simp [noneV]
theorem noneV_zero (b : List Bool) (a : Nat) (v : Bool) : noneV b a v 0 = true := noneV_iff.2 fun i h => absurd h (by omega)
theorem noneV_succ {b : List Bool} {a j : Nat} {v : Bool} (h : noneV b a v j = true) (hx : b[a + j]? = some (!v)) : noneV b a v (j + 1) = true := noneV_iff.2 fun i hi => by
  by_cases e : i = j
  · subst e; exact hx
  · exact noneV_iff.1 h i (by omega)
theorem noneV_stop {b : List Bool} {a j m : Nat} {v : Bool} (hj : j < m) (hx : b[a + j]? = some v) : noneV b a v m = false := by
  cases e : noneV b a v m with
  | false => rfl
  | true =>
    have h := noneV_iff.1 e j hj
    rw [hx] at h
    cases v <;> simp at h
theorem setN_back {b : List Bool} {a j : Nat} {v : Bool} (ha : a + j ≤ b.length) (h : noneV b a v j = true) : setN (setN b a v j) a (!v) j = b := by
  apply List.ext_getElem?
  intro i
  rw [setN_get _ _ _ _ _ (by rw [setN_len]; exact ha), setN_get _ _ _ _ _ ha]
  by_cases hc : a ≤ i ∧ i < a + j
  · have h1 := noneV_iff.1 h (i - a) (by omega)
    rw [show a + (i - a) = i from by omega] at h1
    rw [if_pos hc, h1]
  · rw [if_neg hc, if_neg hc]
theorem noneV_back {b : List Bool} {a j : Nat} {v : Bool} (ha : a + j ≤ b.length) : noneV (setN b a v j) a (!v) j = true := noneV_iff.2 fun i hi => by
  rw [setN_get _ _ _ _ _ ha, if_pos (by omega)]
  simp
theorem setN_at {b : List Bool} {a j : Nat} {v : Bool} (ha : a + j < b.length) : (setN b a v j)[a + j]? = b[a + j]? := by
  rw [setN_get _ _ _ _ _ (by omega), if_neg (by omega)]

/-- May the run be set? -/
def setOk (b : List Bool) (a n : Int) (v : Bool) : Bool := decide (b.length = 24) && inB a 0 23 && inB n 1 (24 - a) && noneV b a.toNat v n.toNat
def setRes (b : List Bool) (a n : Int) (v : Bool) : List Bool := if b.length = 24 then (if setOk b a n v = true then setN b a.toNat v n.toNat else b) else []
theorem setOk_iff {b : List Bool} {a n : Int} {v : Bool} : setOk b a n v = true ↔ b.length = 24 ∧ (0 ≤ a ∧ a ≤ 23) ∧ (1 ≤ n ∧ n ≤ 24 - a) ∧ noneV b a.toNat v n.toNat = true := by
  simp [setOk, inB_iff, and_assoc]
theorem setRes_len (b : List Bool) (a n : Int) (v : Bool) : (setRes b a n v).length = if b.length = 24 then 24 else 0 := by
  unfold setRes
  by_cases h : b.length = 24
  · rw [if_pos h, if_pos h]
    split
    · rw [setN_len, h]
    · exact h
  · rw [if_neg h, if_neg h]; rfl
theorem setRes_back {b : List Bool} {a n : Int} {v : Bool} (h : setOk b a n v = true) : setOk (setRes b a n v) a n (!v) = true ∧ setRes (setRes b a n v) a n (!v) = b := by
  obtain ⟨h1, h2, h3, h4⟩ := setOk_iff.1 h
  have e : setRes b a n v = setN b a.toNat v n.toNat := by rw [setRes, if_pos h1, if_pos h]
  have hl : a.toNat + n.toNat ≤ b.length := by omega
  have hok : setOk (setRes b a n v) a n (!v) = true := setOk_iff.2 ⟨by rw [setRes_len, if_pos h1], h2, h3, by rw [e]; exact noneV_back hl⟩
  refine ⟨hok, ?_⟩
  rw [setRes, if_pos (by rw [setRes_len, if_pos h1]), if_pos hok, e, setN_back hl h4]

/-- What is known of the closed runs at k. -/
structure RunsAt (bs : List Bool) (k : Nat) (o : List (Int × Int)) (f : Nat) : Prop where
  le : f ≤ k
  free : ∀ j, f ≤ j → j < k → bs.getD j true = false
  sep : o.Pairwise fun r s => r.1 + r.2 < s.1
  low : ∀ r ∈ o, 0 ≤ r.1 ∧ r.1 + r.2 < f ∧ 1 ≤ r.2
  all : ∀ r ∈ o, ∀ j : Nat, r.1 ≤ j → (j : Int) < r.1 + r.2 → bs.getD j true = false
theorem runsAt_closed {bs : List Bool} {k : Nat} {o : List (Int × Int)} {f : Nat} (h : RunsAt bs k o f) :
    (o ++ opn f k).Pairwise (fun r s => r.1 + r.2 < s.1) ∧ (∀ r ∈ o ++ opn f k, 0 ≤ r.1 ∧ r.1 + r.2 < (k : Int) + 1 ∧ 1 ≤ r.2) ∧ (∀ r ∈ o ++ opn f k, ∀ j : Nat, r.1 ≤ j → (j : Int) < r.1 + r.2 → bs.getD j true = false) := by
  have hle := h.le
  unfold opn
  split
  · rename_i hlt
    refine ⟨List.pairwise_append.2 ⟨h.sep, by simp, ?_⟩, ?_, ?_⟩
    · intro r hr s hs
      simp only [List.mem_singleton] at hs
      subst hs
      exact (h.low r hr).2.1
    · intro r hr
      rcases List.mem_append.1 hr with hr | hr
      · have := h.low r hr; omega
      · simp only [List.mem_singleton] at hr
        subst hr
        refine ⟨by omega, ?_, ?_⟩
        · show (f : Int) + ((k : Int) - f) < k + 1; omega
        · show 1 ≤ (k : Int) - f; omega
    · intro r hr j h1 h2
      rcases List.mem_append.1 hr with hr | hr
      · exact h.all r hr j h1 h2
      · simp only [List.mem_singleton] at hr
        subst hr
        simp only at h1 h2
        exact h.free j (by omega) (by omega)
  · rw [List.append_nil]
    exact ⟨h.sep, fun r hr => by have := h.low r hr; omega, h.all⟩
theorem runsAt (bs : List Bool) : ∀ k, RunsAt bs k (stR bs k).1 (stR bs k).2
  | 0 => ⟨by simp [stR], by intro j _ h; omega, by simp [stR], by simp [stR], by simp [stR]⟩
  | k + 1 => by
    have ih := runsAt bs k
    rw [stR]
    split
    · obtain ⟨c1, c2, c3⟩ := runsAt_closed ih
      exact ⟨Nat.le_refl _, by intro j h1 h2; simp only at h1; omega, c1, fun r hr => by have := c2 r hr; simp only; omega, c3⟩
    · rename_i hb
      refine ⟨by have := ih.le; omega, ?_, ih.sep, ih.low, ih.all⟩
      intro j h1 h2
      by_cases e : j = k
      · subst e; simpa using hb
      · exact ih.free j h1 (by omega)
/-- Free runs: none beside another one; each flag of theirs is free. -/
theorem runs_apart (bs : List Bool) : (runs bs).Pairwise fun r s => r.1 + r.2 < s.1 := by
  unfold runs
  split
  · rw [(runs_inv bs 24).1]; exact (runsAt_closed (runsAt bs 24)).1
  · simp
theorem runs_in (bs : List Bool) : ∀ r ∈ runs bs, 0 ≤ r.1 ∧ r.1 + r.2 ≤ 24 ∧ 1 ≤ r.2 := by
  unfold runs
  split
  · rw [(runs_inv bs 24).1]
    intro r hr
    have := (runsAt_closed (runsAt bs 24)).2.1 r hr
    omega
  · simp
theorem runs_free {bs : List Bool} {r : Int × Int} (hr : r ∈ runs bs) {j : Nat} (h1 : r.1 ≤ j) (h2 : (j : Int) < r.1 + r.2) : bs[j]? = some false := by
  have hin := runs_in bs r hr
  unfold runs at hr
  split at hr
  · rename_i hl
    rw [(runs_inv bs 24).1] at hr
    have h := (runsAt_closed (runsAt bs 24)).2.2 r hr j h1 h2
    have hj : j < bs.length := by omega
    rw [List.getElem?_eq_getElem hj]
    rw [List.getD_eq_getElem?_getD, List.getElem?_eq_getElem hj] at h
    simpa using h
  · simp at hr
theorem runs_next {bs : List Bool} {i : Nat} {r s : Int × Int} (h1 : (runs bs)[i]? = some r) (h2 : (runs bs)[i + 1]? = some s) : r.1 + r.2 < s.1 := by
  obtain ⟨a1, rfl⟩ := List.getElem?_eq_some_iff.1 h1
  obtain ⟨a2, rfl⟩ := List.getElem?_eq_some_iff.1 h2
  exact (List.pairwise_iff_getElem.1 (runs_apart bs)) i (i + 1) a1 a2 (by omega)

end Go.Proofs.Ytcpijfioipgoeaa
