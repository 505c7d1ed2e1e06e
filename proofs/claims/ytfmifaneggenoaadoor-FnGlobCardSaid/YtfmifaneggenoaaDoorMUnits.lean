/-
  Rows of signs: a letter and its marks. No program in sight.
-/
import Derived.Test.YtfmifaneggenoaaDoorClass
namespace Go.Proofs.YtfmifaneggenoaaDoor
open Go.RowKit

def uStep (o : List (List Int)) (c : Int) : List (List Int) := if o = [] ∨ cls c = 0 then o ++ [[c]] else o.dropLast ++ [o.getLastD [] ++ [c]]
def unitsL (l : List Int) : List (List Int) := l.foldl uStep []
theorem uStep_new {o : List (List Int)} {c : Int} (h : o = [] ∨ cls c = 0) : uStep o c = o ++ [[c]] := by rw [uStep, if_pos h]
theorem uStep_add {o : List (List Int)} {u : List Int} {c : Int} (h : cls c ≠ 0) : uStep (o ++ [u]) c = o ++ [u ++ [c]] := by
  rw [uStep, if_neg (by simp [h])]; simp
theorem units_next {l : List Int} {i : Nat} {c : Int} (h : l[i]? = some c) : unitsL (l.take (i + 1)) = uStep (unitsL (l.take i)) c := by
  rw [unitsL, List.take_add_one, h, Option.toList_some, List.foldl_append]; rfl
theorem uStep_len (o : List (List Int)) (c : Int) : (uStep o c).length ≤ o.length + 1 ∧ (uStep o c ≠ []) := by
  rw [uStep]
  split
  · simp
  · simp only [List.length_append, List.length_dropLast, List.length_cons, List.length_nil]
    exact ⟨by omega, by simp⟩
/-- all that stands in the rows -/
theorem uStep_flat (o : List (List Int)) (c : Int) : (uStep o c).flatten = o.flatten ++ [c] := by
  rw [uStep]
  split
  · simp
  · rename_i h
    simp only [not_or] at h
    rcases List.eq_nil_or_concat o with h1 | ⟨o', u, rfl⟩
    · exact absurd h1 h.1
    · simp
theorem units_flat (l : List Int) : (unitsL l).flatten = l := by
  have key : ∀ (l : List Int) (o : List (List Int)), (l.foldl uStep o).flatten = o.flatten ++ l := by
    intro l
    induction l with
    | nil => intro o; simp
    | cons c l ih => intro o; rw [List.foldl_cons, ih, uStep_flat]; simp
  have h := key l []
  rw [List.flatten_nil, List.nil_append] at h
  exact h
theorem units_all {p : List Int → Prop} (h1 : ∀ c, p [c]) (h2 : ∀ u c, p u → cls c ≠ 0 → p (u ++ [c])) (l : List Int) : ∀ u ∈ unitsL l, p u := by
  have key : ∀ (l : List Int) (o : List (List Int)), (∀ u ∈ o, p u) → ∀ u ∈ l.foldl uStep o, p u := by
    intro l
    induction l with
    | nil => intro o h; exact h
    | cons c l ih =>
      intro o h
      rw [List.foldl_cons]
      refine ih _ fun u hu => ?_
      rw [uStep] at hu
      split at hu
      · rcases List.mem_append.1 hu with h3 | h3
        · exact h u h3
        · rw [List.mem_singleton.1 h3]; exact h1 c
      · rename_i h0
        simp only [not_or] at h0
        rcases List.eq_nil_or_concat o with h5 | ⟨o', v, rfl⟩
        · exact absurd h5 h0.1
        · simp only [List.concat_eq_append, List.dropLast_concat, List.getLastD_concat] at hu
          rcases List.mem_append.1 hu with h3 | h3
          · exact h u (by simp [h3])
          · rw [List.mem_singleton.1 h3]; exact h2 v c (h v (by simp)) h0.2
  exact key l [] (by simp)
theorem units_pos (l : List Int) : ∀ u ∈ unitsL l, 0 < u.length := units_all (by simp) (by simp) l
theorem len_flat_le : ∀ {L : List (List Int)}, (∀ u ∈ L, 0 < u.length) → L.length ≤ L.flatten.length
  | [], _ => by simp
  | u :: L, h => by
    have h1 := h u (by simp)
    have h2 := len_flat_le (L := L) fun v hv => h v (by simp [hv])
    rw [List.flatten_cons, List.length_append, List.length_cons]; omega
theorem units_len (l : List Int) : (unitsL l).length ≤ l.length := by
  have := len_flat_le (units_pos l)
  rwa [units_flat] at this
theorem units_in {l u : List Int} (hu : u ∈ unitsL l) : u.length ≤ l.length := by
  have h : ∀ {L : List (List Int)}, u ∈ L → u.length ≤ L.flatten.length := by
    intro L
    induction L with
    | nil => simp
    | cons v L ih =>
      intro h
      rw [List.flatten_cons, List.length_append]
      rcases List.mem_cons.1 h with rfl | h
      · omega
      · have := ih h; omega
  have := h hu
  rwa [units_flat] at this
theorem units_mem {l u : List Int} (hu : u ∈ unitsL l) : ∀ x ∈ u, x ∈ l := by
  intro x hx
  have : x ∈ (unitsL l).flatten := List.mem_flatten.2 ⟨u, hu, hx⟩
  rwa [units_flat] at this
theorem units_nil (l : List Int) : unitsL l = [] ↔ l = [] := by
  constructor
  · intro h
    have := units_flat l
    rw [h] at this
    simpa using this.symm
  · rintro rfl; rfl
/-- The reference's walk: rows that are done, and where the next one begins. -/
theorem spec_first {l : List Int} {c : Int} (h : l[0]? = some c) : ([] : List (List Int)) ++ [(l.take 1).drop 0] = unitsL (l.take 1) := by
  cases l with
  | nil => simp at h
  | cons a l => simp [unitsL, uStep]
theorem seg_next {l : List Int} {f i : Nat} {c : Int} (h : l[i]? = some c) (hf : f ≤ i) : (l.take (i + 1)).drop f = (l.take i).drop f ++ [c] := by
  rw [List.take_add_one, h, Option.toList_some, List.drop_append_of_le_length (by rw [List.length_take]; have := (List.getElem?_eq_some_iff.1 h).1; omega)]
theorem spec_cut {l : List Int} {o : List (List Int)} {f i : Nat} {c : Int} (hs : o ++ [(l.take i).drop f] = unitsL (l.take i)) (h : l[i]? = some c) (h0 : cls c = 0) : (o ++ [(l.take i).drop f]) ++ [(l.take (i + 1)).drop i] = unitsL (l.take (i + 1)) := by
  rw [units_next h, uStep_new (.inr h0), hs, seg_next h (Nat.le_refl _), List.drop_of_length_le (by rw [List.length_take]; omega)]; rfl
theorem spec_on {l : List Int} {o : List (List Int)} {f i : Nat} {c : Int} (hs : o ++ [(l.take i).drop f] = unitsL (l.take i)) (hf : f ≤ i) (h : l[i]? = some c) (h0 : cls c ≠ 0) : o ++ [(l.take (i + 1)).drop f] = unitsL (l.take (i + 1)) := by
  rw [units_next h, ← hs, uStep_add h0, seg_next h hf]
end Go.Proofs.YtfmifaneggenoaaDoor
