/-
  Blocks of names that rise, merged two by two; names in order. Plain Lean.
-/
import Derived.Test.YtfmifaneggenoaaDoorMSymM
namespace Go.Proofs.YtfmifaneggenoaaDoor
set_option linter.unusedVariables false
open Go.RowKit

def AllB (s n : Nat) (l : List ByteArray) : Prop := ∀ u, UpS (u * s) (min (u * s + s) n) l
structure MidB (s n t : Nat) (l : List ByteArray) : Prop where
  lo : ∀ u, u < t → UpS (u * (2 * s)) (u * (2 * s) + 2 * s) l
  hi : ∀ u, 2 * t ≤ u → UpS (u * s) (min (u * s + s) n) l
theorem two_mul_at (t s : Nat) : 2 * t * s = t * (2 * s) := by rw [Nat.mul_comm 2 t, Nat.mul_assoc]
theorem MidB.start {s n : Nat} {l : List ByteArray} (h : AllB s n l) : MidB s n 0 l := ⟨fun u hu => by omega, fun u _ => h u⟩
theorem MidB.pre {s n t : Nat} {l : List ByteArray} (h : MidB s n t l) : UpS (t * (2 * s)) (min (t * (2 * s) + s) n) l ∧ UpS (t * (2 * s) + s) (min (t * (2 * s) + 2 * s) n) l := by
  have h1 := h.hi (2 * t) (by omega)
  have h2 := h.hi (2 * t + 1) (by omega)
  rw [Nat.add_mul, Nat.one_mul, two_mul_at] at h2
  rw [two_mul_at] at h1
  refine ⟨h1, ?_⟩
  rwa [show t * (2 * s) + s + s = t * (2 * s) + 2 * s by omega] at h2
theorem lt_block {u t d : Nat} (h : u < t) : u * d + d ≤ t * d := by
  have := Nat.mul_le_mul_right d (show u + 1 ≤ t from h)
  rwa [Nat.add_mul, Nat.one_mul] at this
theorem MidB.step {s n t : Nat} {l l' : List ByteArray} (h : MidB s n t l) (hm : Mv (t * (2 * s)) (t * (2 * s) + 2 * s) l l') (hu : UpS (t * (2 * s)) (t * (2 * s) + 2 * s) l') : MidB s n (t + 1) l' := by
  refine ⟨fun u hut => ?_, fun u hut => ?_⟩
  · rcases Nat.lt_or_eq_of_le (Nat.le_of_lt_succ hut) with k | k
    · exact (h.lo u k).keep hm (.inl (lt_block k))
    · rw [k]; exact hu
  · refine (h.hi u (by omega)).keep hm (.inr ?_)
    have := Nat.mul_le_mul_right s (show 2 * (t + 1) ≤ u from hut)
    rw [two_mul_at, Nat.add_mul, Nat.one_mul] at this
    exact this
theorem MidB.last {s n t : Nat} {l l' : List ByteArray} (h : MidB s n t l) (hn : n < t * (2 * s) + 2 * s) (hn2 : t * (2 * s) ≤ n) (hm : Mv (t * (2 * s)) n l l') (hu : UpS (t * (2 * s)) n l') : AllB (2 * s) n l' := by
  intro u
  rcases Nat.lt_trichotomy u t with k | k | k
  · have h1 := lt_block (d := 2 * s) k
    exact ((h.lo u k).keep hm (.inl h1)).sub (Nat.le_refl _) (Nat.min_le_left _ _)
  · rw [k]; exact hu.sub (Nat.le_refl _) (Nat.min_le_right _ _)
  · have h1 := lt_block (d := 2 * s) k
    exact .one _ _ (by have := Nat.min_le_right (u * (2 * s) + 2 * s) n; omega)
theorem AllB.done {s n : Nat} {l : List ByteArray} (h : AllB s n l) (hs : n ≤ s) : UpS 0 n l := by
  have h1 := h 0
  rw [Nat.zero_mul, Nat.zero_add, Nat.min_eq_right hs] at h1
  exact h1
/-- The first blocks, of twenty names. -/
def FstB (t : Nat) (l : List ByteArray) : Prop := ∀ u, u < t → UpS (u * 20) (u * 20 + 20) l
theorem FstB.step {t : Nat} {l l' : List ByteArray} (h : FstB t l) (hm : Mv (t * 20) (t * 20 + 20) l l') (hu : UpS (t * 20) (t * 20 + 20) l') : FstB (t + 1) l' := by
  intro u hut
  rcases Nat.lt_or_eq_of_le (Nat.le_of_lt_succ hut) with k | k
  · exact (h u k).keep hm (.inl (lt_block k))
  · rw [k]; exact hu
theorem FstB.last {t n : Nat} {l l' : List ByteArray} (h : FstB t l) (hn : n < t * 20 + 20) (hm : Mv (t * 20) n l l') (hu : UpS (t * 20) n l') : AllB 20 n l' := by
  intro u
  rcases Nat.lt_trichotomy u t with k | k | k
  · exact ((h u k).keep hm (.inl (lt_block k))).sub (Nat.le_refl _) (Nat.min_le_left _ _)
  · rw [k]; exact hu.sub (Nat.le_refl _) (Nat.min_le_right _ _)
  · have h1 := lt_block (d := 20) k
    exact .one _ _ (by have := Nat.min_le_right (u * 20 + 20) n; omega)

/-! ### Names in order -/
def sortL (l : List ByteArray) : List ByteArray := l.mergeSort fun a b => decide (ordT (toB a) (toB b) ≤ 0)
theorem sortL_perm (l : List ByteArray) : (sortL l).Perm l := List.mergeSort_perm _ _
theorem sortL_up (l : List ByteArray) : (sortL l).Pairwise nle := by
  have h := List.pairwise_mergeSort (le := fun a b : ByteArray => decide (ordT (toB a) (toB b) ≤ 0))
    (fun a b c h1 h2 => by
      simp only [decide_eq_true_eq] at h1 h2 ⊢
      exact ordT_trans h1 h2)
    (fun a b => by
      have := ordT_neg (toB a) (toB b)
      simp only [Bool.or_eq_true, decide_eq_true_eq]
      omega) l
  exact h.imp fun h => by simpa [nle] using h
theorem sortL_of {l ys : List ByteArray} (hp : ys.Perm l) (hu : ys.Pairwise nle) : ys = sortL l := nle_perm (hp.trans (sortL_perm l).symm) hu (sortL_up l)
theorem sortL_len (l : List ByteArray) : (sortL l).length = l.length := (sortL_perm l).length_eq
theorem UpS.pw {ys : List ByteArray} (h : UpS 0 ys.length ys) : ys.Pairwise nle := by
  rw [List.pairwise_iff_getElem]
  intro p q hp hq hpq
  exact h p q _ _ (Nat.zero_le _) hpq hq (List.getElem?_eq_getElem hp) (List.getElem?_eq_getElem hq)
/-- a name put into its place -/
theorem ins_up {o : List ByteArray} {x : ByteArray} {k : Nat} (ho : o.Pairwise nle) (h1 : ∀ p y, p < k → o[p]? = some y → nle y x) (h2 : ∀ p y, k ≤ p → o[p]? = some y → nle x y) : (o.take k ++ x :: o.drop k).Pairwise nle := by
  rw [List.pairwise_append]
  refine ⟨ho.sublist (List.take_sublist _ _), ?_, ?_⟩
  · rw [List.pairwise_cons]
    refine ⟨fun y hy => ?_, ho.sublist (List.drop_sublist _ _)⟩
    obtain ⟨p, hp⟩ := List.mem_iff_getElem?.1 hy
    rw [List.getElem?_drop] at hp
    exact h2 _ y (by omega) hp
  · intro y hy z hz
    obtain ⟨p, hp⟩ := List.mem_iff_getElem?.1 hy
    rw [List.getElem?_take] at hp
    split at hp
    · rename_i hpk
      have k1 := h1 p y hpk hp
      rcases List.mem_cons.1 hz with rfl | hz
      · exact k1
      · obtain ⟨q, hq⟩ := List.mem_iff_getElem?.1 hz
        rw [List.getElem?_drop] at hq
        exact nle_trans k1 (h2 _ z (by omega) hq)
    · cases hp
theorem ins_perm (o : List ByteArray) (x : ByteArray) (k : Nat) : (o.take k ++ x :: o.drop k).Perm (o ++ [x]) := by
  have h1 : (o.take k ++ x :: o.drop k).Perm (x :: (o.take k ++ o.drop k)) := List.perm_middle
  rw [List.take_append_drop] at h1
  exact h1.trans (List.perm_append_singleton x o).symm
end Go.Proofs.YtfmifaneggenoaaDoor
