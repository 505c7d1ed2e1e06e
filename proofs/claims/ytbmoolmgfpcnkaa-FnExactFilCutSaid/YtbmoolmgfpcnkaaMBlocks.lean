/-
  The blocks of a file, rising: each once. Plain Lean.
-/
import Derived.Test.YtbmoolmgfpcnkaaMFlat
import Derived.Test.YtbmoolmgfpcnkaaSort
namespace Go.Proofs.Ytbmoolmgfpcnkaa

def blocksOfL (l : List (Int × Int × Int)) : List Int := if eOk l then ((List.range 24).filter fun b : Nat => (flatL l).contains (b : Int)).map (fun b : Nat => (b : Int)) else []
def blocksTo (l : List (Int × Int × Int)) (k : Nat) : List Int := ((List.range k).filter fun b : Nat => (flatL l).contains (b : Int)).map (fun b : Nat => (b : Int))
theorem blocksTo_succ (l : List (Int × Int × Int)) (k : Nat) : blocksTo l (k + 1) = if (flatL l).contains (k : Int) then blocksTo l k ++ [(k : Int)] else blocksTo l k := by
  unfold blocksTo
  rw [List.range_succ, List.filter_append, List.map_append]
  by_cases h : (flatL l).contains (k : Int) = true
  · rw [if_pos h]; simp only [List.filter_cons, h, if_true, List.filter_nil, List.map_cons, List.map_nil]
  · rw [if_neg h]; simp only [List.filter_cons, h, List.filter_nil]; simp
theorem blocksTo_len (l : List (Int × Int × Int)) (k : Nat) : (blocksTo l k).length ≤ k := by
  unfold blocksTo
  rw [List.length_map]
  exact Nat.le_trans (List.length_filter_le _ _) (by simp)
theorem blocksOfL_len (l : List (Int × Int × Int)) : (blocksOfL l).length ≤ 24 := by
  unfold blocksOfL
  split
  · exact blocksTo_len l 24
  · simp

theorem putE_at {e : Int × Int × Int} {m : List Int} (h0 : 0 ≤ e.1) : ∀ (j i : Nat) (x : Int), (putE e m j)[i]? = some x → m[i]? = some x ∨ (e.1 ≤ i ∧ (i : Int) < e.1 + j ∧ x = e.2.1 + (i - e.1))
  | 0, i, x, h => .inl h
  | j + 1, i, x, h => by
    rw [putE, List.getElem?_set] at h
    split at h
    · rename_i hi
      split at h
      · injection h with h
        right
        omega
      · cases h
    · rcases putE_at h0 j i x h with h1 | h1
      · exact .inl h1
      · right; omega
theorem flatTo_from {l : List (Int × Int × Int)} (hr : ∀ e ∈ l, eRange e = true) : ∀ (k i : Nat) (x : Int), k ≤ l.length → (flatTo l k)[i]? = some x → x = -1 ∨ ∃ q e, q < k ∧ l[q]? = some e ∧ e.1 ≤ i ∧ (i : Int) < e.1 + e.2.2 ∧ x = e.2.1 + (i - e.1)
  | 0, i, x, _, h => by
    left
    rw [flatTo, List.take_zero, List.foldl_nil, List.getElem?_replicate] at h
    split at h
    · injection h with h; exact h.symm
    · cases h
  | k + 1, i, x, hk, h => by
    obtain ⟨e, he⟩ := some_at (l := l) rfl (show k < l.length by omega)
    have hre := eRange_iff.1 (hr e (List.mem_of_getElem? he))
    rw [flatTo_succ he] at h
    rcases putE_at (by omega) _ _ _ h with h1 | ⟨h1, h2, h3⟩
    · rcases flatTo_from hr k i x (by omega) h1 with h4 | ⟨q, e', h4, h5⟩
      · exact .inl h4
      · exact .inr ⟨q, e', by omega, h5⟩
    · exact .inr ⟨k, e, by omega, he, h1, by omega, h3⟩
theorem eOk_apart {l : List (Int × Int × Int)} (h : eOk l = true) {q q' : Nat} {e e' : Int × Int × Int} (he : l[q]? = some e) (he' : l[q']? = some e') (hlt : q < q') {b : Nat} (hb : b < 24) (h1 : inE e b = true) (h2 : inE e' b = true) : False := by
  have hq := (List.getElem?_eq_some_iff.1 he').1
  have ha : eAt l q' = true := by
    simp only [eOk, List.all_eq_true, List.mem_range] at h
    exact h q' hq
  have hu : usedBy l q' b = true := by
    rw [usedBy, List.any_eq_true]
    refine ⟨e, ?_, h1⟩
    rw [List.mem_iff_getElem?]
    exact ⟨q, by rw [List.getElem?_take, if_pos hlt, he]⟩
  rw [eAt_used he' hb h2 hu] at ha
  cases ha
theorem flat_once {l : List (Int × Int × Int)} (h : eOk l = true) {i j : Nat} {x : Int} (hi : (flatL l)[i]? = some x) (hj : (flatL l)[j]? = some x) (hx : 0 ≤ x) : i = j := by
  have hr := eOk_ranges h
  rw [← flatTo_all (Nat.le_refl _)] at hi hj
  rcases flatTo_from hr _ _ _ (Nat.le_refl _) hi with h1 | ⟨q, e, _, he, a1, a2, a3⟩
  · omega
  · rcases flatTo_from hr _ _ _ (Nat.le_refl _) hj with h1 | ⟨q', e', _, he', b1, b2, b3⟩
    · omega
    · have ee := eRange_iff.1 (hr e (List.mem_of_getElem? he))
      have ee' := eRange_iff.1 (hr e' (List.mem_of_getElem? he'))
      have hb : x.toNat < 24 := by omega
      have i1 : inE e x.toNat = true := inE_iff.2 (by omega)
      have i2 : inE e' x.toNat = true := inE_iff.2 (by omega)
      rcases Nat.lt_trichotomy q q' with h2 | h2 | h2
      · exact (eOk_apart h he he' h2 hb i1 i2).elim
      · subst h2
        rw [he] at he'
        injection he' with he'
        subst he'
        omega
      · exact (eOk_apart h he' he h2 hb i2 i1).elim
theorem cutTo_zero (m : List Int) (hl : m.length = 12) : ∀ i, i ≤ 12 → (cutTo m 0 i).2 = (m.take i).filter fun x => decide (0 ≤ x)
  | 0, _ => by simp [cutTo]
  | i + 1, hi => by
    obtain ⟨x, hx⟩ := some_at hl (show i < 12 by omega)
    have ih := cutTo_zero m hl i (by omega)
    have hg : m.getD i (-1) = x := by simp [List.getD_eq_getElem?_getD, hx]
    rw [List.take_add_one, hx, List.filter_append]
    simp only [cutTo, hg]
    by_cases h : 0 ≤ x
    · rw [if_pos ⟨by omega, h⟩]; simp [ih, h]
    · rw [if_neg (fun k => h k.2), ih]; simp [h]
theorem sorted_ext : ∀ {a b : List Int}, a.Pairwise (· < ·) → b.Pairwise (· < ·) → (∀ x, x ∈ a ↔ x ∈ b) → a = b
  | [], [], _, _, _ => rfl
  | [], y :: b, _, _, h => absurd ((h y).2 (by simp)) (by simp)
  | x :: a, [], _, _, h => absurd ((h x).1 (by simp)) (by simp)
  | x :: a, y :: b, ha, hb, h => by
    have ha' := List.pairwise_cons.1 ha
    have hb' := List.pairwise_cons.1 hb
    have hxy : x = y := by
      rcases List.mem_cons.1 ((h x).1 (by simp)) with h1 | h1
      · exact h1
      · rcases List.mem_cons.1 ((h y).2 (by simp)) with h2 | h2
        · exact h2.symm
        · have := hb'.1 x h1; have := ha'.1 y h2; omega
    subst hxy
    rw [sorted_ext ha'.2 hb'.2 fun z => ?_]
    constructor
    · intro hz
      have := ha'.1 z hz
      rcases List.mem_cons.1 ((h z).1 (by simp [hz])) with h1 | h1
      · omega
      · exact h1
    · intro hz
      have := hb'.1 z hz
      rcases List.mem_cons.1 ((h z).2 (by simp [hz])) with h1 | h1
      · omega
      · exact h1
theorem cutGone_zero {l : List (Int × Int × Int)} (h : eOk l = true) : cutGone l 0 = (flatL l).filter fun x => decide (0 ≤ x) := by
  rw [cutGone, if_pos h, cutTo_zero _ (flatL_len l) 12 (Nat.le_refl _), List.take_of_length_le (by rw [flatL_len]; omega)]
/-- Sorted, what CutAt hands back is the list of the reference. -/
theorem blocks_sorted {l : List (Int × Int × Int)} (h : eOk l = true) {ys : List Int} (hp : ys.Perm (cutGone l 0)) (hu : Ups (cutGone l 0).length ys) : ys = blocksOfL l := by
  have hb := flatL_ok (eOk_ranges h)
  have hm : ∀ x, x ∈ ys ↔ x ∈ flatL l ∧ 0 ≤ x := fun x => by rw [hp.mem_iff, cutGone_zero h, List.mem_filter]; simp
  have hnd : ys.Pairwise (· ≠ ·) := by
    rw [hp.pairwise_iff (fun h => Ne.symm h), cutGone_zero h, List.pairwise_filter, List.pairwise_iff_getElem]
    intro i j hi hj hij h1 _ he
    simp only [decide_eq_true_eq] at h1
    have := flat_once h (x := (flatL l)[i]) (List.getElem?_eq_getElem hi) (by rw [he]; exact List.getElem?_eq_getElem hj) h1
    omega
  have hs : ys.Pairwise (· < ·) := by
    rw [List.pairwise_iff_getElem] at hnd ⊢
    intro i j hi hj hij
    have h1 := hu i j _ _ hij (by rw [← hp.length_eq]; exact hj) (List.getElem?_eq_getElem hi) (List.getElem?_eq_getElem hj)
    have h2 := hnd i j hi hj hij
    omega
  have e : blocksOfL l = blocksTo l 24 := by rw [blocksOfL, if_pos h]; rfl
  rw [e]
  refine sorted_ext hs ?_ fun x => ?_
  · unfold blocksTo
    rw [List.pairwise_map]
    refine List.Pairwise.filter _ ?_
    exact List.pairwise_lt_range.imp fun h => by omega
  · rw [hm]
    unfold blocksTo
    simp only [List.mem_map, List.mem_filter, List.mem_range, List.contains_iff_mem]
    constructor
    · rintro ⟨h1, h2⟩
      have := hb x h1
      exact ⟨x.toNat, ⟨by omega, by rw [Int.toNat_of_nonneg h2]; exact h1⟩, Int.toNat_of_nonneg h2⟩
    · rintro ⟨b, ⟨_, h1⟩, rfl⟩
      exact ⟨h1, by omega⟩
end Go.Proofs.Ytbmoolmgfpcnkaa
