/-
  Two lists of ranges, one behind the other by their beginnings: in plain Lean.
-/
import Derived.Test.YtbhnlfpcodeloaaMMerge
namespace Go.Proofs.Ytbhnlfpcodeloaa

def mix : List (Int × Int) → List (Int × Int) → List (Int × Int)
  | [], b => b
  | x :: a, [] => x :: a
  | x :: a, y :: b => if x.1 ≤ y.1 then x :: mix a (y :: b) else y :: mix (x :: a) b
termination_by a b => a.length + b.length
def union (a b : List (Int × Int)) : List (Int × Int) := if rOk a && rOk b then mergeR (mix a b) else []

theorem mix_nil (a : List (Int × Int)) : mix a [] = a := by cases a <;> simp [mix]
theorem mix_len : ∀ (a b : List (Int × Int)), (mix a b).length = a.length + b.length
  | [], b => by simp [mix]
  | x :: a, [] => by simp [mix]
  | x :: a, y :: b => by
    rw [mix]
    split
    · simp only [List.length_cons, mix_len a (y :: b)]; omega
    · simp only [List.length_cons, mix_len (x :: a) b]; omega
termination_by a b => a.length + b.length
theorem mix_mem {P : Int × Int → Prop} : ∀ (a b : List (Int × Int)), (∀ x ∈ a, P x) → (∀ x ∈ b, P x) → ∀ x ∈ mix a b, P x
  | [], b, _, hb => by simpa [mix] using hb
  | x :: a, [], ha, _ => by simpa [mix] using ha
  | x :: a, y :: b, ha, hb => by
    rw [mix]
    split
    · intro z hz
      rcases List.mem_cons.1 hz with rfl | hz
      · exact ha _ (by simp)
      · exact mix_mem a (y :: b) (fun u hu => ha u (by simp [hu])) hb z hz
    · intro z hz
      rcases List.mem_cons.1 hz with rfl | hz
      · exact hb _ (by simp)
      · exact mix_mem (x :: a) b ha (fun u hu => hb u (by simp [hu])) z hz
termination_by a b => a.length + b.length
theorem drop_at {l : List (Int × Int)} {k : Nat} {x : Int × Int} (h : l[k]? = some x) : l.drop k = x :: l.drop (k + 1) := by
  obtain ⟨hk, rfl⟩ := List.getElem?_eq_some_iff.1 h
  exact List.drop_eq_getElem_cons hk
/-- What is mixed so far: the rest is mixed behind it. -/
def Mixed (a b : List (Int × Int)) (i k : Nat) (o : List (Int × Int)) : Prop := mix a b = o ++ mix (a.drop i) (b.drop k)
theorem Mixed.start (a b : List (Int × Int)) : Mixed a b 0 0 [] := by simp [Mixed]
theorem Mixed.left {a b o : List (Int × Int)} {i k : Nat} {x : Int × Int} (h : Mixed a b i k o) (hx : a[i]? = some x) (hb : b.length ≤ k ∨ ∃ y, b[k]? = some y ∧ x.1 ≤ y.1) : Mixed a b (i + 1) k (o ++ [x]) := by
  unfold Mixed at *
  rw [h, drop_at hx]
  rcases hb with hb | ⟨y, hy, hle⟩
  · rw [List.drop_of_length_le hb, mix_nil, mix_nil]; simp
  · rw [drop_at hy, mix, if_pos hle]; simp
theorem Mixed.right {a b o : List (Int × Int)} {i k : Nat} {y : Int × Int} (h : Mixed a b i k o) (hy : b[k]? = some y) (ha : a.length ≤ i ∨ ∃ x, a[i]? = some x ∧ ¬ x.1 ≤ y.1) : Mixed a b i (k + 1) (o ++ [y]) := by
  unfold Mixed at *
  rw [h, drop_at hy]
  rcases ha with ha | ⟨x, hx, hle⟩
  · rw [List.drop_of_length_le ha]; simp [mix]
  · rw [drop_at hx, mix, if_neg hle]; simp
theorem Mixed.done {a b o : List (Int × Int)} {i k : Nat} (h : Mixed a b i k o) (hi : a.length ≤ i) (hk : b.length ≤ k) : o = mix a b := by
  unfold Mixed at h
  rw [h, List.drop_of_length_le hi, List.drop_of_length_le hk]
  simp [mix]
theorem Mixed.sub {a b o : List (Int × Int)} {i k : Nat} (h : Mixed a b i k o) {P : Int × Int → Prop} (ha : ∀ x ∈ a, P x) (hb : ∀ x ∈ b, P x) : ∀ x ∈ o, P x := by
  intro x hx
  exact mix_mem a b ha hb x (by rw [h]; simp [hx])
theorem Mixed.len {a b o : List (Int × Int)} {i k : Nat} (h : Mixed a b i k o) : o.length ≤ a.length + b.length := by
  have := mix_len a b
  rw [h] at this
  simp only [List.length_append] at this
  omega
theorem union_len (a b : List (Int × Int)) : (union a b).length ≤ a.length + b.length := by
  unfold union
  split
  · have := merge_len (l := mix a b) (o := [])
    have h2 := mix_len a b
    simp only [mergeR, List.length_nil, Nat.zero_add] at *
    omega
  · simp
end Go.Proofs.Ytbhnlfpcodeloaa
