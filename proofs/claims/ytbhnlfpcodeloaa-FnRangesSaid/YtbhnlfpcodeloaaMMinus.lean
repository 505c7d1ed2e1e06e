/-
  What is left of one list of ranges without the other one: in plain Lean.
-/
import Derived.Test.YtbhnlfpcodeloaaMRangesOk
namespace Go.Proofs.Ytbhnlfpcodeloaa
open Go.RowKit

def mStep (t : Int) (s : List (Int × Int) × Int) (x : Int × Int) : List (Int × Int) × Int :=
  if x.2 < s.2 ∨ t < x.1 then s else (if s.2 < x.1 then s.1 ++ [(s.2, x.1 - 1)] else s.1, x.2 + 1)
/-- The state of the inner loop ahead of round j. -/
def mSt (b : List (Int × Int)) (t : Int) (o : List (Int × Int)) (f : Int) (j : Nat) : List (Int × Int) × Int := (b.take j).foldl (mStep t) (o, f)
def mEnd (s : List (Int × Int) × Int) (t : Int) : List (Int × Int) := if s.2 ≤ t then s.1 ++ [(s.2, t)] else s.1
def mRow (b o : List (Int × Int)) (r : Int × Int) : List (Int × Int) := mEnd (mSt b r.2 o r.1 b.length) r.2
def minusTo (a b : List (Int × Int)) (k : Nat) : List (Int × Int) := (a.take k).foldl (mRow b) []
def minus (a b : List (Int × Int)) : List (Int × Int) := if rOk a && rOk b then minusTo a b a.length else []

theorem rOk_in {l : List (Int × Int)} (h : rOk l = true) {k : Nat} {a b : Int} (hx : l[k]? = some (a, b)) : 0 ≤ a ∧ a ≤ b ∧ b ≤ 1114111 := by
  have hk : k < l.length := (List.getElem?_eq_some_iff.1 hx).1
  have h1 : rAt l k = true := by
    simp only [rOk, List.all_eq_true, List.mem_range] at h
    exact h k hk
  simp only [rAt, List.getD, hx, Option.getD_some, Bool.and_eq_true, inB_iff] at h1
  omega
theorem rOk_next {l : List (Int × Int)} (h : rOk l = true) {k : Nat} {a b a' b' : Int} (hx : l[k]? = some (a, b)) (hx' : l[k + 1]? = some (a', b')) : b + 1 < a' := by
  have hk : k + 1 < l.length := (List.getElem?_eq_some_iff.1 hx').1
  have h1 : rAt l (k + 1) = true := by
    simp only [rOk, List.all_eq_true, List.mem_range] at h
    exact h _ hk
  rw [rAt_succ hx' hx] at h1
  simp only [Bool.and_eq_true, Bool.not_eq_true', decide_eq_false_iff_not] at h1
  omega

theorem mSt_succ {b : List (Int × Int)} {j : Nat} {x : Int × Int} (hx : b[j]? = some x) (t : Int) (o : List (Int × Int)) (f : Int) : mSt b t o f (j + 1) = mStep t (mSt b t o f j) x := by
  simp [mSt, List.take_add_one, hx]
theorem mSt_inv {b : List (Int × Int)} (hb : rOk b = true) {o : List (Int × Int)} {f t : Int} (h0 : 0 ≤ f) (h1 : f ≤ t) (h2 : t ≤ 1114111) (h3 : (o.length : Int) ≤ f) :
    ∀ j, j ≤ b.length → 0 ≤ (mSt b t o f j).2 ∧ (mSt b t o f j).2 ≤ 1114112 ∧ ((mSt b t o f j).1.length : Int) ≤ (mSt b t o f j).2 ∧ ((mSt b t o f j).1.length : Int) ≤ t + 1
  | 0, _ => by simp [mSt]; omega
  | j + 1, hj => by
    obtain ⟨⟨u, v⟩, hx⟩ := some_at (l := b) rfl (show j < b.length by omega)
    have ih := mSt_inv hb h0 h1 h2 h3 j (by omega)
    have hr := rOk_in hb hx
    rw [mSt_succ hx]
    generalize mSt b t o f j = s at ih ⊢
    obtain ⟨p, q⟩ := s
    simp only [mStep] at ih ⊢
    split
    · exact ih
    · split
      · simp only [List.length_append, List.length_cons, List.length_nil]; omega
      · simp only; omega
theorem mEnd_len {s : List (Int × Int) × Int} {t : Int} (h1 : (s.1.length : Int) ≤ s.2) (h2 : (s.1.length : Int) ≤ t + 1) : ((mEnd s t).length : Int) ≤ t + 1 := by
  unfold mEnd
  split
  · simp only [List.length_append, List.length_cons, List.length_nil]; omega
  · exact h2
theorem minusTo_succ {a b : List (Int × Int)} {k : Nat} {r : Int × Int} (hx : a[k]? = some r) : minusTo a b (k + 1) = mRow b (minusTo a b k) r := by
  simp [minusTo, List.take_add_one, hx]
theorem minusTo_inv {a b : List (Int × Int)} (ha : rOk a = true) (hb : rOk b = true) :
    ∀ k, k ≤ a.length → (minusTo a b k).length ≤ 1114112 ∧ ∀ f t, a[k]? = some (f, t) → ((minusTo a b k).length : Int) ≤ f
  | 0, _ => ⟨by simp [minusTo], fun f t hx => by have := rOk_in ha hx; simp [minusTo]; omega⟩
  | k + 1, hk => by
    obtain ⟨⟨u, v⟩, hx⟩ := some_at (l := a) rfl (show k < a.length by omega)
    have ih := (minusTo_inv ha hb k (by omega)).2 u v hx
    have hr := rOk_in ha hx
    have hi := mSt_inv hb hr.1 hr.2.1 hr.2.2 ih b.length (Nat.le_refl _)
    have he := mEnd_len hi.2.2.1 hi.2.2.2
    rw [minusTo_succ hx, mRow]
    refine ⟨by simp only at he ⊢; omega, fun f t hx' => ?_⟩
    have := rOk_next ha hx hx'
    simp only at he ⊢
    omega
theorem minus_len (a b : List (Int × Int)) : (minus a b).length ≤ 1114112 := by
  unfold minus
  split
  · rename_i h
    simp only [Bool.and_eq_true] at h
    exact (minusTo_inv h.1 h.2 _ (Nat.le_refl _)).1
  · simp
end Go.Proofs.Ytbhnlfpcodeloaa
