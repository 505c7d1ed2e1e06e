/-
  Names: folded signs, right names, keys, and the order of names. No program in sight.
-/
import Derived.Test.YtfmifaneggenoaaDoorMText
import Derived.Test.YtfmifaneggenoaaDoorMApart
import Derived.Test.YtfmifaneggenoaaDoorTaken
import Derived.Test.YtfmifaneggenoaaDoorMKn
namespace Go.Proofs.YtfmifaneggenoaaDoor
open Go.RowKit

def InZ (x : Int) : Prop := -9223372036854775808 ≤ x ∧ x ≤ 9223372036854775807
theorem mem_insF {x y : Int} : ∀ {l : List Int}, y ∈ insF x l ↔ y = x ∨ y ∈ l
  | [] => by simp [insF]
  | z :: l => by
    rw [insF]
    split
    · rw [List.mem_cons, mem_insF, List.mem_cons]
      constructor
      · rintro (h | h | h) <;> simp [h]
      · rintro (h | h | h) <;> simp [h]
    · simp
theorem mem_ins {o : List Int} {x y : Int} : y ∈ ins o x ↔ y = x ∨ y ∈ o := by
  rw [ins]
  split
  · rw [List.mem_reverse, mem_insF, List.mem_reverse]
  · rw [List.mem_append, List.mem_singleton]; exact Or.comm
theorem mem_foldl_ins {y : Int} : ∀ {l o : List Int}, y ∈ l.foldl ins o ↔ y ∈ o ∨ y ∈ l
  | [], o => by simp
  | x :: l, o => by
    rw [List.foldl_cons, mem_foldl_ins, mem_ins, List.mem_cons]
    constructor
    · rintro ((h | h) | h) <;> simp [h]
    · rintro (h | h | h) <;> simp [h]
theorem takeF_in : ∀ (n : Nat) (c : Int), InZ c → ∀ x ∈ takeF n c, InZ x
  | 0, c, h, x, hx => by simp only [takeF, List.mem_singleton] at hx; subst hx; exact h
  | n + 1, c, h, x, hx => by
    rw [takeF] at hx
    split at hx
    · simp only [List.mem_singleton] at hx; subst hx; exact h
    · rw [List.mem_flatMap] at hx
      obtain ⟨y, hy, hx⟩ := hx
      exact takeF_in n y (parts_in y hy) x hx
theorem apart_in {l : List Int} (h : ∀ x ∈ l, InZ x) : ∀ x ∈ apartL l, InZ x := by
  intro x hx
  rw [apartL, mem_foldl_ins, List.mem_flatMap] at hx
  rcases hx with hx | ⟨y, hy, hx⟩
  · simp at hx
  · exact takeF_in 3 y (h y hy) x hx

def foldF (c : Int) : List Int :=
  if inB c 65 90 || inB c 913 929 || inB c 931 937 || inB c 1040 1071 || (c == 198 || c == 208 || c == 216 || c == 222) then [c + 32] else if c = 223 then [115, 115] else if c = 962 then [963] else [c]
def foldL (l : List Int) : List Int := l.flatMap foldF
theorem foldF_yes {c : Int} (h : (inB c 65 90 || inB c 913 929 || inB c 931 937 || inB c 1040 1071 || (c == 198 || c == 208 || c == 216 || c == 222)) = true) : foldF c = [c + 32] := by rw [foldF, if_pos h]
theorem foldF_no {c : Int} (h : (inB c 65 90 || inB c 913 929 || inB c 931 937 || inB c 1040 1071 || (c == 198 || c == 208 || c == 216 || c == 222)) = false) : foldF c = if c = 223 then [115, 115] else if c = 962 then [963] else [c] := by rw [foldF, if_neg (by rw [h]; simp)]
theorem foldF_top {c : Int} (h : (inB c 65 90 || inB c 913 929 || inB c 931 937 || inB c 1040 1071 || (c == 198 || c == 208 || c == 216 || c == 222)) = true) : 0 ≤ c ∧ c ≤ 1071 := by
  simp only [Bool.or_eq_true, inB_iff, beq_iff_eq] at h
  omega
theorem foldF_in {c : Int} (hc : InZ c) : ∀ x ∈ foldF c, InZ x := by
  rcases (show (inB c 65 90 || inB c 913 929 || inB c 931 937 || inB c 1040 1071 || (c == 198 || c == 208 || c == 216 || c == 222)) = true ∨ (inB c 65 90 || inB c 913 929 || inB c 931 937 || inB c 1040 1071 || (c == 198 || c == 208 || c == 216 || c == 222)) = false by cases (inB c 65 90 || inB c 913 929 || inB c 931 937 || inB c 1040 1071 || (c == 198 || c == 208 || c == 216 || c == 222)) <;> simp) with h | h
  · have h2 := foldF_top h
    rw [foldF_yes h]
    intro x hx
    rw [List.mem_singleton.1 hx]
    exact ⟨by omega, by omega⟩
  · rw [foldF_no h]
    split
    · simp [InZ]
    · split
      · simp [InZ]
      · simpa using hc
theorem foldF_len (c : Int) : (foldF c).length ≤ 2 := by
  rw [foldF]; split
  · simp
  · split
    · simp
    · split <;> simp
theorem foldL_len (l : List Int) : (foldL l).length ≤ l.length * 2 := flat_le foldF_len l
theorem fold_in {l : List Int} (h : ∀ x ∈ l, InZ x) : ∀ x ∈ foldL l, InZ x := by
  intro x hx
  rw [foldL, List.mem_flatMap] at hx
  obtain ⟨y, hy, hx⟩ := hx
  exact foldF_in (h y hy) x hx

/-- Is a text a right name? -/
def nameB (s : List UInt8) : Bool := (((inB (s.length : Int) 1 24 && !decide (s = [46])) && !decide (s = [46, 46])) && (decR s).2) && (decR s).1.all knownS
theorem nameB_len {s : List UInt8} (h : nameB s = true) : 1 ≤ s.length ∧ s.length ≤ 24 := by
  simp only [nameB, Bool.and_eq_true, inB_iff] at h
  have := h.1.1.1.1
  omega
def keysL (l : List Int) : List Int := apartL (foldL (apartL l))
theorem sgn_in {l : List Int} (h : ∀ x ∈ l, sgnB x = true) : ∀ x ∈ l, InZ x := fun x hx => by
  have := sgn_bounds (h x hx)
  exact ⟨by omega, by omega⟩
def keyR (s : List UInt8) : List UInt8 × Bool := if nameB s = true then (encL (keysL (decR s).1), true) else ([], false)
theorem keyR_no {s : List UInt8} (h : nameB s = false) : keyR s = ([], false) := by rw [keyR, if_neg (by rw [h]; simp)]
theorem keyR_yes {s : List UInt8} (h : nameB s = true) : keyR s = (encL (keysL (decR s).1), true) := by rw [keyR, if_pos h]
theorem keyR_len (s : List UInt8) : (keyR s).1.length ≤ 300000 := by
  rw [keyR]
  split
  · rename_i h
    have h1 := (decR_good s).1
    have h2 := nameB_len h
    have h3 := apart_len (decR s).1
    have h4 := foldL_len (apartL (decR s).1)
    have h5 := apart_len (foldL (apartL (decR s).1))
    have h6 := encL_le (keysL (decR s).1)
    simp only [keysL] at h6 ⊢
    omega
  · simp
def keyS (s : List UInt8) : List UInt8 := if (keyR s).2 = true then (keyR s).1 else s
/-- -1, 0 or 1. -/
def cmpT (a b : List UInt8) : Int := if Op.bytesLess a b = true then -1 else if a = b then 0 else 1
def ordT (a b : List UInt8) : Int := if cmpT (keyS a) (keyS b) ≠ 0 then cmpT (keyS a) (keyS b) else cmpT a b
end Go.Proofs.YtfmifaneggenoaaDoor
