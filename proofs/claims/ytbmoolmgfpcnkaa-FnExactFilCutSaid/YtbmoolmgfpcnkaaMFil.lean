/-
  Files on blocks: when one is right, and its bytes; in plain Lean.
-/
import Derived.Test.YtbmoolmgfpcnkaaMFlat
import Derived.Test.YtbmoolmgfpcnkaaStoreOk
import Derived.Test.YtbmoolmgfpcnkaaStr
namespace Go.Proofs.Ytbmoolmgfpcnkaa
open Go.RowKit

def endsI (z : Int) : Int := (z + 3) / 4
/-- Nothing but noughts from byte k on. -/
def zeroFrom (s : ByteArray) (k : Nat) : Bool := decide ((toB s).drop k = zB (4 - k))
def blkOkAt (bits : List Bool) (data : List ByteArray) (z : Int) (i : Nat) (x : Int) : Bool :=
  decide (x < 0) || (decide ((i : Int) < endsI z) && bits.getD x.toNat false && zeroFrom (data.getD x.toNat default) (min 4 (z - 4 * i)).toNat)
def filRest (bits : List Bool) (data : List ByteArray) (z : Int) (m : List Int) : Bool := (List.range 12).all fun i => blkOkAt bits data z i (m.getD i (-1))
def filOk (bits : List Bool) (data : List ByteArray) (z : Int) (l : List (Int × Int × Int)) : Bool :=
  stOk bits data && inB z 0 48 && eOk l && filRest bits data z (flatL l)
theorem stOk_iff {bits : List Bool} {data : List ByteArray} : stOk bits data = true ↔ bits.length = 24 ∧ data.length = 24 ∧ ∀ s ∈ data, s.size = 4 := by
  simp [stOk, and_assoc]
theorem filRest_no {bits : List Bool} {data : List ByteArray} {z : Int} {m : List Int} {i : Nat} {x : Int} (hi : i < 12) (hx : m[i]? = some x) (h : blkOkAt bits data z i x = false) : filRest bits data z m = false := by
  rw [filRest, List.all_eq_false]
  exact ⟨i, List.mem_range.2 hi, by simp [List.getD_eq_getElem?_getD, hx, h]⟩
theorem filRest_yes {bits : List Bool} {data : List ByteArray} {z : Int} {m : List Int} {k : Nat} (hk : 12 ≤ k) (h : ∀ i, i < k → blkOkAt bits data z i (m.getD i (-1)) = true) : filRest bits data z m = true := by
  rw [filRest, List.all_eq_true]
  intro i hi
  exact h i (by have := List.mem_range.1 hi; omega)
theorem zeroFrom_cmp {s : ByteArray} (h : s.size = 4) (k : Nat) : ((s.extract k s.size).toList == (ofB (zB (4 - k))).toList) = zeroFrom s k := by
  rw [cmpB, toB_extract, toB_ofB, zeroFrom, List.take_of_length_le (by rw [List.length_drop, toB_len, h]; omega)]
theorem zeroFrom_four {s : ByteArray} (h : s.size = 4) {k : Nat} (hk : 4 ≤ k) : zeroFrom s k = true := by
  rw [zeroFrom, List.drop_of_length_le (by rw [toB_len]; omega), show 4 - k = 0 from by omega]; simp [zB]
/-- What the reference asks of the last block alone. -/
theorem filRest_spec {bits : List Bool} {data : List ByteArray} {z : Int} {m : List Int} (hd : ∀ s ∈ data, s.size = 4) (hl : data.length = 24) (hz : 0 ≤ z) (hm : BlkOk m) (hml : m.length = 12)
    (h : ∀ i, i < 12 → m.getD i (-1) < 0 ∨ ((i : Int) < endsI z ∧ bits.getD (m.getD i (-1)).toNat false = true)) :
    filRest bits data z m = (decide (z % 4 = 0) || decide (m.getD (endsI z - 1).toNat (-1) < 0) || zeroFrom (data.getD (m.getD (endsI z - 1).toNat (-1)).toNat default) (z % 4).toNat) := by
  have key : ∀ i, i < 12 → blkOkAt bits data z i (m.getD i (-1)) = (decide (z % 4 = 0) || decide ((i : Int) ≠ endsI z - 1) || decide (m.getD i (-1) < 0) || zeroFrom (data.getD (m.getD i (-1)).toNat default) (z % 4).toNat) := by
    intro i hi
    have hx : m.getD i (-1) ≤ 23 := by
      rw [List.getD_eq_getElem?_getD, List.getElem?_eq_getElem (by omega), Option.getD_some]
      exact (hm _ (List.getElem_mem _)).2
    rcases h i hi with h1 | ⟨h1, h2⟩
    · simp only [blkOkAt, h1, decide_true, Bool.true_or, Bool.or_true]
    · by_cases hn : m.getD i (-1) < 0
      · simp only [blkOkAt, hn, decide_true, Bool.true_or, Bool.or_true]
      · have hs : (data.getD (m.getD i (-1)).toNat default).size = 4 := by
          rw [List.getD_eq_getElem?_getD, List.getElem?_eq_getElem (l := data) (by omega), Option.getD_some]
          exact hd _ (List.getElem_mem _)
        simp only [blkOkAt, hn, h1, h2, decide_true, decide_false, Bool.true_and, Bool.false_or, Bool.or_false]
        unfold endsI at h1 ⊢
        by_cases h4 : z % 4 = 0
        · rw [zeroFrom_four hs (by omega)]; simp [h4]
        · by_cases he : (i : Int) = (z + 3) / 4 - 1
          · rw [show (min 4 (z - 4 * (i : Int))).toNat = (z % 4).toNat from by omega]
            simp [h4, he]
          · rw [zeroFrom_four hs (by omega)]; simp [he]
  unfold filRest
  by_cases h4 : z % 4 = 0
  · simp only [h4, decide_true, Bool.true_or]
    rw [List.all_eq_true]
    intro i hi
    rw [key i (List.mem_range.1 hi)]
    simp [h4]
  · obtain ⟨e, he⟩ : ∃ e : Nat, (e : Int) = endsI z - 1 := ⟨(endsI z - 1).toNat, by unfold endsI; omega⟩
    have hte : (endsI z - 1).toNat = e := by omega
    rw [hte]
    by_cases he12 : e < 12
    · rw [Bool.eq_iff_iff, List.all_eq_true]
      constructor
      · intro ha
        have := ha e (List.mem_range.2 he12)
        rw [key e he12] at this
        simpa [h4, he] using this
      · intro hr i hi
        rw [key i (List.mem_range.1 hi)]
        by_cases hie : (i : Int) = endsI z - 1
        · have : i = e := by omega
          subst this
          simpa [h4, he] using hr
        · simp [hie]
    · have hn : m.getD e (-1) = -1 := by rw [List.getD_eq_getElem?_getD, List.getElem?_eq_none (by omega)]; rfl
      rw [hn]
      simp only [show decide ((-1 : Int) < 0) = true from rfl, Bool.or_true, Bool.true_or]
      rw [List.all_eq_true]
      intro i hi
      rw [key i (List.mem_range.1 hi)]
      have hi' := List.mem_range.1 hi
      have : (i : Int) ≠ endsI z - 1 := by omega
      simp [this]

/-- The bytes of a block of a file; all bytes. -/
def blkB (data : List ByteArray) (x : Int) : List UInt8 := if x < 0 then zB 4 else toB (data.getD x.toNat default)
def bytesTo (data : List ByteArray) (m : List Int) (k : Nat) : List UInt8 := ((m.take k).map (blkB data)).flatten
def wholeL (data : List ByteArray) (m : List Int) (z : Int) : List UInt8 := (bytesTo data m 12).take z.toNat
theorem bytesTo_succ {data : List ByteArray} {m : List Int} {k : Nat} {x : Int} (h : m[k]? = some x) : bytesTo data m (k + 1) = bytesTo data m k ++ blkB data x := by
  simp [bytesTo, List.take_add_one, h]
theorem blkB_len {data : List ByteArray} {x : Int} (hd : ∀ s ∈ data, s.size = 4) (hl : data.length = 24) (hx : x ≤ 23) : (blkB data x).length = 4 := by
  unfold blkB
  split
  · simp [zB]
  · rw [toB_len, List.getD_eq_getElem?_getD, List.getElem?_eq_getElem (by omega), Option.getD_some]
    exact hd _ (List.getElem_mem _)
theorem bytesTo_len {data : List ByteArray} {m : List Int} (hd : ∀ s ∈ data, s.size = 4) (hl : data.length = 24) (hm : BlkOk m) (hml : m.length = 12) : ∀ k, k ≤ 12 → (bytesTo data m k).length = 4 * k
  | 0, _ => by simp [bytesTo]
  | k + 1, hk => by
    obtain ⟨x, hx⟩ := some_at hml (show k < 12 by omega)
    rw [bytesTo_succ hx, List.length_append, bytesTo_len hd hl hm hml k (by omega), blkB_len hd hl (hm x (List.mem_of_getElem? hx)).2]
    omega
end Go.Proofs.Ytbmoolmgfpcnkaa
