/-
  A file that is cut: what is left. Plain Lean.
-/
import Derived.Test.YtbmoolmgfpcnkaaFilStore
import Derived.Test.YtbmoolmgfpcnkaaMPut
namespace Go.Proofs.Ytbmoolmgfpcnkaa
open Go.RowKit

/-- Blocks given back. -/
def goneB (bits : List Bool) (gone : List Int) : List Bool := gone.foldl (fun bs b => bs.set b.toNat false) bits
theorem goneB_len (bits : List Bool) (gone : List Int) : (goneB bits gone).length = bits.length := by
  unfold goneB
  induction gone generalizing bits with
  | nil => rfl
  | cons b gone ih => rw [List.foldl_cons, ih, List.length_set]
theorem goneB_snoc (bits : List Bool) (gone : List Int) (b : Int) : goneB bits (gone ++ [b]) = (goneB bits gone).set b.toNat false := by simp [goneB, List.foldl_append]
theorem cutTo_gone {m : List Int} (hm : BlkOk m) (n : Int) : ∀ i, ∀ x ∈ (cutTo m n i).2, x ∈ m ∧ 0 ≤ x ∧ x ≤ 23
  | 0 => by simp [cutTo]
  | i + 1 => by
    have ih := cutTo_gone hm n i
    simp only [cutTo]
    split
    · rename_i h
      intro x hx
      rcases List.mem_append.1 hx with h1 | h1
      · exact ih x h1
      · rw [List.mem_singleton] at h1
        subst h1
        have h2 := List.mem_of_getElem? (getD_some (m := m) (i := i) rfl h.2)
        exact ⟨h2, h.2, (hm _ h2).2⟩
    · exact ih
theorem cutGone_in {l : List (Int × Int × Int)} (n : Int) : ∀ x ∈ cutGone l n, 0 ≤ x ∧ x ≤ 23 := by
  intro x hx
  unfold cutGone at hx
  split at hx
  · rename_i h
    exact (cutTo_gone (flatL_ok (eOk_ranges h)) n 12 x hx).2
  · cases hx
theorem blockAt_le {l : List (Int × Int × Int)} (i : Int) : blockAtL l i ≤ 23 := by
  unfold blockAtL
  split
  · rename_i h
    rw [Bool.and_eq_true] at h
    have h1 := flatL_ok (eOk_ranges h.1)
    have h2 := inB_iff.1 h.2
    obtain ⟨x, hx⟩ := some_at (flatL_len l) (show i.toNat < 12 by omega)
    have := h1 x (List.mem_of_getElem? hx)
    simp only [List.getD_eq_getElem?_getD, hx, Option.getD_some]
    omega
  · omega

def cutOk (bits : List Bool) (data : List ByteArray) (z : Int) (l : List (Int × Int × Int)) (size : Int) : Bool := filOk bits data z l && inB size 0 48
def cutLast (l : List (Int × Int × Int)) (size : Int) : Int := blockAtL (cutExts l (endsI size)) (size / 4)
def cutBits (bits : List Bool) (data : List ByteArray) (z : Int) (l : List (Int × Int × Int)) (size : Int) : List Bool := if cutOk bits data z l size then goneB bits (cutGone l (endsI size)) else bits
/-- The last block, filled up with noughts. -/
def cutBlk (data : List ByteArray) (b : Nat) (k : Nat) : List ByteArray := data.set b (intoS (data.getD b ⟨#[]⟩) k (ofB (zB (4 - k))))
def cutData (bits : List Bool) (data : List ByteArray) (z : Int) (l : List (Int × Int × Int)) (size : Int) : List ByteArray :=
  if cutOk bits data z l size && decide (0 < size % 4) && decide (0 ≤ cutLast l size) then cutBlk data (cutLast l size).toNat (size % 4).toNat else data
def cutZ (bits : List Bool) (data : List ByteArray) (z : Int) (l : List (Int × Int × Int)) (size : Int) : Int := if cutOk bits data z l size then size else z
def cutL (bits : List Bool) (data : List ByteArray) (z : Int) (l : List (Int × Int × Int)) (size : Int) : List (Int × Int × Int) := if cutOk bits data z l size then cutExts l (endsI size) else l
theorem cut_no {bits : List Bool} {data : List ByteArray} {z : Int} {l : List (Int × Int × Int)} {size : Int} (h : cutOk bits data z l size = false) :
    cutBits bits data z l size = bits ∧ cutData bits data z l size = data ∧ cutZ bits data z l size = z ∧ cutL bits data z l size = l ∧ cutOk bits data z l size = false := by
  simp [cutBits, cutData, cutZ, cutL, h]
theorem cut_yes {bits : List Bool} {data : List ByteArray} {z : Int} {l : List (Int × Int × Int)} {size : Int} {D : List ByteArray} (h : cutOk bits data z l size = true)
    (hD : (if decide (0 < size % 4) && decide (0 ≤ cutLast l size) then cutBlk data (cutLast l size).toNat (size % 4).toNat else data) = D) :
    cutBits bits data z l size = goneB bits (cutGone l (endsI size)) ∧ cutData bits data z l size = D ∧ cutZ bits data z l size = size ∧ cutL bits data z l size = cutExts l (endsI size) ∧ cutOk bits data z l size = true := by
  subst hD
  simp [cutBits, cutData, cutZ, cutL, h]
/-- A store, a file and a word come back. -/
def GaveSF (w : World) (n m : Nat) (bits : List Bool) (data : List ByteArray) (z : Int) (l : List (Int × Int × Int)) (ok : Bool) (e : Ending) (w' : World) : Prop := ∃ (A : Option Addr) (c : Nat) (B : Option Addr) (d : Nat) (E : Option Addr) (q r : Nat),
  e = .returned (.tuple #[.agg #[.slice A n c, .slice B m d], .agg #[.int .i64 z, .slice E q r], .bool ok]) ∧ l.length = q ∧
  Hp [] w w' [.row 4 1 (.slice A n c) n (bits.map Value.bool), .row 9 1 (.slice B m d) m (data.map Value.string), .row 92 3 (.slice E q r) q (l.flatMap cExt)]
theorem GaveSF.of {w w' : World} {n m : Nat} {bits bits' : List Bool} {data data' : List ByteArray} {z z' : Int} {l l' : List (Int × Int × Int)} {ok ok' : Bool} {e : Ending} (he : bits' = bits ∧ data' = data ∧ z' = z ∧ l' = l ∧ ok' = ok) (h : GaveSF w n m bits data z l ok e w') : GaveSF w n m bits' data' z' l' ok' e w' := by
  obtain ⟨rfl, rfl, rfl, rfl, rfl⟩ := he
  exact h
end Go.Proofs.Ytbmoolmgfpcnkaa
