/-
  Extents as lists: when they are right; no program in sight.
-/
import Derived.Test.YtbmoolmgfpcnkaaRangesOk
namespace Go.Proofs.Ytbmoolmgfpcnkaa
open Go.RowKit

/-- Is an extent (at, block, len) within a file and a store? -/
def eRange (e : Int × Int × Int) : Bool := inB e.2.2 1 12 && inB e.1 0 (12 - e.2.2) && inB e.2.1 0 (24 - e.2.2)
/-- Does it stand behind the one ahead, and not go on from it? -/
def eGap (p e : Int × Int × Int) : Bool := !(decide (e.1 < p.1 + p.2.2) || (decide (e.1 = p.1 + p.2.2) && decide (e.2.1 = p.2.1 + p.2.2)))
def inE (e : Int × Int × Int) (b : Nat) : Bool := decide (e.2.1 ≤ (b : Int)) && decide ((b : Int) < e.2.1 + e.2.2)
def usedBy (l : List (Int × Int × Int)) (i b : Nat) : Bool := (l.take i).any fun e => inE e b
def eAt (l : List (Int × Int × Int)) (i : Nat) : Bool :=
  eRange (l.getD i (0, 0, 0)) && (decide (i = 0) || eGap (l.getD (i - 1) (0, 0, 0)) (l.getD i (0, 0, 0))) && (List.range 24).all fun b => !(inE (l.getD i (0, 0, 0)) b && usedBy l i b)
def eOk (l : List (Int × Int × Int)) : Bool := (List.range l.length).all (eAt l)

section
variable {l : List (Int × Int × Int)} {i n : Nat} {e p : Int × Int × Int}
theorem eOk_yes (hl : l.length = n) (h : ∀ j, j < n → eAt l j = true) : eOk l = true := by
  subst hl
  simpa [eOk] using h
theorem eOk_no (hl : l.length = n) (hk : i < n) (h : eAt l i = false) : eOk l = false := by
  subst hl
  simp only [eOk, List.all_eq_false, List.mem_range]
  exact ⟨i, hk, by simp [h]⟩
theorem eAt_range (hx : l[i]? = some e) (h : eRange e = false) : eAt l i = false := by simp [eAt, hx, h]
theorem eAt_gap (hx : l[i + 1]? = some e) (hp : l[i]? = some p) (h : eGap p e = false) : eAt l (i + 1) = false := by simp [eAt, hx, hp, h]
theorem eAt_used {m : Nat} (hx : l[i]? = some e) (hm : m < 24) (hi : inE e m = true) (hu : usedBy l i m = true) : eAt l i = false := by
  have : ((List.range 24).all fun b => !(inE (l.getD i (0, 0, 0)) b && usedBy l i b)) = false := by
    rw [List.all_eq_false]
    exact ⟨m, List.mem_range.2 hm, by simp [hx, hi, hu]⟩
  rw [eAt, this, Bool.and_false]
theorem eAt_zero (hx : l[0]? = some e) (hr : eRange e = true) (hu : ∀ m, m < 24 → inE e m = true → usedBy l 0 m = false) : eAt l 0 = true := by
  have : ((List.range 24).all fun b => !(inE (l.getD 0 (0, 0, 0)) b && usedBy l 0 b)) = true := by
    rw [List.all_eq_true]
    intro m hm
    have h1 := hu m (List.mem_range.1 hm)
    cases h2 : inE e m with
    | false => simp [hx, h2]
    | true => simp [h1 h2]
  rw [eAt, this]
  simp [hx, hr]
theorem eAt_succ (hx : l[i + 1]? = some e) (hp : l[i]? = some p) (hr : eRange e = true) (hg : eGap p e = true) (hu : ∀ m, m < 24 → inE e m = true → usedBy l (i + 1) m = false) : eAt l (i + 1) = true := by
  have : ((List.range 24).all fun b => !(inE (l.getD (i + 1) (0, 0, 0)) b && usedBy l (i + 1) b)) = true := by
    rw [List.all_eq_true]
    intro m hm
    have h1 := hu m (List.mem_range.1 hm)
    cases h2 : inE e m with
    | false => simp [hx, h2]
    | true => simp [h1 h2]
  rw [eAt, this]
  simp [hx, hp, hr, hg]
theorem eAt_yes {k : Nat} (hx : l[k]? = some e) (hr : eRange e = true) (hg : k = 0 ∨ ∃ p, l[k - 1]? = some p ∧ eGap p e = true) (hu : ∀ m, m < 24 → inE e m = true → usedBy l k m = false) : eAt l k = true := by
  rcases Nat.eq_zero_or_pos k with h0 | h0
  · subst h0; exact eAt_zero hx hr hu
  · obtain ⟨i, rfl⟩ : ∃ i, k = i + 1 := ⟨k - 1, by omega⟩
    rcases hg with h1 | ⟨p, hp, hg⟩
    · omega
    · exact eAt_succ hx hp hr hg hu
theorem eAt_gap_ {k : Nat} (h0 : 0 < k) (hx : l[k]? = some e) (hp : l[k - 1]? = some p) (h : eGap p e = false) : eAt l k = false := by
  obtain ⟨i, rfl⟩ : ∃ i, k = i + 1 := ⟨k - 1, by omega⟩
  exact eAt_gap hx hp h
theorem eRange_iff : eRange e = true ↔ 1 ≤ e.2.2 ∧ e.2.2 ≤ 12 ∧ 0 ≤ e.1 ∧ e.1 ≤ 12 - e.2.2 ∧ 0 ≤ e.2.1 ∧ e.2.1 ≤ 24 - e.2.2 := by
  simp [eRange, inB]; omega
theorem inE_iff {b : Nat} : inE e b = true ↔ e.2.1 ≤ (b : Int) ∧ (b : Int) < e.2.1 + e.2.2 := by simp [inE]
theorem eAt_rng (hx : l[i]? = some e) (h : eAt l i = true) : eRange e = true := by
  simp only [eAt, List.getD, hx, Option.getD_some, Bool.and_eq_true] at h
  exact h.1.1

/-- The flags of the blocks that extents ahead of i use, and of those from lo to hi. -/
def uArr (l : List (Int × Int × Int)) (i lo hi : Nat) : List Value := (List.range 24).map fun b => Value.bool (usedBy l i b || (decide (lo ≤ b) && decide (b < hi)))
theorem uArr_len {lo hi : Nat} : (uArr l i lo hi).length = 24 := by simp [uArr]
theorem uArr_get {lo m : Nat} (hm : m < 24) : (uArr l i lo m)[m]? = some (.bool (usedBy l i m)) := by simp [uArr, hm]
theorem uArr_set {lo m : Nat} (_hm : m < 24) (h1 : lo ≤ m) : (uArr l i lo m).set m (.bool true) = uArr l i lo (m + 1) := by
  apply List.ext_getElem?
  intro j
  rw [List.getElem?_set]
  by_cases hj : j < 24
  · by_cases e : m = j
    · subst e
      simp [uArr, hj, h1]
    · simp only [e, if_false, uArr, List.getElem?_map, List.getElem?_range hj, Option.map_some, Option.some.injEq, Value.bool.injEq]
      congr 2
      rw [decide_eq_decide]
      omega
  · rw [List.getElem?_eq_none (l := uArr l i lo m) (by rw [uArr_len]; omega), List.getElem?_eq_none (l := uArr l i lo (m + 1)) (by rw [uArr_len]; omega), uArr_len]
    rw [if_neg (by omega)]
theorem usedBy_succ (hx : l[i]? = some e) (b : Nat) : usedBy l (i + 1) b = (usedBy l i b || inE e b) := by
  rw [usedBy, List.take_add_one, hx, List.any_append]
  simp [usedBy]
theorem uArr_next {B N : Nat} {a : Int} (hx : l[i]? = some (a, (B : Int), (N : Int))) : uArr l i B (B + N) = uArr l (i + 1) 0 0 := by
  simp only [uArr, List.map_inj_left, List.mem_range, Value.bool.injEq]
  intro b _
  rw [usedBy_succ hx]
  simp [inE]
  congr 2
  rw [decide_eq_decide]
  omega
theorem uArr_start : uArr l 0 0 0 = List.replicate 24 (.bool false) := by
  simp only [uArr, usedBy, List.take_zero, List.any_nil]
  rw [List.eq_replicate_iff]
  refine ⟨by simp, fun b hb => ?_⟩
  simp only [List.mem_map, List.mem_range] at hb
  obtain ⟨m, _, rfl⟩ := hb
  simp
theorem uArr_lo {lo : Nat} : uArr l i 0 0 = uArr l i lo lo := by
  simp only [uArr, List.map_inj_left, List.mem_range, Value.bool.injEq]
  intro b _
  congr 1
  have : (decide (lo ≤ b) && decide (b < lo)) = false := by simp
  rw [this]; simp
end

end Go.Proofs.Ytbmoolmgfpcnkaa
