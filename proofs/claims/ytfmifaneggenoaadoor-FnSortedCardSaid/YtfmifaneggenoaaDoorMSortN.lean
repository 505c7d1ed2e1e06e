/-
  The order of names is a total one; rows that rise in an order.
-/
import Derived.Test.YtfmifaneggenoaaDoorMNames
namespace Go.Proofs.YtfmifaneggenoaaDoor
open Go.RowKit

theorem bl_cons (a b : UInt8) (x y : List UInt8) : Op.bytesLess (a :: x) (b :: y) = (decide (a < b) || (a == b && Op.bytesLess x y)) := rfl
theorem bl_irr : ∀ a : List UInt8, Op.bytesLess a a = false
  | [] => rfl
  | a :: x => by rw [bl_cons, bl_irr x]; simp
theorem bl_trans : ∀ a b c : List UInt8, Op.bytesLess a b = true → Op.bytesLess b c = true → Op.bytesLess a c = true
  | _, [], _, h, _ => by rename_i a _; cases a <;> simp [Op.bytesLess] at h
  | _, _ :: _, [], _, h => by simp [Op.bytesLess] at h
  | [], _ :: _, _ :: _, _, _ => rfl
  | a :: x, b :: y, c :: z, h1, h2 => by
    rw [bl_cons] at h1 h2 ⊢
    simp only [Bool.or_eq_true, decide_eq_true_eq, Bool.and_eq_true, beq_iff_eq] at h1 h2 ⊢
    rcases h1 with h1 | ⟨rfl, h1⟩
    · rcases h2 with h2 | ⟨rfl, h2⟩
      · exact .inl (UInt8.lt_trans h1 h2)
      · exact .inl h1
    · rcases h2 with h2 | ⟨rfl, h2⟩
      · exact .inl h2
      · exact .inr ⟨rfl, bl_trans x y z h1 h2⟩
theorem bl_tri : ∀ a b : List UInt8, Op.bytesLess a b = false → Op.bytesLess b a = false → a = b
  | [], [], _, _ => rfl
  | [], _ :: _, h, _ => by simp [Op.bytesLess] at h
  | _ :: _, [], _, h => by simp [Op.bytesLess] at h
  | a :: x, b :: y, h1, h2 => by
    rw [bl_cons] at h1 h2
    simp only [Bool.or_eq_false_iff, decide_eq_false_iff_not, Bool.and_eq_false_iff, beq_eq_false_iff_ne] at h1 h2
    have hab : a = b := by
      have h1' := UInt8.not_lt.1 h1.1
      have h2' := UInt8.not_lt.1 h2.1
      exact UInt8.le_antisymm h2' h1'
    subst hab
    have e1 : Op.bytesLess x y = false := by rcases h1.2 with h | h; exact absurd rfl h; exact h
    have e2 : Op.bytesLess y x = false := by rcases h2.2 with h | h; exact absurd rfl h; exact h
    rw [bl_tri x y e1 e2]

theorem cmpT_lt {a b : List UInt8} : cmpT a b < 0 ↔ Op.bytesLess a b = true := by
  rw [cmpT]
  by_cases h : Op.bytesLess a b = true
  · rw [if_pos h]; exact ⟨fun _ => h, fun _ => by decide⟩
  · rw [if_neg h]; split <;> exact ⟨fun h' => absurd h' (by decide), fun h' => absurd h' h⟩
theorem cmpT_eq {a b : List UInt8} : cmpT a b = 0 ↔ a = b := by
  rw [cmpT]
  constructor
  · intro h
    split at h
    · exact absurd h (by decide)
    · split at h
      · assumption
      · exact absurd h (by decide)
  · rintro rfl
    rw [bl_irr]; simp
theorem cmpT_neg (a b : List UInt8) : cmpT b a = - cmpT a b := by
  by_cases h1 : Op.bytesLess a b = true
  · have h2 : Op.bytesLess b a = false := by
      rcases h : Op.bytesLess b a with _ | _
      · rfl
      · have := bl_trans a b a h1 h
        rw [bl_irr] at this
        exact this.symm
    have h3 : b ≠ a := by rintro rfl; rw [bl_irr] at h1; exact absurd h1 (by decide)
    rw [cmpT, cmpT, h1, h2, if_neg h3]; rfl
  · have h1' : Op.bytesLess a b = false := by simpa using h1
    by_cases h2 : Op.bytesLess b a = true
    · have h3 : a ≠ b := by rintro rfl; rw [bl_irr] at h2; exact absurd h2 (by decide)
      rw [cmpT, cmpT, h1', h2, if_neg h3]; rfl
    · have h2' : Op.bytesLess b a = false := by simpa using h2
      have := bl_tri a b h1' h2'
      subst this
      rw [cmpT, h1', if_pos rfl]; rfl
theorem ordT_neg (a b : List UInt8) : ordT b a = - ordT a b := by
  rw [ordT, ordT, cmpT_neg (keyS a) (keyS b), cmpT_neg a b]
  by_cases h : cmpT (keyS a) (keyS b) = 0
  · rw [if_neg (by omega), if_neg (by omega)]
  · rw [if_pos (by omega), if_pos (by omega)]
theorem ordT_eq {a b : List UInt8} : ordT a b = 0 ↔ a = b := by
  rw [ordT]
  constructor
  · intro h
    split at h
    · contradiction
    · exact cmpT_eq.1 h
  · rintro rfl
    rw [if_neg (by rw [cmpT_eq.2 rfl]; decide)]
    exact cmpT_eq.2 rfl
theorem ordT_lt {a b : List UInt8} : ordT a b < 0 ↔ Op.bytesLess (keyS a) (keyS b) = true ∨ keyS a = keyS b ∧ Op.bytesLess a b = true := by
  rw [ordT]
  by_cases h : cmpT (keyS a) (keyS b) = 0
  · rw [if_neg (by omega), cmpT_lt]
    rw [cmpT_eq] at h
    rw [h, bl_irr]
    simp
  · rw [if_pos h, cmpT_lt]
    rw [cmpT_eq] at h
    simp [h]
theorem ordT_trans {a b c : List UInt8} (h1 : ordT a b ≤ 0) (h2 : ordT b c ≤ 0) : ordT a c ≤ 0 := by
  by_cases e1 : ordT a b = 0
  · rw [ordT_eq] at e1; subst e1; exact h2
  by_cases e2 : ordT b c = 0
  · rw [ordT_eq] at e2; subst e2; exact h1
  have h1' : ordT a b < 0 := by omega
  have h2' : ordT b c < 0 := by omega
  have : ordT a c < 0 := by
    rw [ordT_lt] at h1' h2' ⊢
    rcases h1' with h1 | ⟨k1, h1⟩
    · rcases h2' with h2 | ⟨k2, h2⟩
      · exact .inl (bl_trans _ _ _ h1 h2)
      · exact .inl (k2 ▸ h1)
    · rcases h2' with h2 | ⟨k2, h2⟩
      · exact .inl (k1 ▸ h2)
      · exact .inr ⟨k1.trans k2, bl_trans _ _ _ h1 h2⟩
  omega
/-- One name stands ahead of the other one, or is it. -/
def nle (a b : ByteArray) : Prop := ordT (toB a) (toB b) ≤ 0
theorem nle_trans {a b c : ByteArray} (h1 : nle a b) (h2 : nle b c) : nle a c := ordT_trans h1 h2
theorem nle_tot {a b : ByteArray} (h : ¬ nle a b) : nle b a := by
  have := ordT_neg (toB a) (toB b)
  unfold nle at *
  omega
theorem nle_anti {a b : ByteArray} (h1 : nle a b) (h2 : nle b a) : a = b := by
  have := ordT_neg (toB a) (toB b)
  unfold nle at *
  have e := ordT_eq.1 (show ordT (toB a) (toB b) = 0 by omega)
  rw [← ofB_toB a, e, ofB_toB]
theorem nle_perm {l m : List ByteArray} (hp : l.Perm m) (h1 : l.Pairwise nle) (h2 : m.Pairwise nle) : l = m :=
  hp.eq_of_pairwise (fun _ _ _ _ h h' => nle_anti h h') h1 h2

def UpN (k : Nat) (ys : List ByteArray) : Prop := ∀ p q x y, p < q → q < k → ys[p]? = some x → ys[q]? = some y → nle x y
def ExN (k j : Nat) (ys : List ByteArray) : Prop := ∀ p q x y, p < q → q ≤ k → q ≠ j → ys[p]? = some x → ys[q]? = some y → nle x y
theorem ExN.start {k : Nat} {ys : List ByteArray} (h : UpN k ys) : ExN k k ys := fun p q x y h1 h2 h3 hx hy => h p q x y h1 (by omega) hx hy
theorem ExN.stop {k j : Nat} {ys : List ByteArray} (h : ExN k j ys) (hj : j = 0 ∨ ∃ x y, ys[j - 1]? = some x ∧ ys[j]? = some y ∧ nle x y ∧ 0 < j) : UpN (k + 1) ys := by
  intro p q x y h1 h2 hx hy
  by_cases hq : q = j
  · subst hq
    rcases hj with h0 | ⟨x', y', hx', hy', hxy, hj0⟩
    · omega
    · rw [hy] at hy'
      injection hy' with hy'
      subst hy'
      by_cases hp : p = q - 1
      · subst hp
        rw [hx] at hx'
        injection hx' with hx'
        rw [hx']; exact hxy
      · exact nle_trans (h p (q - 1) x x' (by omega) (by omega) (by omega) hx hx') hxy
  · exact h p q x y h1 (by omega) hq hx hy
def swpN (ys : List ByteArray) (j : Nat) (x y : ByteArray) : List ByteArray := (ys.set j x).set (j - 1) y
theorem swpN_at {ys : List ByteArray} {j : Nat} {x y : ByteArray} (hx : ys[j - 1]? = some x) (hy : ys[j]? = some y) (hj : 0 < j) (p : Nat) : (swpN ys j x y)[p]? = if p = j - 1 then some y else if p = j then some x else ys[p]? := by
  have hjl := (List.getElem?_eq_some_iff.1 hy).1
  unfold swpN
  rw [List.getElem?_set, List.getElem?_set]
  by_cases h1 : p = j - 1
  · subst h1; simp; omega
  · by_cases h2 : p = j
    · subst h2
      rw [if_neg (by omega), if_pos rfl, if_pos hjl, if_neg h1, if_pos rfl]
    · rw [if_neg (by omega), if_neg (by omega), if_neg h1, if_neg h2]
theorem ExN.swap {k j : Nat} {ys : List ByteArray} {x y : ByteArray} (h : ExN k j ys) (hx : ys[j - 1]? = some x) (hy : ys[j]? = some y) (hj : 0 < j) (hjk : j ≤ k) (hlt : nle y x) : ExN k (j - 1) (swpN ys j x y) := by
  intro p q u v h1 h2 h3 hu hv
  rw [swpN_at hx hy hj] at hu hv
  rw [if_neg h3] at hv
  by_cases hq : q = j
  · rw [if_pos hq] at hv
    injection hv with hv
    subst hv
    by_cases hp : p = j - 1
    · rw [if_pos hp] at hu
      injection hu with hu
      rw [← hu]; exact hlt
    · rw [if_neg hp, if_neg (by omega)] at hu
      exact h p (j - 1) u x (by omega) (by omega) (by omega) hu hx
  · rw [if_neg hq] at hv
    by_cases hp : p = j - 1
    · rw [if_pos hp] at hu
      injection hu with hu
      subst hu
      exact h j q y v (by omega) h2 hq hy hv
    · rw [if_neg hp] at hu
      by_cases hp2 : p = j
      · rw [if_pos hp2] at hu
        injection hu with hu
        subst hu
        exact h (j - 1) q x v (by omega) h2 hq hx hv
      · rw [if_neg hp2] at hu
        exact h p q u v h1 h2 hq hu hv
theorem swpN_perm {ys : List ByteArray} {j : Nat} {x y : ByteArray} (hx : ys[j - 1]? = some x) (hy : ys[j]? = some y) (hj : 0 < j) : (swpN ys j x y).Perm ys := by
  obtain ⟨i, rfl⟩ : ∃ i, j = i + 1 := ⟨j - 1, by omega⟩
  simp only [Nat.add_sub_cancel] at hx
  have e : ys = ys.take i ++ x :: y :: ys.drop (i + 2) := by
    have h1 : ys.drop i = x :: ys.drop (i + 1) := by
      obtain ⟨hk, rfl⟩ := List.getElem?_eq_some_iff.1 hx
      exact List.drop_eq_getElem_cons hk
    have h2 : ys.drop (i + 1) = y :: ys.drop (i + 2) := by
      obtain ⟨hk, rfl⟩ := List.getElem?_eq_some_iff.1 hy
      exact List.drop_eq_getElem_cons hk
    rw [← h2, ← h1, List.take_append_drop]
  have hl : (ys.take i).length = i := by have := (List.getElem?_eq_some_iff.1 hx).1; rw [List.length_take]; omega
  have e2 : swpN ys (i + 1) x y = ys.take i ++ y :: x :: ys.drop (i + 2) := by
    unfold swpN
    simp only [Nat.add_sub_cancel]
    conv => lhs; rw [e]
    rw [List.set_append, if_neg (by omega), hl, show i + 1 - i = 1 from by omega, List.set_cons_succ, List.set_cons_zero, List.set_append, if_neg (by omega), hl, Nat.sub_self, List.set_cons_zero]
  rw [e2]
  conv => rhs; rw [e]
  exact List.Perm.append_left _ (List.Perm.swap _ _ _)
theorem UpN.pw {ys : List ByteArray} (h : UpN ys.length ys) : ys.Pairwise nle := by
  rw [List.pairwise_iff_getElem]
  intro p q hp hq hpq
  exact h p q _ _ hpq hq (List.getElem?_eq_getElem hp) (List.getElem?_eq_getElem hq)
theorem UpN.of_pw {ys : List ByteArray} (h : ys.Pairwise nle) : UpN ys.length ys := by
  rw [List.pairwise_iff_getElem] at h
  intro p q x y hpq hq hx hy
  obtain ⟨hp', rfl⟩ := List.getElem?_eq_some_iff.1 hx
  obtain ⟨hq', rfl⟩ := List.getElem?_eq_some_iff.1 hy
  exact h p q hp' hq' hpq
end Go.Proofs.YtfmifaneggenoaaDoor
