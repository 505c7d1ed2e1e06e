/-
  Names merged in place (insertion, rotation, merging by halves). Plain Lean.
-/
import Derived.Test.YtfmifaneggenoaaDoorMSortN
namespace Go.Proofs.YtfmifaneggenoaaDoor
open Go.RowKit

/-! ### Names rise between two places -/
def UpS (a b : Nat) (ys : List ByteArray) : Prop := ∀ p q x y, a ≤ p → p < q → q < b → ys[p]? = some x → ys[q]? = some y → nle x y
def ExS (a k j : Nat) (ys : List ByteArray) : Prop := ∀ p q x y, a ≤ p → p < q → q ≤ k → q ≠ j → ys[p]? = some x → ys[q]? = some y → nle x y
theorem UpS.one (a : Nat) (ys : List ByteArray) {b : Nat} (h : b ≤ a + 1) : UpS a b ys := fun p q x y h1 h2 h3 _ _ => by omega
theorem UpS.sub {a b a' b' : Nat} {ys : List ByteArray} (h : UpS a b ys) (h1 : a ≤ a') (h2 : b' ≤ b) : UpS a' b' ys := fun p q x y h3 h4 h5 hx hy => h p q x y (by omega) h4 (by omega) hx hy
theorem ExS.start {a k : Nat} {ys : List ByteArray} (h : UpS a k ys) : ExS a k k ys := fun p q x y h0 h1 h2 h3 hx hy => h p q x y h0 h1 (by omega) hx hy
theorem ExS.stop {a k j : Nat} {ys : List ByteArray} (h : ExS a k j ys) (hj : j = a ∨ ∃ x y, ys[j - 1]? = some x ∧ ys[j]? = some y ∧ nle x y ∧ a < j) : UpS a (k + 1) ys := by
  intro p q x y h0 h1 h2 hx hy
  by_cases hq : q = j
  · subst hq
    rcases hj with h0 | ⟨x', y', hx', hy', hxy, hj0⟩
    · omega
    · rw [hy] at hy'
      injection hy' with hy'
      subst hy'
      by_cases hp : p = q - 1
      · subst hp
        rw [hx] at hx'
        injection hx' with hx'
        rw [hx']; exact hxy
      · exact nle_trans (h p (q - 1) x x' h0 (by omega) (by omega) (by omega) hx hx') hxy
  · exact h p q x y h0 h1 (by omega) hq hx hy
theorem ExS.swap {a k j : Nat} {ys : List ByteArray} {x y : ByteArray} (h : ExS a k j ys) (hx : ys[j - 1]? = some x) (hy : ys[j]? = some y) (hj : a < j) (hjk : j ≤ k) (hlt : nle y x) : ExS a k (j - 1) (swpN ys j x y) := by
  intro p q u v h0 h1 h2 h3 hu hv
  rw [swpN_at hx hy (by omega)] at hu hv
  rw [if_neg h3] at hv
  by_cases hq : q = j
  · rw [if_pos hq] at hv
    injection hv with hv
    subst hv
    by_cases hp : p = j - 1
    · rw [if_pos hp] at hu
      injection hu with hu
      rw [← hu]; exact hlt
    · rw [if_neg hp, if_neg (by omega)] at hu
      exact h p (j - 1) u x h0 (by omega) (by omega) (by omega) hu hx
  · rw [if_neg hq] at hv
    by_cases hp : p = j - 1
    · rw [if_pos hp] at hu
      injection hu with hu
      subst hu
      exact h j q y v (by omega) (by omega) h2 hq hy hv
    · rw [if_neg hp] at hu
      by_cases hp2 : p = j
      · rw [if_pos hp2] at hu
        injection hu with hu
        subst hu
        exact h (j - 1) q x v (by omega) (by omega) h2 hq hx hv
      · rw [if_neg hp2] at hu
        exact h p q u v h0 h1 h2 hq hu hv

/-! ### Places exchanged -/
/-- What came of a row: the same names, each from a place. -/
structure Via (s : Nat → Nat) (l l' : List ByteArray) : Prop where
  perm : l'.Perm l
  get : ∀ p : Nat, l'[p]? = l[s p]?
theorem Via.refl (l : List ByteArray) : Via id l l := ⟨.refl _, fun _ => rfl⟩
theorem Via.of_id {s : Nat → Nat} (l : List ByteArray) (h : ∀ p, s p = p) : Via s l l := ⟨.refl _, fun p => by rw [h]⟩
theorem Via.then {s t u : Nat → Nat} {l l' l'' : List ByteArray} (h : Via s l l') (k : Via t l' l'') (e : ∀ p, u p = s (t p)) : Via u l l'' := ⟨k.perm.trans h.perm, fun p => by rw [k.get, h.get, e]⟩
theorem Via.len {s : Nat → Nat} {l l' : List ByteArray} (h : Via s l l') : l'.length = l.length := h.perm.length_eq
def swI (i j p : Nat) : Nat := if p = i then j else if p = j then i else p
def swL (l : List ByteArray) (i j : Nat) (x y : ByteArray) : List ByteArray := (l.set i y).set j x
theorem swL_via {l : List ByteArray} {i j : Nat} {x y : ByteArray} (hx : l[i]? = some x) (hy : l[j]? = some y) (hij : i ≠ j) : Via (swI i j) l (swL l i j x y) := by
  obtain ⟨hi, rfl⟩ := List.getElem?_eq_some_iff.1 hx
  obtain ⟨hj, rfl⟩ := List.getElem?_eq_some_iff.1 hy
  refine ⟨List.set_set_perm hi hj, fun p => ?_⟩
  unfold swL swI
  rw [List.getElem?_set, List.getElem?_set]
  by_cases h1 : p = i
  · subst h1
    rw [if_neg (by omega), if_pos rfl, if_pos hi, if_pos rfl]
    exact (List.getElem?_eq_getElem hj).symm
  · by_cases h2 : p = j
    · subst h2
      rw [if_pos rfl, if_pos (by rw [List.length_set]; exact hj), if_neg h1, if_pos rfl]
      exact (List.getElem?_eq_getElem hi).symm
    · rw [if_neg (by omega), if_neg (by omega), if_neg h1, if_neg h2]

theorem swI_c (i j p : Nat) : p = i ∧ swI i j p = j ∨ p ≠ i ∧ p = j ∧ swI i j p = i ∨ p ≠ i ∧ p ≠ j ∧ swI i j p = p := by
  unfold swI
  split
  · exact .inl ⟨by assumption, rfl⟩
  · split
    · exact .inr (.inl ⟨by assumption, by assumption, rfl⟩)
    · exact .inr (.inr ⟨by assumption, by assumption, rfl⟩)
/-- Two ranges exchanged, the first so many of each. -/
def srI (a b n p : Nat) : Nat := if a ≤ p ∧ p < a + n then p - a + b else if b ≤ p ∧ p < b + n then p - b + a else p
theorem srI_c (a b n p : Nat) : (a ≤ p ∧ p < a + n) ∧ srI a b n p = p - a + b ∨ ¬ (a ≤ p ∧ p < a + n) ∧ (b ≤ p ∧ p < b + n) ∧ srI a b n p = p - b + a ∨ ¬ (a ≤ p ∧ p < a + n) ∧ ¬ (b ≤ p ∧ p < b + n) ∧ srI a b n p = p := by
  unfold srI
  split
  · exact .inl ⟨by assumption, rfl⟩
  · split
    · exact .inr (.inl ⟨by assumption, by assumption, rfl⟩)
    · exact .inr (.inr ⟨by assumption, by assumption, rfl⟩)
theorem srI_step {a b n k p : Nat} (hk : k < n) (hab : a + n ≤ b) : srI a b (k + 1) p = srI a b k (swI (a + k) (b + k) p) := by
  have h1 := srI_c a b (k + 1) p
  have h2 := srI_c a b k (swI (a + k) (b + k) p)
  have h3 := swI_c (a + k) (b + k) p
  generalize srI a b (k + 1) p = u at *
  generalize srI a b k (swI (a + k) (b + k) p) = v at *
  generalize swI (a + k) (b + k) p = x at *
  omega
theorem srI_0 (a b p : Nat) : srI a b 0 p = p := by
  have h1 := srI_c a b 0 p
  omega
/-- A range rotated: what stands from m on comes ahead of what stands from a on. -/
def rotI (a m b p : Nat) : Nat := if p < a ∨ b ≤ p then p else if p < a + (b - m) then p + (m - a) else p - (b - m)
theorem rotI_c (a m b p : Nat) : (p < a ∨ b ≤ p) ∧ rotI a m b p = p ∨ ¬ (p < a ∨ b ≤ p) ∧ p < a + (b - m) ∧ rotI a m b p = p + (m - a) ∨ ¬ (p < a ∨ b ≤ p) ∧ ¬ p < a + (b - m) ∧ rotI a m b p = p - (b - m) := by
  unfold rotI
  split
  · exact .inl ⟨by assumption, rfl⟩
  · split
    · exact .inr (.inl ⟨by assumption, by assumption, rfl⟩)
    · exact .inr (.inr ⟨by assumption, by assumption, rfl⟩)
theorem rotI_gt {m i j p : Nat} (hi : i ≤ m) (hij : j < i) : rotI (m - i) m (m + j) p = srI (m - i) m j (rotI (m - (i - j)) m (m + j) p) := by
  have h1 := rotI_c (m - i) m (m + j) p
  have h2 := rotI_c (m - (i - j)) m (m + j) p
  have h3 := srI_c (m - i) m j (rotI (m - (i - j)) m (m + j) p)
  generalize srI (m - i) m j (rotI (m - (i - j)) m (m + j) p) = u at *
  generalize rotI (m - (i - j)) m (m + j) p = v at *
  generalize rotI (m - i) m (m + j) p = x at *
  omega
theorem rotI_lt {m i j p : Nat} (hi : i ≤ m) (hij : i < j) : rotI (m - i) m (m + j) p = srI (m - i) (m + j - i) i (rotI (m - i) m (m + (j - i)) p) := by
  have h1 := rotI_c (m - i) m (m + j) p
  have h2 := rotI_c (m - i) m (m + (j - i)) p
  have h3 := srI_c (m - i) (m + j - i) i (rotI (m - i) m (m + (j - i)) p)
  generalize srI (m - i) (m + j - i) i (rotI (m - i) m (m + (j - i)) p) = u at *
  generalize rotI (m - i) m (m + (j - i)) p = v at *
  generalize rotI (m - i) m (m + j) p = x at *
  omega
theorem rotI_eq {m i p : Nat} (hi : i ≤ m) : rotI (m - i) m (m + i) p = srI (m - i) m i p := by
  have h1 := rotI_c (m - i) m (m + i) p
  have h3 := srI_c (m - i) m i p
  generalize srI (m - i) m i p = u at *
  generalize rotI (m - i) m (m + i) p = x at *
  omega
/-- A name brought up, from a to k, the others one place down. -/
def upI (a k p : Nat) : Nat := if p < a ∨ k < p then p else if p = k then a else p + 1
theorem upI_c (a k p : Nat) : (p < a ∨ k < p) ∧ upI a k p = p ∨ ¬ (p < a ∨ k < p) ∧ p = k ∧ upI a k p = a ∨ ¬ (p < a ∨ k < p) ∧ p ≠ k ∧ upI a k p = p + 1 := by
  unfold upI
  split
  · exact .inl ⟨by assumption, rfl⟩
  · split
    · exact .inr (.inl ⟨by assumption, by assumption, rfl⟩)
    · exact .inr (.inr ⟨by assumption, by assumption, rfl⟩)
theorem upI_step {a k p : Nat} (h : a ≤ k) : upI a (k + 1) p = upI a k (swI k (k + 1) p) := by
  have h1 := upI_c a (k + 1) p
  have h2 := upI_c a k (swI k (k + 1) p)
  have h3 := swI_c k (k + 1) p
  generalize upI a (k + 1) p = u at *
  generalize upI a k (swI k (k + 1) p) = v at *
  generalize swI k (k + 1) p = x at *
  omega
theorem upI_0 (a p : Nat) : upI a a p = p := by
  have h1 := upI_c a a p
  omega
/-- A name brought down, from m to k. -/
def dnI (k m p : Nat) : Nat := if p < k ∨ m < p then p else if p = k then m else p - 1
theorem dnI_c (k m p : Nat) : (p < k ∨ m < p) ∧ dnI k m p = p ∨ ¬ (p < k ∨ m < p) ∧ p = k ∧ dnI k m p = m ∨ ¬ (p < k ∨ m < p) ∧ p ≠ k ∧ dnI k m p = p - 1 := by
  unfold dnI
  split
  · exact .inl ⟨by assumption, rfl⟩
  · split
    · exact .inr (.inl ⟨by assumption, by assumption, rfl⟩)
    · exact .inr (.inr ⟨by assumption, by assumption, rfl⟩)
theorem dnI_step {k m p : Nat} (h : k < m) : dnI k m p = dnI (k + 1) m (swI (k + 1) k p) := by
  have h1 := dnI_c k m p
  have h2 := dnI_c (k + 1) m (swI (k + 1) k p)
  have h3 := swI_c (k + 1) k p
  generalize dnI k m p = u at *
  generalize dnI (k + 1) m (swI (k + 1) k p) = v at *
  generalize swI (k + 1) k p = x at *
  omega
theorem dnI_0 (m p : Nat) : dnI m m p = p := by
  have h1 := dnI_c m m p
  omega

/-! ### What a part has turned to -/
structure Mv (a b : Nat) (l l' : List ByteArray) : Prop where
  perm : l'.Perm l
  out : ∀ p : Nat, (p < a ∨ b ≤ p) → l'[p]? = l[p]?
  frm : ∀ p : Nat, a ≤ p → p < b → ∃ q : Nat, a ≤ q ∧ q < b ∧ l'[p]? = l[q]?
theorem Mv.refl (a b : Nat) (l : List ByteArray) : Mv a b l l := ⟨.refl _, fun _ _ => rfl, fun p h1 h2 => ⟨p, h1, h2, rfl⟩⟩
theorem Mv.then {a b : Nat} {l l' l'' : List ByteArray} (h : Mv a b l l') (k : Mv a b l' l'') : Mv a b l l'' :=
  ⟨k.perm.trans h.perm, fun p hp => (k.out p hp).trans (h.out p hp), fun p h1 h2 => by
    obtain ⟨q, h3, h4, h5⟩ := k.frm p h1 h2
    obtain ⟨r, h6, h7, h8⟩ := h.frm q h3 h4
    exact ⟨r, h6, h7, h5.trans h8⟩⟩
theorem Mv.wide {a b a' b' : Nat} {l l' : List ByteArray} (h : Mv a b l l') (h1 : a' ≤ a) (h2 : b ≤ b') : Mv a' b' l l' :=
  ⟨h.perm, fun p hp => h.out p (by omega), fun p h3 h4 => by
    by_cases hp : a ≤ p ∧ p < b
    · obtain ⟨q, h5, h6, h7⟩ := h.frm p hp.1 hp.2
      exact ⟨q, by omega, by omega, h7⟩
    · exact ⟨p, h3, h4, h.out p (by omega)⟩⟩
theorem Mv.of_via {s : Nat → Nat} {a b : Nat} {l l' : List ByteArray} (h : Via s l l') (h1 : ∀ p, (p < a ∨ b ≤ p) → s p = p) (h2 : ∀ p, a ≤ p → p < b → a ≤ s p ∧ s p < b) : Mv a b l l' :=
  ⟨h.perm, fun p hp => by rw [h.get, h1 p hp], fun p h3 h4 => ⟨s p, (h2 p h3 h4).1, (h2 p h3 h4).2, h.get p⟩⟩
theorem Mv.len {a b : Nat} {l l' : List ByteArray} (h : Mv a b l l') : l'.length = l.length := h.perm.length_eq
theorem UpS.keep {a b c d : Nat} {l l' : List ByteArray} (h : UpS c d l) (k : Mv a b l l') (hd : d ≤ a ∨ b ≤ c) : UpS c d l' :=
  fun p q x y h1 h2 h3 hx hy => h p q x y h1 h2 h3 (by rw [← k.out p (by omega)]; exact hx) (by rw [← k.out q (by omega)]; exact hy)
/-- No name of the first part stands behind one of the second. -/
def Cr (a m b : Nat) (l : List ByteArray) : Prop := ∀ p q x y, a ≤ p → p < m → m ≤ q → q < b → l[p]? = some x → l[q]? = some y → nle x y
theorem Cr.left {a m b : Nat} {l l' : List ByteArray} (h : Cr a m b l) (k : Mv a m l l') : Cr a m b l' := by
  intro p q x y h1 h2 h3 h4 hx hy
  obtain ⟨r, h5, h6, h7⟩ := k.frm p h1 h2
  exact h r q x y h5 h6 h3 h4 (h7 ▸ hx) (by rw [← k.out q (.inr h3)]; exact hy)
theorem Cr.right {a m b : Nat} {l l' : List ByteArray} (h : Cr a m b l) (k : Mv m b l l') : Cr a m b l' := by
  intro p q x y h1 h2 h3 h4 hx hy
  obtain ⟨r, h5, h6, h7⟩ := k.frm q h3 h4
  exact h p r x y h1 h2 h5 h6 (by rw [← k.out p (.inl h2)]; exact hx) (h7 ▸ hy)
theorem Cr.up {a m b : Nat} {l : List ByteArray} (h : Cr a m b l) (h1 : UpS a m l) (h2 : UpS m b l) : UpS a b l := by
  intro p q x y h3 h4 h5 hx hy
  by_cases hq : q < m
  · exact h1 p q x y h3 h4 hq hx hy
  · by_cases hp : p < m
    · exact h p q x y h3 hp (by omega) h5 hx hy
    · exact h2 p q x y (by omega) h4 h5 hx hy
theorem nle_refl (x : ByteArray) : nle x x := by unfold nle; rw [ordT_eq.2 rfl]; decide

/-! ### One name put into the others -/
theorem merge_one {a i b : Nat} {l l' : List ByteArray} {x : ByteArray} (hx : l[a]? = some x) (hi : a < i) (hib : i ≤ b) (h : UpS (a + 1) b l) (h1 : ∀ p y, a < p → p < i → l[p]? = some y → nle y x) (h2 : ∀ p y, i ≤ p → p < b → l[p]? = some y → nle x y) (hv : Via (upI a (i - 1)) l l') :
    UpS a b l' ∧ Mv a b l l' := by
  refine ⟨fun p q u v h3 h4 h5 hu hv' => ?_, Mv.of_via hv (fun p hp => ?_) (fun p hp1 hp2 => ?_)⟩
  · rw [hv.get] at hu hv'
    unfold upI at hu hv'
    by_cases hq1 : q < i - 1
    · rw [if_neg (by omega), if_neg (by omega)] at hu hv'
      exact h (p + 1) (q + 1) u v (by omega) (by omega) (by omega) hu hv'
    · by_cases hq2 : q = i - 1
      · rw [if_neg (by omega), if_pos hq2, hx] at hv'
        injection hv' with hv'
        subst hv'
        rw [if_neg (by omega), if_neg (by omega)] at hu
        exact h1 (p + 1) u (by omega) (by omega) hu
      · rw [if_pos (by omega)] at hv'
        by_cases hp1 : p < i - 1
        · rw [if_neg (by omega), if_neg (by omega)] at hu
          by_cases hpq : p + 1 < q
          · exact h (p + 1) q u v (by omega) hpq h5 hu hv'
          · omega
        · by_cases hp2 : p = i - 1
          · rw [if_neg (by omega), if_pos hp2, hx] at hu
            injection hu with hu
            subst hu
            exact h2 q v (by omega) h5 hv'
          · rw [if_pos (by omega)] at hu
            exact h p q u v (by omega) h4 h5 hu hv'
  · have := upI_c a (i - 1) p; omega
  · have := upI_c a (i - 1) p; omega
theorem merge_last {a i m : Nat} {l l' : List ByteArray} {x : ByteArray} (hx : l[m]? = some x) (hi : a ≤ i) (him : i ≤ m) (h : UpS a m l) (h1 : ∀ p y, a ≤ p → p < i → l[p]? = some y → nle y x) (h2 : ∀ p y, i ≤ p → p < m → l[p]? = some y → nle x y) (hv : Via (dnI i m) l l') :
    UpS a (m + 1) l' ∧ Mv a (m + 1) l l' := by
  refine ⟨fun p q u v h3 h4 h5 hu hv' => ?_, Mv.of_via hv (fun p hp => ?_) (fun p hp1 hp2 => ?_)⟩
  · rw [hv.get] at hu hv'
    unfold dnI at hu hv'
    by_cases hq1 : q < i
    · rw [if_pos (by omega)] at hu hv'
      exact h p q u v h3 h4 (by omega) hu hv'
    · by_cases hq2 : q = i
      · rw [if_neg (by omega), if_pos hq2, hx] at hv'
        injection hv' with hv'
        subst hv'
        rw [if_pos (by omega)] at hu
        exact h1 p u h3 (by omega) hu
      · rw [if_neg (by omega), if_neg hq2] at hv'
        by_cases hp1 : p < i
        · rw [if_pos (by omega)] at hu
          exact h p (q - 1) u v h3 (by omega) (by omega) hu hv'
        · by_cases hp2 : p = i
          · rw [if_neg (by omega), if_pos hp2, hx] at hu
            injection hu with hu
            subst hu
            exact h2 (q - 1) v (by omega) (by omega) hv'
          · rw [if_neg (by omega), if_neg hp2] at hu
            exact h (p - 1) (q - 1) u v (by omega) (by omega) (by omega) hu hv'
  · have := dnI_c i m p; omega
  · have := dnI_c i m p; omega

/-! ### Merging by halves -/
/-- the search's word below: the name ahead of s is not behind its mate -/
def SL (n s : Nat) (l : List ByteArray) : Prop := ∀ x y, l[s - 1]? = some x → l[n - s]? = some y → nle x y
def SR (n s : Nat) (l : List ByteArray) : Prop := ∀ x y, l[n - s - 1]? = some x → l[s]? = some y → nle x y
theorem sym_split {a m b mid s e : Nat} {l l' : List ByteArray} (h1 : UpS a m l) (h2 : UpS m b l) (hs : a ≤ s) (hsm : s ≤ m) (hme : m ≤ e) (heb : e ≤ b) (hmid : s + e = mid + m)
    (hL : a < s → e < b → ∀ x y, l[s - 1]? = some x → l[e]? = some y → nle x y) (hR : s < m → m < e → ∀ x y, l[e - 1]? = some x → l[s]? = some y → nle x y) (hlen : b ≤ l.length) (hv : Via (rotI s m e) l l') :
    UpS a s l' ∧ UpS s mid l' ∧ UpS mid e l' ∧ UpS e b l' ∧ Cr a mid b l' ∧ Mv a b l l' := by
  have at_ : ∀ p, p < b → ∃ x, l[p]? = some x := fun p hp => ⟨_, List.getElem?_eq_getElem (by omega)⟩
  have c1 : ∀ p q x y, a ≤ p → p < s → e ≤ q → q < b → l[p]? = some x → l[q]? = some y → nle x y := by
    intro p q x y hp1 hp2 hq1 hq2 hx hy
    obtain ⟨u, hu⟩ := at_ (s - 1) (by omega)
    obtain ⟨v, hv⟩ := at_ e (by omega)
    have k := hL (by omega) (by omega) u v hu hv
    have k1 : nle x u := by
      by_cases hp : p = s - 1
      · subst hp; rw [hu] at hx; injection hx with hx; rw [hx]; exact nle_refl _
      · exact h1 p (s - 1) x u hp1 (by omega) (by omega) hx hu
    have k2 : nle v y := by
      by_cases hq : q = e
      · subst hq; rw [hv] at hy; injection hy with hy; rw [hy]; exact nle_refl _
      · exact h2 e q v y hme (by omega) hq2 hv hy
    exact nle_trans k1 (nle_trans k k2)
  have c2 : ∀ p q x y, m ≤ p → p < e → s ≤ q → q < m → l[p]? = some x → l[q]? = some y → nle x y := by
    intro p q x y hp1 hp2 hq1 hq2 hx hy
    obtain ⟨u, hu⟩ := at_ (e - 1) (by omega)
    obtain ⟨v, hv⟩ := at_ s (by omega)
    have k := hR (by omega) (by omega) u v hu hv
    have k1 : nle x u := by
      by_cases hp : p = e - 1
      · subst hp; rw [hu] at hx; injection hx with hx; rw [hx]; exact nle_refl _
      · exact h2 p (e - 1) x u hp1 (by omega) (by omega) hx hu
    have k2 : nle v y := by
      by_cases hq : q = s
      · subst hq; rw [hv] at hy; injection hy with hy; rw [hy]; exact nle_refl _
      · exact h1 s q v y hs (by omega) hq2 hv hy
    exact nle_trans k1 (nle_trans k k2)
  have g1 : ∀ p, p < s → l'[p]? = l[p]? := fun p hp => by rw [hv.get, rotI, if_pos (.inl hp)]
  have g4 : ∀ p, e ≤ p → l'[p]? = l[p]? := fun p hp => by rw [hv.get, rotI, if_pos (.inr hp)]
  have g2 : ∀ p, s ≤ p → p < mid → l'[p]? = l[p + (m - s)]? := fun p hp hp2 => by rw [hv.get, rotI, if_neg (by omega), if_pos (by omega)]
  have g3 : ∀ p, mid ≤ p → p < e → l'[p]? = l[p - (e - m)]? := fun p hp hp2 => by rw [hv.get, rotI, if_neg (by omega), if_neg (by omega)]
  refine ⟨?_, ?_, ?_, ?_, ?_, Mv.of_via hv (fun p hp => ?_) (fun p hp1 hp2 => ?_)⟩
  · intro p q x y h3 h4 h5 hx hy
    rw [g1 p (by omega)] at hx
    rw [g1 q h5] at hy
    exact h1 p q x y h3 h4 (by omega) hx hy
  · intro p q x y h3 h4 h5 hx hy
    rw [g2 p h3 (by omega)] at hx
    rw [g2 q (by omega) h5] at hy
    exact h2 _ _ x y (by omega) (by omega) (by omega) hx hy
  · intro p q x y h3 h4 h5 hx hy
    rw [g3 p h3 (by omega)] at hx
    rw [g3 q (by omega) h5] at hy
    exact h1 _ _ x y (by omega) (by omega) (by omega) hx hy
  · intro p q x y h3 h4 h5 hx hy
    rw [g4 p h3] at hx
    rw [g4 q (by omega)] at hy
    exact h2 p q x y (by omega) h4 h5 hx hy
  · intro p q x y h3 h4 h5 h6 hx hy
    by_cases hp : p < s
    · rw [g1 p hp] at hx
      by_cases hq : q < e
      · rw [g3 q h5 hq] at hy
        exact h1 p _ x y h3 (by omega) (by omega) hx hy
      · rw [g4 q (by omega)] at hy
        exact c1 p q x y h3 hp (by omega) h6 hx hy
    · rw [g2 p (by omega) h4] at hx
      by_cases hq : q < e
      · rw [g3 q h5 hq] at hy
        exact c2 _ _ x y (by omega) (by omega) (by omega) (by omega) hx hy
      · rw [g4 q (by omega)] at hy
        exact h2 _ q x y (by omega) (by omega) h6 hx hy
  · have := rotI_c s m e p; omega
  · have := rotI_c s m e p; omega
end Go.Proofs.YtfmifaneggenoaaDoor
