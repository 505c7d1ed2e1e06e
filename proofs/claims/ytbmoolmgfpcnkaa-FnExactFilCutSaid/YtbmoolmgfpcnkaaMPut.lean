/-
  A block that is put, a file that is cut: what the extents then say. Plain Lean.
-/
import Derived.Test.YtbmoolmgfpcnkaaMBlocks
namespace Go.Proofs.Ytbmoolmgfpcnkaa
open Go.RowKit

/-- The extents of the first i blocks. -/
def EInv (m : List Int) (i : Nat) (o : List (Int × Int × Int)) : Prop :=
  (∀ e ∈ o, 0 ≤ e.1 ∧ 1 ≤ e.2.2 ∧ e.1 + e.2.2 ≤ i ∧ 0 ≤ e.2.1 ∧ ∀ p : Nat, e.1 ≤ p → (p : Int) < e.1 + e.2.2 → m.getD p (-1) = e.2.1 + ((p : Int) - e.1)) ∧
  o.Pairwise (fun p e => p.1 + p.2.2 ≤ e.1 ∧ ¬ (p.1 + p.2.2 = e.1 ∧ e.2.1 = p.2.1 + p.2.2)) ∧
  ∀ p : Nat, p < i → 0 ≤ m.getD p (-1) → ∃ e ∈ o, e.1 ≤ p ∧ (p : Int) < e.1 + e.2.2
theorem extsTo_inv {m : List Int} (hm : BlkOk m) (hl : m.length = 12) : ∀ i, i ≤ 12 → EInv m i (extsTo m i)
  | 0, _ => ⟨by simp [extsTo], by simp [extsTo], by intro p h; omega⟩
  | i + 1, hi => by
    obtain ⟨A, B, C⟩ := extsTo_inv hm hl i (by omega)
    have hL := extsTo_last hm hl i (by omega)
    obtain ⟨x, hx⟩ := some_at hl (show i < 12 by omega)
    have hxd : m.getD i (-1) = x := by simp [hx]
    by_cases h0 : x < 0
    · rw [extsTo_skip hx h0]
      refine ⟨fun e he => ?_, B, fun p hp h1 => ?_⟩
      · obtain ⟨a1, a2, a3, a4, a5⟩ := A e he
        exact ⟨a1, a2, by omega, a4, a5⟩
      · by_cases hpi : p = i
        · subst hpi; omega
        · exact C p (by omega) h1
    · cases hg : goesOn m i with
      | false =>
        rw [extsTo_app hx h0 hg]
        refine ⟨fun e he => ?_, ?_, fun p hp h1 => ?_⟩
        · rcases List.mem_append.1 he with h1 | h1
          · obtain ⟨a1, a2, a3, a4, a5⟩ := A e h1
            exact ⟨a1, a2, by omega, a4, a5⟩
          · rw [List.mem_singleton] at h1
            subst h1
            refine ⟨by simp only; omega, by simp, by simp only; omega, by simp only; omega, fun p h1 h2 => ?_⟩
            simp only at h1 h2 ⊢
            obtain rfl : p = i := by omega
            omega
        · rw [List.pairwise_append]
          refine ⟨B, by simp, fun p hp e he => ?_⟩
          rw [List.mem_singleton] at he
          subst he
          obtain ⟨a1, a2, a3, a4, a5⟩ := A p hp
          refine ⟨by simp only; omega, fun hh => ?_⟩
          simp only at hh
          have h5 := a5 (i - 1) (by omega) (by omega)
          have hi0 : 0 < i := by omega
          have : goesOn m i = true := by
            simp only [goesOn, Bool.and_eq_true, decide_eq_true_eq]
            exact ⟨⟨hi0, by omega⟩, by omega⟩
          rw [hg] at this
          cases this
        · by_cases hpi : p = i
          · subst hpi
            exact ⟨(((p : Nat) : Int), x, 1), List.mem_append_right _ (List.mem_singleton.2 rfl), by simp only; omega, by simp only; omega⟩
          · obtain ⟨e, he, h2⟩ := C p (by omega) h1
            exact ⟨e, List.mem_append_left _ he, h2⟩
      | true =>
        rw [extsTo_grow hx h0 hg]
        have hg' := hg
        simp only [goesOn, Bool.and_eq_true, decide_eq_true_eq] at hg'
        obtain ⟨o', a, b, n, ho, h1, h2⟩ := hL.1 hg'.1.1 hg'.1.2
        rw [ho] at A B C ⊢
        rw [extGrow_snoc]
        have AL := A (a, b, n) (by simp)
        simp only at AL
        refine ⟨fun e he => ?_, ?_, fun p hp h3 => ?_⟩
        · rcases List.mem_append.1 he with h3 | h3
          · obtain ⟨a1, a2, a3, a4, a5⟩ := A e (List.mem_append_left _ h3)
            exact ⟨a1, a2, by omega, a4, a5⟩
          · rw [List.mem_singleton] at h3
            subst h3
            refine ⟨by simp only; omega, by simp only; omega, by simp only; omega, by simp only; omega, fun p h3 h4 => ?_⟩
            simp only at h3 h4 ⊢
            by_cases hpi : p = i
            · subst hpi; omega
            · exact AL.2.2.2.2 p h3 (by omega)
        · rw [List.pairwise_append] at B ⊢
          refine ⟨B.1, by simp, fun p hp e he => ?_⟩
          rw [List.mem_singleton] at he
          subst he
          exact B.2.2 p hp (a, b, n) (by simp)
        · by_cases hpi : p = i
          · subst hpi
            exact ⟨(a, b, n + 1), by simp, by simp only; omega, by simp only; omega⟩
          · obtain ⟨e, he, h4⟩ := C p (by omega) h3
            rcases List.mem_append.1 he with h5 | h5
            · exact ⟨e, List.mem_append_left _ h5, h4⟩
            · rw [List.mem_singleton] at h5
              subst h5
              exact ⟨(a, b, n + 1), by simp, h4.1, by simp only at h4 ⊢; omega⟩

/-- Each block at most once. -/
def OnceB (m : List Int) : Prop := ∀ (i j : Nat) (x : Int), m[i]? = some x → m[j]? = some x → 0 ≤ x → i = j
theorem getD_some {m : List Int} {i : Nat} {x : Int} (h : m.getD i (-1) = x) (hx : 0 ≤ x) : m[i]? = some x := by
  rw [List.getD_eq_getElem?_getD] at h
  cases hc : m[i]? with
  | none => rw [hc, Option.getD_none] at h; omega
  | some y => rw [hc, Option.getD_some] at h; rw [h]
theorem exts_ok {m : List Int} (hm : BlkOk m) (hl : m.length = 12) (ho : OnceB m) : eOk (extsL m) = true := by
  obtain ⟨A, B, C⟩ := extsTo_inv hm hl 12 (Nat.le_refl _)
  have hE : extsL m = extsTo m 12 := by rw [extsL, hl]
  rw [← hE] at A B C
  have R : ∀ e ∈ extsL m, eRange e = true := by
    intro e he
    obtain ⟨a1, a2, a3, a4, a5⟩ := A e he
    rw [eRange_iff]
    have h1 := a5 (e.1 + e.2.2 - 1).toNat (by omega) (by omega)
    have h2 := getD_some h1 (by omega)
    have h3 := hm _ (List.mem_of_getElem? h2)
    omega
  refine eOk_yes rfl fun k hk => ?_
  obtain ⟨e, he⟩ := some_at (l := extsL m) rfl hk
  have hem := List.mem_of_getElem? he
  refine eAt_yes he (R e hem) ?_ ?_
  · rcases Nat.eq_zero_or_pos k with h0 | h0
    · exact .inl h0
    · right
      obtain ⟨p, hp⟩ := some_at (l := extsL m) rfl (show k - 1 < (extsL m).length by omega)
      refine ⟨p, hp, ?_⟩
      have hlt := (List.pairwise_iff_getElem.1 B) (k - 1) k (by omega) hk (by omega)
      rw [(List.getElem?_eq_some_iff.1 hp).2, (List.getElem?_eq_some_iff.1 he).2] at hlt
      simp only [eGap, Bool.not_eq_true', Bool.or_eq_false_iff, Bool.and_eq_false_iff, decide_eq_false_iff_not]
      refine ⟨by omega, ?_⟩
      by_cases h5 : e.1 = p.1 + p.2.2
      · exact .inr fun h6 => hlt.2 ⟨h5.symm, h6⟩
      · exact .inl h5
  · intro q hq hi
    rw [Bool.eq_false_iff]
    intro hu
    rw [usedBy, List.any_eq_true] at hu
    obtain ⟨p, hp, hi2⟩ := hu
    rw [List.mem_iff_getElem?] at hp
    obtain ⟨r, hr⟩ := hp
    rw [List.getElem?_take] at hr
    split at hr
    · rename_i hrk
      have hpm := List.mem_of_getElem? hr
      have hrl := (List.getElem?_eq_some_iff.1 hr).1
      have hlt := (List.pairwise_iff_getElem.1 B) r k hrl hk hrk
      rw [(List.getElem?_eq_some_iff.1 hr).2, (List.getElem?_eq_some_iff.1 he).2] at hlt
      obtain ⟨a1, a2, a3, a4, a5⟩ := A e hem
      obtain ⟨b1, b2, b3, b4, b5⟩ := A p hpm
      rw [inE_iff] at hi hi2
      have h1 := getD_some (a5 (e.1 + (q - e.2.1)).toNat (by omega) (by omega)) (by omega)
      have h2 := getD_some (b5 (p.1 + (q - p.2.1)).toNat (by omega) (by omega)) (by omega)
      have e1 : e.2.1 + (((e.1 + (q - e.2.1)).toNat : Int) - e.1) = q := by omega
      have e2 : p.2.1 + (((p.1 + (q - p.2.1)).toNat : Int) - p.1) = q := by omega
      rw [e1] at h1
      rw [e2] at h2
      have := ho _ _ _ h1 h2 (by omega)
      omega
    · cases hr

theorem putE_in {e : Int × Int × Int} {m : List Int} (h0 : 0 ≤ e.1) : ∀ (j i : Nat) (x : Int), (putE e m j)[i]? = some x → e.1 ≤ i → (i : Int) < e.1 + j → x = e.2.1 + (i - e.1)
  | 0, i, x, _, h1, h2 => by omega
  | j + 1, i, x, h, h1, h2 => by
    rw [putE, List.getElem?_set] at h
    split at h
    · split at h
      · injection h with h; omega
      · cases h
    · exact putE_in h0 j i x h h1 (by omega)
theorem flat_in {l : List (Int × Int × Int)} (hr : ∀ e ∈ l, eRange e = true) : ∀ (k i : Nat) (x : Int), k ≤ l.length → (flatTo l k)[i]? = some x → (∃ q e, q < k ∧ l[q]? = some e ∧ e.1 ≤ i ∧ (i : Int) < e.1 + e.2.2) → 0 ≤ x
  | 0, i, x, _, h, ⟨q, e, hq, _⟩ => by omega
  | k + 1, i, x, hk, h, ⟨q, e', hq, he', h1, h2⟩ => by
    obtain ⟨e, he⟩ := some_at (l := l) rfl (show k < l.length by omega)
    have hre := eRange_iff.1 (hr e (List.mem_of_getElem? he))
    rw [flatTo_succ he] at h
    by_cases hin : e.1 ≤ i ∧ (i : Int) < e.1 + e.2.2
    · have := putE_in (by omega) _ _ _ h hin.1 (by omega)
      omega
    · rcases putE_at (by omega) _ _ _ h with h3 | ⟨h3, h4, _⟩
      · by_cases hqk : q = k
        · subst hqk
          rw [he] at he'
          injection he' with he'
          subst he'
          exact absurd ⟨h1, h2⟩ hin
        · exact flat_in hr k i x (by omega) h3 ⟨q, e', by omega, he', h1, h2⟩
      · exact absurd ⟨h3, by omega⟩ hin
theorem flat_exts {m : List Int} (hm : BlkOk m) (hl : m.length = 12) (ho : OnceB m) : flatL (extsL m) = m := by
  have hok := exts_ok hm hl ho
  have hR := eOk_ranges hok
  obtain ⟨A, B, C⟩ := extsTo_inv hm hl 12 (Nat.le_refl _)
  have hE : extsL m = extsTo m 12 := by rw [extsL, hl]
  rw [← hE] at A B C
  apply List.ext_getElem?
  intro i
  by_cases hi : i < 12
  · obtain ⟨x, hx⟩ := some_at (flatL_len (extsL m)) hi
    obtain ⟨y, hy⟩ := some_at hl hi
    rw [hx, hy]
    have hyd : m.getD i (-1) = y := by simp [hy]
    have hyb := hm _ (List.mem_of_getElem? hy)
    have hx' := hx
    rw [← flatTo_all (Nat.le_refl _)] at hx'
    rcases flatTo_from hR _ _ _ (Nat.le_refl _) hx' with h1 | ⟨q, e, _, he, h1, h2, h3⟩
    · by_cases hy0 : 0 ≤ y
      · obtain ⟨e, he, h2, h3⟩ := C i hi (by omega)
        obtain ⟨q, hq⟩ := List.getElem?_of_mem he
        have := flat_in hR _ _ _ (Nat.le_refl _) hx' ⟨q, e, (List.getElem?_eq_some_iff.1 hq).1, hq, h2, h3⟩
        omega
      · congr 1; omega
    · have := (A e (List.mem_of_getElem? he)).2.2.2.2 i h1 h2
      congr 1; omega
  · rw [List.getElem?_eq_none (by rw [flatL_len]; omega), List.getElem?_eq_none (by omega)]

theorem flat_onceB {l : List (Int × Int × Int)} (h : eOk l = true) : OnceB (flatL l) := fun _ _ _ hi hj hx => flat_once h hi hj hx
/-- How many blocks there are. -/
def cntB (m : List Int) : Nat := (m.filter fun x => decide (0 ≤ x)).length
theorem blocks_len {l : List (Int × Int × Int)} (h : eOk l = true) : (blocksOfL l).length = cntB (flatL l) := by
  have hn1 : (blocksOfL l).Nodup := by
    rw [blocksOfL, if_pos h]
    rw [List.nodup_iff_pairwise_ne, List.pairwise_map]
    exact (List.Pairwise.filter _ (List.nodup_iff_pairwise_ne.1 List.nodup_range)).imp fun h hc => h (by omega)
  have hn2 : ((flatL l).filter fun x => decide (0 ≤ x)).Nodup := by
    rw [List.nodup_iff_pairwise_ne, List.pairwise_filter, List.pairwise_iff_getElem]
    intro i j hi hj hij h1 h2 h3
    have := flat_once h (List.getElem?_eq_getElem hi) (by rw [List.getElem?_eq_getElem hj, h3]) (by simpa using h1)
    omega
  refine List.Perm.length_eq ((List.perm_ext_iff_of_nodup hn1 hn2).2 fun x => ?_)
  rw [blocksOfL, if_pos h]
  simp only [List.mem_map, List.mem_filter, List.mem_range, List.contains_iff_mem, decide_eq_true_eq]
  constructor
  · rintro ⟨b, ⟨_, hb⟩, rfl⟩
    exact ⟨hb, by omega⟩
  · rintro ⟨hx, h0⟩
    have := flatL_ok (eOk_ranges h) x hx
    exact ⟨x.toNat, ⟨by omega, by rwa [Int.toNat_of_nonneg h0]⟩, Int.toNat_of_nonneg h0⟩

/-- Does a block go in? -/
def putOk (l : List (Int × Int × Int)) (i b : Int) : Bool := eOk l && inB i 0 11 && decide ((flatL l).getD i.toNat (-1) < 0) && inB b 0 23 && !(flatL l).contains b
def putExts (l : List (Int × Int × Int)) (i b : Int) : List (Int × Int × Int) := if putOk l i b then extsL ((flatL l).set i.toNat b) else if eOk l then l else []
theorem putExts_no {l : List (Int × Int × Int)} {i b : Int} (h : putOk l i b = false) (hok : eOk l = true) : putExts l i b = l := by simp [putExts, h, hok]
theorem putExts_bad {l : List (Int × Int × Int)} {i b : Int} (hok : eOk l = false) : putExts l i b = [] := by simp [putExts, putOk, hok]
theorem putExts_yes {l : List (Int × Int × Int)} {i b : Int} (h : putOk l i b = true) : putExts l i b = extsL ((flatL l).set i.toNat b) := by simp [putExts, h]
theorem putOk_iff {l : List (Int × Int × Int)} {i b : Int} : putOk l i b = true ↔ eOk l = true ∧ (0 ≤ i ∧ i ≤ 11) ∧ (flatL l).getD i.toNat (-1) < 0 ∧ (0 ≤ b ∧ b ≤ 23) ∧ b ∉ flatL l := by
  simp [putOk, inB, and_assoc]
theorem blk_set {m : List Int} (h : BlkOk m) {i : Nat} {b : Int} (hb : -1 ≤ b ∧ b ≤ 23) : BlkOk (m.set i b) := by
  intro x hx
  rcases List.mem_or_eq_of_mem_set hx with h1 | rfl
  · exact h x h1
  · exact hb
theorem once_set {m : List Int} (h : OnceB m) {k : Nat} {b : Int} (hb : b ∉ m) : OnceB (m.set k b) := by
  intro i j x hi hj hx
  rw [List.getElem?_set] at hi hj
  split at hi
  · split at hi
    · injection hi with hi
      split at hj
      · omega
      · exact absurd (List.mem_of_getElem? hj) (by rw [← hi]; exact hb)
    · cases hi
  · split at hj
    · split at hj
      · injection hj with hj
        exact absurd (List.mem_of_getElem? hi) (by rw [← hj]; exact hb)
      · cases hj
    · exact h i j x hi hj hx
theorem once_neg {m : List Int} (h : OnceB m) (k : Nat) : OnceB (m.set k (-1)) := by
  intro i j x hi hj hx
  rw [List.getElem?_set] at hi hj
  split at hi
  · split at hi
    · injection hi with hi; omega
    · cases hi
  · split at hj
    · split at hj
      · injection hj with hj; omega
      · cases hj
    · exact h i j x hi hj hx
theorem put_flat {l : List (Int × Int × Int)} {i b : Int} (h : putOk l i b = true) : eOk (putExts l i b) = true ∧ flatL (putExts l i b) = (flatL l).set i.toNat b := by
  obtain ⟨h1, h2, h3, h4, h5⟩ := putOk_iff.1 h
  have hb := blk_set (i := i.toNat) (flatL_ok (eOk_ranges h1)) (b := b) (by omega)
  have hl : ((flatL l).set i.toNat b).length = 12 := by rw [List.length_set, flatL_len]
  have ho := once_set (k := i.toNat) (flat_onceB h1) h5
  rw [putExts_yes h]
  exact ⟨exts_ok hb hl ho, flat_exts hb hl ho⟩
theorem cntB_set {m : List Int} {k : Nat} {b : Int} : ∀ {x : Int}, m[k]? = some x → x < 0 → 0 ≤ b → cntB (m.set k b) = cntB m + 1 := by
  induction m generalizing k with
  | nil => intro x h; simp at h
  | cons y m ih =>
    intro x h hx hb
    cases k with
    | zero =>
      simp only [List.getElem?_cons_zero, Option.some.injEq] at h
      subst h
      simp [cntB, hb, show ¬ 0 ≤ y by omega]
    | succ k =>
      have := ih (k := k) (by simpa using h) hx hb
      simp only [cntB, List.set_cons_succ, List.filter_cons] at this ⊢
      split <;> (try simp only [List.length_cons]) <;> omega
theorem cntB_del {m : List Int} {k : Nat} : ∀ {x : Int}, m[k]? = some x → 0 ≤ x → cntB (m.set k (-1)) + 1 = cntB m := by
  induction m generalizing k with
  | nil => intro x h; simp at h
  | cons y m ih =>
    intro x h hx
    cases k with
    | zero =>
      simp only [List.getElem?_cons_zero, Option.some.injEq] at h
      subst h
      simp [cntB, hx]
    | succ k =>
      have := ih (k := k) (by simpa using h) hx
      simp only [cntB, List.set_cons_succ, List.filter_cons] at this ⊢
      split <;> (try simp only [List.length_cons]) <;> omega
theorem put_count {l : List (Int × Int × Int)} {i b : Int} (h : putOk l i b = true) : (blocksOfL (putExts l i b)).length = (blocksOfL l).length + 1 := by
  obtain ⟨h1, h2, h3, h4, h5⟩ := putOk_iff.1 h
  obtain ⟨k1, k2⟩ := put_flat h
  rw [blocks_len k1, blocks_len h1, k2]
  obtain ⟨x, hx⟩ := some_at (flatL_len l) (show i.toNat < 12 by omega)
  exact cntB_set hx (by simpa [hx] using h3) (by omega)
theorem put_at {l : List (Int × Int × Int)} {i b : Int} (hok : eOk l = true) {k : Nat} (hk : k < 12) : blockAtL (putExts l i b) k = if putOk l i b = true ∧ (k : Int) = i then b else blockAtL l k := by
  have hin : inB (k : Int) 0 11 = true := by rw [inB_iff]; omega
  cases h : putOk l i b with
  | false => simp [putExts_no h hok]
  | true =>
    obtain ⟨h1, h2, h3, h4, h5⟩ := putOk_iff.1 h
    obtain ⟨k1, k2⟩ := put_flat h
    simp only [blockAtL, k1, hok, hin, Bool.and_self, if_true, k2, true_and, Int.toNat_natCast]
    by_cases hki : (k : Int) = i
    · subst hki
      rw [if_pos rfl, Int.toNat_natCast]
      simp [flatL_len, hk]
    · rw [if_neg hki, List.getD_eq_getElem?_getD, List.getElem?_set_ne (by omega), List.getD_eq_getElem?_getD]
theorem putExts_len (l : List (Int × Int × Int)) (i b : Int) : (putExts l i b).length ≤ 12 + l.length := by
  unfold putExts
  split
  · have := extsL_len ((flatL l).set i.toNat b)
    rw [List.length_set, flatL_len] at this
    omega
  · split
    · omega
    · simp
theorem cutTo_once {m : List Int} (h : OnceB m) (n : Int) : ∀ i, OnceB (cutTo m n i).1
  | 0 => h
  | i + 1 => by
    simp only [cutTo]
    split
    · exact once_neg (cutTo_once h n i) i
    · exact cutTo_once h n i
theorem cutTo_cnt {m : List Int} (n : Int) : ∀ i, cntB (cutTo m n i).1 + (cutTo m n i).2.length = cntB m
  | 0 => by simp [cutTo]
  | i + 1 => by
    have ih := cutTo_cnt (m := m) n i
    simp only [cutTo]
    split
    · rename_i h
      have h1 := getD_some (m := m) (i := i) rfl h.2
      have h2 := cntB_del ((cutTo_at m n i i (Nat.le_refl _)).trans h1) h.2
      simp only [List.length_append, List.length_cons, List.length_nil]
      omega
    · exact ih
theorem cutTo_get {m : List Int} (hm : BlkOk m) (hl : m.length = 12) (n : Int) : ∀ i (k : Nat), i ≤ 12 → k < 12 → (cutTo m n i).1.getD k (-1) = if n ≤ k ∧ k < i then -1 else m.getD k (-1)
  | 0, k, _, _ => by simp [cutTo]
  | i + 1, k, hi, hk => by
    have ih := cutTo_get hm hl n i k (by omega) hk
    have hlen := (cutTo_len m n i).1
    obtain ⟨x, hx⟩ := some_at hl hk
    have hxb := hm _ (List.mem_of_getElem? hx)
    have hxd : m.getD k (-1) = x := by simp [hx]
    simp only [cutTo]
    by_cases hc : n ≤ (i : Int) ∧ 0 ≤ m.getD i (-1)
    · rw [if_pos hc]
      simp only
      by_cases hki : k = i
      · subst hki
        rw [if_pos (by omega)]
        simp [hlen, hl, hk]
      · rw [List.getD_eq_getElem?_getD, List.getElem?_set_ne (by omega), ← List.getD_eq_getElem?_getD, ih]
        by_cases h1 : n ≤ (k : Int) ∧ k < i
        · rw [if_pos h1, if_pos (by omega)]
        · rw [if_neg h1, if_neg (by omega)]
    · rw [if_neg hc, ih]
      by_cases hki : k = i
      · subst hki
        rw [if_neg (by omega)]
        split
        · omega
        · rfl
      · by_cases h1 : n ≤ (k : Int) ∧ k < i
        · rw [if_pos h1, if_pos (by omega)]
        · rw [if_neg h1, if_neg (by omega)]
theorem cut_flat {l : List (Int × Int × Int)} (hok : eOk l = true) (n : Int) : eOk (cutExts l n) = true ∧ flatL (cutExts l n) = (cutTo (flatL l) n 12).1 := by
  have hb := cutTo_ok (flatL_ok (eOk_ranges hok)) n 12
  have hl : (cutTo (flatL l) n 12).1.length = 12 := by rw [(cutTo_len _ n 12).1, flatL_len]
  have ho := cutTo_once (flat_onceB hok) n 12
  rw [cutExts, if_pos hok]
  exact ⟨exts_ok hb hl ho, flat_exts hb hl ho⟩
theorem cut_count {l : List (Int × Int × Int)} (hok : eOk l = true) (n : Int) : (blocksOfL (cutExts l n)).length + (cutGone l n).length = (blocksOfL l).length := by
  obtain ⟨k1, k2⟩ := cut_flat hok n
  rw [blocks_len k1, blocks_len hok, k2, cutGone, if_pos hok]
  exact cutTo_cnt n 12
theorem cut_at {l : List (Int × Int × Int)} (hok : eOk l = true) (n : Int) {k : Nat} (hk : k < 12) : blockAtL (cutExts l n) k = if n ≤ k then -1 else blockAtL l k := by
  have hin : inB (k : Int) 0 11 = true := by rw [inB_iff]; omega
  obtain ⟨k1, k2⟩ := cut_flat hok n
  simp only [blockAtL, k1, hok, hin, Bool.and_self, if_true, k2, Int.toNat_natCast]
  rw [cutTo_get (flatL_ok (eOk_ranges hok)) (flatL_len l) n 12 k (Nat.le_refl _) hk]
  by_cases h : n ≤ (k : Int)
  · rw [if_pos ⟨h, hk⟩, if_pos h]
  · rw [if_neg (by omega), if_neg h]
theorem blockAt_out {l : List (Int × Int × Int)} {i : Int} (hok : eOk l = false) : blockAtL l i = -1 := by simp [blockAtL, hok]
theorem cut_bad {l : List (Int × Int × Int)} {n : Int} (hok : eOk l = false) : cutExts l n = [] ∧ cutGone l n = [] := by simp [cutExts, cutGone, hok]
end Go.Proofs.Ytbmoolmgfpcnkaa
