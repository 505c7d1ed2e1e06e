/-
  The blocks of a file, one by one, and the extents that they make: in plain Lean.
-/
import Derived.Test.YtbmoolmgfpcnkaaExtsAid
namespace Go.Proofs.Ytbmoolmgfpcnkaa
open Go.RowKit

/-- The blocks of extent e put in, as far as j of them. -/
def putE (e : Int × Int × Int) (m : List Int) : Nat → List Int
  | 0 => m
  | j + 1 => (putE e m j).set (e.1.toNat + j) (e.2.1 + j)
def flatStep (m : List Int) (e : Int × Int × Int) : List Int := putE e m e.2.2.toNat
def flatTo (l : List (Int × Int × Int)) (k : Nat) : List Int := (l.take k).foldl flatStep (List.replicate 12 (-1))
def flatL (l : List (Int × Int × Int)) : List Int := l.foldl flatStep (List.replicate 12 (-1))
theorem putE_len (e : Int × Int × Int) (m : List Int) : ∀ j, (putE e m j).length = m.length
  | 0 => rfl
  | j + 1 => by rw [putE, List.length_set, putE_len e m j]
theorem foldl_len : ∀ (l : List (Int × Int × Int)) (m : List Int), (l.foldl flatStep m).length = m.length
  | [], m => rfl
  | e :: l, m => by rw [List.foldl_cons, foldl_len l, flatStep, putE_len]
theorem flatTo_len (l : List (Int × Int × Int)) (k : Nat) : (flatTo l k).length = 12 := by rw [flatTo, foldl_len]; simp
theorem flatL_len (l : List (Int × Int × Int)) : (flatL l).length = 12 := by rw [flatL, foldl_len]; simp
theorem flatTo_succ {l : List (Int × Int × Int)} {k : Nat} {e : Int × Int × Int} (h : l[k]? = some e) : flatTo l (k + 1) = putE e (flatTo l k) e.2.2.toNat := by
  rw [flatTo, List.take_add_one, h]; simp [flatTo, flatStep]
theorem flatTo_all {l : List (Int × Int × Int)} {k : Nat} (h : l.length ≤ k) : flatTo l k = flatL l := by rw [flatTo, List.take_of_length_le h, flatL]
/-- What stands in the list. -/
def BlkOk (m : List Int) : Prop := ∀ x ∈ m, -1 ≤ x ∧ x ≤ 23
theorem putE_ok {e : Int × Int × Int} {m : List Int} (h : BlkOk m) (h0 : 0 ≤ e.2.1) : ∀ j : Nat, e.2.1 + (j : Int) ≤ 24 → BlkOk (putE e m j)
  | 0, _ => h
  | j + 1, hj => by
    intro x hx
    rw [putE] at hx
    rcases List.mem_or_eq_of_mem_set hx with h1 | rfl
    · exact putE_ok h h0 j (by omega) x h1
    · omega
theorem flatL_ok {l : List (Int × Int × Int)} (h : ∀ e ∈ l, eRange e = true) : BlkOk (flatL l) := by
  have key : ∀ (l : List (Int × Int × Int)) (m : List Int), (∀ e ∈ l, eRange e = true) → BlkOk m → BlkOk (l.foldl flatStep m) := by
    intro l
    induction l with
    | nil => intro m _ hm; exact hm
    | cons e l ih =>
      intro m he hm
      rw [List.foldl_cons]
      refine ih _ (fun x hx => he x (by simp [hx])) ?_
      have h1 := eRange_iff.1 (he e (by simp))
      exact putE_ok hm (by omega) _ (by omega)
  exact key l _ h (by intro x hx; simp at hx; omega)
theorem eOk_ranges {l : List (Int × Int × Int)} (h : eOk l = true) : ∀ e ∈ l, eRange e = true := by
  intro e he
  obtain ⟨k, hk⟩ := List.getElem?_of_mem he
  have hkl := (List.getElem?_eq_some_iff.1 hk).1
  simp only [eOk, List.all_eq_true, List.mem_range] at h
  exact eAt_rng hk (h k hkl)

theorem fill_neg {k : Nat} (h : k < 12) : (List.replicate k (-1 : Int) ++ List.replicate (12 - k) 0).set k (-1) = List.replicate (k + 1) (-1) ++ List.replicate (12 - (k + 1)) 0 := by
  rw [List.set_append, if_neg (by simp), List.length_replicate, Nat.sub_self, show 12 - k = (12 - (k + 1)) + 1 from by omega, List.replicate_succ, List.set_cons_zero, List.replicate_succ']
  simp
/-- One file block more: the extent that it makes, or goes on with. -/
def extPut (o : List (Int × Int × Int)) (e : Int × Int × Int) : List (Int × Int × Int) := o ++ [e]
def extGrow (o : List (Int × Int × Int)) : List (Int × Int × Int) :=
  match o.getLast? with
  | none => []
  | some q => o.dropLast ++ [(q.1, q.2.1, q.2.2 + 1)]
theorem extGrow_snoc (o : List (Int × Int × Int)) (q : Int × Int × Int) : extGrow (o ++ [q]) = o ++ [(q.1, q.2.1, q.2.2 + 1)] := by simp [extGrow]
/-- Does block i go on from the one ahead? -/
def goesOn (m : List Int) (i : Nat) : Bool := decide (0 < i) && decide (0 ≤ m.getD (i - 1) (-1)) && decide (m.getD i (-1) = m.getD (i - 1) (-1) + 1)
def extsTo (m : List Int) : Nat → List (Int × Int × Int)
  | 0 => []
  | i + 1 => if m.getD i (-1) < 0 then extsTo m i else if goesOn m i then extGrow (extsTo m i) else extsTo m i ++ [((i : Int), m.getD i (-1), 1)]
def extsL (m : List Int) : List (Int × Int × Int) := extsTo m m.length
/-- What the last extent says of the last block. -/
def lastE (m : List Int) (i : Nat) (o : List (Int × Int × Int)) : Prop :=
  (0 < i → 0 ≤ m.getD (i - 1) (-1) → ∃ (o' : List (Int × Int × Int)) (a b n : Int), o = o' ++ [(a, b, n)] ∧ a + n = i ∧ b + n = m.getD (i - 1) (-1) + 1) ∧
  (∀ (o' : List (Int × Int × Int)) (a b n : Int), o = o' ++ [(a, b, n)] → 0 ≤ a ∧ 1 ≤ n ∧ a + n ≤ i ∧ (a + n = i → 0 < i ∧ 0 ≤ m.getD (i - 1) (-1)) ∧ -1 ≤ b ∧ b ≤ 23 ∧ n ≤ 12 ∧ b + n ≤ 24)
theorem extsTo_last {m : List Int} (hm : BlkOk m) (hl : m.length = 12) : ∀ i, i ≤ 12 → lastE m i (extsTo m i)
  | 0, _ => ⟨fun h => absurd h (by omega), fun o' a b n h => by simp [extsTo] at h⟩
  | i + 1, hi => by
    have ih := extsTo_last hm hl i (by omega)
    have hx : -1 ≤ m.getD i (-1) ∧ m.getD i (-1) ≤ 23 := by
      rw [List.getD_eq_getElem?_getD, List.getElem?_eq_getElem (by omega), Option.getD_some]
      exact hm _ (List.getElem_mem _)
    rw [extsTo]
    split
    · rename_i hn
      refine ⟨fun _ h0 => by simp only [Nat.add_sub_cancel] at h0; omega, fun o' a b n h => ?_⟩
      have := ih.2 o' a b n h
      simp only [Nat.add_sub_cancel]
      omega
    · split
      · rename_i hn hg
        simp only [goesOn, Bool.and_eq_true, decide_eq_true_eq] at hg
        obtain ⟨o', a, b, n, ho, h1, h2⟩ := ih.1 hg.1.1 hg.1.2
        have h3 := ih.2 o' a b n ho
        rw [ho, extGrow_snoc]
        refine ⟨fun _ _ => ⟨o', a, b, n + 1, rfl, by omega, by simp only [Nat.add_sub_cancel]; omega⟩, fun o2 a2 b2 n2 h => ?_⟩
        obtain ⟨h4, h5⟩ := List.append_inj' h rfl
        simp only [List.cons.injEq, Prod.mk.injEq, and_true] at h5
        obtain ⟨rfl, rfl, rfl⟩ := h5
        simp only [Nat.add_sub_cancel]
        omega
      · rename_i hn hg
        refine ⟨fun _ _ => ⟨extsTo m i, i, m.getD i (-1), 1, rfl, by omega, by simp⟩, fun o2 a2 b2 n2 h => ?_⟩
        obtain ⟨h4, h5⟩ := List.append_inj' h rfl
        simp only [List.cons.injEq, Prod.mk.injEq, and_true] at h5
        obtain ⟨rfl, rfl, rfl⟩ := h5
        simp only [Nat.add_sub_cancel]
        omega
theorem extsTo_skip {m : List Int} {i : Nat} {x : Int} (hx : m[i]? = some x) (h : x < 0) : extsTo m (i + 1) = extsTo m i := by simp [extsTo, hx, h]
theorem extsTo_app {m : List Int} {i : Nat} {x : Int} (hx : m[i]? = some x) (h : ¬ x < 0) (hg : goesOn m i = false) : extsTo m (i + 1) = extsTo m i ++ [((i : Int), x, 1)] := by simp [extsTo, hx, h, hg]
theorem extsTo_grow {m : List Int} {i : Nat} {x : Int} (hx : m[i]? = some x) (h : ¬ x < 0) (hg : goesOn m i = true) : extsTo m (i + 1) = extGrow (extsTo m i) := by simp [extsTo, hx, h, hg]
theorem goesOn_zero (m : List Int) : goesOn m 0 = false := by simp [goesOn]
theorem goesOn_succ {m : List Int} {i : Nat} {x y : Int} (hx : m[i + 1]? = some x) (hy : m[i]? = some y) : goesOn m (i + 1) = (decide (0 ≤ y) && decide (x = y + 1)) := by simp [goesOn, hx, hy]
theorem goesOn_nil {m : List Int} {i : Nat} (hL : lastE m i []) : goesOn m i = false := by
  rw [Bool.eq_false_iff]
  intro hg
  simp only [goesOn, Bool.and_eq_true, decide_eq_true_eq] at hg
  obtain ⟨o', a, b, n, ho, _⟩ := hL.1 hg.1.1 hg.1.2
  simp at ho
theorem goesOn_last {m : List Int} {i : Nat} {o' : List (Int × Int × Int)} {a b n x : Int} (hL : lastE m i (o' ++ [(a, b, n)])) (hx : m[i]? = some x) : goesOn m i = (decide (a + n = i) && decide (b + n = x)) := by
  have hxx : m.getD i (-1) = x := by simp [hx]
  have h2 := hL.2 o' a b n rfl
  rw [Bool.eq_iff_iff]
  simp only [goesOn, Bool.and_eq_true, decide_eq_true_eq, hxx]
  constructor
  · rintro ⟨⟨h3, h4⟩, h5⟩
    obtain ⟨o2, a2, b2, n2, ho, h6, h7⟩ := hL.1 h3 h4
    obtain ⟨_, h8⟩ := List.append_inj' ho rfl
    simp only [List.cons.injEq, Prod.mk.injEq, and_true] at h8
    omega
  · rintro ⟨h3, h4⟩
    have h5 := h2.2.2.2.1 h3
    obtain ⟨o2, a2, b2, n2, ho, h6, h7⟩ := hL.1 h5.1 h5.2
    obtain ⟨_, h8⟩ := List.append_inj' ho rfl
    simp only [List.cons.injEq, Prod.mk.injEq, and_true] at h8
    omega
theorem set_snoc {α : Type} (o : List α) (q q' : α) : (o ++ [q]).set o.length q' = o ++ [q'] := by simp
theorem extsTo_len (m : List Int) : ∀ i, (extsTo m i).length ≤ i
  | 0 => by simp [extsTo]
  | i + 1 => by
    have ih := extsTo_len m i
    rw [extsTo]
    split
    · omega
    · split
      · rcases List.eq_nil_or_concat (extsTo m i) with h | ⟨o, q, h⟩
        · rw [h]; simp [extGrow]
        · rw [List.concat_eq_append] at h
          rw [h, extGrow_snoc]
          rw [h] at ih
          simp only [List.length_append, List.length_cons, List.length_nil] at ih ⊢
          omega
      · simp only [List.length_append, List.length_cons, List.length_nil]; omega

/-- Cut at n: what is left, what is gone. -/
def cutTo (m : List Int) (n : Int) : Nat → List Int × List Int
  | 0 => (m, [])
  | i + 1 => let s := cutTo m n i
    if n ≤ (i : Int) ∧ 0 ≤ m.getD i (-1) then (s.1.set i (-1), s.2 ++ [m.getD i (-1)]) else s
theorem cutTo_len (m : List Int) (n : Int) : ∀ i, (cutTo m n i).1.length = m.length ∧ (cutTo m n i).2.length ≤ i
  | 0 => ⟨rfl, by simp [cutTo]⟩
  | i + 1 => by
    have ih := cutTo_len m n i
    simp only [cutTo]
    split
    · simp only [List.length_set, List.length_append, List.length_cons, List.length_nil]; omega
    · exact ⟨ih.1, by omega⟩
theorem cutTo_at (m : List Int) (n : Int) : ∀ i j, i ≤ j → (cutTo m n i).1[j]? = m[j]?
  | 0, j, _ => rfl
  | i + 1, j, h => by
    simp only [cutTo]
    split
    · simp only
      rw [List.getElem?_set_ne (by omega), cutTo_at m n i j (by omega)]
    · exact cutTo_at m n i j (by omega)
theorem cutTo_ok {m : List Int} (h : BlkOk m) (n : Int) : ∀ i, BlkOk (cutTo m n i).1
  | 0 => h
  | i + 1 => by
    simp only [cutTo]
    split
    · intro x hx
      rcases List.mem_or_eq_of_mem_set hx with h1 | rfl
      · exact cutTo_ok h n i x h1
      · omega
    · exact cutTo_ok h n i
def cutExts (l : List (Int × Int × Int)) (n : Int) : List (Int × Int × Int) := if eOk l then extsL (cutTo (flatL l) n 12).1 else []
def cutGone (l : List (Int × Int × Int)) (n : Int) : List Int := if eOk l then (cutTo (flatL l) n 12).2 else []
theorem extsL_len (m : List Int) : (extsL m).length ≤ m.length := extsTo_len m _
theorem cutExts_len (l : List (Int × Int × Int)) (n : Int) : (cutExts l n).length ≤ 12 := by
  unfold cutExts
  split
  · have h1 := extsL_len (cutTo (flatL l) n 12).1
    rwa [(cutTo_len (flatL l) n 12).1, flatL_len] at h1
  · simp
theorem cutGone_len (l : List (Int × Int × Int)) (n : Int) : (cutGone l n).length ≤ 12 := by
  unfold cutGone
  split
  · exact (cutTo_len (flatL l) n 12).2
  · simp
def blockAtL (l : List (Int × Int × Int)) (i : Int) : Int := if eOk l && inB i 0 11 then (flatL l).getD i.toNat (-1) else -1
end Go.Proofs.Ytbmoolmgfpcnkaa
