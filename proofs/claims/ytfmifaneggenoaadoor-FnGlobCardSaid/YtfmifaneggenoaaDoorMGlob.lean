/-
  A pattern that ends with a star fits what begins so; a name fits itself. Plain Lean.
-/
import Derived.Test.YtfmifaneggenoaaDoorMEnc
import Derived.Test.YtfmifaneggenoaaDoorGlob
namespace Go.Proofs.YtfmifaneggenoaaDoor

theorem oneF_app {s : List UInt8} (t : List UInt8) (h : (oneF s).2 ≠ 0) : oneF (s ++ t) = oneF s := by
  cases s with
  | nil => simp [oneF] at h
  | cons b r =>
    have hg : ¬ (sizeF b = 0 ∨ r.length + 1 < sizeF b) := fun hn => h (by rw [oneF, oneT_none hn])
    have h2 : ¬ (sizeF b = 0 ∨ (r ++ t).length + 1 < sizeF b) := by rw [List.length_append]; omega
    rw [List.cons_append, oneF, oneF, oneT, oneT, if_neg hg, if_neg h2, List.take_append_of_le_length (by omega)]
theorem dec_app : ∀ (n : Nat) (s t : List UInt8) (l : List Int), s.length ≤ n → decL s = some l → decL (s ++ t) = (decL t).map (l ++ ·)
  | 0, s, t, l, hn, h => by
    obtain rfl := List.eq_nil_of_length_eq_zero (Nat.le_zero.1 hn)
    rw [decL_nil, Option.some.injEq] at h
    subst h
    simp
  | n + 1, s, t, l, hn, h => by
    by_cases hs : s = []
    · subst hs
      rw [decL_nil, Option.some.injEq] at h
      subst h
      simp
    · by_cases h0 : (oneF s).2 = 0
      · rw [decL_stop hs h0] at h; cases h
      · have hl := oneF_le s
        rw [decL_step hs h0] at h
        cases hd : decL (s.drop (oneF s).2) with
        | none => rw [hd] at h; cases h
        | some l' =>
          rw [hd, Option.map_some, Option.some.injEq] at h
          subst h
          have ho := oneF_app t h0
          have hne : s ++ t ≠ [] := by simp [hs]
          rw [decL_step hne (by rw [ho]; exact h0), ho, List.drop_append_of_le_length hl, dec_app n (s.drop (oneF s).2) t l' (by rw [List.length_drop]; omega) hd]
          cases decL t <;> simp
theorem decR_some {s : List UInt8} (h : (decR s).2 = true) : decL s = some (decR s).1 := by
  rw [decR] at h ⊢
  cases hd : decL s with
  | none => rw [hd] at h; cases h
  | some l => rfl
theorem decR_of {s : List UInt8} {l : List Int} (h : decL s = some l) : decR s = (l, true) := by rw [decR, h]
theorem name_dec {s : List UInt8} (h : nameB s = true) : (decR s).2 = true := by
  simp only [nameB, Bool.and_eq_true] at h
  exact h.1.2
theorem dec_star : decL [42] = some [42] := by decide +kernel
theorem dec_name_star {s : List UInt8} (h : nameB s = true) : decR (s ++ [42]) = ((decR s).1 ++ [42], true) := by
  apply decR_of
  rw [dec_app s.length s [42] _ (Nat.le_refl _) (decR_some (name_dec h)), dec_star]; rfl

/-- What stands in parts and folded letters: signs, and no star or question mark. -/
def Qs (x : Int) : Prop := (0 ≤ x ∧ x < 55296) ∧ x ≠ 42 ∧ x ≠ 63
theorem keysQ : (keysP.all fun c => (pickP c).all fun x => decide ((0 ≤ x ∧ x < 55296) ∧ x ≠ 42 ∧ x ≠ 63)) = true := by decide +kernel
theorem parts_Q {c x : Int} (h : x ∈ partsS c) : Qs x := by
  by_cases hk : c ∈ keysP
  · rw [parts_key hk] at h
    have h1 := List.all_eq_true.1 (List.all_eq_true.1 keysQ c hk) x h
    unfold Qs
    simpa using h1
  · rcases (show inB c 44032 55203 = true ∨ inB c 44032 55203 = false by cases inB c 44032 55203 <;> simp) with hh | hh
    · rw [parts_hangul hh] at h
      have := hangul_in hh h
      exact ⟨by omega, by omega, by omega⟩
    · rw [parts_none hk hh] at h
      simp at h
theorem takeF_Q : ∀ (n : Nat) (c x : Int), x ∈ takeF n c → x = c ∨ Qs x
  | 0, c, x, h => by rw [takeF, List.mem_singleton] at h; exact .inl h
  | n + 1, c, x, h => by
    rw [takeF] at h
    split at h
    · exact .inl (List.mem_singleton.1 h)
    · obtain ⟨y, hy, hx⟩ := List.mem_flatMap.1 h
      rcases takeF_Q n y x hx with rfl | h2
      · exact .inr (parts_Q hy)
      · exact .inr h2
theorem apart_Q {l : List Int} {x : Int} (h : x ∈ apartL l) : x ∈ l ∨ Qs x := by
  rw [apartL, mem_foldl_ins] at h
  rcases h with h | h
  · simp at h
  · obtain ⟨y, hy, hx⟩ := List.mem_flatMap.1 h
    rcases takeF_Q 3 y x hx with rfl | h2
    · exact .inl hy
    · exact .inr h2
theorem foldF_Q {c x : Int} (h : x ∈ foldF c) : x = c ∨ Qs x := by
  rw [foldF] at h
  split at h
  · rename_i h1
    rw [List.mem_singleton] at h
    subst h
    simp only [Bool.or_eq_true, inB_iff, beq_iff_eq] at h1
    exact .inr ⟨by omega, by omega, by omega⟩
  · split at h
    · simp only [List.mem_cons, List.not_mem_nil, or_false, or_self] at h
      subst h
      exact .inr ⟨by omega, by omega, by omega⟩
    · split at h
      · rw [List.mem_singleton] at h
        subst h
        exact .inr ⟨by omega, by omega, by omega⟩
      · exact .inl (List.mem_singleton.1 h)
theorem fold_Q {l : List Int} {x : Int} (h : x ∈ foldL l) : x ∈ l ∨ Qs x := by
  obtain ⟨y, hy, hx⟩ := List.mem_flatMap.1 h
  rcases foldF_Q hx with rfl | h2
  · exact .inl hy
  · exact .inr h2
theorem keys_Q {l : List Int} {x : Int} (h : x ∈ keysL l) : x ∈ l ∨ Qs x := by
  rcases apart_Q h with h1 | h1
  · rcases fold_Q h1 with h2 | h2
    · exact apart_Q h2
    · exact .inr h2
  · exact .inr h1
theorem Qs.sgn {x : Int} (h : Qs x) : sgnB x = true := by
  rw [sgnB, Bool.and_eq_true]
  refine ⟨inB_iff.2 (by have := h.1; omega), ?_⟩
  have h2 : ¬ inB x 55296 57343 = true := by rw [inB_iff]; have := h.1; omega
  simpa using h2
theorem keys_sgn {s : List UInt8} : ∀ x ∈ keysL (decR s).1, sgnB x = true := fun x hx => by
  rcases keys_Q hx with h1 | h1
  · exact (decR_good s).2 x h1
  · exact h1.sgn
/-- The units of a right name: those of its signs, taken apart and folded. -/
theorem unT_yes {s : List UInt8} (h : nameB s = true) : unT s = unitsL (keysL (decR s).1) := by
  have hk := keys_sgn (s := s)
  rw [unT, keyR_yes h]
  simp only
  rw [encL_good hk, decR_of (dec_enc hk)]

/-! ### A star at the end -/
theorem take_star : takeS 42 = [42] := by decide +kernel
theorem cls_star : cls 42 = 0 := by decide
theorem ins_star (o : List Int) : ins o 42 = o ++ [42] := by rw [ins, if_neg (by decide)]
theorem apart_star (l : List Int) : apartL (l ++ [42]) = apartL l ++ [42] := by
  rw [apartL, List.flatMap_append, List.flatMap_singleton, take_star, List.foldl_append, List.foldl_cons, List.foldl_nil, ins_star]; rfl
theorem fold_star (l : List Int) : foldL (l ++ [42]) = foldL l ++ [42] := by
  rw [foldL, List.flatMap_append, List.flatMap_singleton, show foldF 42 = [42] by decide]; rfl
theorem keys_star (l : List Int) : keysL (l ++ [42]) = keysL l ++ [42] := by rw [keysL, apart_star, fold_star, apart_star]; rfl
theorem units_star (l : List Int) : unitsL (l ++ [42]) = unitsL l ++ [[42]] := by
  rw [unitsL, List.foldl_append, List.foldl_cons, List.foldl_nil, uStep_new (.inr cls_star)]; rfl
theorem unT_star {s : List UInt8} (h : nameB s = true) (h2 : nameB (s ++ [42]) = true) : unT (s ++ [42]) = unT s ++ [[42]] := by
  rw [unT_yes h2, unT_yes h, dec_name_star h]
  simp only
  rw [keys_star, units_star]

/-! ### A plain name has no star -/
theorem oneF_plain {s : List UInt8} {c : Int} (h : (oneF s).2 ≠ 0) (hc : (oneF s).1 = c) (hc0 : c < 128) : ∃ b ∈ s, (b.toNat : Int) = c := by
  cases s with
  | nil => simp [oneF] at h
  | cons b r =>
    refine ⟨b, by simp, ?_⟩
    by_cases hb : b.toNat < 128
    · rw [oneF, oneT_small hb] at hc; exact hc
    · exfalso
      rw [oneF] at h hc
      rw [oneT] at h hc
      split at h
      · exact h rfl
      · rename_i hg
        rw [if_neg hg] at hc
        cases ha : accC (leadF b) (r.take (sizeF b - 1)) with
        | none => rw [ha] at h; exact h rfl
        | some d =>
          rw [ha] at h hc
          simp only at h hc
          split at h
          · exact h rfl
          · rename_i hd
            rw [if_neg hd] at hc
            simp only at hc
            subst hc
            simp only [not_or] at hg hd
            rcases sizeF_cases b with ⟨_, h3⟩ | ⟨h2, _⟩ | ⟨h2, _⟩ | ⟨h2, _⟩ | ⟨h2, _⟩
            · omega
            · exact hg.1 h2
            · rw [h2] at hd; simp only [leastC] at hd; omega
            · rw [h2] at hd; simp only [leastC] at hd; omega
            · rw [h2] at hd; simp only [leastC] at hd; omega
theorem dec_plain : ∀ (n : Nat) (s : List UInt8) (l : List Int), s.length ≤ n → decL s = some l → ∀ c ∈ l, c < 128 → ∃ b ∈ s, (b.toNat : Int) = c
  | 0, s, l, hn, h, c, hc, _ => by
    obtain rfl := List.eq_nil_of_length_eq_zero (Nat.le_zero.1 hn)
    rw [decL_nil, Option.some.injEq] at h
    subst h
    simp at hc
  | n + 1, s, l, hn, h, c, hc, h128 => by
    by_cases hs : s = []
    · subst hs
      rw [decL_nil, Option.some.injEq] at h
      subst h
      simp at hc
    · by_cases h0 : (oneF s).2 = 0
      · rw [decL_stop hs h0] at h; cases h
      · rw [decL_step hs h0] at h
        cases hd : decL (s.drop (oneF s).2) with
        | none => rw [hd] at h; cases h
        | some l' =>
          rw [hd, Option.map_some, Option.some.injEq] at h
          subst h
          rcases List.mem_cons.1 hc with h1 | h1
          · exact oneF_plain h0 h1.symm h128
          · obtain ⟨b, hb, he⟩ := dec_plain n _ l' (by rw [List.length_drop]; omega) hd c h1 h128
            exact ⟨b, List.mem_of_mem_drop hb, he⟩
def plainB (s : List UInt8) : Bool := s.all fun b => !(b == 42 || b == 63)
theorem plain_keys {s : List UInt8} (h : nameB s = true) (hp : plainB s = true) : ∀ x ∈ keysL (decR s).1, x ≠ 42 ∧ x ≠ 63 := by
  intro x hx
  rcases keys_Q hx with h1 | h1
  · have h2 := dec_plain s.length s _ (Nat.le_refl _) (decR_some (name_dec h)) x h1
    refine ⟨?_, ?_⟩ <;>
    · rintro rfl
      obtain ⟨b, hb, he⟩ := h2 (by decide)
      have h3 := List.all_eq_true.1 hp b hb
      simp only [Bool.not_eq_true', Bool.or_eq_false_iff, beq_eq_false_iff_ne] at h3
      first
        | exact h3.1 (UInt8.toNat_inj.1 (by simpa using Int.ofNat_inj.1 (he.trans rfl)))
        | exact h3.2 (UInt8.toNat_inj.1 (by simpa using Int.ofNat_inj.1 (he.trans rfl)))
  · exact h1.2
theorem plain_units {s : List UInt8} (h : nameB s = true) (hp : plainB s = true) : ∀ u ∈ unT s, isU u 42 = false ∧ isU u 63 = false := by
  intro u hu
  rw [unT_yes h] at hu
  have h1 := units_mem hu
  have h2 := plain_keys h hp
  refine ⟨?_, ?_⟩
  · rw [isU, decide_eq_false_iff_not]; rintro rfl; exact (h2 42 (h1 42 (by simp))).1 rfl
  · rw [isU, decide_eq_false_iff_not]; rintro rfl; exact (h2 63 (h1 63 (by simp))).2 rfl

/-! ### What fits -/
theorem fit_self (U : List (List Int)) : fitsL U U = true := by
  have key : ∀ i, i ≤ U.length → (fitFrom (U.take i) U)[i]? = some true := by
    intro i
    induction i with
    | zero => intro _; simp [fitFrom]
    | succ i ih =>
      intro hi
      have h1 := ih (by omega)
      obtain ⟨u, hu⟩ : ∃ u, U[i]? = some u := ⟨U[i], List.getElem?_eq_getElem (by omega)⟩
      rw [fitFrom_next hu, fitRow_at (by omega)]
      congr 1
      cases h42 : isU u 42 with
      | false => rw [fit_plain h42 h1 hu]; simp
      | true =>
        obtain ⟨v, hv⟩ : ∃ v, (fitFrom (U.take i) U)[i + 1]? = some v := ⟨_, List.getElem?_eq_getElem (by rw [fitFrom_len]; omega)⟩
        rw [fit_star h42 hv]
        cases i with
        | zero => rw [fit_star0 h42 h1]; simp
        | succ j => rw [fit_star h42 h1]; simp
  have h := key U.length (Nat.le_refl _)
  rw [List.take_length] at h
  rw [fitsL, List.getD_eq_getElem?_getD, h]; rfl
theorem take_succ_eq {N U : List (List Int)} {k : Nat} {u : List Int} (hu : U[k]? = some u) (hk : k < N.length) : N.take (k + 1) = U.take (k + 1) ↔ N.take k = U.take k ∧ u = N.getD k [] := by
  obtain ⟨x, hx⟩ : ∃ x, N[k]? = some x := ⟨N[k], List.getElem?_eq_getElem hk⟩
  have hkU := (List.getElem?_eq_some_iff.1 hu).1
  rw [List.take_add_one, List.take_add_one, hx, hu, List.getD_eq_getElem?_getD, hx]
  simp only [Option.toList_some, Option.getD_some]
  constructor
  · intro h
    have := List.append_inj h (by rw [List.length_take, List.length_take]; omega)
    exact ⟨this.1, by simpa using this.2.symm⟩
  · rintro ⟨h1, h2⟩
    rw [h1, h2]
theorem fit_plain_row {U N : List (List Int)} (hp : ∀ u ∈ U, isU u 42 = false ∧ isU u 63 = false) : ∀ i, i ≤ U.length → ∀ k, k ≤ N.length → (fitFrom (U.take i) N)[k]? = some (decide (k = i ∧ N.take k = U.take k)) := by
  intro i
  induction i with
  | zero =>
    intro _ k hk
    simp only [List.take_zero, fitFrom, List.foldl_nil]
    cases k with
    | zero => simp
    | succ k => rw [List.getElem?_cons_succ, List.getElem?_replicate, if_pos (by omega)]; simp
  | succ i ih =>
    intro hi k hk
    obtain ⟨u, hu⟩ : ∃ u, U[i]? = some u := ⟨U[i], List.getElem?_eq_getElem (by omega)⟩
    have hpu := hp u (List.mem_of_getElem? hu)
    rw [fitFrom_next hu, fitRow_at (by omega)]
    congr 1
    cases k with
    | zero => rw [fit_plain0 hpu.1]; simp
    | succ k =>
      obtain ⟨x, hx⟩ : ∃ x, N[k]? = some x := ⟨N[k], List.getElem?_eq_getElem (by omega)⟩
      rw [fit_plain hpu.1 (ih (by omega) k (by omega)) hx, hpu.2, Bool.false_or, ← Bool.decide_and, decide_eq_decide]
      constructor
      · rintro ⟨⟨rfl, h2⟩, h3⟩
        refine ⟨rfl, (take_succ_eq hu (by omega)).2 ⟨h2, ?_⟩⟩
        rw [List.getD_eq_getElem?_getD, hx]; exact h3
      · rintro ⟨h1, h2⟩
        have h1 : k = i := by omega
        subst h1
        have h3 := (take_succ_eq hu (by omega)).1 h2
        rw [List.getD_eq_getElem?_getD, hx] at h3
        exact ⟨⟨rfl, h3.1⟩, h3.2⟩
theorem star_to {N : List (List Int)} {fr : List Bool} (hl : fr.length = N.length + 1) : ∀ k, k ≤ N.length → (fitTo [42] N fr k = true ↔ ∃ j, j ≤ k ∧ fr[j]? = some true) := by
  have h42 : isU [42] 42 = true := by decide
  intro k
  induction k with
  | zero =>
    intro _
    obtain ⟨v, hv⟩ : ∃ v, fr[0]? = some v := ⟨fr[0], List.getElem?_eq_getElem (by omega)⟩
    rw [fit_star0 h42 hv]
    constructor
    · rintro rfl; exact ⟨0, by omega, hv⟩
    · rintro ⟨j, hj, h⟩
      obtain rfl : j = 0 := by omega
      rw [hv] at h; simpa using h
  | succ k ih =>
    intro hk
    obtain ⟨v, hv⟩ : ∃ v, fr[k + 1]? = some v := ⟨fr[k + 1], List.getElem?_eq_getElem (by omega)⟩
    rw [fit_star h42 hv, Bool.or_eq_true, ih (by omega)]
    constructor
    · rintro (rfl | ⟨j, hj, h⟩)
      · exact ⟨k + 1, by omega, hv⟩
      · exact ⟨j, by omega, h⟩
    · rintro ⟨j, hj, h⟩
      by_cases h1 : j = k + 1
      · subst h1; rw [hv] at h; left; simpa using h
      · right; exact ⟨j, by omega, h⟩
theorem fit_begins {U N : List (List Int)} (hp : ∀ u ∈ U, isU u 42 = false ∧ isU u 63 = false) : fitsL (U ++ [[42]]) N = (decide (U.length ≤ N.length) && decide (N.take U.length = U)) := by
  have h1 : fitFrom (U ++ [[42]]) N = fitRow [42] N (fitFrom U N) := by rw [fitFrom, List.foldl_append]; rfl
  rw [fitsL, h1, List.getD_eq_getElem?_getD, fitRow_at (by omega), Option.getD_some, Bool.eq_iff_iff, star_to (fitFrom_len U N) _ (Nat.le_refl _), Bool.and_eq_true, decide_eq_true_eq, decide_eq_true_eq]
  have hr := fit_plain_row (N := N) hp U.length (Nat.le_refl _)
  rw [List.take_length] at hr
  constructor
  · rintro ⟨j, hj, h⟩
    rw [hr j hj, Option.some.injEq, decide_eq_true_eq] at h
    obtain ⟨rfl, h⟩ := h
    rw [List.take_length] at h
    exact ⟨hj, h⟩
  · rintro ⟨hj, h⟩
    refine ⟨U.length, hj, ?_⟩
    rw [hr _ hj, List.take_length, h]; simp

/-! ### What the law asks -/
theorem glob_self {s : List UInt8} (h : nameB s = true) : globB s s = true := by rw [globB, h, fit_self]; rfl
theorem glob_alike {p n m : List UInt8} (h : aliB n m = true) : globB p m = globB p n := by
  rw [aliB, Bool.and_eq_true, Bool.and_eq_true, decide_eq_true_eq] at h
  have hn : nameB n = true := by
    cases hb : nameB n with
    | true => rfl
    | false => rw [keyR_no hb] at h; cases h.1.1
  have hm : nameB m = true := by
    cases hb : nameB m with
    | true => rfl
    | false => rw [keyR_no hb] at h; cases h.1.2
  rw [globB, globB, hn, hm, unT, unT, unT, h.2]
theorem glob_star {s t : List UInt8} (h : nameB s = true) (h2 : nameB (s ++ [42]) = true) (hp : plainB s = true) : globB (s ++ [42]) t = startsB t s := by
  rw [globB, startsB, h2, h, unT_star h h2, fit_begins (plain_units h hp)]
  cases nameB t <;> simp
end Go.Proofs.YtfmifaneggenoaaDoor
