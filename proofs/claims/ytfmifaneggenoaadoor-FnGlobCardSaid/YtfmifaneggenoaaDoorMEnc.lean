/-
  What is written is read. Plain Lean.
-/
import Derived.Test.YtfmifaneggenoaaDoorMComp2
namespace Go.Proofs.YtfmifaneggenoaaDoor

theorem contF_u8 {a d : Int} (h0 : 0 ≤ d) (h1 : d < 64) : contF a (u8 (128 + d)) = some (a * 64 + d) := by
  have hb := u8_val (x := 128 + d) (by omega) (by omega)
  rw [contF, if_pos (by omega), hb]
  congr 1
  omega
theorem one_enc {c : Int} (h : sgnB c = true) (r : List UInt8) : oneF (enc1 c ++ r) = (c, szC c) := by
  have hc := sgn_bounds h
  unfold enc1 szC
  split
  · rename_i h1
    have hb := u8_val (x := c) (by omega) (by omega)
    rw [List.cons_append, List.nil_append, oneF, oneT_small (by omega), hb]
  · split
    · rename_i h1 h2
      have hb := u8_val (x := 192 + c / 64) (by omega) (by omega)
      have hs : sizeF (u8 (192 + c / 64)) = 2 := by rw [sizeF, if_neg (by omega), if_neg (by omega), if_pos (by omega)]
      have hl : leadF (u8 (192 + c / 64)) = c / 64 := by rw [leadF, if_neg (by omega), if_pos (by omega)]; omega
      rw [List.cons_append, oneF, oneT_some (c := c) (by omega) (by rw [hs]; simp), hs, if_neg]
      · rw [h]; simp [leastC]; omega
      · rw [hs, hl]
        simp only [List.cons_append, List.nil_append, Nat.add_one_sub_one, List.take_succ_cons, List.take_zero, accC, contF_u8 (a := c / 64) (d := c % 64) (by omega) (by omega), Option.bind_some]
        congr 1; omega
    · split
      · rename_i h1 h2 h3
        have hb := u8_val (x := 224 + c / 4096) (by omega) (by omega)
        have hs : sizeF (u8 (224 + c / 4096)) = 3 := by rw [sizeF, if_neg (by omega), if_neg (by omega), if_neg (by omega), if_pos (by omega)]
        have hl : leadF (u8 (224 + c / 4096)) = c / 4096 := by rw [leadF, if_neg (by omega), if_neg (by omega), if_pos (by omega)]; omega
        rw [List.cons_append, oneF, oneT_some (c := c) (by omega) (by rw [hs]; simp), hs, if_neg]
        · rw [h]; simp [leastC]; omega
        · rw [hs, hl]
          simp only [List.cons_append, List.nil_append, Nat.add_one_sub_one, List.take_succ_cons, List.take_zero, accC, contF_u8 (a := c / 4096) (d := c / 64 % 64) (by omega) (by omega), Option.bind_some, contF_u8 (a := c / 4096 * 64 + c / 64 % 64) (d := c % 64) (by omega) (by omega)]
          congr 1; omega
      · rename_i h1 h2 h3
        have hb := u8_val (x := 240 + c / 262144) (by omega) (by omega)
        have hs : sizeF (u8 (240 + c / 262144)) = 4 := by rw [sizeF, if_neg (by omega), if_neg (by omega), if_neg (by omega), if_neg (by omega), if_pos (by omega)]
        have hl : leadF (u8 (240 + c / 262144)) = c / 262144 := by rw [leadF, if_neg (by omega), if_neg (by omega), if_neg (by omega)]; omega
        rw [List.cons_append, oneF, oneT_some (c := c) (by omega) (by rw [hs]; simp), hs, if_neg]
        · rw [h]; simp [leastC]; omega
        · rw [hs, hl]
          simp only [List.cons_append, List.nil_append, Nat.add_one_sub_one, List.take_succ_cons, List.take_zero, accC, contF_u8 (a := c / 262144) (d := c / 4096 % 64) (by omega) (by omega), Option.bind_some, contF_u8 (a := c / 262144 * 64 + c / 4096 % 64) (d := c / 64 % 64) (by omega) (by omega), contF_u8 (a := (c / 262144 * 64 + c / 4096 % 64) * 64 + c / 64 % 64) (d := c % 64) (by omega) (by omega)]
          congr 1; omega
theorem szC_pos (c : Int) : 0 < szC c := by unfold szC; split <;> (try omega); split <;> (try omega); split <;> omega
theorem dec_enc : ∀ {l : List Int}, (∀ x ∈ l, sgnB x = true) → decL (l.flatMap enc1) = some l
  | [], _ => rfl
  | c :: l, h => by
    have hc := h c (by simp)
    have ho := one_enc hc (l.flatMap enc1)
    have hp := szC_pos c
    have hne : enc1 c ++ l.flatMap enc1 ≠ [] := by
      intro he
      have := congrArg List.length he
      rw [List.length_append, enc1_len, List.length_nil] at this
      omega
    rw [List.flatMap_cons, decL_step hne (by rw [ho]; simp only; omega), ho]
    simp only
    rw [← enc1_len c, List.drop_left, dec_enc fun x hx => h x (by simp [hx])]
    rfl
/-- A right name that was written reads as what was written. -/
theorem name_enc {l : List Int} (h : nameB (encL l) = true) : (decR (encL l)).1 = l := by
  have hl := (nameB_len h).1
  by_cases hs : l.all sgnB = true
  · have h2 := List.all_eq_true.1 hs
    rw [encL_good h2, decR, dec_enc h2]
  · rw [encL, if_neg hs] at hl
    simp at hl
theorem pairF_in {y c p : Int} (h : pairF y c = (p, true)) : 0 ≤ p ∧ p ≤ 1114111 := by
  unfold pairF at h
  split at h
  · rename_i h1
    rw [Bool.and_eq_true, inB_iff, inB_iff] at h1
    injection h with h _
    omega
  · split at h
    · rename_i h1
      rw [Bool.and_eq_true, Bool.and_eq_true, inB_iff, inB_iff, decide_eq_true_eq] at h1
      injection h with h _
      omega
    · split at h
      · rename_i d hl
        injection h with h _
        subst h
        have hp := look_parts hl
        by_cases hk : d ∈ keysP
        · have := (keys_at hk).1; omega
        · cases hh : inB d 44032 55203 with
          | true => have := inB_iff.1 hh; omega
          | false => rw [parts_none hk hh] at hp; cases hp
      · injection h with _ h; cases h
theorem comp_in {l : List Int} (h : ∀ x ∈ l, InZ x) : ∀ x ∈ compL l, InZ x := by
  have ha := apart_in h
  rw [compL]
  revert ha
  generalize apartL l = xs
  intro ha
  have key : ∀ (xs : List Int) (s : List Int × Int), (∀ x ∈ xs, InZ x) → (∀ x ∈ s.1, InZ x) → ∀ x ∈ (xs.foldl cStep s).1, InZ x := by
    intro xs
    induction xs with
    | nil => intro s _ hs; exact hs
    | cons c xs ih =>
      intro s hx hs
      rw [List.foldl_cons]
      refine ih _ (fun x hx' => hx x (by simp [hx'])) ?_
      rw [cStep]
      split
      · rename_i hc
        intro x hx'
        rcases List.mem_or_eq_of_mem_set hx' with h1 | rfl
        · exact hs x h1
        · have hp := pairF_in (y := s.1.getD s.2.toNat 0) (c := c) (p := (pairF (s.1.getD s.2.toNat 0) c).1) (Prod.ext rfl hc.2.2)
          unfold InZ; omega
      · intro x hx'
        rcases List.mem_append.1 hx' with h1 | h1
        · exact hs x h1
        · rw [List.mem_singleton] at h1
          subst h1
          exact hx x (by simp)
  exact key xs _ ha (by simp)
end Go.Proofs.YtfmifaneggenoaaDoor
