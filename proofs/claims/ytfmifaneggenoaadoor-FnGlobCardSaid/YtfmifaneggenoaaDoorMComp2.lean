/-
  Put together and taken apart: signs are what they are taken apart. Plain Lean.
-/
import Derived.Test.YtfmifaneggenoaaDoorMCompose
import Derived.Test.YtfmifaneggenoaaDoorMNames
namespace Go.Proofs.YtfmifaneggenoaaDoor

/-! ### All the way apart -/
theorem takeF_parts : ∀ (n : Nat) (c : Int), lvl n c = true → ∀ x ∈ takeF n c, partsS x = []
  | 0, c, h, x, hx => by
    rw [takeF, List.mem_singleton] at hx
    subst hx
    rw [lvl, decide_eq_true_eq] at h
    exact List.eq_nil_of_length_eq_zero h
  | n + 1, c, h, x, hx => by
    rw [takeF] at hx
    split at hx
    · rename_i h0
      rw [List.mem_singleton] at hx
      subst hx
      exact List.eq_nil_of_length_eq_zero h0
    · obtain ⟨y, hy, hx⟩ := List.mem_flatMap.1 hx
      rw [lvl, List.all_eq_true] at h
      exact takeF_parts n y (h y hy) x hx
theorem take_parts {c x : Int} (h : x ∈ takeS c) : partsS x = [] := takeF_parts 3 c (lvl_all c) x h
theorem take_none {c : Int} (h : partsS c = []) : takeS c = [c] := by rw [takeS, takeF, if_pos (by rw [h]; rfl)]
theorem takeF_less : ∀ (n : Nat) (c : Int), lvl n c = true → takeF (n + 1) c = takeF n c
  | 0, c, h => by
    rw [lvl, decide_eq_true_eq] at h
    show (if (partsS c).length = 0 then [c] else (partsS c).flatMap (takeF 0)) = [c]
    rw [if_pos h]
  | n + 1, c, h => by
    rw [lvl, List.all_eq_true] at h
    show (if (partsS c).length = 0 then [c] else (partsS c).flatMap (takeF (n + 1))) = if (partsS c).length = 0 then [c] else (partsS c).flatMap (takeF n)
    split
    · rfl
    · have : ∀ l : List Int, (∀ x ∈ l, lvl n x = true) → l.flatMap (takeF (n + 1)) = l.flatMap (takeF n) := by
        intro l
        induction l with
        | nil => intro _; rfl
        | cons x l ih =>
          intro hl
          rw [List.flatMap_cons, List.flatMap_cons, takeF_less n x (hl x (by simp)), ih fun y hy => hl y (by simp [hy])]
      exact this _ h
theorem take_pair {p y c : Int} (h : partsS p = [y, c]) : takeS p = takeS y ++ takeS c := by
  have hl := lvl_all p
  rw [lvl, h, List.all_eq_true] at hl
  have h1 := takeF_less 2 y (hl y (by simp))
  have h2 := takeF_less 2 c (hl c (by simp))
  rw [takeS, takeF, h, if_neg (by simp)]
  simp only [List.flatMap_cons, List.flatMap_nil, List.append_nil]
  rw [takeS, takeS, h1, h2]
theorem look_parts {a b c : Int} (h : lookT a b = some c) : partsS c = [a, b] := by
  have h1 := cand_good
  rw [candGood, Bool.and_eq_true] at h1
  rw [lookT] at h
  cases hf : pairT.find? fun e => decide (e.1 = (a, b)) with
  | none => rw [hf] at h; cases h
  | some e =>
    rw [hf] at h
    have he := List.mem_of_find?_eq_some hf
    have hk := List.find?_some hf
    rw [decide_eq_true_eq] at hk
    have h2 := List.all_eq_true.1 h1.2 e he
    rw [Bool.and_eq_true, decide_eq_true_eq, hk] at h2
    have : e.2 = c := by simpa using h
    rw [← this]
    exact h2.1
theorem jamo_take {x : Int} (h : 4352 ≤ x ∧ x ≤ 4546) : takeS x = [x] := take_none (jamo h)
theorem hangul_take {c : Int} (h : inB c 44032 55203 = true) : takeS c = hangulP c := by
  have hp := parts_hangul h
  have h0 : 0 < (hangulP c).length := by rw [hangulP]; simp
  rw [takeS, takeF, if_neg (by rw [hp]; omega), hp]
  have : ∀ l : List Int, (∀ x ∈ l, partsS x = []) → l.flatMap (takeF 2) = l := by
    intro l
    induction l with
    | nil => intro _; rfl
    | cons x l ih =>
      intro hl
      rw [List.flatMap_cons, ih fun y hy => hl y (by simp [hy]), takeF, if_pos (by rw [hl x (by simp)]; rfl)]
      rfl
  exact this _ fun x hx => jamo (hangul_in h hx)
theorem pair_take {y c p : Int} (h : pairF y c = (p, true)) : takeS p = takeS y ++ takeS c := by
  unfold pairF at h
  split at h
  · rename_i h1
    rw [Bool.and_eq_true, inB_iff, inB_iff] at h1
    injection h with h _
    have hp : inB p 44032 55203 = true := by rw [inB_iff]; omega
    rw [hangul_take hp, jamo_take (by omega), jamo_take (by omega), hangulP, if_neg (by omega)]
    have e1 : 4352 + (p - 44032) / 588 = y := by omega
    have e2 : 4449 + (p - 44032) % 588 / 28 = c := by omega
    rw [e1, e2]
    rfl
  · split at h
    · rename_i h1
      rw [Bool.and_eq_true, Bool.and_eq_true, inB_iff, inB_iff, decide_eq_true_eq] at h1
      injection h with h _
      have hp : inB p 44032 55203 = true := by rw [inB_iff]; omega
      have hy : inB y 44032 55203 = true := by rw [inB_iff]; omega
      rw [hangul_take hp, hangul_take hy, jamo_take (by omega), hangulP, hangulP, if_pos (by omega), if_neg (by omega)]
      have e1 : 4352 + (p - 44032) / 588 = 4352 + (y - 44032) / 588 := by omega
      have e2 : 4449 + (p - 44032) % 588 / 28 = 4449 + (y - 44032) % 588 / 28 := by omega
      have e3 : 4519 + (p - 44032) % 28 = c := by omega
      rw [e1, e2, e3, List.append_nil]
    · split at h
      · rename_i d hl
        injection h with h _
        subst h
        exact take_pair (look_parts hl)
      · injection h with _ h; cases h

/-! ### Marks in order -/
/-- Behind one another, from the end: a mark stands behind no greater one. -/
def AdjR : List Int → Prop
  | [] => True
  | [_] => True
  | b :: a :: r => (cls b = 0 ∨ cls a ≤ cls b) ∧ AdjR (a :: r)
theorem AdjR.tail {b : Int} {r : List Int} (h : AdjR (b :: r)) : AdjR r := by
  cases r with
  | nil => trivial
  | cons a r => exact h.2
theorem insF_adj {x : Int} (hx : 0 < cls x) : ∀ {r : List Int}, AdjR r → AdjR (insF x r)
  | [], _ => trivial
  | y :: r, h => by
    rw [insF]
    split
    · rename_i hlt
      have ih := insF_adj hx h.tail
      cases r with
      | nil => exact ⟨.inr (by omega), trivial⟩
      | cons a r =>
        rw [insF] at ih ⊢
        split
        · rename_i h2
          rw [if_pos h2] at ih
          exact ⟨h.1, ih⟩
        · rename_i h2
          rw [if_neg h2] at ih
          exact ⟨.inr (by omega), ih⟩
    · rename_i hlt
      exact ⟨.inr (by omega), h⟩
theorem ins_adj {o : List Int} {x : Int} (h : AdjR o.reverse) : AdjR (ins o x).reverse := by
  rw [ins]
  split
  · rename_i hx
    rw [List.reverse_reverse]
    exact insF_adj hx h
  · rename_i hx
    rw [List.reverse_append]
    cases hr : o.reverse with
    | nil => trivial
    | cons a r =>
      rw [hr] at h
      exact ⟨.inl (by have := cls_bound x; omega), h⟩
theorem foldl_adj : ∀ (l o : List Int), AdjR o.reverse → AdjR (l.foldl ins o).reverse
  | [], _, h => h
  | _ :: l, _, h => foldl_adj l _ (ins_adj h)
theorem apart_adj (l : List Int) : AdjR (apartL l).reverse := foldl_adj _ _ trivial
/-- One sign more of an ordered row goes to its end. -/
theorem ins_end {o : List Int} {x : Int} (h : AdjR (o ++ [x]).reverse) : ins o x = o ++ [x] := by
  rw [ins]
  split
  · rename_i hx
    rw [List.reverse_append] at h
    have h' : AdjR (x :: o.reverse) := h
    cases hr : o.reverse with
    | nil =>
      have : o = [] := by simpa using hr
      subst this
      rfl
    | cons y r =>
      rw [hr] at h'
      have h1 : cls y ≤ cls x := by
        rcases h'.1 with h2 | h2
        · omega
        · exact h2
      rw [insF, if_neg (by omega)]
      have : o = r.reverse ++ [y] := by have := congrArg List.reverse hr; simpa using this
      rw [this]
      simp
  · rfl
theorem adj_pre : ∀ {a b : List Int}, AdjR (a ++ b).reverse → AdjR a.reverse := by
  intro a b h
  rw [List.reverse_append] at h
  revert h
  generalize b.reverse = c
  intro h
  induction c with
  | nil => exact h
  | cons x c ih => exact ih (by rw [List.cons_append] at h; exact h.tail)
theorem insF_comm {x y : Int} (hne : cls x ≠ cls y) : ∀ r : List Int, insF x (insF y r) = insF y (insF x r)
  | [] => by
    have h3 : cls y < cls x ↔ ¬ cls x < cls y := by omega
    by_cases h : cls x < cls y <;> simp [insF, h3, h]
  | z :: r => by
    have ih := insF_comm hne r
    have h3 : cls y < cls x ↔ ¬ cls x < cls y := by omega
    by_cases h1 : cls y < cls z <;> by_cases h2 : cls x < cls z <;> by_cases h : cls x < cls y <;> first | (exfalso; omega) | simp [insF, h1, h2, h3, h, ih]
theorem ins_comm {o : List Int} {x y : Int} (hx : 0 < cls x) (hy : 0 < cls y) (hne : cls x ≠ cls y) : ins (ins o x) y = ins (ins o y) x := by
  rw [ins, if_pos hy, ins, if_pos hx, ins, if_pos hx, ins, if_pos hy, List.reverse_reverse, List.reverse_reverse, insF_comm (by omega)]
/-- A mark passes marks of other classes. -/
theorem ins_pass {c : Int} (hc : 0 < cls c) : ∀ (M Z : List Int), (∀ m ∈ M, 0 < cls m ∧ cls m < cls c) → (c :: M).foldl ins Z = (M ++ [c]).foldl ins Z
  | [], _, _ => rfl
  | m :: M, Z, h => by
    have hm := h m (by simp)
    have ih := ins_pass hc M (ins Z m) fun x hx => h x (by simp [hx])
    rw [List.foldl_cons, List.foldl_cons, ins_comm hc hm.1 (by omega), List.cons_append, List.foldl_cons, ← ih, List.foldl_cons]

theorem adj_last : ∀ {r : List Int} {w : Int}, AdjR (w :: r) → (∀ m ∈ w :: r, 0 < cls m) → ∀ m ∈ w :: r, cls m ≤ cls w
  | [], w, _, _, m, hm => by rw [List.mem_singleton] at hm; subst hm; exact Int.le_refl _
  | a :: r, w, h, hp, m, hm => by
    rcases List.mem_cons.1 hm with rfl | hm
    · exact Int.le_refl _
    · have h1 := adj_last h.2 (fun x hx => hp x (List.mem_cons_of_mem _ hx)) m hm
      have h2 := hp w (by simp)
      have h3 := h.1
      omega

/-! ### The walk of Compose keeps what is there -/
theorem apart_snoc (o : List Int) (c : Int) : apartL (o ++ [c]) = (takeS c).foldl ins (apartL o) := by
  rw [apartL, List.flatMap_append, List.foldl_append, List.flatMap_cons, List.flatMap_nil, List.append_nil]
  rfl
theorem take_marks : ∀ {M : List Int}, (∀ m ∈ M, takeS m = [m]) → M.flatMap takeS = M
  | [], _ => rfl
  | m :: M, h => by rw [List.flatMap_cons, h m (by simp), take_marks fun x hx => h x (by simp [hx])]; rfl
theorem dropCons {o : List Int} {k : Nat} {y : Int} (h : o[k]? = some y) : o = o.take k ++ y :: o.drop (k + 1) := by
  obtain ⟨hk, rfl⟩ := List.getElem?_eq_some_iff.1 h
  rw [← List.drop_eq_getElem_cons hk, List.take_append_drop]
/-- Where the walk stands. -/
structure KSt (xs : List Int) (i : Nat) (o : List Int) (t : Int) : Prop where
  st : (xs.take i).foldl cStep ([], -1) = (o, t)
  lo : -1 ≤ t
  hi : t < o.length
  ap : apartL o = xs.take i
  so : AdjR (o.drop (t + 1).toNat).reverse
  mks : ∀ m ∈ o.drop (t + 1).toNat, takeS m = [m] ∧ 0 < cls m ∧ ∀ z, xs[i - 1]? = some z → cls m ≤ cls z
theorem KSt.next {xs : List Int} (hxs : AdjR xs.reverse) (hps : ∀ x ∈ xs, takeS x = [x]) {i : Nat} {o : List Int} {t c : Int} (h : KSt xs i o t) (hx : xs[i]? = some c) : ∃ o' t', KSt xs (i + 1) o' t' := by
  have htk : xs.take (i + 1) = xs.take i ++ [c] := by rw [List.take_add_one, hx]; rfl
  have hst : (xs.take (i + 1)).foldl cStep ([], -1) = cStep (o, t) c := by rw [htk, List.foldl_append, h.st]; rfl
  have hend : ins (xs.take i) c = xs.take (i + 1) := by
    rw [htk]
    refine ins_end (adj_pre (b := xs.drop (i + 1)) ?_)
    rw [← htk, List.take_append_drop]
    exact hxs
  have hcm := hps c (List.mem_of_getElem? hx)
  have hmc : ∀ m ∈ o.drop (t + 1).toNat, 0 < cls c → cls m ≤ cls c := by
    intro m hm h0
    obtain ⟨_, h1, h2⟩ := h.mks m hm
    have hi0 : 0 < i := by
      rcases Nat.eq_zero_or_pos i with h3 | h3
      · subst h3
        have := h.st
        simp only [List.take_zero, List.foldl_nil, Prod.mk.injEq] at this
        rw [← this.1] at hm
        simp at hm
      · exact h3
    have hil := (List.getElem?_eq_some_iff.1 hx).1
    have hz : xs[i - 1]? = some (xs[i - 1]'(by omega)) := List.getElem?_eq_getElem _
    have h4 := h2 _ hz
    have h5 : cls (xs[i - 1]'(by omega)) ≤ cls c := by
      have h6 : AdjR (xs.take (i + 1)).reverse := adj_pre (b := xs.drop (i + 1)) (by rw [List.take_append_drop]; exact hxs)
      have h7 : xs.take i = xs.take (i - 1) ++ [xs[i - 1]'(by omega)] := by
        have := List.take_add_one (l := xs) (i := i - 1)
        rw [show i - 1 + 1 = i by omega, hz] at this
        exact this
      rw [htk, h7] at h6
      simp only [List.reverse_append, List.reverse_cons, List.reverse_nil, List.nil_append, List.cons_append] at h6
      rcases h6.1 with h8 | h8
      · omega
      · exact h8
    omega
  have happ : apartL (o ++ [c]) = xs.take (i + 1) := by
    rw [apart_snoc, hcm, h.ap]
    exact hend
  have app : ∀ t', (t' = if cls c = 0 then (o.length : Int) else t) → cStep (o, t) c = (o ++ [c], t') → ∃ o' t', KSt xs (i + 1) o' t' := by
    intro t' ht' he
    have h1 := h.lo
    have h2 := h.hi
    refine ⟨o ++ [c], t', ⟨by rw [hst, he], by rw [ht']; split <;> omega, by rw [ht', List.length_append, List.length_singleton]; split <;> omega, happ, ?_, ?_⟩⟩
    · by_cases hc0 : cls c = 0
      · rw [if_pos hc0] at ht'
        rw [ht', show ((o.length : Int) + 1).toNat = o.length + 1 by omega, List.drop_of_length_le (by simp)]
        trivial
      · rw [if_neg hc0] at ht'
        subst ht'
        rw [List.drop_append_of_le_length (by omega), List.reverse_append]
        have hs := h.so
        cases hr : (o.drop (t' + 1).toNat).reverse with
        | nil => trivial
        | cons a r =>
          rw [hr] at hs
          refine ⟨.inr (hmc a ?_ (by have := cls_bound c; omega)), hs⟩
          rw [← List.mem_reverse, hr]
          simp
    intro m hm
    rw [Nat.add_sub_cancel]
    by_cases hc0 : cls c = 0
    · rw [if_pos hc0] at ht'
      rw [ht', show ((o.length : Int) + 1).toNat = o.length + 1 by omega, List.drop_of_length_le (by simp)] at hm
      cases hm
    · rw [if_neg hc0] at ht'
      subst ht'
      rw [List.drop_append_of_le_length (by omega), List.mem_append] at hm
      have hcp : 0 < cls c := by have := cls_bound c; omega
      rcases hm with hm | hm
      · obtain ⟨k1, k2, _⟩ := h.mks m hm
        refine ⟨k1, k2, fun z hz => ?_⟩
        rw [hx] at hz
        injection hz with hz
        subst hz
        exact hmc m hm hcp
      · rw [List.mem_singleton] at hm
        subst hm
        refine ⟨hcm, hcp, fun z hz => ?_⟩
        rw [hx] at hz
        injection hz with hz
        subst hz
        exact Int.le_refl _
  by_cases ht : t < 0
  · exact app _ rfl (cStep_neg ht)
  · obtain ⟨k, rfl⟩ := Int.eq_ofNat_of_zero_le (show 0 ≤ t by omega)
    have hk := h.hi
    obtain ⟨y, hy⟩ : ∃ y, o[k]? = some y := ⟨_, List.getElem?_eq_getElem (by omega)⟩
    cases hf : freeC o (k : Int) c with
    | false => exact app _ rfl (cStep_nofree hf)
    | true =>
      rcases hp : pairF y c with ⟨p, b⟩
      cases b with
      | false => exact app _ rfl (cStep_nopair rfl hy hp)
      | true =>
        have he := cStep_put (o := o) (t := (k : Int)) (c := c) rfl hy hf hp
        have hkl : k < o.length := by omega
        have hM : (o.set k p).drop (k + 1) = o.drop (k + 1) := by
          rw [List.drop_set, if_pos (by omega)]
        have hset : o.set k p = o.take k ++ p :: o.drop (k + 1) := by
          have h1 := dropCons (o := o.set k p) (k := k) (y := p) (by rw [List.getElem?_set_self hkl])
          rw [hM, List.take_set_of_le (Nat.le_refl k)] at h1
          exact h1
        have hmk : ∀ m ∈ o.drop (k + 1), takeS m = [m] ∧ 0 < cls m ∧ ∀ z, xs[i - 1]? = some z → cls m ≤ cls z := h.mks
        have hpass : ∀ Z : List Int, (c :: o.drop (k + 1)).foldl ins Z = (o.drop (k + 1) ++ [c]).foldl ins Z := by
          intro Z
          by_cases hlast : (o.length : Int) - 1 = (k : Int)
          · rw [List.drop_of_length_le (by omega)]; rfl
          · obtain ⟨w, hw⟩ : ∃ w, o[o.length - 1]? = some w := ⟨_, List.getElem?_eq_getElem (by omega)⟩
            rw [freeC_mark hw hlast, Bool.and_eq_true, decide_eq_true_eq, decide_eq_true_eq] at hf
            have hwm : w ∈ o.drop (k + 1) := by
              rw [List.mem_iff_getElem?]
              exact ⟨o.length - 1 - (k + 1), by rw [List.getElem?_drop, show k + 1 + (o.length - 1 - (k + 1)) = o.length - 1 by omega]; exact hw⟩
            refine ins_pass (by omega) _ _ fun m hm => ⟨(hmk m hm).2.1, ?_⟩
            have hle : cls m ≤ cls w := by
              have hs : AdjR (o.drop (k + 1)).reverse := h.so
              have hd : o.drop (k + 1) = (o.drop (k + 1)).dropLast ++ [w] := by
                have hne : o.drop (k + 1) ≠ [] := List.ne_nil_of_mem hwm
                have h9 := List.dropLast_concat_getLast hne
                have h8 : (o.drop (k + 1)).getLast hne = w := by
                  rw [List.getLast_drop, List.getLast_eq_getElem]
                  obtain ⟨_, h7⟩ := List.getElem?_eq_some_iff.1 hw
                  exact h7
                rw [h8] at h9
                exact h9.symm
              have hrev : (o.drop (k + 1)).reverse = w :: (o.drop (k + 1)).dropLast.reverse := by
                conv => lhs; rw [hd]
                rw [List.reverse_append]; rfl
              rw [hrev] at hs
              exact adj_last hs (fun x hx => (hmk x (by rw [← List.mem_reverse, hrev]; exact hx)).2.1) m (by rw [← hrev, List.mem_reverse]; exact hm)
            omega
        refine ⟨o.set k p, k, ⟨by rw [hst, he], by omega, by rw [List.length_set]; omega, ?_, by rw [show ((k : Int) + 1).toNat = k + 1 by omega, hM]; exact h.so, ?_⟩⟩
        · rw [hset, apartL, List.flatMap_append, List.flatMap_cons, List.foldl_append, List.foldl_append, pair_take hp, List.foldl_append, hcm, take_marks fun m hm => (hmk m hm).1]
          have hA := happ
          rw [dropCons hy, apartL, List.append_assoc, List.flatMap_append, List.foldl_append, List.cons_append, List.flatMap_cons, List.foldl_append, List.flatMap_append, take_marks fun m hm => (hmk m hm).1, List.flatMap_cons, List.flatMap_nil, List.append_nil, hcm] at hA
          rw [← hA, ← hpass, List.foldl_cons]
          rfl
        · intro m hm
          rw [show ((k : Int) + 1).toNat = k + 1 by omega, hM] at hm
          obtain ⟨k1, k2, _⟩ := hmk m hm
          refine ⟨k1, k2, fun z hz => ?_⟩
          rw [Nat.add_sub_cancel, hx] at hz
          injection hz with hz
          subst hz
          have : 0 < cls c := by
            by_cases hlast : (o.length : Int) - 1 = (k : Int)
            · rw [List.drop_of_length_le (by omega)] at hm; cases hm
            · obtain ⟨w, hw⟩ : ∃ w, o[o.length - 1]? = some w := ⟨_, List.getElem?_eq_getElem (by omega)⟩
              rw [freeC_mark hw hlast, Bool.and_eq_true, decide_eq_true_eq, decide_eq_true_eq] at hf
              omega
          exact hmc m (by rw [show ((k : Int) + 1).toNat = k + 1 by omega]; exact hm) this
theorem apart_marks (l : List Int) : ∀ x ∈ apartL l, takeS x = [x] := by
  intro x hx
  rw [apartL, mem_foldl_ins] at hx
  rcases hx with hx | hx
  · cases hx
  · obtain ⟨c, _, hc⟩ := List.mem_flatMap.1 hx
    exact take_none (take_parts hc)
theorem apart_comp (l : List Int) : apartL (compL l) = apartL l := by
  have hadj := apart_adj l
  have hps := apart_marks l
  rw [compL]
  generalize apartL l = xs at hadj hps
  have key : ∀ i, i ≤ xs.length → ∃ o t, KSt xs i o t := by
    intro i
    induction i with
    | zero => intro _; exact ⟨[], -1, ⟨rfl, by omega, by simp, rfl, trivial, by simp⟩⟩
    | succ i ih =>
      intro hi
      obtain ⟨o, t, h⟩ := ih (by omega)
      exact h.next hadj hps (List.getElem?_eq_getElem (by omega))
  obtain ⟨o, t, h⟩ := key xs.length (Nat.le_refl _)
  have h1 := h.st
  rw [List.take_length] at h1
  rw [h1]
  have h2 := h.ap
  rwa [List.take_length] at h2
theorem comp_comp (l : List Int) : compL (compL l) = compL l := by rw [compL, apart_comp, compL]
theorem comp_short (l : List Int) : (compL l).length ≤ (apartL l).length := by
  have key : ∀ (xs : List Int) (s : List Int × Int), (xs.foldl cStep s).1.length ≤ s.1.length + xs.length := by
    intro xs
    induction xs with
    | nil => intro s; simp
    | cons c xs ih =>
      intro s
      rw [List.foldl_cons]
      refine Nat.le_trans (ih _) ?_
      rw [cStep]
      split
      · simp only [List.length_set, List.length_cons]; omega
      · simp only [List.length_append, List.length_cons, List.length_nil]; omega
  have h1 := key (apartL l) ([], -1)
  rw [compL]
  simpa using h1
theorem apart_pair {a b c : Int} (h : pairF a b = (c, true)) : apartL [c] = apartL [a, b] := by
  simp [apartL, pair_take h]
theorem keys_comp (l : List Int) : keysL (compL l) = keysL l := by rw [keysL, keysL, apart_comp]
end Go.Proofs.YtfmifaneggenoaaDoor
