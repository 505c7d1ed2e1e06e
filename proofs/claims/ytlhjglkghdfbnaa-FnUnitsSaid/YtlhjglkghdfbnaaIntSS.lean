/-
  Rows of rows compared, marked and held.
-/
import Derived.Test.YtlhjglkghdfbnaaRowsI
import Derived.Test.YtlhjglkghdfbnaaInts
import Derived.Deep.RegionHeld3
namespace Go.Proofs.Ytlhjglkghdfbnaa
open Go.RowKit

theorem fr_cell {w w' : World} {p : Addr} {u : Value} (f : Fr w w') (h : w.cell? p = some u) : w'.cell? p = some u := (f.cell (World.block_lt_of_cell? w _ h)).trans h
def totR (L : List (List Int)) : Nat := (L.map List.length).sum
theorem totR_at {L : List (List Int)} {i : Nat} {l : List Int} (h : L[i]? = some l) : totR (L.take (i + 1)) = totR (L.take i) + l.length := by
  rw [List.take_add_one, h]; simp [totR]
theorem totR_le (L : List (List Int)) (i : Nat) : totR (L.take i) ≤ totR L := by
  have e : totR L = totR (L.take i) + totR (L.drop i) := by
    unfold totR
    rw [← List.sum_append, ← List.map_append, List.take_append_drop]
  omega
theorem totR_flat (L : List (List Int)) : totR L = L.flatten.length := by rw [totR, List.length_flatten]
def marksR : List (List Int) → Nat → List (List Int)
  | [], _ => []
  | l :: L, k => marksInt l.length k :: marksR L (k + l.length)
theorem marksR_len : ∀ (L : List (List Int)) (k : Nat), (marksR L k).length = L.length
  | [], _ => rfl
  | l :: L, k => by rw [marksR, List.length_cons, marksR_len L, List.length_cons]
theorem marksR_snoc : ∀ (L : List (List Int)) (k : Nat) (l : List Int), marksR (L ++ [l]) k = marksR L k ++ [marksInt l.length (k + totR L)]
  | [], k, l => by simp [marksR, totR]
  | u :: L, k, l => by
    rw [List.cons_append, marksR, marksR_snoc L, marksR, List.cons_append]
    simp [totR, Nat.add_assoc]
theorem marksInt_len (n k : Nat) : (marksInt n k).length = n := by simp [marksInt]
theorem marksR_at {L : List (List Int)} {i k : Nat} {l : List Int} (h : L[i]? = some l) : (marksR L k)[i]? = some (marksInt l.length (k + totR (L.take i))) := by
  have h1 : L = L.take i ++ l :: L.drop (i + 1) := by
    have := List.getElem?_eq_some_iff.1 h
    obtain ⟨hi, e⟩ := this
    rw [← e, ← List.drop_eq_getElem_cons hi, List.take_append_drop]
  have h2 : ∀ (A B : List (List Int)) (k : Nat), marksR (A ++ B) k = marksR A k ++ marksR B (k + totR A) := by
    intro A
    induction A with
    | nil => intro B k; simp [marksR, totR]
    | cons a A ih => intro B k; rw [List.cons_append, marksR, ih, marksR, List.cons_append]; simp [totR, Nat.add_assoc]
  have hi := (List.getElem?_eq_some_iff.1 h).1
  have hl : (marksR (L.take i) k).length = i := by rw [marksR_len, List.length_take]; omega
  rw [show (marksR L k)[i]? = (marksR (L.take i ++ l :: L.drop (i + 1)) k)[i]? from by rw [← h1], h2, List.getElem?_append_right (by omega), hl, Nat.sub_self, marksR]
  rfl
/-- The rows, the first i marked. -/
def mid (L : List (List Int)) (k i : Nat) : List (List Int) := marksR (L.take i) k ++ L.drop i
theorem mid_len {L : List (List Int)} {k i : Nat} : (mid L k i).length = L.length := by
  rw [mid, List.length_append, marksR_len, List.length_take, List.length_drop]; omega
theorem mid_at {L : List (List Int)} {k i : Nat} {l : List Int} (h : L[i]? = some l) : (mid L k i)[i]? = some l := by
  have hi := (List.getElem?_eq_some_iff.1 h).1
  have hl : (marksR (L.take i) k).length = i := by rw [marksR_len, List.length_take]; omega
  rw [mid, List.getElem?_append_right (by omega), hl, Nat.sub_self, List.getElem?_drop]; exact h
theorem mid_set {L : List (List Int)} {k i : Nat} {l : List Int} (h : L[i]? = some l) : (mid L k i).set i (marksInt l.length (k + totR (L.take i))) = mid L k (i + 1) := by
  obtain ⟨hi, e⟩ := List.getElem?_eq_some_iff.1 h
  have hl : (marksR (L.take i) k).length = i := by rw [marksR_len, List.length_take]; omega
  rw [mid, List.set_append_right _ _ (by omega), hl, Nat.sub_self, mid, List.take_add_one, h, Option.toList_some, marksR_snoc, List.drop_eq_getElem_cons hi, List.set_cons_zero, List.append_assoc]; rfl
theorem set_same {α : Type} {l : List α} {i : Nat} {x : α} (h : l[i]? = some x) : l.set i x = l := by
  apply List.ext_getElem?
  intro j
  by_cases hij : i = j
  · subst hij; rw [List.getElem?_set_self (List.getElem?_eq_some_iff.1 h).1, h]
  · rw [List.getElem?_set_ne hij]

set_option linter.unusedVariables false
set_option maxRecDepth 100000 in
set_option maxHeartbeats 4000000 in
theorem eqIntSS_yes (A B : Option Addr) (n c d : Nat) (L : List (List Int)) (w : World) (h : RdR w A n L) (h' : RdR w B n L) (hn : n ≤ 100000000) (hi : ∀ l ∈ L, l.length ≤ 100000000) :
    Calls Try.prog 8 #[.slice A n c, .slice B n d] w fun e w' => e = .returned (.bool true) ∧ Fr w w' := by
  have HL := Lib.hid h.len
  have G := Lib.hid h
  have G' := Lib.hid h'
  clear h h'
  go_enter Try.func8, Try.ntmps8
  go_wp2_with fail
  go_loopw [5] (fun iv wr => ∃ i : Nat, iv = .int .i64 i ∧ i ≤ n ∧ Fr w wr) (fun iv _ => n - (intOf iv).toNat)
  case atStart => exact ⟨0, rfl, by omega, Below.refl _ _⟩
  case round =>
    obtain ⟨i, rfl, hile, hf⟩ := hrel
    by_cases hlt : i < n
    · obtain ⟨l, hx⟩ := some_at HL.out hlt
      obtain ⟨b1, o1, B1, d1, rfl, c1, r1⟩ := (G.out.fr hf).at_ hx
      obtain ⟨b2, o2, B2, d2, rfl, c2, r2⟩ := (G'.out.fr hf).at_ hx
      have hi0 : (0 : Int) ≤ (i : Int) := by omega
      have hi1 : (i : Int) < (n : Int) := by omega
      have hll := hi l (List.mem_of_getElem? hx)
      have HF := Lib.hid hf
      clear hx hf
      go_wp2_with fail
      go_region_held3 (fun w' => w'.cell? ⟨b1, o1 + i, none⟩ = some (.slice B1 l.length d1) ∧ w'.cell? ⟨b2, o2 + i, none⟩ = some (.slice B2 l.length d2))
        (first
          | exact ⟨c1a, c2a⟩
          | exact ⟨c1, c2⟩)
        ((first
          | (go_at_call 9
             refine (eqIntS_any _ _ _ _ _ _ l l _ r1.drew r2.drew hll hll).mono ?_
             rintro e w5 ⟨rfl, d5⟩
             rw [decide_eq_true rfl]
             have f5 := (Fr.drew_ _).then d5.fr
             have c1a := fr_cell f5 c1
             have c2a := fr_cell f5 c2)))
      go_wp2_with fail
      go_roundw
      case rel => exact ⟨i + 1, by go_num, by omega, HF.out.then f5⟩
      case measure => simp [intOf]; omega
    · have hge : ¬ ((i : Int) < (n : Int)) := by omega
      go_wp2_with fail
      go_ret
      exact ⟨rfl, hf⟩

set_option maxRecDepth 100000 in
set_option maxHeartbeats 4000000 in
theorem heldIntSS_any (A : Option Addr) (n c k : Nat) (L : List (List Int)) (w : World) (h : RdR w A n (marksR L k)) (hn : n ≤ 100000000) (hi : totR L ≤ 100000000) (hk : k ≤ 1099511627776) :
    Calls Try.prog 12 #[.slice A n c, .int .i64 k] w fun e w' => e = .returned (.int .i64 ((k + totR L : Nat) : Int)) ∧ Fr w w' := by
  have hl : L.length = n := by rw [← marksR_len L k]; exact h.len
  have HL := Lib.hid hl
  have G := Lib.hid h
  clear h hl
  go_enter Try.func12, Try.ntmps12
  go_wp2_with fail
  go_loopw [1, 5] (fun tv iv wr => ∃ i : Nat, iv = .int .i64 i ∧ tv = .int .i64 ((k + totR (L.take i) : Nat) : Int) ∧ i ≤ n ∧ Fr w wr) (fun _ iv _ => n - (intOf iv).toNat)
  case atStart => exact ⟨0, rfl, by simp [totR], by omega, Below.refl _ _⟩
  case round =>
    obtain ⟨i, rfl, rfl, hile, hf⟩ := hrel
    have htl := totR_le L i
    by_cases hlt : i < n
    · obtain ⟨l, hx⟩ := some_at HL.out hlt
      have hst := totR_at hx
      have htl2 := totR_le L (i + 1)
      obtain ⟨b1, o1, B1, d1, rfl, c1, r1⟩ := (G.out.fr hf).at_ (marksR_at (k := k) hx)
      rw [marksInt_len] at c1 r1
      have hi0 : (0 : Int) ≤ (i : Int) := by omega
      have hi1 : (i : Int) < (n : Int) := by omega
      have HF := Lib.hid hf
      have HS := Lib.hid (show k + totR (L.take i) + l.length = k + totR (L.take (i + 1)) by omega)
      obtain ⟨t, ht⟩ : ∃ t, t = k + totR (L.take i) := ⟨_, rfl⟩
      rw [← ht] at r1 HS ⊢
      have hll : l.length ≤ 100000000 := by omega
      have htb : t ≤ 1099511627776 + 100000000 := by omega
      clear hx hf hst ht htl htl2
      go_wp2_with fail
      refine (heldIntS_any _ _ _ t _ r1 hll (by omega)).mono ?_
      rintro e w5 ⟨rfl, f5⟩
      rw [HS.out]
      obtain ⟨t2, ht2⟩ : ∃ t, t = k + totR (L.take (i + 1)) := ⟨_, rfl⟩
      have HT2 := Lib.hid ht2
      rw [← ht2]
      have ht0 : ¬ ((t2 : Int) < 0) := by omega
      clear ht2
      go_wp2_with fail
      go_roundw
      case rel => exact ⟨i + 1, by go_num, by rw [HT2.out], by omega, HF.out.then f5⟩
      case measure => simp [intOf]; omega
    · have hge : ¬ ((i : Int) < (n : Int)) := by omega
      have ht : L.take i = L := List.take_of_length_le (by rw [HL.out]; omega)
      rw [ht]
      go_wp2_with fail
      go_ret
      exact ⟨rfl, hf⟩

set_option maxRecDepth 100000 in
set_option maxHeartbeats 4000000 in
theorem markIntSS_any (A : Option Addr) (n c k : Nat) (vs : List Value) (L : List (List Int)) (w : World) (h : Ob.ok w (manyR (.slice A n c) vs L)) (hv : vs.length = n) (hl : vs.length = L.length) (hn : n ≤ 100000000) (hi : totR L ≤ 100000000) (hk : k ≤ 1000000000) :
    Calls Try.prog 11 #[.slice A n c, .int .i64 k] w fun e w' => e = .returned (.int .i64 ((k + totR L : Nat) : Int)) ∧ Hp (Row.blocks (rowO (.slice A n c) vs :: inner vs L)) w w' [manyR (.slice A n c) vs (marksR L k)] := by
  subst hv
  have HL := Lib.hid hl.symm
  have H0 := (Hp.start_many h).unfold
  rw [List.append_nil] at H0
  generalize Row.blocks (rowO (.slice A vs.length c) vs :: inner vs L) = W at H0 ⊢
  obtain ⟨n, hnn⟩ : ∃ n, n = vs.length := ⟨_, rfl⟩
  have HN := Lib.hid hnn
  rw [← hnn] at hn
  have H1 : Hp W w w (.row 22 1 (.slice A n c) n (vs.map cSl) :: (inner vs L).map Row.ob) := by rw [hnn]; exact H0
  have HV := Lib.hid (show manyR (.slice A vs.length c) vs (marksR L k) = manyR (.slice A n c) vs (marksR L k) by rw [hnn])
  rw [HV.out, ← hnn]
  clear h hl H0 hnn
  go_enter Try.func11, Try.ntmps11
  go_wp2_with fail
  go_loopw [1, 5] (fun tv iv wr => ∃ i : Nat, iv = .int .i64 i ∧ tv = .int .i64 ((k + totR (L.take i) : Nat) : Int) ∧ i ≤ n ∧ Hp W w wr (.row 22 1 (.slice A n c) n (vs.map cSl) :: (inner vs (mid L k i)).map Row.ob)) (fun _ iv _ => n - (intOf iv).toNat)
  case atStart => exact ⟨0, rfl, by simp [totR], by omega, by simpa [mid, marksR] using H1⟩
  case round =>
    clear H1
    obtain ⟨i, rfl, rfl, hile, H⟩ := hrel
    have htl := totR_le L i
    by_cases hlt : i < n
    · obtain ⟨l, hx⟩ := some_at HL.out (show i < vs.length by rw [← HN.out]; exact hlt)
      obtain ⟨v, hv⟩ := some_at HN.out.symm hlt
      have hst := totR_at hx
      have htl2 := totR_le L (i + 1)
      obtain ⟨B1, d1, rfl⟩ := inner_shape H hv (mid_at hx)
      obtain ⟨gO, dO, e, _⟩ := H.form 0 rfl (by omega)
      injection e with e1 _ e2
      subst e1 e2
      have cv := H.atM (f1 := cSl) 0 rfl hv
      simp only [cSl] at cv
      have hrow : (.row 22 1 (.slice (some ⟨gO, 0, none⟩) n c) n (vs.map cSl) :: (inner vs (mid L k i)).map Row.ob)[i + 1]? = some (.row 3 1 (.slice B1 l.length d1) l.length (l.map (Value.int .i64))) := by
        rw [List.getElem?_cons_succ, List.getElem?_map, inner_at hv (mid_at hx)]; rfl
      have ho := H.row (i + 1) hrow
      have hi0 : (0 : Int) ≤ (i : Int) := by omega
      have hi1 : (i : Int) < (n : Int) := by omega
      have HS := Lib.hid (show k + totR (L.take i) + l.length = k + totR (L.take (i + 1)) by omega)
      have HM := Lib.hid (mid_set (k := k) hx)
      obtain ⟨t, ht⟩ : ∃ t, t = k + totR (L.take i) := ⟨_, rfl⟩
      rw [← ht] at HS ⊢
      have HT := Lib.hid ht
      have hll : l.length ≤ 100000000 := by omega
      have htb : t ≤ 1099511627776 := by omega
      have HX := Lib.hid hx
      have HVI := Lib.hid hv
      clear hx hv hst ht htl htl2
      go_wp2_with fail
      refine (markIntS_any _ _ _ t _ _ _ ho hll (by omega)).mono ?_
      rintro e w5 ⟨rfl, o5, g5⟩
      have H5 := H.grow (i + 1) hrow g5 o5 (.inl rfl)
      rw [HS.out]
      have H6 : Hp W w w5 (.row 22 1 (.slice (some ⟨gO, 0, none⟩) n c) n (vs.map cSl) :: (inner vs (mid L k (i + 1))).map Row.ob) := by
        have e1 : (inner vs (mid L k (i + 1))).map Row.ob = ((inner vs (mid L k i)).map Row.ob).set i (.row 3 1 (.slice B1 l.length d1) l.length ((marksInt l.length t).map (Value.int .i64))) := by
          have e2 : (rowI (.slice B1 l.length d1) (marksInt l.length t)).ob = .row 3 1 (.slice B1 l.length d1) l.length ((marksInt l.length t).map (Value.int .i64)) := by
            show Ob.row _ _ _ (marksInt l.length t).length _ = _
            rw [marksInt_len]; rfl
          rw [← e2, ← List.map_set, inner_set (by rw [mid_len, HL.out]) (by rw [mid_len, HL.out, ← HN.out]; exact hlt), set_same HVI.out, HT.out, HM.out]
        rw [e1]
        exact H5
      have H7 := Lib.hid H6
      clear H H5 H6 ho cv hrow o5 g5
      obtain ⟨t2, ht2⟩ : ∃ t, t = k + totR (L.take (i + 1)) := ⟨_, rfl⟩
      have HT2 := Lib.hid ht2
      rw [← ht2]
      clear ht2
      go_wp2_with fail
      go_roundw
      case rel => exact ⟨i + 1, by go_num, by rw [HT2.out], by omega, H7.out⟩
      case measure => simp [intOf]; omega
    · have hge : ¬ ((i : Int) < (n : Int)) := by omega
      have ht : L.take i = L := List.take_of_length_le (by rw [HL.out, ← HN.out]; omega)
      have hm : mid L k i = marksR L k := by rw [mid, ht, List.drop_of_length_le (by rw [HL.out, ← HN.out]; omega), List.append_nil]
      rw [ht]
      rw [hm] at H
      have HF : Hp W w wr [manyR (.slice A n c) vs (marksR L k)] := Hp.fold (l := []) (rs := rowO _ vs :: inner vs (marksR L k)) (by rw [List.append_nil]; rw [HN.out] at H ⊢; exact H)
      have HF2 := Lib.hid HF
      clear H HF ht hm
      go_wp2_with fail
      go_ret
      exact ⟨rfl, HF2.out⟩
end Go.Proofs.Ytlhjglkghdfbnaa
