/-
  Signs in their parts, and these in theirs.
-/
import Derived.Test.YtfmifaneggenoaaDoorPartsI
namespace Go.Proofs.YtfmifaneggenoaaDoor
open Go.RowKit

set_option linter.unusedVariables false
/-- All of a row of signs taken apart, n deep. -/
def flatT (n : Nat) (l : List Int) : List Int := l.flatMap (takeF n)
theorem flatT_len {n : Nat} (hn : n ≤ 3) {l : List Int} (hl : l.length ≤ 3) : (flatT n l).length ≤ 81 :=
  Nat.le_trans (flat_le (takeF_len n) l) (Nat.mul_le_mul hl (Nat.pow_le_pow_right (by omega) hn))
theorem takeF_len27 {n : Nat} (hn : n ≤ 3) (c : Int) : (takeF n c).length ≤ 27 := Nat.le_trans (takeF_len n c) (Nat.pow_le_pow_right (by omega) hn)
theorem parts_in {c : Int} (x : Int) (hx : x ∈ partsS c) : -9223372036854775808 ≤ x ∧ x ≤ 9223372036854775807 := by
  by_cases hk : c ∈ keysP
  · have h : keysP.all (fun c => (pickP c).all fun x => inB x 0 100000) = true := by decide +kernel
    rw [parts_key hk] at hx
    have := inB_iff.1 (List.all_eq_true.1 (List.all_eq_true.1 h c hk) x hx)
    omega
  · rcases (show inB c 44032 55203 = true ∨ inB c 44032 55203 = false by cases inB c 44032 55203 <;> simp) with h | h
    · rw [parts_hangul h] at hx
      have := hangul_in h hx
      omega
    · rw [parts_none hk h] at hx
      simp at hx

set_option maxRecDepth 100000 in
set_option maxHeartbeats 4000000 in
theorem taken_n : ∀ (n : Nat) (c : Int) (w : World), lvl n c = true → n ≤ 3 → (-9223372036854775808 ≤ c ∧ c ≤ 9223372036854775807) →
    Calls Tryd.prog 67 #[.int .i64 c] w (Made w 3 1 (takeF n c).length ((takeF n c).map (Value.int .i64))) := by
  intro n
  induction n with
  | zero =>
    intro c w hlv hn ic
    have h0 : (partsS c).length = 0 := by simpa [lvl] using hlv
    have H0 := Hp.start w
    go_enter Tryd.func67, Tryd.ntmps67
    go_wp2_with fail
    refine (implParts_any c _ ic).mono ?_
    rintro e w1 ⟨B, d, rfl, o1, f1⟩
    have H1 := H0.made o1 f1
    clear H0 o1 f1
    have h0' : (((partsS c).length : Int) == 0) = true := by rw [h0]; rfl
    have H2 := H1.lit 3 1 1 ([c].map (Value.int .i64)) rfl (by simp [maxLen])
    clear H1 hlv
    go_wp2_with fail
    go_ret
    exact H2.toMade 0 rfl
  | succ n ih =>
    intro c w hlv hn ic
    have H0 := Hp.start w
    have IH := Lib.hid ih
    clear ih
    go_enter Tryd.func67, Tryd.ntmps67
    go_wp2_with fail
    refine (implParts_any c _ ic).mono ?_
    rintro e w1 ⟨B, d_, rfl, o1, f1⟩
    obtain ⟨ps, hps⟩ : ∃ q, q = partsS c := ⟨_, rfl⟩
    have HPS := Lib.hid hps
    have hpl : ps.length ≤ 3 := by rw [hps]; exact parts_len c
    rw [← hps] at o1 ⊢
    clear hps
    have H1 := H0.made o1 f1
    clear H0 o1 f1
    by_cases h0 : ps.length = 0
    · have HE := Lib.hid (show takeF (n + 1) c = [c] by rw [takeF, ← HPS.out, if_pos h0])
      have h0' : ((ps.length : Int) == 0) = true := by rw [h0]; rfl
      have H2 := H1.lit 3 1 1 ([c].map (Value.int .i64)) rfl (by simp [maxLen])
      clear H1
      go_wp2_with fail
      go_ret
      rw [HE.out]
      exact H2.toMade 0 rfl
    have HE := Lib.hid (show takeF (n + 1) c = flatT n ps by rw [takeF, ← HPS.out, if_neg h0]; rfl)
    have HLV : Hid (∀ x ∈ ps, lvl n x = true) := Lib.hid fun x hx => by
      rw [lvl, ← HPS.out] at hlv
      exact List.all_eq_true.1 hlv x hx
    have HIN : Hid (∀ x ∈ ps, -9223372036854775808 ≤ x ∧ x ≤ 9223372036854775807) := Lib.hid fun x hx => by
      rw [HPS.out] at hx
      exact parts_in x hx
    clear hlv ic
    obtain ⟨gP, cP, e, _⟩ := H1.form 0 rfl (by omega)
    injection e with e1 _ e2
    subst e1 e2
    have h0' : ((ps.length : Int) == 0) = false := beq_eq_false_iff_ne.2 (by omega)
    obtain ⟨b2, hb2⟩ : ∃ q, q = w1.heap.size := ⟨_, rfl⟩
    have HB2 := Lib.hid hb2
    have H2 := H1.lit0 3 1
    rw [← hb2] at H2
    clear H1 hb2
    go_wp2_with fail
    rw [← HB2.out]
    go_loopw [4, 17] (fun v iv wr => ∃ (i : Nat), iv = .int .i64 i ∧ i ≤ ps.length ∧ Hp [] w wr [.row 3 1 v (flatT n (ps.take i)).length ((flatT n (ps.take i)).map (Value.int .i64)), .row 3 1 (.slice (some ⟨gP, 0, none⟩) ps.length d_) ps.length (ps.map (Value.int .i64))]) (fun _ iv _ => ps.length - (intOf iv).toNat)
    case atStart => exact ⟨0, rfl, by omega, H2⟩
    case round =>
      clear H2
      obtain ⟨i, rfl, hi, H⟩ := hrel
      obtain ⟨B, d, rfl⟩ := H.shape 0 rfl
      by_cases hlt : i < ps.length
      · obtain ⟨x, hx⟩ := at_some (l := ps) rfl hlt
        have cx := H.atM 1 rfl hx
        have hi0 : (0 : Int) ≤ (i : Int) := by omega
        have hi1 : (i : Int) < (ps.length : Int) := by omega
        have HX := Lib.hid hx
        have HT := Lib.hid (show flatT n (ps.take (i + 1)) = flatT n (ps.take i) ++ takeF n x by rw [At.take hx, flatT, List.flatMap_append, List.flatMap_singleton]; rfl)
        have hlo2 : (flatT n (ps.take i)).length ≤ 81 := flatT_len (by omega) (by rw [List.length_take]; omega)
        have hlx2 : (takeF n x).length ≤ 27 := takeF_len27 (by omega) x
        clear hx
        generalize flatT n (ps.take i) = o at H HT hlo2 ⊢
        go_wp2_with fail
        refine (IH.out x _ (HLV.out x HX.out.mem) (by omega) (HIN.out x HX.out.mem)).mono ?_
        rintro e w3 ⟨B3, d3, rfl, o3, f3⟩
        have H3 := H.made o3 f3
        clear H o3 f3 cx
        generalize takeF n x = m at H3 HT hlx2 ⊢
        go_wp2_with (at_builtin; refine wp_appS (f := Value.int .i64) H3 rfl _ _ _ rfl Tryd.underlying29 infoInt rfl 1 _ o rfl rfl B3 d3 m rfl (own_cap' (H3.row 0 rfl)) (H3.rd 0 rfl) (by simp [Value.oneCell']) (by simp only [maxLen]; omega) (by omega) ?_)
        intro v' w' H'
        have H2 : Hp [] w w' [.row 3 1 v' (flatT n (ps.take (i + 1))).length ((flatT n (ps.take (i + 1))).map (Value.int .i64)), .row 3 1 (.slice (some ⟨gP, 0, none⟩) ps.length d_) ps.length (ps.map (Value.int .i64))] := by
          rw [HT.out, List.map_append, List.length_append]
          exact H'.tail
        clear H'
        go_wp2_with fail
        go_roundw
        case rel => exact ⟨i + 1, by go_num, by omega, H2⟩
        case measure => simp [intOf]; omega
      · have ht : ps.take i = ps := List.take_of_length_le (by omega)
        rw [ht] at H ⊢
        clear ht
        have hge : ¬ ((i : Int) < (ps.length : Int)) := by omega
        go_wp2_with fail
        go_ret
        rw [HE.out]
        exact H.toMade 0 rfl
theorem taken_any (c : Int) (w : World) (ic : -9223372036854775808 ≤ c ∧ c ≤ 9223372036854775807) :
    Calls Tryd.prog 67 #[.int .i64 c] w (Made w 3 1 (takeS c).length ((takeS c).map (Value.int .i64))) := taken_n 3 c w (lvl_all c) (by omega) ic

set_option maxRecDepth 100000 in
set_option maxHeartbeats 4000000 in
theorem l4Take_n : ∀ (n : Nat) (c : Int) (w : World), lvl n c = true → n ≤ 3 → (-9223372036854775808 ≤ c ∧ c ≤ 9223372036854775807) →
    Calls Tryd.prog 68 #[.int .i64 c] w (Made w 3 1 (takeF n c).length ((takeF n c).map (Value.int .i64))) := by
  intro n
  induction n with
  | zero =>
    intro c w hlv hn ic
    have h0 : (partsS c).length = 0 := by simpa [lvl] using hlv
    have H0 := Hp.start w
    go_enter Tryd.func68, Tryd.ntmps68
    go_wp2_with fail
    refine (specParts_any c _ ic).mono ?_
    rintro e w1 ⟨B, d, rfl, o1, f1⟩
    have H1 := H0.made o1 f1
    clear H0 o1 f1
    have h0' : (((partsS c).length : Int) == 0) = true := by rw [h0]; rfl
    have H2 := H1.lit 3 1 1 ([c].map (Value.int .i64)) rfl (by simp [maxLen])
    clear H1 hlv
    go_wp2_with fail
    go_ret
    exact H2.toMade 0 rfl
  | succ n ih =>
    intro c w hlv hn ic
    have H0 := Hp.start w
    have IH := Lib.hid ih
    clear ih
    go_enter Tryd.func68, Tryd.ntmps68
    go_wp2_with fail
    refine (specParts_any c _ ic).mono ?_
    rintro e w1 ⟨B, d_, rfl, o1, f1⟩
    obtain ⟨ps, hps⟩ : ∃ q, q = partsS c := ⟨_, rfl⟩
    have HPS := Lib.hid hps
    have hpl : ps.length ≤ 3 := by rw [hps]; exact parts_len c
    rw [← hps] at o1 ⊢
    clear hps
    have H1 := H0.made o1 f1
    clear H0 o1 f1
    by_cases h0 : ps.length = 0
    · have HE := Lib.hid (show takeF (n + 1) c = [c] by rw [takeF, ← HPS.out, if_pos h0])
      have h0' : ((ps.length : Int) == 0) = true := by rw [h0]; rfl
      have H2 := H1.lit 3 1 1 ([c].map (Value.int .i64)) rfl (by simp [maxLen])
      clear H1
      go_wp2_with fail
      go_ret
      rw [HE.out]
      exact H2.toMade 0 rfl
    have HE := Lib.hid (show takeF (n + 1) c = flatT n ps by rw [takeF, ← HPS.out, if_neg h0]; rfl)
    have HLV : Hid (∀ x ∈ ps, lvl n x = true) := Lib.hid fun x hx => by
      rw [lvl, ← HPS.out] at hlv
      exact List.all_eq_true.1 hlv x hx
    have HIN : Hid (∀ x ∈ ps, -9223372036854775808 ≤ x ∧ x ≤ 9223372036854775807) := Lib.hid fun x hx => by
      rw [HPS.out] at hx
      exact parts_in x hx
    clear hlv ic
    obtain ⟨gP, cP, e, _⟩ := H1.form 0 rfl (by omega)
    injection e with e1 _ e2
    subst e1 e2
    have h0' : ((ps.length : Int) == 0) = false := beq_eq_false_iff_ne.2 (by omega)
    obtain ⟨b2, hb2⟩ : ∃ q, q = w1.heap.size := ⟨_, rfl⟩
    have HB2 := Lib.hid hb2
    have H2 := H1.lit0 3 1
    rw [← hb2] at H2
    clear H1 hb2
    go_wp2_with fail
    rw [← HB2.out]
    go_loopw [4, 5] (fun v iv wr => ∃ (i : Nat), iv = .int .i64 i ∧ i ≤ ps.length ∧ Hp [] w wr [.row 3 1 v (flatT n (ps.take i)).length ((flatT n (ps.take i)).map (Value.int .i64)), .row 3 1 (.slice (some ⟨gP, 0, none⟩) ps.length d_) ps.length (ps.map (Value.int .i64))]) (fun _ iv _ => ps.length - (intOf iv).toNat)
    case atStart => exact ⟨0, rfl, by omega, H2⟩
    case round =>
      clear H2
      obtain ⟨i, rfl, hi, H⟩ := hrel
      obtain ⟨B, d, rfl⟩ := H.shape 0 rfl
      by_cases hlt : i < ps.length
      · obtain ⟨x, hx⟩ := at_some (l := ps) rfl hlt
        have cx := H.atM 1 rfl hx
        have hi0 : (0 : Int) ≤ (i : Int) := by omega
        have hi1 : (i : Int) < (ps.length : Int) := by omega
        have HX := Lib.hid hx
        have HT := Lib.hid (show flatT n (ps.take (i + 1)) = flatT n (ps.take i) ++ takeF n x by rw [At.take hx, flatT, List.flatMap_append, List.flatMap_singleton]; rfl)
        have hlo2 : (flatT n (ps.take i)).length ≤ 81 := flatT_len (by omega) (by rw [List.length_take]; omega)
        have hlx2 : (takeF n x).length ≤ 27 := takeF_len27 (by omega) x
        clear hx
        generalize flatT n (ps.take i) = o at H HT hlo2 ⊢
        go_wp2_with fail
        refine (IH.out x _ (HLV.out x HX.out.mem) (by omega) (HIN.out x HX.out.mem)).mono ?_
        rintro e w3 ⟨B3, d3, rfl, o3, f3⟩
        have H3 := H.made o3 f3
        clear H o3 f3 cx
        generalize takeF n x = m at H3 HT hlx2 ⊢
        go_wp2_with (at_builtin; refine wp_appS (f := Value.int .i64) H3 rfl _ _ _ rfl Tryd.underlying29 infoInt rfl 1 _ o rfl rfl B3 d3 m rfl (own_cap' (H3.row 0 rfl)) (H3.rd 0 rfl) (by simp [Value.oneCell']) (by simp only [maxLen]; omega) (by omega) ?_)
        intro v' w' H'
        have H2 : Hp [] w w' [.row 3 1 v' (flatT n (ps.take (i + 1))).length ((flatT n (ps.take (i + 1))).map (Value.int .i64)), .row 3 1 (.slice (some ⟨gP, 0, none⟩) ps.length d_) ps.length (ps.map (Value.int .i64))] := by
          rw [HT.out, List.map_append, List.length_append]
          exact H'.tail
        clear H'
        go_wp2_with fail
        go_roundw
        case rel => exact ⟨i + 1, by go_num, by omega, H2⟩
        case measure => simp [intOf]; omega
      · have ht : ps.take i = ps := List.take_of_length_le (by omega)
        rw [ht] at H ⊢
        clear ht
        have hge : ¬ ((i : Int) < (ps.length : Int)) := by omega
        go_wp2_with fail
        go_ret
        rw [HE.out]
        exact H.toMade 0 rfl
theorem l4Take_any (c : Int) (w : World) (ic : -9223372036854775808 ≤ c ∧ c ≤ 9223372036854775807) :
    Calls Tryd.prog 68 #[.int .i64 c] w (Made w 3 1 (takeS c).length ((takeS c).map (Value.int .i64))) := l4Take_n 3 c w (lvl_all c) (by omega) ic
end Go.Proofs.YtfmifaneggenoaaDoor
