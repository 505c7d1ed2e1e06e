/-
  Many texts in one: PartsI, Taken, MNames, Class.
-/
import Derived.Test.YtaogikhpglcmjaaGreatDoorGg
import Derived.Test.YtaogikhpglcmjaaGreatDoorPartsS
import Derived.Test.YtaogikhpglcmjaaGreatDoorGe
import Derived.Test.YtaogikhpglcmjaaGreatDoorGc
import Derived.Test.YtaogikhpglcmjaaGreatDoorGa
namespace Go.Proofs.YtaogikhpglcmjaaGreatDoor
open Go.RowKit

set_option linter.unusedVariables false
set_option maxRecDepth 100000 in
set_option maxHeartbeats 8000000 in
theorem implParts_any (c : Int) (w : World) (ic : -9223372036854775808 ≤ c ∧ c ≤ 9223372036854775807) :
    Calls Tryz.prog 156 #[.int .i64 c] w (Made w 3 1 (partsS c).length ((partsS c).map (Value.int .i64))) := by
  have H0 := Hp.start w
  obtain ⟨ps, hps⟩ : ∃ q, q = partsS c := ⟨_, rfl⟩
  have HPS := Lib.hid hps
  rw [← hps]
  clear hps
  go_enter Tryz.func156, Tryz.ntmps156
  go_wp2_with fail
  refine (within_any _ _ _ _).mono ?_
  rintro e w ⟨rfl, rfl⟩
  rcases (show inB c 44032 55203 = true ∨ inB c 44032 55203 = false by cases inB c 44032 55203 <;> simp) with hin | hin
  · have hin2 := inB_iff.1 hin
    have HE := Lib.hid (HPS.out.trans (parts_hangul hin))
    rw [hin]
    have H5 := H0.lit 3 1 2 ([4352 + (c - 44032) / 588, 4449 + (c - 44032) % 588 / 28].map (Value.int .i64)) rfl (by simp [maxLen])
    clear H0
    have hw0 : IntKind.i64.wrap (c - 44032) = c - 44032 := IntWalk.i64_in _ (by omega)
    by_cases hr : 0 < (c - 44032) % 28
    · have HE2 := Lib.hid (HE.out.trans (by rw [hangulP, if_pos hr]; rfl : _ = [4352 + (c - 44032) / 588, 4449 + (c - 44032) % 588 / 28, 4519 + (c - 44032) % 28]))
      clear HE
      replace H5 := H5.recast (l' := [.row 3 1 (.slice (some ⟨w.heap.size, 0, none⟩) 2 2) ([4352 + (c - 44032) / 588, 4449 + (c - 44032) % 588 / 28] : List Int).length (([4352 + (c - 44032) / 588, 4449 + (c - 44032) % 588 / 28] : List Int).map (Value.int .i64))]) rfl
      go_wp2_with (at_builtin; refine wp_appM (f := Value.int .i64) (H5) rfl _ _ _ rfl Tryz.underlying82 infoInt rfl 0 _ _ rfl rfl _ _ (4519 + (c - 44032) % 28) rfl (by simp) rfl (by first | (simp only [maxLen]; omega) | (simp [maxLen]; done) | (simp [maxLen]; omega)) (by first | omega | (simp; done) | (simp; omega)) ?_)
      intro v' w' H'
      obtain ⟨B', d', rfl⟩ := H'.shape 0 rfl
      go_wp2_with fail
      go_ret
      rw [HE2.out]
      exact H'.toMade 0 rfl
    · have HE2 := Lib.hid (HE.out.trans (by rw [hangulP, if_neg hr]; rfl : _ = [4352 + (c - 44032) / 588, 4449 + (c - 44032) % 588 / 28]))
      clear HE
      go_wp2_with fail
      go_ret
      rw [HE2.out]
      exact H5.toMade 0 rfl
  rw [hin]
  go_wp2_with fail
  refine (within_any _ _ _ _).mono ?_
  rintro e w ⟨rfl, rfl⟩
  rcases (show inB c 192 8491 = true ∨ inB c 192 8491 = false by cases inB c 192 8491 <;> simp) with hin2 | hin2
  · have HIN := Lib.hid hin
    rw [hin2]
    clear hin hin2
    go_wp2_with fail
    go_loopw [36] (fun iv wr => ∃ i : Nat, iv = .int .i64 i ∧ i ≤ 13 ∧ (∀ (j : Nat) (r : List Int × List Int × Int), j < i → rowTbl[j]? = some r → c ∉ r.1) ∧ Hp [] w wr []) (fun iv _ => 13 - (intOf iv).toNat)
    case atStart => exact ⟨0, rfl, by omega, fun j r hj => by omega, H0⟩
    case round =>
      clear H0
      obtain ⟨i, rfl, hi, hno, H⟩ := hrel
      by_cases hlt : i < 13
      · obtain ⟨r, hr, K⟩ := implRow_any i hlt wr
        have HR := Lib.hid hr
        have HN := Lib.hid hno
        have hsm : r.1.length ≤ 1000 := by
          have h : rowTbl.all (fun r => decide (r.1.length ≤ 1000)) = true := by decide
          simpa using List.all_eq_true.1 h r (List.mem_of_getElem? hr)
        have HLE := Lib.hid (rows_len hr)
        clear hr hno
        go_wp2_with fail
        refine K.mono ?_
        rintro e w1 ⟨A, ca, B, d, rfl, K1⟩
        have H1 := H.join K1
        clear H K1 K
        go_wp2_with fail
        refine (index_any A r.1.length ca r.1 c _ (H1.rd 1 rfl) (by omega)).mono ?_
        rintro e w2 ⟨z, rfl, hz, rfl⟩
        rcases hz with ⟨rfl, hn⟩ | ⟨k, rfl, hk, hz⟩
        · have HT : Hid (∀ (j : Nat) (r : List Int × List Int × Int), j < i + 1 → rowTbl[j]? = some r → c ∉ r.1) := Lib.hid fun j r' hj hr' => by
            by_cases hji : j = i
            · subst hji
              rw [HR.out] at hr'
              injection hr' with hr'
              rw [← hr']
              exact hn
            · exact HN.out j r' (by omega) hr'
          clear hn
          go_wp2_with fail
          go_roundw
          case rel => exact ⟨i + 1, by go_num, by omega, HT.out, H1.tail2⟩
          case measure => simp [intOf]; omega
        · have hk0 : (0 : Int) ≤ (k : Int) := by omega
          obtain ⟨y, hy⟩ := some_at (l := r.2.1) (n := r.2.1.length) rfl (show k < r.2.1.length by rw [← HLE.out]; exact hk)
          have hlb : 0 < r.2.1.length := by rw [← HLE.out]; omega
          obtain ⟨gB, cB, e, _⟩ := H1.form 0 rfl hlb
          injection e with e1 _ e2
          subst e1 e2
          have cl := H1.atM 0 rfl hy
          have HE := Lib.hid (HPS.out.trans (parts_at_row HR.out hz hy))
          have hk1 : (k : Int) < (r.2.1.length : Int) := by rw [← HLE.out]; omega
          clear hz hy
          by_cases hm : 0 < r.2.2
          · have HE2 := Lib.hid (HE.out.trans (if_pos hm))
            have H5 := H1.lit 3 1 2 ([y, r.2.2].map (Value.int .i64)) rfl (by simp [maxLen])
            clear H1 HE
            go_wp2_with fail
            go_ret
            rw [HE2.out]
            exact H5.toMade 0 rfl
          · have HE2 := Lib.hid (HE.out.trans (if_neg hm))
            have H5 := H1.lit 3 1 1 ([y].map (Value.int .i64)) rfl (by simp [maxLen])
            clear H1 HE
            go_wp2_with fail
            go_ret
            rw [HE2.out]
            exact H5.toMade 0 rfl
      · have HE := Lib.hid (HPS.out.trans (parts_norow (fun j r hr => hno j r (by have := (List.getElem?_eq_some_iff.1 hr).1; rw [show rowTbl.length = 13 from rfl] at this; omega) hr) HIN.out))
        have H5 := H.lit0 3 1
        clear hno H
        go_wp2_with fail
        go_ret
        rw [HE.out]
        exact H5.toMade 0 rfl
  · have HE := Lib.hid (HPS.out.trans (parts_far hin2 hin))
    have H5 := H0.lit0 3 1
    rw [hin2]
    clear hin hin2 H0
    go_wp2_with fail
    go_ret
    rw [HE.out]
    exact H5.toMade 0 rfl

end Go.Proofs.YtaogikhpglcmjaaGreatDoor

namespace Go.Proofs.YtaogikhpglcmjaaGreatDoor
open Go.RowKit

set_option linter.unusedVariables false
/-- All of a row of signs taken apart, n deep. -/
def flatT (n : Nat) (l : List Int) : List Int := l.flatMap (takeF n)
theorem flatT_len {n : Nat} (hn : n ≤ 3) {l : List Int} (hl : l.length ≤ 3) : (flatT n l).length ≤ 81 :=
  Nat.le_trans (flat_le (takeF_len n) l) (Nat.mul_le_mul hl (Nat.pow_le_pow_right (by omega) hn))
theorem takeF_len27 {n : Nat} (hn : n ≤ 3) (c : Int) : (takeF n c).length ≤ 27 := Nat.le_trans (takeF_len n c) (Nat.pow_le_pow_right (by omega) hn)
theorem parts_in {c : Int} (x : Int) (hx : x ∈ partsS c) : -9223372036854775808 ≤ x ∧ x ≤ 9223372036854775807 := by
  by_cases hk : c ∈ keysP
  · have h : keysP.all (fun c => (pickP c).all fun x => inB x 0 100000) = true := by decide +kernel
    rw [parts_key hk] at hx
    have := inB_iff.1 (List.all_eq_true.1 (List.all_eq_true.1 h c hk) x hx)
    omega
  · rcases (show inB c 44032 55203 = true ∨ inB c 44032 55203 = false by cases inB c 44032 55203 <;> simp) with h | h
    · rw [parts_hangul h] at hx
      have := hangul_in h hx
      omega
    · rw [parts_none hk h] at hx
      simp at hx

set_option maxRecDepth 100000 in
set_option maxHeartbeats 4000000 in
theorem taken_n : ∀ (n : Nat) (c : Int) (w : World), lvl n c = true → n ≤ 3 → (-9223372036854775808 ≤ c ∧ c ≤ 9223372036854775807) →
    Calls Tryz.prog 150 #[.int .i64 c] w (Made w 3 1 (takeF n c).length ((takeF n c).map (Value.int .i64))) := by
  intro n
  induction n with
  | zero =>
    intro c w hlv hn ic
    have h0 : (partsS c).length = 0 := by simpa [lvl] using hlv
    have H0 := Hp.start w
    go_enter Tryz.func150, Tryz.ntmps150
    go_wp2_with fail
    refine (implParts_any c _ ic).mono ?_
    rintro e w1 ⟨B, d, rfl, o1, f1⟩
    have H1 := H0.made o1 f1
    clear H0 o1 f1
    have h0' : (((partsS c).length : Int) == 0) = true := by rw [h0]; rfl
    have H2 := H1.lit 3 1 1 ([c].map (Value.int .i64)) rfl (by simp [maxLen])
    clear H1 hlv
    go_wp2_with fail
    go_ret
    exact H2.toMade 0 rfl
  | succ n ih =>
    intro c w hlv hn ic
    have H0 := Hp.start w
    have IH := Lib.hid ih
    clear ih
    go_enter Tryz.func150, Tryz.ntmps150
    go_wp2_with fail
    refine (implParts_any c _ ic).mono ?_
    rintro e w1 ⟨B, d_, rfl, o1, f1⟩
    obtain ⟨ps, hps⟩ : ∃ q, q = partsS c := ⟨_, rfl⟩
    have HPS := Lib.hid hps
    have hpl : ps.length ≤ 3 := by rw [hps]; exact parts_len c
    rw [← hps] at o1 ⊢
    clear hps
    have H1 := H0.made o1 f1
    clear H0 o1 f1
    by_cases h0 : ps.length = 0
    · have HE := Lib.hid (show takeF (n + 1) c = [c] by rw [takeF, ← HPS.out, if_pos h0])
      have h0' : ((ps.length : Int) == 0) = true := by rw [h0]; rfl
      have H2 := H1.lit 3 1 1 ([c].map (Value.int .i64)) rfl (by simp [maxLen])
      clear H1
      go_wp2_with fail
      go_ret
      rw [HE.out]
      exact H2.toMade 0 rfl
    have HE := Lib.hid (show takeF (n + 1) c = flatT n ps by rw [takeF, ← HPS.out, if_neg h0]; rfl)
    have HLV : Hid (∀ x ∈ ps, lvl n x = true) := Lib.hid fun x hx => by
      rw [lvl, ← HPS.out] at hlv
      exact List.all_eq_true.1 hlv x hx
    have HIN : Hid (∀ x ∈ ps, -9223372036854775808 ≤ x ∧ x ≤ 9223372036854775807) := Lib.hid fun x hx => by
      rw [HPS.out] at hx
      exact parts_in x hx
    clear hlv ic
    obtain ⟨gP, cP, e, _⟩ := H1.form 0 rfl (by omega)
    injection e with e1 _ e2
    subst e1 e2
    have h0' : ((ps.length : Int) == 0) = false := beq_eq_false_iff_ne.2 (by omega)
    obtain ⟨b2, hb2⟩ : ∃ q, q = w1.heap.size := ⟨_, rfl⟩
    have HB2 := Lib.hid hb2
    have H2 := H1.lit0 3 1
    rw [← hb2] at H2
    clear H1 hb2
    go_wp2_with fail
    rw [← HB2.out]
    go_loopw [4, 17] (fun v iv wr => ∃ (i : Nat), iv = .int .i64 i ∧ i ≤ ps.length ∧ Hp [] w wr [.row 3 1 v (flatT n (ps.take i)).length ((flatT n (ps.take i)).map (Value.int .i64)), .row 3 1 (.slice (some ⟨gP, 0, none⟩) ps.length d_) ps.length (ps.map (Value.int .i64))]) (fun _ iv _ => ps.length - (intOf iv).toNat)
    case atStart => exact ⟨0, rfl, by omega, H2⟩
    case round =>
      clear H2
      obtain ⟨i, rfl, hi, H⟩ := hrel
      obtain ⟨B, d, rfl⟩ := H.shape 0 rfl
      by_cases hlt : i < ps.length
      · obtain ⟨x, hx⟩ := at_some (l := ps) rfl hlt
        have cx := H.atM 1 rfl hx
        have hi0 : (0 : Int) ≤ (i : Int) := by omega
        have hi1 : (i : Int) < (ps.length : Int) := by omega
        have HX := Lib.hid hx
        have HT := Lib.hid (show flatT n (ps.take (i + 1)) = flatT n (ps.take i) ++ takeF n x by rw [At.take hx, flatT, List.flatMap_append, List.flatMap_singleton]; rfl)
        have hlo2 : (flatT n (ps.take i)).length ≤ 81 := flatT_len (by omega) (by rw [List.length_take]; omega)
        have hlx2 : (takeF n x).length ≤ 27 := takeF_len27 (by omega) x
        clear hx
        generalize flatT n (ps.take i) = o at H HT hlo2 ⊢
        go_wp2_with fail
        refine (IH.out x _ (HLV.out x HX.out.mem) (by omega) (HIN.out x HX.out.mem)).mono ?_
        rintro e w3 ⟨B3, d3, rfl, o3, f3⟩
        have H3 := H.made o3 f3
        clear H o3 f3 cx
        generalize takeF n x = m at H3 HT hlx2 ⊢
        go_wp2_with (at_builtin; refine wp_appS (f := Value.int .i64) H3 rfl _ _ _ rfl Tryz.underlying82 infoInt rfl 1 _ o rfl rfl B3 d3 m rfl (own_cap' (H3.row 0 rfl)) (H3.rd 0 rfl) (by simp [Value.oneCell']) (by simp only [maxLen]; omega) (by omega) ?_)
        intro v' w' H'
        have H2 : Hp [] w w' [.row 3 1 v' (flatT n (ps.take (i + 1))).length ((flatT n (ps.take (i + 1))).map (Value.int .i64)), .row 3 1 (.slice (some ⟨gP, 0, none⟩) ps.length d_) ps.length (ps.map (Value.int .i64))] := by
          rw [HT.out, List.map_append, List.length_append]
          exact H'.tail
        clear H'
        go_wp2_with fail
        go_roundw
        case rel => exact ⟨i + 1, by go_num, by omega, H2⟩
        case measure => simp [intOf]; omega
      · have ht : ps.take i = ps := List.take_of_length_le (by omega)
        rw [ht] at H ⊢
        clear ht
        have hge : ¬ ((i : Int) < (ps.length : Int)) := by omega
        go_wp2_with fail
        go_ret
        rw [HE.out]
        exact H.toMade 0 rfl
theorem taken_any (c : Int) (w : World) (ic : -9223372036854775808 ≤ c ∧ c ≤ 9223372036854775807) :
    Calls Tryz.prog 150 #[.int .i64 c] w (Made w 3 1 (takeS c).length ((takeS c).map (Value.int .i64))) := taken_n 3 c w (lvl_all c) (by omega) ic

set_option maxRecDepth 100000 in
set_option maxHeartbeats 4000000 in
theorem l4Take_n : ∀ (n : Nat) (c : Int) (w : World), lvl n c = true → n ≤ 3 → (-9223372036854775808 ≤ c ∧ c ≤ 9223372036854775807) →
    Calls Tryz.prog 144 #[.int .i64 c] w (Made w 3 1 (takeF n c).length ((takeF n c).map (Value.int .i64))) := by
  intro n
  induction n with
  | zero =>
    intro c w hlv hn ic
    have h0 : (partsS c).length = 0 := by simpa [lvl] using hlv
    have H0 := Hp.start w
    go_enter Tryz.func144, Tryz.ntmps144
    go_wp2_with fail
    refine (specParts_any c _ ic).mono ?_
    rintro e w1 ⟨B, d, rfl, o1, f1⟩
    have H1 := H0.made o1 f1
    clear H0 o1 f1
    have h0' : (((partsS c).length : Int) == 0) = true := by rw [h0]; rfl
    have H2 := H1.lit 3 1 1 ([c].map (Value.int .i64)) rfl (by simp [maxLen])
    clear H1 hlv
    go_wp2_with fail
    go_ret
    exact H2.toMade 0 rfl
  | succ n ih =>
    intro c w hlv hn ic
    have H0 := Hp.start w
    have IH := Lib.hid ih
    clear ih
    go_enter Tryz.func144, Tryz.ntmps144
    go_wp2_with fail
    refine (specParts_any c _ ic).mono ?_
    rintro e w1 ⟨B, d_, rfl, o1, f1⟩
    obtain ⟨ps, hps⟩ : ∃ q, q = partsS c := ⟨_, rfl⟩
    have HPS := Lib.hid hps
    have hpl : ps.length ≤ 3 := by rw [hps]; exact parts_len c
    rw [← hps] at o1 ⊢
    clear hps
    have H1 := H0.made o1 f1
    clear H0 o1 f1
    by_cases h0 : ps.length = 0
    · have HE := Lib.hid (show takeF (n + 1) c = [c] by rw [takeF, ← HPS.out, if_pos h0])
      have h0' : ((ps.length : Int) == 0) = true := by rw [h0]; rfl
      have H2 := H1.lit 3 1 1 ([c].map (Value.int .i64)) rfl (by simp [maxLen])
      clear H1
      go_wp2_with fail
      go_ret
      rw [HE.out]
      exact H2.toMade 0 rfl
    have HE := Lib.hid (show takeF (n + 1) c = flatT n ps by rw [takeF, ← HPS.out, if_neg h0]; rfl)
    have HLV : Hid (∀ x ∈ ps, lvl n x = true) := Lib.hid fun x hx => by
      rw [lvl, ← HPS.out] at hlv
      exact List.all_eq_true.1 hlv x hx
    have HIN : Hid (∀ x ∈ ps, -9223372036854775808 ≤ x ∧ x ≤ 9223372036854775807) := Lib.hid fun x hx => by
      rw [HPS.out] at hx
      exact parts_in x hx
    clear hlv ic
    obtain ⟨gP, cP, e, _⟩ := H1.form 0 rfl (by omega)
    injection e with e1 _ e2
    subst e1 e2
    have h0' : ((ps.length : Int) == 0) = false := beq_eq_false_iff_ne.2 (by omega)
    obtain ⟨b2, hb2⟩ : ∃ q, q = w1.heap.size := ⟨_, rfl⟩
    have HB2 := Lib.hid hb2
    have H2 := H1.lit0 3 1
    rw [← hb2] at H2
    clear H1 hb2
    go_wp2_with fail
    rw [← HB2.out]
    go_loopw [4, 5] (fun v iv wr => ∃ (i : Nat), iv = .int .i64 i ∧ i ≤ ps.length ∧ Hp [] w wr [.row 3 1 v (flatT n (ps.take i)).length ((flatT n (ps.take i)).map (Value.int .i64)), .row 3 1 (.slice (some ⟨gP, 0, none⟩) ps.length d_) ps.length (ps.map (Value.int .i64))]) (fun _ iv _ => ps.length - (intOf iv).toNat)
    case atStart => exact ⟨0, rfl, by omega, H2⟩
    case round =>
      clear H2
      obtain ⟨i, rfl, hi, H⟩ := hrel
      obtain ⟨B, d, rfl⟩ := H.shape 0 rfl
      by_cases hlt : i < ps.length
      · obtain ⟨x, hx⟩ := at_some (l := ps) rfl hlt
        have cx := H.atM 1 rfl hx
        have hi0 : (0 : Int) ≤ (i : Int) := by omega
        have hi1 : (i : Int) < (ps.length : Int) := by omega
        have HX := Lib.hid hx
        have HT := Lib.hid (show flatT n (ps.take (i + 1)) = flatT n (ps.take i) ++ takeF n x by rw [At.take hx, flatT, List.flatMap_append, List.flatMap_singleton]; rfl)
        have hlo2 : (flatT n (ps.take i)).length ≤ 81 := flatT_len (by omega) (by rw [List.length_take]; omega)
        have hlx2 : (takeF n x).length ≤ 27 := takeF_len27 (by omega) x
        clear hx
        generalize flatT n (ps.take i) = o at H HT hlo2 ⊢
        go_wp2_with fail
        refine (IH.out x _ (HLV.out x HX.out.mem) (by omega) (HIN.out x HX.out.mem)).mono ?_
        rintro e w3 ⟨B3, d3, rfl, o3, f3⟩
        have H3 := H.made o3 f3
        clear H o3 f3 cx
        generalize takeF n x = m at H3 HT hlx2 ⊢
        go_wp2_with (at_builtin; refine wp_appS (f := Value.int .i64) H3 rfl _ _ _ rfl Tryz.underlying82 infoInt rfl 1 _ o rfl rfl B3 d3 m rfl (own_cap' (H3.row 0 rfl)) (H3.rd 0 rfl) (by simp [Value.oneCell']) (by simp only [maxLen]; omega) (by omega) ?_)
        intro v' w' H'
        have H2 : Hp [] w w' [.row 3 1 v' (flatT n (ps.take (i + 1))).length ((flatT n (ps.take (i + 1))).map (Value.int .i64)), .row 3 1 (.slice (some ⟨gP, 0, none⟩) ps.length d_) ps.length (ps.map (Value.int .i64))] := by
          rw [HT.out, List.map_append, List.length_append]
          exact H'.tail
        clear H'
        go_wp2_with fail
        go_roundw
        case rel => exact ⟨i + 1, by go_num, by omega, H2⟩
        case measure => simp [intOf]; omega
      · have ht : ps.take i = ps := List.take_of_length_le (by omega)
        rw [ht] at H ⊢
        clear ht
        have hge : ¬ ((i : Int) < (ps.length : Int)) := by omega
        go_wp2_with fail
        go_ret
        rw [HE.out]
        exact H.toMade 0 rfl
theorem l4Take_any (c : Int) (w : World) (ic : -9223372036854775808 ≤ c ∧ c ≤ 9223372036854775807) :
    Calls Tryz.prog 144 #[.int .i64 c] w (Made w 3 1 (takeS c).length ((takeS c).map (Value.int .i64))) := l4Take_n 3 c w (lvl_all c) (by omega) ic
end Go.Proofs.YtaogikhpglcmjaaGreatDoor

namespace Go.Proofs.YtaogikhpglcmjaaGreatDoor
open Go.RowKit

def InZ (x : Int) : Prop := -9223372036854775808 ≤ x ∧ x ≤ 9223372036854775807
theorem mem_insF {x y : Int} : ∀ {l : List Int}, y ∈ insF x l ↔ y = x ∨ y ∈ l
  | [] => by simp [insF]
  | z :: l => by
    rw [insF]
    split
    · rw [List.mem_cons, mem_insF, List.mem_cons]
      constructor
      · rintro (h | h | h) <;> simp [h]
      · rintro (h | h | h) <;> simp [h]
    · simp
theorem mem_ins {o : List Int} {x y : Int} : y ∈ ins o x ↔ y = x ∨ y ∈ o := by
  rw [ins]
  split
  · rw [List.mem_reverse, mem_insF, List.mem_reverse]
  · rw [List.mem_append, List.mem_singleton]; exact Or.comm
theorem mem_foldl_ins {y : Int} : ∀ {l o : List Int}, y ∈ l.foldl ins o ↔ y ∈ o ∨ y ∈ l
  | [], o => by simp
  | x :: l, o => by
    rw [List.foldl_cons, mem_foldl_ins, mem_ins, List.mem_cons]
    constructor
    · rintro ((h | h) | h) <;> simp [h]
    · rintro (h | h | h) <;> simp [h]
theorem takeF_in : ∀ (n : Nat) (c : Int), InZ c → ∀ x ∈ takeF n c, InZ x
  | 0, c, h, x, hx => by simp only [takeF, List.mem_singleton] at hx; subst hx; exact h
  | n + 1, c, h, x, hx => by
    rw [takeF] at hx
    split at hx
    · simp only [List.mem_singleton] at hx; subst hx; exact h
    · rw [List.mem_flatMap] at hx
      obtain ⟨y, hy, hx⟩ := hx
      exact takeF_in n y (parts_in y hy) x hx
theorem apart_in {l : List Int} (h : ∀ x ∈ l, InZ x) : ∀ x ∈ apartL l, InZ x := by
  intro x hx
  rw [apartL, mem_foldl_ins, List.mem_flatMap] at hx
  rcases hx with hx | ⟨y, hy, hx⟩
  · simp at hx
  · exact takeF_in 3 y (h y hy) x hx

def foldF (c : Int) : List Int :=
  if inB c 65 90 || inB c 913 929 || inB c 931 937 || inB c 1040 1071 || (c == 198 || c == 208 || c == 216 || c == 222) then [c + 32] else if c = 223 then [115, 115] else if c = 962 then [963] else [c]
def foldL (l : List Int) : List Int := l.flatMap foldF
theorem foldF_yes {c : Int} (h : (inB c 65 90 || inB c 913 929 || inB c 931 937 || inB c 1040 1071 || (c == 198 || c == 208 || c == 216 || c == 222)) = true) : foldF c = [c + 32] := by rw [foldF, if_pos h]
theorem foldF_no {c : Int} (h : (inB c 65 90 || inB c 913 929 || inB c 931 937 || inB c 1040 1071 || (c == 198 || c == 208 || c == 216 || c == 222)) = false) : foldF c = if c = 223 then [115, 115] else if c = 962 then [963] else [c] := by rw [foldF, if_neg (by rw [h]; simp)]
theorem foldF_top {c : Int} (h : (inB c 65 90 || inB c 913 929 || inB c 931 937 || inB c 1040 1071 || (c == 198 || c == 208 || c == 216 || c == 222)) = true) : 0 ≤ c ∧ c ≤ 1071 := by
  simp only [Bool.or_eq_true, inB_iff, beq_iff_eq] at h
  omega
theorem foldF_in {c : Int} (hc : InZ c) : ∀ x ∈ foldF c, InZ x := by
  rcases (show (inB c 65 90 || inB c 913 929 || inB c 931 937 || inB c 1040 1071 || (c == 198 || c == 208 || c == 216 || c == 222)) = true ∨ (inB c 65 90 || inB c 913 929 || inB c 931 937 || inB c 1040 1071 || (c == 198 || c == 208 || c == 216 || c == 222)) = false by cases (inB c 65 90 || inB c 913 929 || inB c 931 937 || inB c 1040 1071 || (c == 198 || c == 208 || c == 216 || c == 222)) <;> simp) with h | h
  · have h2 := foldF_top h
    rw [foldF_yes h]
    intro x hx
    rw [List.mem_singleton.1 hx]
    exact ⟨by omega, by omega⟩
  · rw [foldF_no h]
    split
    · simp [InZ]
    · split
      · simp [InZ]
      · simpa using hc
theorem foldF_len (c : Int) : (foldF c).length ≤ 2 := by
  rw [foldF]; split
  · simp
  · split
    · simp
    · split <;> simp
theorem foldL_len (l : List Int) : (foldL l).length ≤ l.length * 2 := flat_le foldF_len l
theorem fold_in {l : List Int} (h : ∀ x ∈ l, InZ x) : ∀ x ∈ foldL l, InZ x := by
  intro x hx
  rw [foldL, List.mem_flatMap] at hx
  obtain ⟨y, hy, hx⟩ := hx
  exact foldF_in (h y hy) x hx

/-- Is a text a right name? -/
def nameB (s : List UInt8) : Bool := (((inB (s.length : Int) 1 24 && !decide (s = [46])) && !decide (s = [46, 46])) && (decR s).2) && (decR s).1.all knownS
theorem nameB_len {s : List UInt8} (h : nameB s = true) : 1 ≤ s.length ∧ s.length ≤ 24 := by
  simp only [nameB, Bool.and_eq_true, inB_iff] at h
  have := h.1.1.1.1
  omega
def keysL (l : List Int) : List Int := apartL (foldL (apartL l))
theorem sgn_in {l : List Int} (h : ∀ x ∈ l, sgnB x = true) : ∀ x ∈ l, InZ x := fun x hx => by
  have := sgn_bounds (h x hx)
  exact ⟨by omega, by omega⟩
def keyR (s : List UInt8) : List UInt8 × Bool := if nameB s = true then (encL (keysL (decR s).1), true) else ([], false)
theorem keyR_no {s : List UInt8} (h : nameB s = false) : keyR s = ([], false) := by rw [keyR, if_neg (by rw [h]; simp)]
theorem keyR_yes {s : List UInt8} (h : nameB s = true) : keyR s = (encL (keysL (decR s).1), true) := by rw [keyR, if_pos h]
theorem keyR_len (s : List UInt8) : (keyR s).1.length ≤ 300000 := by
  rw [keyR]
  split
  · rename_i h
    have h1 := (decR_good s).1
    have h2 := nameB_len h
    have h3 := apart_len (decR s).1
    have h4 := foldL_len (apartL (decR s).1)
    have h5 := apart_len (foldL (apartL (decR s).1))
    have h6 := encL_le (keysL (decR s).1)
    simp only [keysL] at h6 ⊢
    omega
  · simp
def keyS (s : List UInt8) : List UInt8 := if (keyR s).2 = true then (keyR s).1 else s
/-- -1, 0 or 1. -/
def cmpT (a b : List UInt8) : Int := if Op.bytesLess a b = true then -1 else if a = b then 0 else 1
def ordT (a b : List UInt8) : Int := if cmpT (keyS a) (keyS b) ≠ 0 then cmpT (keyS a) (keyS b) else cmpT a b
end Go.Proofs.YtaogikhpglcmjaaGreatDoor

namespace Go.Proofs.YtaogikhpglcmjaaGreatDoor
open Go.RowKit

set_option linter.unusedVariables false
set_option maxRecDepth 100000 in
set_option maxHeartbeats 2000000 in
theorem implClass_any (c : Int) (w : World) :
    Calls Tryz.prog 151 #[.int .i64 c] w fun e w' => e = .returned (.int .i64 (cls c)) ∧ w' = w := by
  obtain ⟨k, hk⟩ : ∃ q, q = cls c := ⟨_, rfl⟩
  have HK := Lib.hid hk
  rw [← hk]
  clear hk
  go_enter Tryz.func151, Tryz.ntmps151
  go_wp2_with fail
  refine (within_any _ _ _ _).mono ?_
  rintro e w ⟨rfl, rfl⟩
  rcases (show inB c 768 772 = true ∨ inB c 768 772 = false by cases inB c 768 772 <;> simp) with hb | hb
  · have HE := Lib.hid (HK.out.trans (show cls c = 230 by unfold cls; rw [hb]; rfl))
    rw [hb]
    go_wp2_with fail
    go_ret
    rw [HE.out]
    exact ⟨rfl, rfl⟩
  · by_cases h1 : c = 776
    · subst h1
      have HE := Lib.hid (HK.out.trans (show cls 776 = 230 by decide))
      rw [hb]
      go_wp2_with fail
      go_ret
      rw [HE.out]
      exact ⟨rfl, rfl⟩
    · by_cases h2 : c = 778
      · subst h2
        have HE := Lib.hid (HK.out.trans (show cls 778 = 230 by decide))
        rw [hb]
        go_wp2_with fail
        go_ret
        rw [HE.out]
        exact ⟨rfl, rfl⟩
      · have h1' : (c == 776) = false := by simpa using h1
        have h2' : (c == 778) = false := by simpa using h2
        have HE := Lib.hid (HK.out.trans (show cls c = if c = 803 then 220 else if c = 807 then 202 else 0 by unfold cls; rw [hb, h1', h2']; rfl))
        rw [hb]
        by_cases h3 : c = 803
        · have HE2 := Lib.hid (HE.out.trans (if_pos h3))
          have h3' : (c == 803) = true := by simpa using h3
          go_wp2_with fail
          go_ret
          rw [HE2.out]
          exact ⟨rfl, rfl⟩
        · have h3' : (c == 803) = false := by simpa using h3
          by_cases h4 : c = 807
          · have HE2 := Lib.hid (HE.out.trans ((if_neg h3).trans (if_pos h4)))
            have h4' : (c == 807) = true := by simpa using h4
            go_wp2_with fail
            go_ret
            rw [HE2.out]
            exact ⟨rfl, rfl⟩
          · have HE2 := Lib.hid (HE.out.trans ((if_neg h3).trans (if_neg h4)))
            have h4' : (c == 807) = false := by simpa using h4
            go_wp2_with fail
            go_ret
            rw [HE2.out]
            exact ⟨rfl, rfl⟩

set_option maxRecDepth 100000 in
set_option maxHeartbeats 2000000 in
theorem l3Among_any (c : Int) (A : Option Addr) (n cc : Nat) (l : List Int) (w : World) (h : Rd w A n 1 (l.map (Value.int .i64))) (hn : n ≤ 1000) :
    Calls Tryz.prog 154 #[.int .i64 c, .slice A n cc] w fun e w' => e = .returned (.bool (l.contains c)) ∧ w' = w := by
  have HL := Lib.hid h.len1
  have G := Lib.hid h
  obtain ⟨k, hk⟩ : ∃ q, q = l.contains c := ⟨_, rfl⟩
  have HK := Lib.hid hk
  rw [← hk]
  clear h hk
  go_enter Tryz.func154, Tryz.ntmps154
  go_wp2_with fail
  go_loopw [5] (fun iv wr => ∃ i : Nat, iv = .int .i64 i ∧ i ≤ n ∧ c ∉ l.take i ∧ wr = w) (fun iv _ => n - (intOf iv).toNat)
  case atStart => exact ⟨0, rfl, by omega, by simp, rfl⟩
  case round =>
    obtain ⟨i, rfl, hi, hno, rfl⟩ := hrel
    by_cases hlt : i < n
    · obtain ⟨y, hy⟩ := some_at HL.out hlt
      obtain ⟨bk, of, rfl, hc⟩ := G.out.get1 hy
      have hi0 : (0 : Int) ≤ (i : Int) := by omega
      have hi1 : (i : Int) < (n : Int) := by omega
      have HY := Lib.hid hy
      have HO := Lib.hid hno
      clear hy hno
      by_cases hxy : y = c
      · subst hxy
        have HE := Lib.hid (HK.out.trans (by rw [List.contains_iff_mem]; exact List.mem_of_getElem? HY.out : _ = true))
        go_wp2_with fail
        go_ret
        rw [HE.out]
        exact ⟨rfl, rfl⟩
      · have HN := Lib.hid (show c ∉ l.take (i + 1) by rw [At.take HY.out, List.mem_append, not_or]; exact ⟨HO.out, by simpa using fun h => hxy h.symm⟩)
        go_wp2_with fail
        go_roundw
        case rel => exact ⟨i + 1, by go_num, by omega, HN.out, trivial⟩
        case measure => simp [intOf]; omega
    · have HE := Lib.hid (HK.out.trans (by rw [List.take_of_length_le (by rw [HL.out]; omega)] at hno; simpa using hno : _ = false))
      clear hno
      go_wp2_with fail
      go_ret
      rw [HE.out]
      exact ⟨rfl, rfl⟩

theorem among_cls (c : Int) : ([768, 769, 770, 771, 772, 776, 778] : List Int).contains c = ((inB c 768 772 || c == 776) || c == 778) := by
  rw [Bool.eq_iff_iff, List.contains_iff_mem]
  simp only [List.mem_cons, List.not_mem_nil, or_false, Bool.or_eq_true, inB_iff, beq_iff_eq]
  omega
set_option maxRecDepth 100000 in
set_option maxHeartbeats 2000000 in
theorem specClass_any (c : Int) (w : World) :
    Calls Tryz.prog 145 #[.int .i64 c] w fun e w' => e = .returned (.int .i64 (cls c)) ∧ Fr w w' := by
  obtain ⟨k, hk⟩ : ∃ q, q = cls c := ⟨_, rfl⟩
  have HK := Lib.hid hk
  rw [← hk]
  clear hk
  have H1 := (Hp.start w).lit 3 1 7 (([768, 769, 770, 771, 772, 776, 778] : List Int).map (Value.int .i64)) rfl (by simp [maxLen])
  go_enter Tryz.func145, Tryz.ntmps145
  go_wp2_with fail
  refine (l3Among_any c _ 7 7 [768, 769, 770, 771, 772, 776, 778] _ (H1.rd 0 rfl) (by decide)).mono ?_
  rintro e w1 ⟨rfl, hw1⟩
  rw [← hw1] at H1
  clear hw1
  rw [among_cls]
  rcases (show ((inB c 768 772 || c == 776) || c == 778) = true ∨ ((inB c 768 772 || c == 776) || c == 778) = false by cases ((inB c 768 772 || c == 776) || c == 778) <;> simp) with hb | hb
  · have HE := Lib.hid (HK.out.trans (show cls c = 230 by unfold cls; rw [hb]; rfl))
    rw [hb]
    go_wp2_with fail
    go_ret
    rw [HE.out]
    exact ⟨rfl, H1.fr⟩
  · have HE := Lib.hid (HK.out.trans (show cls c = if c = 803 then 220 else if c = 807 then 202 else 0 by unfold cls; rw [hb]; rfl))
    rw [hb]
    by_cases h3 : c = 803
    · have HE2 := Lib.hid (HE.out.trans (if_pos h3))
      have h3' : (c == 803) = true := by simpa using h3
      go_wp2_with fail
      go_ret
      rw [HE2.out]
      exact ⟨rfl, H1.fr⟩
    · have h3' : (c == 803) = false := by simpa using h3
      by_cases h4 : c = 807
      · have HE2 := Lib.hid (HE.out.trans ((if_neg h3).trans (if_pos h4)))
        have h4' : (c == 807) = true := by simpa using h4
        go_wp2_with fail
        go_ret
        rw [HE2.out]
        exact ⟨rfl, H1.fr⟩
      · have HE2 := Lib.hid (HE.out.trans ((if_neg h3).trans (if_neg h4)))
        have h4' : (c == 807) = false := by simpa using h4
        go_wp2_with fail
        go_ret
        rw [HE2.out]
        exact ⟨rfl, H1.fr⟩
end Go.Proofs.YtaogikhpglcmjaaGreatDoor
