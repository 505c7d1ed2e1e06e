/-
  The program's Parts.
-/
import Derived.Test.YtfmifaneggenoaaDoorMApart
import Derived.Test.YtfmifaneggenoaaDoorPartsS
import Derived.Test.YtfmifaneggenoaaDoorAppS
namespace Go.Proofs.YtfmifaneggenoaaDoor
open Go.RowKit

set_option linter.unusedVariables false
set_option maxRecDepth 100000 in
set_option maxHeartbeats 8000000 in
theorem implParts_any (c : Int) (w : World) (ic : -9223372036854775808 ≤ c ∧ c ≤ 9223372036854775807) :
    Calls Tryd.prog 90 #[.int .i64 c] w (Made w 3 1 (partsS c).length ((partsS c).map (Value.int .i64))) := by
  have H0 := Hp.start w
  obtain ⟨ps, hps⟩ : ∃ q, q = partsS c := ⟨_, rfl⟩
  have HPS := Lib.hid hps
  rw [← hps]
  clear hps
  go_enter Tryd.func90, Tryd.ntmps90
  go_wp2_with fail
  refine (within_any _ _ _ _).mono ?_
  rintro e w ⟨rfl, rfl⟩
  rcases (show inB c 44032 55203 = true ∨ inB c 44032 55203 = false by cases inB c 44032 55203 <;> simp) with hin | hin
  · have hin2 := inB_iff.1 hin
    have HE := Lib.hid (HPS.out.trans (parts_hangul hin))
    rw [hin]
    have H5 := H0.lit 3 1 2 ([4352 + (c - 44032) / 588, 4449 + (c - 44032) % 588 / 28].map (Value.int .i64)) rfl (by simp [maxLen])
    clear H0
    have hw0 : IntKind.i64.wrap (c - 44032) = c - 44032 := IntWalk.i64_in _ (by omega)
    by_cases hr : 0 < (c - 44032) % 28
    · have HE2 := Lib.hid (HE.out.trans (by rw [hangulP, if_pos hr]; rfl : _ = [4352 + (c - 44032) / 588, 4449 + (c - 44032) % 588 / 28, 4519 + (c - 44032) % 28]))
      clear HE
      replace H5 := H5.recast (l' := [.row 3 1 (.slice (some ⟨w.heap.size, 0, none⟩) 2 2) ([4352 + (c - 44032) / 588, 4449 + (c - 44032) % 588 / 28] : List Int).length (([4352 + (c - 44032) / 588, 4449 + (c - 44032) % 588 / 28] : List Int).map (Value.int .i64))]) rfl
      go_wp2_with (at_builtin; refine wp_appM (f := Value.int .i64) (H5) rfl _ _ _ rfl Tryd.underlying29 infoInt rfl 0 _ _ rfl rfl _ _ (4519 + (c - 44032) % 28) rfl (by simp) rfl (by first | (simp only [maxLen]; omega) | (simp [maxLen]; done) | (simp [maxLen]; omega)) (by first | omega | (simp; done) | (simp; omega)) ?_)
      intro v' w' H'
      obtain ⟨B', d', rfl⟩ := H'.shape 0 rfl
      go_wp2_with fail
      go_ret
      rw [HE2.out]
      exact H'.toMade 0 rfl
    · have HE2 := Lib.hid (HE.out.trans (by rw [hangulP, if_neg hr]; rfl : _ = [4352 + (c - 44032) / 588, 4449 + (c - 44032) % 588 / 28]))
      clear HE
      go_wp2_with fail
      go_ret
      rw [HE2.out]
      exact H5.toMade 0 rfl
  rw [hin]
  go_wp2_with fail
  refine (within_any _ _ _ _).mono ?_
  rintro e w ⟨rfl, rfl⟩
  rcases (show inB c 192 8491 = true ∨ inB c 192 8491 = false by cases inB c 192 8491 <;> simp) with hin2 | hin2
  · have HIN := Lib.hid hin
    rw [hin2]
    clear hin hin2
    go_wp2_with fail
    go_loopw [36] (fun iv wr => ∃ i : Nat, iv = .int .i64 i ∧ i ≤ 13 ∧ (∀ (j : Nat) (r : List Int × List Int × Int), j < i → rowTbl[j]? = some r → c ∉ r.1) ∧ Hp [] w wr []) (fun iv _ => 13 - (intOf iv).toNat)
    case atStart => exact ⟨0, rfl, by omega, fun j r hj => by omega, H0⟩
    case round =>
      clear H0
      obtain ⟨i, rfl, hi, hno, H⟩ := hrel
      by_cases hlt : i < 13
      · obtain ⟨r, hr, K⟩ := implRow_any i hlt wr
        have HR := Lib.hid hr
        have HN := Lib.hid hno
        have hsm : r.1.length ≤ 1000 := by
          have h : rowTbl.all (fun r => decide (r.1.length ≤ 1000)) = true := by decide
          simpa using List.all_eq_true.1 h r (List.mem_of_getElem? hr)
        have HLE := Lib.hid (rows_len hr)
        clear hr hno
        go_wp2_with fail
        refine K.mono ?_
        rintro e w1 ⟨A, ca, B, d, rfl, K1⟩
        have H1 := H.join K1
        clear H K1 K
        go_wp2_with fail
        refine (index_any A r.1.length ca r.1 c _ (H1.rd 1 rfl) (by omega)).mono ?_
        rintro e w2 ⟨z, rfl, hz, rfl⟩
        rcases hz with ⟨rfl, hn⟩ | ⟨k, rfl, hk, hz⟩
        · have HT : Hid (∀ (j : Nat) (r : List Int × List Int × Int), j < i + 1 → rowTbl[j]? = some r → c ∉ r.1) := Lib.hid fun j r' hj hr' => by
            by_cases hji : j = i
            · subst hji
              rw [HR.out] at hr'
              injection hr' with hr'
              rw [← hr']
              exact hn
            · exact HN.out j r' (by omega) hr'
          clear hn
          go_wp2_with fail
          go_roundw
          case rel => exact ⟨i + 1, by go_num, by omega, HT.out, H1.tail2⟩
          case measure => simp [intOf]; omega
        · have hk0 : (0 : Int) ≤ (k : Int) := by omega
          obtain ⟨y, hy⟩ := some_at (l := r.2.1) (n := r.2.1.length) rfl (show k < r.2.1.length by rw [← HLE.out]; exact hk)
          have hlb : 0 < r.2.1.length := by rw [← HLE.out]; omega
          obtain ⟨gB, cB, e, _⟩ := H1.form 0 rfl hlb
          injection e with e1 _ e2
          subst e1 e2
          have cl := H1.atM 0 rfl hy
          have HE := Lib.hid (HPS.out.trans (parts_at_row HR.out hz hy))
          have hk1 : (k : Int) < (r.2.1.length : Int) := by rw [← HLE.out]; omega
          clear hz hy
          by_cases hm : 0 < r.2.2
          · have HE2 := Lib.hid (HE.out.trans (if_pos hm))
            have H5 := H1.lit 3 1 2 ([y, r.2.2].map (Value.int .i64)) rfl (by simp [maxLen])
            clear H1 HE
            go_wp2_with fail
            go_ret
            rw [HE2.out]
            exact H5.toMade 0 rfl
          · have HE2 := Lib.hid (HE.out.trans (if_neg hm))
            have H5 := H1.lit 3 1 1 ([y].map (Value.int .i64)) rfl (by simp [maxLen])
            clear H1 HE
            go_wp2_with fail
            go_ret
            rw [HE2.out]
            exact H5.toMade 0 rfl
      · have HE := Lib.hid (HPS.out.trans (parts_norow (fun j r hr => hno j r (by have := (List.getElem?_eq_some_iff.1 hr).1; rw [show rowTbl.length = 13 from rfl] at this; omega) hr) HIN.out))
        have H5 := H.lit0 3 1
        clear hno H
        go_wp2_with fail
        go_ret
        rw [HE.out]
        exact H5.toMade 0 rfl
  · have HE := Lib.hid (HPS.out.trans (parts_far hin2 hin))
    have H5 := H0.lit0 3 1
    rw [hin2]
    clear hin hin2 H0
    go_wp2_with fail
    go_ret
    rw [HE.out]
    exact H5.toMade 0 rfl

end Go.Proofs.YtfmifaneggenoaaDoor
