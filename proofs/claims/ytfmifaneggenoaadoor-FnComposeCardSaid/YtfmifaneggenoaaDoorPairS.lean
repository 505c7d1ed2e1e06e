/-
  The reference's Pair.
-/
import Derived.Test.YtfmifaneggenoaaDoorPair
import Derived.Test.YtfmifaneggenoaaDoorLaw
namespace Go.Proofs.YtfmifaneggenoaaDoor
open Go.RowKit

def cndF : List Int := [192, 469, 902, 7840]
def cndT : List Int := [255, 470, 974, 7853]
theorem cndF_eq : cndF = candS.map Prod.fst := rfl
theorem cndT_eq : cndT = candS.map Prod.snd := rfl
theorem cand_bounds : ∀ p ∈ candS, 0 ≤ p.1 ∧ p.1 ≤ p.2 ∧ p.2 ≤ 7853 := by decide

set_option linter.unusedVariables false
set_option maxRecDepth 100000 in
set_option maxHeartbeats 8000000 in
theorem specPair_any (a b : Int) (w : World) :
    Calls Tryd.prog 31 #[.int .i64 a, .int .i64 b] w fun e w' => e = .returned (.tuple #[.int .i64 (pairF a b).1, .bool (pairF a b).2]) ∧ Fr w w' := by
  have H0 := Hp.start w
  go_enter Tryd.func31, Tryd.ntmps31
  go_wp2_with fail
  refine (l1In_any _ _ _ _).mono ?_
  rintro e w ⟨rfl, rfl⟩
  rcases (show inB a 4352 4370 = true ∨ inB a 4352 4370 = false by cases inB a 4352 4370 <;> simp) with h1 | h1
  · rw [h1]
    go_wp2_with fail
    refine (l1In_any _ _ _ _).mono ?_
    rintro e w ⟨rfl, rfl⟩
    rcases (show inB b 4449 4469 = true ∨ inB b 4449 4469 = false by cases inB b 4449 4469 <;> simp) with h2 | h2
    · have HE := Lib.hid (pairF_one h1 h2)
      rw [h2]
      have ha2 := inB_iff.1 h1
      have hb2 := inB_iff.1 h2
      go_wp2_with fail
      go_ret2
      rw [HE.out]
      rw [Int.mul_comm 588, Int.mul_comm 28]
      exact ⟨rfl, H0.fr⟩
    · have hone : (inB a 4352 4370 && inB b 4449 4469) = false := by rw [h2, Bool.and_false]
      rw [h2]
      go_wp2_with fail
      refine (l1In_any _ _ _ _).mono ?_
      rintro e w ⟨rfl, rfl⟩
      rcases (show inB a 44032 55203 = true ∨ inB a 44032 55203 = false by cases inB a 44032 55203 <;> simp) with h3 | h3
      · rw [h3]
        have ha3 := inB_iff.1 h3
        have hw0 : IntKind.i64.wrap (a - 44032) = a - 44032 := IntWalk.i64_in _ (by omega)
        by_cases hr : (a - 44032) % 28 = 0
        · have hr' : ((a - 44032) % 28 == 0) = true := by simpa using hr
          go_wp2_with fail
          refine (l1In_any _ _ _ _).mono ?_
          rintro e w ⟨rfl, rfl⟩
          rcases (show inB b 4520 4546 = true ∨ inB b 4520 4546 = false by cases inB b 4520 4546 <;> simp) with h4 | h4
          · have HE := Lib.hid (pairF_two h3 hr h4)
            rw [h4]
            have hb2 := inB_iff.1 h4
            have ha2 := inB_iff.1 h3
            go_wp2_with fail
            go_ret2
            rw [HE.out]
            exact ⟨rfl, H0.fr⟩
          · have HP := Lib.hid (pairF_rest (a := a) (b := b) hone (by rw [h4, Bool.and_false]))
            rw [h4]
            replace H0 := (H0.lit 3 1 4 (cndF.map (Value.int .i64)) rfl (by simp [maxLen])).lit 3 1 4 (cndT.map (Value.int .i64)) rfl (by simp [maxLen])
            obtain ⟨b2, hb2⟩ : ∃ q, q = w.heap.size := ⟨_, rfl⟩
            have HB2 := Lib.hid hb2
            rw [alloc_size, ← hb2] at H0
            clear hb2
            go_wp2_with fail
            rw [← HB2.out]
            go_loopw [8] (fun iv wr => ∃ i : Nat, iv = .int .i64 i ∧ i ≤ 4 ∧ (∀ p ∈ candS.take i, ∀ c, p.1 ≤ c → c ≤ p.2 → partsS c ≠ [a, b]) ∧ Hp [] w wr [.row 3 1 (.slice (some ⟨b2 + 1, 0, none⟩) 4 4) 4 (cndT.map (Value.int .i64)), .row 3 1 (.slice (some ⟨b2, 0, none⟩) 4 4) 4 (cndF.map (Value.int .i64))]) (fun iv _ => 4 - (intOf iv).toNat)
            case atStart => exact ⟨0, rfl, by omega, by simp, H0⟩
            case round =>
              clear H0
              obtain ⟨i, rfl, hi, hno, H⟩ := hrel
              by_cases hlt : i < 4
              · obtain ⟨⟨f, t⟩, hx⟩ := at_some (l := candS) (n := 4) rfl hlt
                have cf := H.atM 1 rfl (show cndF[i]? = some f by rw [cndF_eq, List.getElem?_map, hx]; rfl)
                have hi0 : (0 : Int) ≤ (i : Int) := by omega
                have hi1 : (i : Int) < 4 := by omega
                have hft := cand_bounds _ hx.mem
                simp only at hft
                have HX := Lib.hid hx
                have HN := Lib.hid hno
                clear hx hno
                go_wp2_with fail
                clear cf
                go_loopw [9] (fun cv wr => ∃ c : Int, cv = .int .i64 c ∧ f ≤ c ∧ c ≤ t + 1 ∧ (∀ x, f ≤ x → x < c → partsS x ≠ [a, b]) ∧ Hp [] w wr [.row 3 1 (.slice (some ⟨b2 + 1, 0, none⟩) 4 4) 4 (cndT.map (Value.int .i64)), .row 3 1 (.slice (some ⟨b2, 0, none⟩) 4 4) 4 (cndF.map (Value.int .i64))]) (fun cv _ => (t + 1 - intOf cv).toNat)
                case atStart => exact ⟨f, rfl, by omega, by omega, fun x h1 h2 => by omega, H⟩
                case round =>
                  clear H
                  obtain ⟨c, rfl, hc1, hc2, hnc, H⟩ := hrel
                  have ct := H.atM 0 rfl (show cndT[i]? = some t by rw [cndT_eq, List.getElem?_map, HX.out]; rfl)
                  have HNC := Lib.hid hnc
                  clear hnc
                  by_cases hct : c ≤ t
                  · go_wp2_with fail
                    refine (specParts_any c _ (by omega)).mono ?_
                    rintro e w4 ⟨B, d, rfl, o4, f4⟩
                    have H4 := H.made o4 f4
                    clear H o4 f4 ct
                    obtain ⟨ps, hps⟩ : ∃ q, q = partsS c := ⟨_, rfl⟩
                    have HPS := Lib.hid hps
                    rw [← hps] at H4 ⊢
                    clear hps
                    have HS : ∀ (P1 : ps ≠ [a, b]), Hid (∀ x, f ≤ x → x < c + 1 → partsS x ≠ [a, b]) := fun P1 => Lib.hid fun x h1 h2 => by
                      by_cases hxc : x = c
                      · rw [hxc, ← HPS.out]; exact P1
                      · exact HNC.out x h1 (by omega)
                    by_cases hl : ps.length = 2
                    · match ps, hl, HPS, HS, H4 with
                      | [x, y], _, HPS, HS, H4 =>
                        obtain ⟨gB, cB, e, _⟩ := H4.form 0 rfl (by simp)
                        injection e with e1 _ e2
                        subst e1 e2
                        have c0 := H4.atM 0 rfl (j := 0) (x := x) rfl
                        have c1 := H4.atM 0 rfl (j := 1) (x := y) rfl
                        by_cases hxa : x = a
                        · by_cases hyb : y = b
                          · have HE := Lib.hid (HP.out.trans (lookF_some (pair_cand HX.out.mem ⟨hc1, hct⟩ (by rw [← HPS.out, hxa, hyb]))))
                            have h5 : (x == a) = true := by simpa using hxa
                            have h6 : (y == b) = true := by simpa using hyb
                            clear HS
                            go_wp2_with fail
                            go_ret2
                            rw [HE.out]
                            exact ⟨rfl, H4.fr⟩
                          · have HT := HS (by intro h; injection h with _ h; injection h with h; exact hyb h)
                            have h5 : (x == a) = true := by simpa using hxa
                            have h6 : (y == b) = false := by simpa using hyb
                            clear HS
                            go_wp2_with fail
                            go_roundw
                            case rel => exact ⟨c + 1, by go_num, by omega, by omega, HT.out, H4.tail⟩
                            case measure => simp [intOf]; omega
                        · have HT := HS (by intro h; injection h with h _; exact hxa h)
                          have h5 : (x == a) = false := by simpa using hxa
                          clear HS
                          go_wp2_with fail
                          go_roundw
                          case rel => exact ⟨c + 1, by go_num, by omega, by omega, HT.out, H4.tail⟩
                          case measure => simp [intOf]; omega
                    · have HT := HS (by intro h; rw [h] at hl; exact hl rfl)
                      have h5 : ((ps.length : Int) == 2) = false := by simp; omega
                      clear HS
                      go_wp2_with fail
                      go_roundw
                      case rel => exact ⟨c + 1, by go_num, by omega, by omega, HT.out, H4.tail⟩
                      case measure => simp [intOf]; omega
                  · have HT : Hid (∀ p ∈ candS.take (i + 1), ∀ c, p.1 ≤ c → c ≤ p.2 → partsS c ≠ [a, b]) := Lib.hid fun p hp x h1 h2 => by
                      rw [At.take HX.out, List.mem_append, List.mem_singleton] at hp
                      rcases hp with hp | rfl
                      · exact HN.out p hp x h1 h2
                      · exact HNC.out x h1 (by simp only at h2; omega)
                    go_wp2_with fail
                    go_roundw
                    case rel => exact ⟨i + 1, by go_num, by omega, HT.out, H⟩
                    case measure => simp [intOf]; omega
              · have HE := Lib.hid (HP.out.trans (lookF_none (pair_nocand fun p hp => hno p (by rw [List.take_of_length_le (by simp [candS]; omega)]; exact hp))))
                clear hno
                go_wp2_with fail
                go_ret2
                rw [HE.out]
                exact ⟨rfl, H.fr⟩
        · have hr' : ((a - 44032) % 28 == 0) = false := by simpa using hr
          have HP := Lib.hid (pairF_rest (a := a) (b := b) hone (by rw [decide_eq_false hr, Bool.and_false, Bool.false_and]))
          replace H0 := (H0.lit 3 1 4 (cndF.map (Value.int .i64)) rfl (by simp [maxLen])).lit 3 1 4 (cndT.map (Value.int .i64)) rfl (by simp [maxLen])
          obtain ⟨b2, hb2⟩ : ∃ q, q = w.heap.size := ⟨_, rfl⟩
          have HB2 := Lib.hid hb2
          rw [alloc_size, ← hb2] at H0
          clear hb2
          go_wp2_with fail
          rw [← HB2.out]
          go_loopw [8] (fun iv wr => ∃ i : Nat, iv = .int .i64 i ∧ i ≤ 4 ∧ (∀ p ∈ candS.take i, ∀ c, p.1 ≤ c → c ≤ p.2 → partsS c ≠ [a, b]) ∧ Hp [] w wr [.row 3 1 (.slice (some ⟨b2 + 1, 0, none⟩) 4 4) 4 (cndT.map (Value.int .i64)), .row 3 1 (.slice (some ⟨b2, 0, none⟩) 4 4) 4 (cndF.map (Value.int .i64))]) (fun iv _ => 4 - (intOf iv).toNat)
          case atStart => exact ⟨0, rfl, by omega, by simp, H0⟩
          case round =>
            clear H0
            obtain ⟨i, rfl, hi, hno, H⟩ := hrel
            by_cases hlt : i < 4
            · obtain ⟨⟨f, t⟩, hx⟩ := at_some (l := candS) (n := 4) rfl hlt
              have cf := H.atM 1 rfl (show cndF[i]? = some f by rw [cndF_eq, List.getElem?_map, hx]; rfl)
              have hi0 : (0 : Int) ≤ (i : Int) := by omega
              have hi1 : (i : Int) < 4 := by omega
              have hft := cand_bounds _ hx.mem
              simp only at hft
              have HX := Lib.hid hx
              have HN := Lib.hid hno
              clear hx hno
              go_wp2_with fail
              clear cf
              go_loopw [9] (fun cv wr => ∃ c : Int, cv = .int .i64 c ∧ f ≤ c ∧ c ≤ t + 1 ∧ (∀ x, f ≤ x → x < c → partsS x ≠ [a, b]) ∧ Hp [] w wr [.row 3 1 (.slice (some ⟨b2 + 1, 0, none⟩) 4 4) 4 (cndT.map (Value.int .i64)), .row 3 1 (.slice (some ⟨b2, 0, none⟩) 4 4) 4 (cndF.map (Value.int .i64))]) (fun cv _ => (t + 1 - intOf cv).toNat)
              case atStart => exact ⟨f, rfl, by omega, by omega, fun x h1 h2 => by omega, H⟩
              case round =>
                clear H
                obtain ⟨c, rfl, hc1, hc2, hnc, H⟩ := hrel
                have ct := H.atM 0 rfl (show cndT[i]? = some t by rw [cndT_eq, List.getElem?_map, HX.out]; rfl)
                have HNC := Lib.hid hnc
                clear hnc
                by_cases hct : c ≤ t
                · go_wp2_with fail
                  refine (specParts_any c _ (by omega)).mono ?_
                  rintro e w4 ⟨B, d, rfl, o4, f4⟩
                  have H4 := H.made o4 f4
                  clear H o4 f4 ct
                  obtain ⟨ps, hps⟩ : ∃ q, q = partsS c := ⟨_, rfl⟩
                  have HPS := Lib.hid hps
                  rw [← hps] at H4 ⊢
                  clear hps
                  have HS : ∀ (P1 : ps ≠ [a, b]), Hid (∀ x, f ≤ x → x < c + 1 → partsS x ≠ [a, b]) := fun P1 => Lib.hid fun x h1 h2 => by
                    by_cases hxc : x = c
                    · rw [hxc, ← HPS.out]; exact P1
                    · exact HNC.out x h1 (by omega)
                  by_cases hl : ps.length = 2
                  · match ps, hl, HPS, HS, H4 with
                    | [x, y], _, HPS, HS, H4 =>
                      obtain ⟨gB, cB, e, _⟩ := H4.form 0 rfl (by simp)
                      injection e with e1 _ e2
                      subst e1 e2
                      have c0 := H4.atM 0 rfl (j := 0) (x := x) rfl
                      have c1 := H4.atM 0 rfl (j := 1) (x := y) rfl
                      by_cases hxa : x = a
                      · by_cases hyb : y = b
                        · have HE := Lib.hid (HP.out.trans (lookF_some (pair_cand HX.out.mem ⟨hc1, hct⟩ (by rw [← HPS.out, hxa, hyb]))))
                          have h5 : (x == a) = true := by simpa using hxa
                          have h6 : (y == b) = true := by simpa using hyb
                          clear HS
                          go_wp2_with fail
                          go_ret2
                          rw [HE.out]
                          exact ⟨rfl, H4.fr⟩
                        · have HT := HS (by intro h; injection h with _ h; injection h with h; exact hyb h)
                          have h5 : (x == a) = true := by simpa using hxa
                          have h6 : (y == b) = false := by simpa using hyb
                          clear HS
                          go_wp2_with fail
                          go_roundw
                          case rel => exact ⟨c + 1, by go_num, by omega, by omega, HT.out, H4.tail⟩
                          case measure => simp [intOf]; omega
                      · have HT := HS (by intro h; injection h with h _; exact hxa h)
                        have h5 : (x == a) = false := by simpa using hxa
                        clear HS
                        go_wp2_with fail
                        go_roundw
                        case rel => exact ⟨c + 1, by go_num, by omega, by omega, HT.out, H4.tail⟩
                        case measure => simp [intOf]; omega
                  · have HT := HS (by intro h; rw [h] at hl; exact hl rfl)
                    have h5 : ((ps.length : Int) == 2) = false := by simp; omega
                    clear HS
                    go_wp2_with fail
                    go_roundw
                    case rel => exact ⟨c + 1, by go_num, by omega, by omega, HT.out, H4.tail⟩
                    case measure => simp [intOf]; omega
                · have HT : Hid (∀ p ∈ candS.take (i + 1), ∀ c, p.1 ≤ c → c ≤ p.2 → partsS c ≠ [a, b]) := Lib.hid fun p hp x h1 h2 => by
                    rw [At.take HX.out, List.mem_append, List.mem_singleton] at hp
                    rcases hp with hp | rfl
                    · exact HN.out p hp x h1 h2
                    · exact HNC.out x h1 (by simp only at h2; omega)
                  go_wp2_with fail
                  go_roundw
                  case rel => exact ⟨i + 1, by go_num, by omega, HT.out, H⟩
                  case measure => simp [intOf]; omega
            · have HE := Lib.hid (HP.out.trans (lookF_none (pair_nocand fun p hp => hno p (by rw [List.take_of_length_le (by simp [candS]; omega)]; exact hp))))
              clear hno
              go_wp2_with fail
              go_ret2
              rw [HE.out]
              exact ⟨rfl, H.fr⟩
      · have HP := Lib.hid (pairF_rest (a := a) (b := b) hone (by rw [h3, Bool.false_and, Bool.false_and]))
        rw [h3]
        replace H0 := (H0.lit 3 1 4 (cndF.map (Value.int .i64)) rfl (by simp [maxLen])).lit 3 1 4 (cndT.map (Value.int .i64)) rfl (by simp [maxLen])
        obtain ⟨b2, hb2⟩ : ∃ q, q = w.heap.size := ⟨_, rfl⟩
        have HB2 := Lib.hid hb2
        rw [alloc_size, ← hb2] at H0
        clear hb2
        go_wp2_with fail
        rw [← HB2.out]
        go_loopw [8] (fun iv wr => ∃ i : Nat, iv = .int .i64 i ∧ i ≤ 4 ∧ (∀ p ∈ candS.take i, ∀ c, p.1 ≤ c → c ≤ p.2 → partsS c ≠ [a, b]) ∧ Hp [] w wr [.row 3 1 (.slice (some ⟨b2 + 1, 0, none⟩) 4 4) 4 (cndT.map (Value.int .i64)), .row 3 1 (.slice (some ⟨b2, 0, none⟩) 4 4) 4 (cndF.map (Value.int .i64))]) (fun iv _ => 4 - (intOf iv).toNat)
        case atStart => exact ⟨0, rfl, by omega, by simp, H0⟩
        case round =>
          clear H0
          obtain ⟨i, rfl, hi, hno, H⟩ := hrel
          by_cases hlt : i < 4
          · obtain ⟨⟨f, t⟩, hx⟩ := at_some (l := candS) (n := 4) rfl hlt
            have cf := H.atM 1 rfl (show cndF[i]? = some f by rw [cndF_eq, List.getElem?_map, hx]; rfl)
            have hi0 : (0 : Int) ≤ (i : Int) := by omega
            have hi1 : (i : Int) < 4 := by omega
            have hft := cand_bounds _ hx.mem
            simp only at hft
            have HX := Lib.hid hx
            have HN := Lib.hid hno
            clear hx hno
            go_wp2_with fail
            clear cf
            go_loopw [9] (fun cv wr => ∃ c : Int, cv = .int .i64 c ∧ f ≤ c ∧ c ≤ t + 1 ∧ (∀ x, f ≤ x → x < c → partsS x ≠ [a, b]) ∧ Hp [] w wr [.row 3 1 (.slice (some ⟨b2 + 1, 0, none⟩) 4 4) 4 (cndT.map (Value.int .i64)), .row 3 1 (.slice (some ⟨b2, 0, none⟩) 4 4) 4 (cndF.map (Value.int .i64))]) (fun cv _ => (t + 1 - intOf cv).toNat)
            case atStart => exact ⟨f, rfl, by omega, by omega, fun x h1 h2 => by omega, H⟩
            case round =>
              clear H
              obtain ⟨c, rfl, hc1, hc2, hnc, H⟩ := hrel
              have ct := H.atM 0 rfl (show cndT[i]? = some t by rw [cndT_eq, List.getElem?_map, HX.out]; rfl)
              have HNC := Lib.hid hnc
              clear hnc
              by_cases hct : c ≤ t
              · go_wp2_with fail
                refine (specParts_any c _ (by omega)).mono ?_
                rintro e w4 ⟨B, d, rfl, o4, f4⟩
                have H4 := H.made o4 f4
                clear H o4 f4 ct
                obtain ⟨ps, hps⟩ : ∃ q, q = partsS c := ⟨_, rfl⟩
                have HPS := Lib.hid hps
                rw [← hps] at H4 ⊢
                clear hps
                have HS : ∀ (P1 : ps ≠ [a, b]), Hid (∀ x, f ≤ x → x < c + 1 → partsS x ≠ [a, b]) := fun P1 => Lib.hid fun x h1 h2 => by
                  by_cases hxc : x = c
                  · rw [hxc, ← HPS.out]; exact P1
                  · exact HNC.out x h1 (by omega)
                by_cases hl : ps.length = 2
                · match ps, hl, HPS, HS, H4 with
                  | [x, y], _, HPS, HS, H4 =>
                    obtain ⟨gB, cB, e, _⟩ := H4.form 0 rfl (by simp)
                    injection e with e1 _ e2
                    subst e1 e2
                    have c0 := H4.atM 0 rfl (j := 0) (x := x) rfl
                    have c1 := H4.atM 0 rfl (j := 1) (x := y) rfl
                    by_cases hxa : x = a
                    · by_cases hyb : y = b
                      · have HE := Lib.hid (HP.out.trans (lookF_some (pair_cand HX.out.mem ⟨hc1, hct⟩ (by rw [← HPS.out, hxa, hyb]))))
                        have h5 : (x == a) = true := by simpa using hxa
                        have h6 : (y == b) = true := by simpa using hyb
                        clear HS
                        go_wp2_with fail
                        go_ret2
                        rw [HE.out]
                        exact ⟨rfl, H4.fr⟩
                      · have HT := HS (by intro h; injection h with _ h; injection h with h; exact hyb h)
                        have h5 : (x == a) = true := by simpa using hxa
                        have h6 : (y == b) = false := by simpa using hyb
                        clear HS
                        go_wp2_with fail
                        go_roundw
                        case rel => exact ⟨c + 1, by go_num, by omega, by omega, HT.out, H4.tail⟩
                        case measure => simp [intOf]; omega
                    · have HT := HS (by intro h; injection h with h _; exact hxa h)
                      have h5 : (x == a) = false := by simpa using hxa
                      clear HS
                      go_wp2_with fail
                      go_roundw
                      case rel => exact ⟨c + 1, by go_num, by omega, by omega, HT.out, H4.tail⟩
                      case measure => simp [intOf]; omega
                · have HT := HS (by intro h; rw [h] at hl; exact hl rfl)
                  have h5 : ((ps.length : Int) == 2) = false := by simp; omega
                  clear HS
                  go_wp2_with fail
                  go_roundw
                  case rel => exact ⟨c + 1, by go_num, by omega, by omega, HT.out, H4.tail⟩
                  case measure => simp [intOf]; omega
              · have HT : Hid (∀ p ∈ candS.take (i + 1), ∀ c, p.1 ≤ c → c ≤ p.2 → partsS c ≠ [a, b]) := Lib.hid fun p hp x h1 h2 => by
                  rw [At.take HX.out, List.mem_append, List.mem_singleton] at hp
                  rcases hp with hp | rfl
                  · exact HN.out p hp x h1 h2
                  · exact HNC.out x h1 (by simp only at h2; omega)
                go_wp2_with fail
                go_roundw
                case rel => exact ⟨i + 1, by go_num, by omega, HT.out, H⟩
                case measure => simp [intOf]; omega
          · have HE := Lib.hid (HP.out.trans (lookF_none (pair_nocand fun p hp => hno p (by rw [List.take_of_length_le (by simp [candS]; omega)]; exact hp))))
            clear hno
            go_wp2_with fail
            go_ret2
            rw [HE.out]
            exact ⟨rfl, H.fr⟩
  · have hone : (inB a 4352 4370 && inB b 4449 4469) = false := by rw [h1, Bool.false_and]
    rw [h1]
    go_wp2_with fail
    refine (l1In_any _ _ _ _).mono ?_
    rintro e w ⟨rfl, rfl⟩
    rcases (show inB a 44032 55203 = true ∨ inB a 44032 55203 = false by cases inB a 44032 55203 <;> simp) with h3 | h3
    · rw [h3]
      have ha3 := inB_iff.1 h3
      have hw0 : IntKind.i64.wrap (a - 44032) = a - 44032 := IntWalk.i64_in _ (by omega)
      by_cases hr : (a - 44032) % 28 = 0
      · have hr' : ((a - 44032) % 28 == 0) = true := by simpa using hr
        go_wp2_with fail
        refine (l1In_any _ _ _ _).mono ?_
        rintro e w ⟨rfl, rfl⟩
        rcases (show inB b 4520 4546 = true ∨ inB b 4520 4546 = false by cases inB b 4520 4546 <;> simp) with h4 | h4
        · have HE := Lib.hid (pairF_two h3 hr h4)
          rw [h4]
          have hb2 := inB_iff.1 h4
          have ha2 := inB_iff.1 h3
          go_wp2_with fail
          go_ret2
          rw [HE.out]
          exact ⟨rfl, H0.fr⟩
        · have HP := Lib.hid (pairF_rest (a := a) (b := b) hone (by rw [h4, Bool.and_false]))
          rw [h4]
          replace H0 := (H0.lit 3 1 4 (cndF.map (Value.int .i64)) rfl (by simp [maxLen])).lit 3 1 4 (cndT.map (Value.int .i64)) rfl (by simp [maxLen])
          obtain ⟨b2, hb2⟩ : ∃ q, q = w.heap.size := ⟨_, rfl⟩
          have HB2 := Lib.hid hb2
          rw [alloc_size, ← hb2] at H0
          clear hb2
          go_wp2_with fail
          rw [← HB2.out]
          go_loopw [8] (fun iv wr => ∃ i : Nat, iv = .int .i64 i ∧ i ≤ 4 ∧ (∀ p ∈ candS.take i, ∀ c, p.1 ≤ c → c ≤ p.2 → partsS c ≠ [a, b]) ∧ Hp [] w wr [.row 3 1 (.slice (some ⟨b2 + 1, 0, none⟩) 4 4) 4 (cndT.map (Value.int .i64)), .row 3 1 (.slice (some ⟨b2, 0, none⟩) 4 4) 4 (cndF.map (Value.int .i64))]) (fun iv _ => 4 - (intOf iv).toNat)
          case atStart => exact ⟨0, rfl, by omega, by simp, H0⟩
          case round =>
            clear H0
            obtain ⟨i, rfl, hi, hno, H⟩ := hrel
            by_cases hlt : i < 4
            · obtain ⟨⟨f, t⟩, hx⟩ := at_some (l := candS) (n := 4) rfl hlt
              have cf := H.atM 1 rfl (show cndF[i]? = some f by rw [cndF_eq, List.getElem?_map, hx]; rfl)
              have hi0 : (0 : Int) ≤ (i : Int) := by omega
              have hi1 : (i : Int) < 4 := by omega
              have hft := cand_bounds _ hx.mem
              simp only at hft
              have HX := Lib.hid hx
              have HN := Lib.hid hno
              clear hx hno
              go_wp2_with fail
              clear cf
              go_loopw [9] (fun cv wr => ∃ c : Int, cv = .int .i64 c ∧ f ≤ c ∧ c ≤ t + 1 ∧ (∀ x, f ≤ x → x < c → partsS x ≠ [a, b]) ∧ Hp [] w wr [.row 3 1 (.slice (some ⟨b2 + 1, 0, none⟩) 4 4) 4 (cndT.map (Value.int .i64)), .row 3 1 (.slice (some ⟨b2, 0, none⟩) 4 4) 4 (cndF.map (Value.int .i64))]) (fun cv _ => (t + 1 - intOf cv).toNat)
              case atStart => exact ⟨f, rfl, by omega, by omega, fun x h1 h2 => by omega, H⟩
              case round =>
                clear H
                obtain ⟨c, rfl, hc1, hc2, hnc, H⟩ := hrel
                have ct := H.atM 0 rfl (show cndT[i]? = some t by rw [cndT_eq, List.getElem?_map, HX.out]; rfl)
                have HNC := Lib.hid hnc
                clear hnc
                by_cases hct : c ≤ t
                · go_wp2_with fail
                  refine (specParts_any c _ (by omega)).mono ?_
                  rintro e w4 ⟨B, d, rfl, o4, f4⟩
                  have H4 := H.made o4 f4
                  clear H o4 f4 ct
                  obtain ⟨ps, hps⟩ : ∃ q, q = partsS c := ⟨_, rfl⟩
                  have HPS := Lib.hid hps
                  rw [← hps] at H4 ⊢
                  clear hps
                  have HS : ∀ (P1 : ps ≠ [a, b]), Hid (∀ x, f ≤ x → x < c + 1 → partsS x ≠ [a, b]) := fun P1 => Lib.hid fun x h1 h2 => by
                    by_cases hxc : x = c
                    · rw [hxc, ← HPS.out]; exact P1
                    · exact HNC.out x h1 (by omega)
                  by_cases hl : ps.length = 2
                  · match ps, hl, HPS, HS, H4 with
                    | [x, y], _, HPS, HS, H4 =>
                      obtain ⟨gB, cB, e, _⟩ := H4.form 0 rfl (by simp)
                      injection e with e1 _ e2
                      subst e1 e2
                      have c0 := H4.atM 0 rfl (j := 0) (x := x) rfl
                      have c1 := H4.atM 0 rfl (j := 1) (x := y) rfl
                      by_cases hxa : x = a
                      · by_cases hyb : y = b
                        · have HE := Lib.hid (HP.out.trans (lookF_some (pair_cand HX.out.mem ⟨hc1, hct⟩ (by rw [← HPS.out, hxa, hyb]))))
                          have h5 : (x == a) = true := by simpa using hxa
                          have h6 : (y == b) = true := by simpa using hyb
                          clear HS
                          go_wp2_with fail
                          go_ret2
                          rw [HE.out]
                          exact ⟨rfl, H4.fr⟩
                        · have HT := HS (by intro h; injection h with _ h; injection h with h; exact hyb h)
                          have h5 : (x == a) = true := by simpa using hxa
                          have h6 : (y == b) = false := by simpa using hyb
                          clear HS
                          go_wp2_with fail
                          go_roundw
                          case rel => exact ⟨c + 1, by go_num, by omega, by omega, HT.out, H4.tail⟩
                          case measure => simp [intOf]; omega
                      · have HT := HS (by intro h; injection h with h _; exact hxa h)
                        have h5 : (x == a) = false := by simpa using hxa
                        clear HS
                        go_wp2_with fail
                        go_roundw
                        case rel => exact ⟨c + 1, by go_num, by omega, by omega, HT.out, H4.tail⟩
                        case measure => simp [intOf]; omega
                  · have HT := HS (by intro h; rw [h] at hl; exact hl rfl)
                    have h5 : ((ps.length : Int) == 2) = false := by simp; omega
                    clear HS
                    go_wp2_with fail
                    go_roundw
                    case rel => exact ⟨c + 1, by go_num, by omega, by omega, HT.out, H4.tail⟩
                    case measure => simp [intOf]; omega
                · have HT : Hid (∀ p ∈ candS.take (i + 1), ∀ c, p.1 ≤ c → c ≤ p.2 → partsS c ≠ [a, b]) := Lib.hid fun p hp x h1 h2 => by
                    rw [At.take HX.out, List.mem_append, List.mem_singleton] at hp
                    rcases hp with hp | rfl
                    · exact HN.out p hp x h1 h2
                    · exact HNC.out x h1 (by simp only at h2; omega)
                  go_wp2_with fail
                  go_roundw
                  case rel => exact ⟨i + 1, by go_num, by omega, HT.out, H⟩
                  case measure => simp [intOf]; omega
            · have HE := Lib.hid (HP.out.trans (lookF_none (pair_nocand fun p hp => hno p (by rw [List.take_of_length_le (by simp [candS]; omega)]; exact hp))))
              clear hno
              go_wp2_with fail
              go_ret2
              rw [HE.out]
              exact ⟨rfl, H.fr⟩
      · have hr' : ((a - 44032) % 28 == 0) = false := by simpa using hr
        have HP := Lib.hid (pairF_rest (a := a) (b := b) hone (by rw [decide_eq_false hr, Bool.and_false, Bool.false_and]))
        replace H0 := (H0.lit 3 1 4 (cndF.map (Value.int .i64)) rfl (by simp [maxLen])).lit 3 1 4 (cndT.map (Value.int .i64)) rfl (by simp [maxLen])
        obtain ⟨b2, hb2⟩ : ∃ q, q = w.heap.size := ⟨_, rfl⟩
        have HB2 := Lib.hid hb2
        rw [alloc_size, ← hb2] at H0
        clear hb2
        go_wp2_with fail
        rw [← HB2.out]
        go_loopw [8] (fun iv wr => ∃ i : Nat, iv = .int .i64 i ∧ i ≤ 4 ∧ (∀ p ∈ candS.take i, ∀ c, p.1 ≤ c → c ≤ p.2 → partsS c ≠ [a, b]) ∧ Hp [] w wr [.row 3 1 (.slice (some ⟨b2 + 1, 0, none⟩) 4 4) 4 (cndT.map (Value.int .i64)), .row 3 1 (.slice (some ⟨b2, 0, none⟩) 4 4) 4 (cndF.map (Value.int .i64))]) (fun iv _ => 4 - (intOf iv).toNat)
        case atStart => exact ⟨0, rfl, by omega, by simp, H0⟩
        case round =>
          clear H0
          obtain ⟨i, rfl, hi, hno, H⟩ := hrel
          by_cases hlt : i < 4
          · obtain ⟨⟨f, t⟩, hx⟩ := at_some (l := candS) (n := 4) rfl hlt
            have cf := H.atM 1 rfl (show cndF[i]? = some f by rw [cndF_eq, List.getElem?_map, hx]; rfl)
            have hi0 : (0 : Int) ≤ (i : Int) := by omega
            have hi1 : (i : Int) < 4 := by omega
            have hft := cand_bounds _ hx.mem
            simp only at hft
            have HX := Lib.hid hx
            have HN := Lib.hid hno
            clear hx hno
            go_wp2_with fail
            clear cf
            go_loopw [9] (fun cv wr => ∃ c : Int, cv = .int .i64 c ∧ f ≤ c ∧ c ≤ t + 1 ∧ (∀ x, f ≤ x → x < c → partsS x ≠ [a, b]) ∧ Hp [] w wr [.row 3 1 (.slice (some ⟨b2 + 1, 0, none⟩) 4 4) 4 (cndT.map (Value.int .i64)), .row 3 1 (.slice (some ⟨b2, 0, none⟩) 4 4) 4 (cndF.map (Value.int .i64))]) (fun cv _ => (t + 1 - intOf cv).toNat)
            case atStart => exact ⟨f, rfl, by omega, by omega, fun x h1 h2 => by omega, H⟩
            case round =>
              clear H
              obtain ⟨c, rfl, hc1, hc2, hnc, H⟩ := hrel
              have ct := H.atM 0 rfl (show cndT[i]? = some t by rw [cndT_eq, List.getElem?_map, HX.out]; rfl)
              have HNC := Lib.hid hnc
              clear hnc
              by_cases hct : c ≤ t
              · go_wp2_with fail
                refine (specParts_any c _ (by omega)).mono ?_
                rintro e w4 ⟨B, d, rfl, o4, f4⟩
                have H4 := H.made o4 f4
                clear H o4 f4 ct
                obtain ⟨ps, hps⟩ : ∃ q, q = partsS c := ⟨_, rfl⟩
                have HPS := Lib.hid hps
                rw [← hps] at H4 ⊢
                clear hps
                have HS : ∀ (P1 : ps ≠ [a, b]), Hid (∀ x, f ≤ x → x < c + 1 → partsS x ≠ [a, b]) := fun P1 => Lib.hid fun x h1 h2 => by
                  by_cases hxc : x = c
                  · rw [hxc, ← HPS.out]; exact P1
                  · exact HNC.out x h1 (by omega)
                by_cases hl : ps.length = 2
                · match ps, hl, HPS, HS, H4 with
                  | [x, y], _, HPS, HS, H4 =>
                    obtain ⟨gB, cB, e, _⟩ := H4.form 0 rfl (by simp)
                    injection e with e1 _ e2
                    subst e1 e2
                    have c0 := H4.atM 0 rfl (j := 0) (x := x) rfl
                    have c1 := H4.atM 0 rfl (j := 1) (x := y) rfl
                    by_cases hxa : x = a
                    · by_cases hyb : y = b
                      · have HE := Lib.hid (HP.out.trans (lookF_some (pair_cand HX.out.mem ⟨hc1, hct⟩ (by rw [← HPS.out, hxa, hyb]))))
                        have h5 : (x == a) = true := by simpa using hxa
                        have h6 : (y == b) = true := by simpa using hyb
                        clear HS
                        go_wp2_with fail
                        go_ret2
                        rw [HE.out]
                        exact ⟨rfl, H4.fr⟩
                      · have HT := HS (by intro h; injection h with _ h; injection h with h; exact hyb h)
                        have h5 : (x == a) = true := by simpa using hxa
                        have h6 : (y == b) = false := by simpa using hyb
                        clear HS
                        go_wp2_with fail
                        go_roundw
                        case rel => exact ⟨c + 1, by go_num, by omega, by omega, HT.out, H4.tail⟩
                        case measure => simp [intOf]; omega
                    · have HT := HS (by intro h; injection h with h _; exact hxa h)
                      have h5 : (x == a) = false := by simpa using hxa
                      clear HS
                      go_wp2_with fail
                      go_roundw
                      case rel => exact ⟨c + 1, by go_num, by omega, by omega, HT.out, H4.tail⟩
                      case measure => simp [intOf]; omega
                · have HT := HS (by intro h; rw [h] at hl; exact hl rfl)
                  have h5 : ((ps.length : Int) == 2) = false := by simp; omega
                  clear HS
                  go_wp2_with fail
                  go_roundw
                  case rel => exact ⟨c + 1, by go_num, by omega, by omega, HT.out, H4.tail⟩
                  case measure => simp [intOf]; omega
              · have HT : Hid (∀ p ∈ candS.take (i + 1), ∀ c, p.1 ≤ c → c ≤ p.2 → partsS c ≠ [a, b]) := Lib.hid fun p hp x h1 h2 => by
                  rw [At.take HX.out, List.mem_append, List.mem_singleton] at hp
                  rcases hp with hp | rfl
                  · exact HN.out p hp x h1 h2
                  · exact HNC.out x h1 (by simp only at h2; omega)
                go_wp2_with fail
                go_roundw
                case rel => exact ⟨i + 1, by go_num, by omega, HT.out, H⟩
                case measure => simp [intOf]; omega
          · have HE := Lib.hid (HP.out.trans (lookF_none (pair_nocand fun p hp => hno p (by rw [List.take_of_length_le (by simp [candS]; omega)]; exact hp))))
            clear hno
            go_wp2_with fail
            go_ret2
            rw [HE.out]
            exact ⟨rfl, H.fr⟩
    · have HP := Lib.hid (pairF_rest (a := a) (b := b) hone (by rw [h3, Bool.false_and, Bool.false_and]))
      rw [h3]
      replace H0 := (H0.lit 3 1 4 (cndF.map (Value.int .i64)) rfl (by simp [maxLen])).lit 3 1 4 (cndT.map (Value.int .i64)) rfl (by simp [maxLen])
      obtain ⟨b2, hb2⟩ : ∃ q, q = w.heap.size := ⟨_, rfl⟩
      have HB2 := Lib.hid hb2
      rw [alloc_size, ← hb2] at H0
      clear hb2
      go_wp2_with fail
      rw [← HB2.out]
      go_loopw [8] (fun iv wr => ∃ i : Nat, iv = .int .i64 i ∧ i ≤ 4 ∧ (∀ p ∈ candS.take i, ∀ c, p.1 ≤ c → c ≤ p.2 → partsS c ≠ [a, b]) ∧ Hp [] w wr [.row 3 1 (.slice (some ⟨b2 + 1, 0, none⟩) 4 4) 4 (cndT.map (Value.int .i64)), .row 3 1 (.slice (some ⟨b2, 0, none⟩) 4 4) 4 (cndF.map (Value.int .i64))]) (fun iv _ => 4 - (intOf iv).toNat)
      case atStart => exact ⟨0, rfl, by omega, by simp, H0⟩
      case round =>
        clear H0
        obtain ⟨i, rfl, hi, hno, H⟩ := hrel
        by_cases hlt : i < 4
        · obtain ⟨⟨f, t⟩, hx⟩ := at_some (l := candS) (n := 4) rfl hlt
          have cf := H.atM 1 rfl (show cndF[i]? = some f by rw [cndF_eq, List.getElem?_map, hx]; rfl)
          have hi0 : (0 : Int) ≤ (i : Int) := by omega
          have hi1 : (i : Int) < 4 := by omega
          have hft := cand_bounds _ hx.mem
          simp only at hft
          have HX := Lib.hid hx
          have HN := Lib.hid hno
          clear hx hno
          go_wp2_with fail
          clear cf
          go_loopw [9] (fun cv wr => ∃ c : Int, cv = .int .i64 c ∧ f ≤ c ∧ c ≤ t + 1 ∧ (∀ x, f ≤ x → x < c → partsS x ≠ [a, b]) ∧ Hp [] w wr [.row 3 1 (.slice (some ⟨b2 + 1, 0, none⟩) 4 4) 4 (cndT.map (Value.int .i64)), .row 3 1 (.slice (some ⟨b2, 0, none⟩) 4 4) 4 (cndF.map (Value.int .i64))]) (fun cv _ => (t + 1 - intOf cv).toNat)
          case atStart => exact ⟨f, rfl, by omega, by omega, fun x h1 h2 => by omega, H⟩
          case round =>
            clear H
            obtain ⟨c, rfl, hc1, hc2, hnc, H⟩ := hrel
            have ct := H.atM 0 rfl (show cndT[i]? = some t by rw [cndT_eq, List.getElem?_map, HX.out]; rfl)
            have HNC := Lib.hid hnc
            clear hnc
            by_cases hct : c ≤ t
            · go_wp2_with fail
              refine (specParts_any c _ (by omega)).mono ?_
              rintro e w4 ⟨B, d, rfl, o4, f4⟩
              have H4 := H.made o4 f4
              clear H o4 f4 ct
              obtain ⟨ps, hps⟩ : ∃ q, q = partsS c := ⟨_, rfl⟩
              have HPS := Lib.hid hps
              rw [← hps] at H4 ⊢
              clear hps
              have HS : ∀ (P1 : ps ≠ [a, b]), Hid (∀ x, f ≤ x → x < c + 1 → partsS x ≠ [a, b]) := fun P1 => Lib.hid fun x h1 h2 => by
                by_cases hxc : x = c
                · rw [hxc, ← HPS.out]; exact P1
                · exact HNC.out x h1 (by omega)
              by_cases hl : ps.length = 2
              · match ps, hl, HPS, HS, H4 with
                | [x, y], _, HPS, HS, H4 =>
                  obtain ⟨gB, cB, e, _⟩ := H4.form 0 rfl (by simp)
                  injection e with e1 _ e2
                  subst e1 e2
                  have c0 := H4.atM 0 rfl (j := 0) (x := x) rfl
                  have c1 := H4.atM 0 rfl (j := 1) (x := y) rfl
                  by_cases hxa : x = a
                  · by_cases hyb : y = b
                    · have HE := Lib.hid (HP.out.trans (lookF_some (pair_cand HX.out.mem ⟨hc1, hct⟩ (by rw [← HPS.out, hxa, hyb]))))
                      have h5 : (x == a) = true := by simpa using hxa
                      have h6 : (y == b) = true := by simpa using hyb
                      clear HS
                      go_wp2_with fail
                      go_ret2
                      rw [HE.out]
                      exact ⟨rfl, H4.fr⟩
                    · have HT := HS (by intro h; injection h with _ h; injection h with h; exact hyb h)
                      have h5 : (x == a) = true := by simpa using hxa
                      have h6 : (y == b) = false := by simpa using hyb
                      clear HS
                      go_wp2_with fail
                      go_roundw
                      case rel => exact ⟨c + 1, by go_num, by omega, by omega, HT.out, H4.tail⟩
                      case measure => simp [intOf]; omega
                  · have HT := HS (by intro h; injection h with h _; exact hxa h)
                    have h5 : (x == a) = false := by simpa using hxa
                    clear HS
                    go_wp2_with fail
                    go_roundw
                    case rel => exact ⟨c + 1, by go_num, by omega, by omega, HT.out, H4.tail⟩
                    case measure => simp [intOf]; omega
              · have HT := HS (by intro h; rw [h] at hl; exact hl rfl)
                have h5 : ((ps.length : Int) == 2) = false := by simp; omega
                clear HS
                go_wp2_with fail
                go_roundw
                case rel => exact ⟨c + 1, by go_num, by omega, by omega, HT.out, H4.tail⟩
                case measure => simp [intOf]; omega
            · have HT : Hid (∀ p ∈ candS.take (i + 1), ∀ c, p.1 ≤ c → c ≤ p.2 → partsS c ≠ [a, b]) := Lib.hid fun p hp x h1 h2 => by
                rw [At.take HX.out, List.mem_append, List.mem_singleton] at hp
                rcases hp with hp | rfl
                · exact HN.out p hp x h1 h2
                · exact HNC.out x h1 (by simp only at h2; omega)
              go_wp2_with fail
              go_roundw
              case rel => exact ⟨i + 1, by go_num, by omega, HT.out, H⟩
              case measure => simp [intOf]; omega
        · have HE := Lib.hid (HP.out.trans (lookF_none (pair_nocand fun p hp => hno p (by rw [List.take_of_length_le (by simp [candS]; omega)]; exact hp))))
          clear hno
          go_wp2_with fail
          go_ret2
          rw [HE.out]
          exact ⟨rfl, H.fr⟩

end Go.Proofs.YtfmifaneggenoaaDoor
