/-
  Pair: the program and the reference put the same signs together.
-/
import Derived.Test.YtfmifaneggenoaaDoorPartsS
namespace Go.Proofs.YtfmifaneggenoaaDoor
open Go.RowKit

def lookF (a b : Int) : Int × Bool := match lookT a b with
  | some c => (c, true)
  | none => (0, false)
theorem pairF_one {a b : Int} (ha : inB a 4352 4370 = true) (hb : inB b 4449 4469 = true) : pairF a b = (44032 + 588 * (a - 4352) + 28 * (b - 4449), true) := by
  rw [pairF, ha, hb]; rfl
theorem pairF_two {a b : Int} (ha : inB a 44032 55203 = true) (hr : (a - 44032) % 28 = 0) (hb : inB b 4520 4546 = true) : pairF a b = (a + b - 4519, true) := by
  have h1 : inB a 4352 4370 = false := by
    have := inB_iff.1 ha
    simp [inB]; omega
  rw [pairF, h1, ha, hb, decide_eq_true hr]; rfl
theorem pairF_rest {a b : Int} (h1 : (inB a 4352 4370 && inB b 4449 4469) = false) (h2 : ((inB a 44032 55203 && decide ((a - 44032) % 28 = 0)) && inB b 4520 4546) = false) : pairF a b = lookF a b := by
  rw [pairF, h1, h2]; rfl
theorem lookF_some {a b c : Int} (h : lookT a b = some c) : lookF a b = (c, true) := by rw [lookF, h]
theorem lookF_none {a b : Int} (h : lookT a b = none) : lookF a b = (0, false) := by rw [lookF, h]
theorem rows_small {i : Nat} {r : List Int × List Int × Int} (hr : rowTbl[i]? = some r) : r.2.1.length ≤ 1000 := by
  have h : rowTbl.all (fun r => decide (r.2.1.length ≤ 1000)) = true := by decide
  simpa using List.all_eq_true.1 h r (List.mem_of_getElem? hr)
theorem rowTbl_len : rowTbl.length = 13 := rfl

set_option linter.unusedVariables false
set_option maxRecDepth 100000 in
set_option maxHeartbeats 8000000 in
theorem implPair_any (a b : Int) (w : World) :
    Calls Tryd.prog 30 #[.int .i64 a, .int .i64 b] w fun e w' => e = .returned (.tuple #[.int .i64 (pairF a b).1, .bool (pairF a b).2]) ∧ Fr w w' := by
  have H0 := Hp.start w
  go_enter Tryd.func30, Tryd.ntmps30
  go_wp2_with fail
  refine (within_any _ _ _ _).mono ?_
  rintro e w ⟨rfl, rfl⟩
  rcases (show inB a 4352 4370 = true ∨ inB a 4352 4370 = false by cases inB a 4352 4370 <;> simp) with h1 | h1
  · rw [h1]
    go_wp2_with fail
    refine (within_any _ _ _ _).mono ?_
    rintro e w ⟨rfl, rfl⟩
    rcases (show inB b 4449 4469 = true ∨ inB b 4449 4469 = false by cases inB b 4449 4469 <;> simp) with h2 | h2
    · have HE := Lib.hid (pairF_one h1 h2)
      rw [h2]
      have ha2 := inB_iff.1 h1
      have hb2 := inB_iff.1 h2
      go_wp2_with fail
      go_ret2
      rw [HE.out]
      exact ⟨rfl, H0.fr⟩
    · have hone : (inB a 4352 4370 && inB b 4449 4469) = false := by rw [h2, Bool.and_false]
      rw [h2]
      go_wp2_with fail
      refine (within_any _ _ _ _).mono ?_
      rintro e w ⟨rfl, rfl⟩
      rcases (show inB a 44032 55203 = true ∨ inB a 44032 55203 = false by cases inB a 44032 55203 <;> simp) with h3 | h3
      · rw [h3]
        have ha3 := inB_iff.1 h3
        have hw0 : IntKind.i64.wrap (a - 44032) = a - 44032 := IntWalk.i64_in _ (by omega)
        by_cases hr : (a - 44032) % 28 = 0
        · have hr' : ((a - 44032) % 28 == 0) = true := by simpa using hr
          go_wp2_with fail
          refine (within_any _ _ _ _).mono ?_
          rintro e w ⟨rfl, rfl⟩
          rcases (show inB b 4520 4546 = true ∨ inB b 4520 4546 = false by cases inB b 4520 4546 <;> simp) with h4 | h4
          · have HE := Lib.hid (pairF_two h3 hr h4)
            rw [h4]
            have hb2 := inB_iff.1 h4
            have ha2 := inB_iff.1 h3
            go_wp2_with fail
            go_ret2
            rw [HE.out]
            exact ⟨rfl, H0.fr⟩
          · have HP := Lib.hid (pairF_rest (a := a) (b := b) hone (by rw [h4, Bool.and_false]))
            rw [h4]
            go_wp2_with fail
            go_loopw [43] (fun iv wr => ∃ i : Nat, iv = .int .i64 i ∧ i ≤ 13 ∧ (∀ (j : Nat) (r : List Int × List Int × Int), j < i → rowTbl[j]? = some r → 0 < r.2.2 → r.2.2 = b → a ∉ r.2.1) ∧ Hp [] w wr []) (fun iv _ => 13 - (intOf iv).toNat)
            case atStart => exact ⟨0, rfl, by omega, fun j r hj => by omega, H0⟩
            case round =>
              clear H0
              obtain ⟨i, rfl, hi, hno, H⟩ := hrel
              by_cases hlt : i < 13
              · obtain ⟨r, hr, K⟩ := implRow_any i hlt wr
                have HR := Lib.hid hr
                have HN := Lib.hid hno
                have HS : ∀ (P1 : 0 < r.2.2 → r.2.2 = b → a ∉ r.2.1), Hid (∀ (j : Nat) (r : List Int × List Int × Int), j < i + 1 → rowTbl[j]? = some r → 0 < r.2.2 → r.2.2 = b → a ∉ r.2.1) := fun P1 => Lib.hid fun j r' hj hr' => by
                  by_cases hji : j = i
                  · subst hji
                    rw [HR.out] at hr'
                    injection hr' with hr'
                    rw [← hr']
                    exact P1
                  · exact HN.out j r' (by omega) hr'
                have hsm := rows_small hr
                have hle := rows_len hr
                clear hr hno
                go_wp2_with fail
                refine K.mono ?_
                rintro e w1 ⟨A, c, B, d, rfl, K1⟩
                have H1 := H.join K1
                clear H K1 K
                go_wp2_with fail
                refine (index_any B r.2.1.length d r.2.1 a _ (H1.rd 0 rfl) (by omega)).mono ?_
                rintro e w2 ⟨z, rfl, hz, rfl⟩
                rcases hz with ⟨rfl, hn⟩ | ⟨k, rfl, hk, hz⟩
                · have HT := HS fun _ _ => hn
                  clear hn HS
                  go_wp2_with fail
                  go_roundw
                  case rel => exact ⟨i + 1, by go_num, by omega, HT.out, H1.tail2⟩
                  case measure => simp [intOf]; omega
                · have hk0 : (0 : Int) ≤ (k : Int) := by omega
                  by_cases hm : 0 < r.2.2
                  · by_cases hmb : r.2.2 = b
                    · obtain ⟨cc, hcc⟩ := some_at (l := r.1) (n := r.1.length) rfl (show k < r.1.length by omega)
                      obtain ⟨gA, cA, e, _⟩ := H1.form 1 rfl (by omega)
                      injection e with e1 _ e2
                      subst e1 e2
                      have cl := H1.atM 1 rfl hcc
                      have HE := Lib.hid (HP.out.trans (lookF_some (pair_row HR.out hz hcc hmb (by omega))))
                      have hk1 : (k : Int) < (r.1.length : Int) := by omega
                      have hm' : (r.2.2 == b) = true := by simpa using hmb
                      clear hz hcc HS
                      go_wp2_with fail
                      go_ret2
                      rw [HE.out]
                      exact ⟨rfl, H1.fr⟩
                    · have HT := HS fun _ h => absurd h hmb
                      have hm' : (r.2.2 == b) = false := by simpa using hmb
                      clear HS hz
                      go_wp2_with fail
                      go_roundw
                      case rel => exact ⟨i + 1, by go_num, by omega, HT.out, H1.tail2⟩
                      case measure => simp [intOf]; omega
                  · have HT := HS fun h => absurd h hm
                    clear HS hz
                    go_wp2_with fail
                    go_roundw
                    case rel => exact ⟨i + 1, by go_num, by omega, HT.out, H1.tail2⟩
                    case measure => simp [intOf]; omega
              · have HE := Lib.hid (HP.out.trans (lookF_none (pair_norow fun j r hr h1 h2 => hno j r (by have := (List.getElem?_eq_some_iff.1 hr).1; rw [rowTbl_len] at this; omega) hr h1 h2)))
                clear hno
                go_wp2_with fail
                go_ret2
                rw [HE.out]
                exact ⟨rfl, H.fr⟩
        · have hr' : ((a - 44032) % 28 == 0) = false := by simpa using hr
          have HP := Lib.hid (pairF_rest (a := a) (b := b) hone (by rw [decide_eq_false hr, Bool.and_false, Bool.false_and]))
          go_wp2_with fail
          go_loopw [43] (fun iv wr => ∃ i : Nat, iv = .int .i64 i ∧ i ≤ 13 ∧ (∀ (j : Nat) (r : List Int × List Int × Int), j < i → rowTbl[j]? = some r → 0 < r.2.2 → r.2.2 = b → a ∉ r.2.1) ∧ Hp [] w wr []) (fun iv _ => 13 - (intOf iv).toNat)
          case atStart => exact ⟨0, rfl, by omega, fun j r hj => by omega, H0⟩
          case round =>
            clear H0
            obtain ⟨i, rfl, hi, hno, H⟩ := hrel
            by_cases hlt : i < 13
            · obtain ⟨r, hr, K⟩ := implRow_any i hlt wr
              have HR := Lib.hid hr
              have HN := Lib.hid hno
              have HS : ∀ (P1 : 0 < r.2.2 → r.2.2 = b → a ∉ r.2.1), Hid (∀ (j : Nat) (r : List Int × List Int × Int), j < i + 1 → rowTbl[j]? = some r → 0 < r.2.2 → r.2.2 = b → a ∉ r.2.1) := fun P1 => Lib.hid fun j r' hj hr' => by
                by_cases hji : j = i
                · subst hji
                  rw [HR.out] at hr'
                  injection hr' with hr'
                  rw [← hr']
                  exact P1
                · exact HN.out j r' (by omega) hr'
              have hsm := rows_small hr
              have hle := rows_len hr
              clear hr hno
              go_wp2_with fail
              refine K.mono ?_
              rintro e w1 ⟨A, c, B, d, rfl, K1⟩
              have H1 := H.join K1
              clear H K1 K
              go_wp2_with fail
              refine (index_any B r.2.1.length d r.2.1 a _ (H1.rd 0 rfl) (by omega)).mono ?_
              rintro e w2 ⟨z, rfl, hz, rfl⟩
              rcases hz with ⟨rfl, hn⟩ | ⟨k, rfl, hk, hz⟩
              · have HT := HS fun _ _ => hn
                clear hn HS
                go_wp2_with fail
                go_roundw
                case rel => exact ⟨i + 1, by go_num, by omega, HT.out, H1.tail2⟩
                case measure => simp [intOf]; omega
              · have hk0 : (0 : Int) ≤ (k : Int) := by omega
                by_cases hm : 0 < r.2.2
                · by_cases hmb : r.2.2 = b
                  · obtain ⟨cc, hcc⟩ := some_at (l := r.1) (n := r.1.length) rfl (show k < r.1.length by omega)
                    obtain ⟨gA, cA, e, _⟩ := H1.form 1 rfl (by omega)
                    injection e with e1 _ e2
                    subst e1 e2
                    have cl := H1.atM 1 rfl hcc
                    have HE := Lib.hid (HP.out.trans (lookF_some (pair_row HR.out hz hcc hmb (by omega))))
                    have hk1 : (k : Int) < (r.1.length : Int) := by omega
                    have hm' : (r.2.2 == b) = true := by simpa using hmb
                    clear hz hcc HS
                    go_wp2_with fail
                    go_ret2
                    rw [HE.out]
                    exact ⟨rfl, H1.fr⟩
                  · have HT := HS fun _ h => absurd h hmb
                    have hm' : (r.2.2 == b) = false := by simpa using hmb
                    clear HS hz
                    go_wp2_with fail
                    go_roundw
                    case rel => exact ⟨i + 1, by go_num, by omega, HT.out, H1.tail2⟩
                    case measure => simp [intOf]; omega
                · have HT := HS fun h => absurd h hm
                  clear HS hz
                  go_wp2_with fail
                  go_roundw
                  case rel => exact ⟨i + 1, by go_num, by omega, HT.out, H1.tail2⟩
                  case measure => simp [intOf]; omega
            · have HE := Lib.hid (HP.out.trans (lookF_none (pair_norow fun j r hr h1 h2 => hno j r (by have := (List.getElem?_eq_some_iff.1 hr).1; rw [rowTbl_len] at this; omega) hr h1 h2)))
              clear hno
              go_wp2_with fail
              go_ret2
              rw [HE.out]
              exact ⟨rfl, H.fr⟩
      · have HP := Lib.hid (pairF_rest (a := a) (b := b) hone (by rw [h3, Bool.false_and, Bool.false_and]))
        rw [h3]
        go_wp2_with fail
        go_loopw [43] (fun iv wr => ∃ i : Nat, iv = .int .i64 i ∧ i ≤ 13 ∧ (∀ (j : Nat) (r : List Int × List Int × Int), j < i → rowTbl[j]? = some r → 0 < r.2.2 → r.2.2 = b → a ∉ r.2.1) ∧ Hp [] w wr []) (fun iv _ => 13 - (intOf iv).toNat)
        case atStart => exact ⟨0, rfl, by omega, fun j r hj => by omega, H0⟩
        case round =>
          clear H0
          obtain ⟨i, rfl, hi, hno, H⟩ := hrel
          by_cases hlt : i < 13
          · obtain ⟨r, hr, K⟩ := implRow_any i hlt wr
            have HR := Lib.hid hr
            have HN := Lib.hid hno
            have HS : ∀ (P1 : 0 < r.2.2 → r.2.2 = b → a ∉ r.2.1), Hid (∀ (j : Nat) (r : List Int × List Int × Int), j < i + 1 → rowTbl[j]? = some r → 0 < r.2.2 → r.2.2 = b → a ∉ r.2.1) := fun P1 => Lib.hid fun j r' hj hr' => by
              by_cases hji : j = i
              · subst hji
                rw [HR.out] at hr'
                injection hr' with hr'
                rw [← hr']
                exact P1
              · exact HN.out j r' (by omega) hr'
            have hsm := rows_small hr
            have hle := rows_len hr
            clear hr hno
            go_wp2_with fail
            refine K.mono ?_
            rintro e w1 ⟨A, c, B, d, rfl, K1⟩
            have H1 := H.join K1
            clear H K1 K
            go_wp2_with fail
            refine (index_any B r.2.1.length d r.2.1 a _ (H1.rd 0 rfl) (by omega)).mono ?_
            rintro e w2 ⟨z, rfl, hz, rfl⟩
            rcases hz with ⟨rfl, hn⟩ | ⟨k, rfl, hk, hz⟩
            · have HT := HS fun _ _ => hn
              clear hn HS
              go_wp2_with fail
              go_roundw
              case rel => exact ⟨i + 1, by go_num, by omega, HT.out, H1.tail2⟩
              case measure => simp [intOf]; omega
            · have hk0 : (0 : Int) ≤ (k : Int) := by omega
              by_cases hm : 0 < r.2.2
              · by_cases hmb : r.2.2 = b
                · obtain ⟨cc, hcc⟩ := some_at (l := r.1) (n := r.1.length) rfl (show k < r.1.length by omega)
                  obtain ⟨gA, cA, e, _⟩ := H1.form 1 rfl (by omega)
                  injection e with e1 _ e2
                  subst e1 e2
                  have cl := H1.atM 1 rfl hcc
                  have HE := Lib.hid (HP.out.trans (lookF_some (pair_row HR.out hz hcc hmb (by omega))))
                  have hk1 : (k : Int) < (r.1.length : Int) := by omega
                  have hm' : (r.2.2 == b) = true := by simpa using hmb
                  clear hz hcc HS
                  go_wp2_with fail
                  go_ret2
                  rw [HE.out]
                  exact ⟨rfl, H1.fr⟩
                · have HT := HS fun _ h => absurd h hmb
                  have hm' : (r.2.2 == b) = false := by simpa using hmb
                  clear HS hz
                  go_wp2_with fail
                  go_roundw
                  case rel => exact ⟨i + 1, by go_num, by omega, HT.out, H1.tail2⟩
                  case measure => simp [intOf]; omega
              · have HT := HS fun h => absurd h hm
                clear HS hz
                go_wp2_with fail
                go_roundw
                case rel => exact ⟨i + 1, by go_num, by omega, HT.out, H1.tail2⟩
                case measure => simp [intOf]; omega
          · have HE := Lib.hid (HP.out.trans (lookF_none (pair_norow fun j r hr h1 h2 => hno j r (by have := (List.getElem?_eq_some_iff.1 hr).1; rw [rowTbl_len] at this; omega) hr h1 h2)))
            clear hno
            go_wp2_with fail
            go_ret2
            rw [HE.out]
            exact ⟨rfl, H.fr⟩
  · have hone : (inB a 4352 4370 && inB b 4449 4469) = false := by rw [h1, Bool.false_and]
    rw [h1]
    go_wp2_with fail
    refine (within_any _ _ _ _).mono ?_
    rintro e w ⟨rfl, rfl⟩
    rcases (show inB a 44032 55203 = true ∨ inB a 44032 55203 = false by cases inB a 44032 55203 <;> simp) with h3 | h3
    · rw [h3]
      have ha3 := inB_iff.1 h3
      have hw0 : IntKind.i64.wrap (a - 44032) = a - 44032 := IntWalk.i64_in _ (by omega)
      by_cases hr : (a - 44032) % 28 = 0
      · have hr' : ((a - 44032) % 28 == 0) = true := by simpa using hr
        go_wp2_with fail
        refine (within_any _ _ _ _).mono ?_
        rintro e w ⟨rfl, rfl⟩
        rcases (show inB b 4520 4546 = true ∨ inB b 4520 4546 = false by cases inB b 4520 4546 <;> simp) with h4 | h4
        · have HE := Lib.hid (pairF_two h3 hr h4)
          rw [h4]
          have hb2 := inB_iff.1 h4
          have ha2 := inB_iff.1 h3
          go_wp2_with fail
          go_ret2
          rw [HE.out]
          exact ⟨rfl, H0.fr⟩
        · have HP := Lib.hid (pairF_rest (a := a) (b := b) hone (by rw [h4, Bool.and_false]))
          rw [h4]
          go_wp2_with fail
          go_loopw [43] (fun iv wr => ∃ i : Nat, iv = .int .i64 i ∧ i ≤ 13 ∧ (∀ (j : Nat) (r : List Int × List Int × Int), j < i → rowTbl[j]? = some r → 0 < r.2.2 → r.2.2 = b → a ∉ r.2.1) ∧ Hp [] w wr []) (fun iv _ => 13 - (intOf iv).toNat)
          case atStart => exact ⟨0, rfl, by omega, fun j r hj => by omega, H0⟩
          case round =>
            clear H0
            obtain ⟨i, rfl, hi, hno, H⟩ := hrel
            by_cases hlt : i < 13
            · obtain ⟨r, hr, K⟩ := implRow_any i hlt wr
              have HR := Lib.hid hr
              have HN := Lib.hid hno
              have HS : ∀ (P1 : 0 < r.2.2 → r.2.2 = b → a ∉ r.2.1), Hid (∀ (j : Nat) (r : List Int × List Int × Int), j < i + 1 → rowTbl[j]? = some r → 0 < r.2.2 → r.2.2 = b → a ∉ r.2.1) := fun P1 => Lib.hid fun j r' hj hr' => by
                by_cases hji : j = i
                · subst hji
                  rw [HR.out] at hr'
                  injection hr' with hr'
                  rw [← hr']
                  exact P1
                · exact HN.out j r' (by omega) hr'
              have hsm := rows_small hr
              have hle := rows_len hr
              clear hr hno
              go_wp2_with fail
              refine K.mono ?_
              rintro e w1 ⟨A, c, B, d, rfl, K1⟩
              have H1 := H.join K1
              clear H K1 K
              go_wp2_with fail
              refine (index_any B r.2.1.length d r.2.1 a _ (H1.rd 0 rfl) (by omega)).mono ?_
              rintro e w2 ⟨z, rfl, hz, rfl⟩
              rcases hz with ⟨rfl, hn⟩ | ⟨k, rfl, hk, hz⟩
              · have HT := HS fun _ _ => hn
                clear hn HS
                go_wp2_with fail
                go_roundw
                case rel => exact ⟨i + 1, by go_num, by omega, HT.out, H1.tail2⟩
                case measure => simp [intOf]; omega
              · have hk0 : (0 : Int) ≤ (k : Int) := by omega
                by_cases hm : 0 < r.2.2
                · by_cases hmb : r.2.2 = b
                  · obtain ⟨cc, hcc⟩ := some_at (l := r.1) (n := r.1.length) rfl (show k < r.1.length by omega)
                    obtain ⟨gA, cA, e, _⟩ := H1.form 1 rfl (by omega)
                    injection e with e1 _ e2
                    subst e1 e2
                    have cl := H1.atM 1 rfl hcc
                    have HE := Lib.hid (HP.out.trans (lookF_some (pair_row HR.out hz hcc hmb (by omega))))
                    have hk1 : (k : Int) < (r.1.length : Int) := by omega
                    have hm' : (r.2.2 == b) = true := by simpa using hmb
                    clear hz hcc HS
                    go_wp2_with fail
                    go_ret2
                    rw [HE.out]
                    exact ⟨rfl, H1.fr⟩
                  · have HT := HS fun _ h => absurd h hmb
                    have hm' : (r.2.2 == b) = false := by simpa using hmb
                    clear HS hz
                    go_wp2_with fail
                    go_roundw
                    case rel => exact ⟨i + 1, by go_num, by omega, HT.out, H1.tail2⟩
                    case measure => simp [intOf]; omega
                · have HT := HS fun h => absurd h hm
                  clear HS hz
                  go_wp2_with fail
                  go_roundw
                  case rel => exact ⟨i + 1, by go_num, by omega, HT.out, H1.tail2⟩
                  case measure => simp [intOf]; omega
            · have HE := Lib.hid (HP.out.trans (lookF_none (pair_norow fun j r hr h1 h2 => hno j r (by have := (List.getElem?_eq_some_iff.1 hr).1; rw [rowTbl_len] at this; omega) hr h1 h2)))
              clear hno
              go_wp2_with fail
              go_ret2
              rw [HE.out]
              exact ⟨rfl, H.fr⟩
      · have hr' : ((a - 44032) % 28 == 0) = false := by simpa using hr
        have HP := Lib.hid (pairF_rest (a := a) (b := b) hone (by rw [decide_eq_false hr, Bool.and_false, Bool.false_and]))
        go_wp2_with fail
        go_loopw [43] (fun iv wr => ∃ i : Nat, iv = .int .i64 i ∧ i ≤ 13 ∧ (∀ (j : Nat) (r : List Int × List Int × Int), j < i → rowTbl[j]? = some r → 0 < r.2.2 → r.2.2 = b → a ∉ r.2.1) ∧ Hp [] w wr []) (fun iv _ => 13 - (intOf iv).toNat)
        case atStart => exact ⟨0, rfl, by omega, fun j r hj => by omega, H0⟩
        case round =>
          clear H0
          obtain ⟨i, rfl, hi, hno, H⟩ := hrel
          by_cases hlt : i < 13
          · obtain ⟨r, hr, K⟩ := implRow_any i hlt wr
            have HR := Lib.hid hr
            have HN := Lib.hid hno
            have HS : ∀ (P1 : 0 < r.2.2 → r.2.2 = b → a ∉ r.2.1), Hid (∀ (j : Nat) (r : List Int × List Int × Int), j < i + 1 → rowTbl[j]? = some r → 0 < r.2.2 → r.2.2 = b → a ∉ r.2.1) := fun P1 => Lib.hid fun j r' hj hr' => by
              by_cases hji : j = i
              · subst hji
                rw [HR.out] at hr'
                injection hr' with hr'
                rw [← hr']
                exact P1
              · exact HN.out j r' (by omega) hr'
            have hsm := rows_small hr
            have hle := rows_len hr
            clear hr hno
            go_wp2_with fail
            refine K.mono ?_
            rintro e w1 ⟨A, c, B, d, rfl, K1⟩
            have H1 := H.join K1
            clear H K1 K
            go_wp2_with fail
            refine (index_any B r.2.1.length d r.2.1 a _ (H1.rd 0 rfl) (by omega)).mono ?_
            rintro e w2 ⟨z, rfl, hz, rfl⟩
            rcases hz with ⟨rfl, hn⟩ | ⟨k, rfl, hk, hz⟩
            · have HT := HS fun _ _ => hn
              clear hn HS
              go_wp2_with fail
              go_roundw
              case rel => exact ⟨i + 1, by go_num, by omega, HT.out, H1.tail2⟩
              case measure => simp [intOf]; omega
            · have hk0 : (0 : Int) ≤ (k : Int) := by omega
              by_cases hm : 0 < r.2.2
              · by_cases hmb : r.2.2 = b
                · obtain ⟨cc, hcc⟩ := some_at (l := r.1) (n := r.1.length) rfl (show k < r.1.length by omega)
                  obtain ⟨gA, cA, e, _⟩ := H1.form 1 rfl (by omega)
                  injection e with e1 _ e2
                  subst e1 e2
                  have cl := H1.atM 1 rfl hcc
                  have HE := Lib.hid (HP.out.trans (lookF_some (pair_row HR.out hz hcc hmb (by omega))))
                  have hk1 : (k : Int) < (r.1.length : Int) := by omega
                  have hm' : (r.2.2 == b) = true := by simpa using hmb
                  clear hz hcc HS
                  go_wp2_with fail
                  go_ret2
                  rw [HE.out]
                  exact ⟨rfl, H1.fr⟩
                · have HT := HS fun _ h => absurd h hmb
                  have hm' : (r.2.2 == b) = false := by simpa using hmb
                  clear HS hz
                  go_wp2_with fail
                  go_roundw
                  case rel => exact ⟨i + 1, by go_num, by omega, HT.out, H1.tail2⟩
                  case measure => simp [intOf]; omega
              · have HT := HS fun h => absurd h hm
                clear HS hz
                go_wp2_with fail
                go_roundw
                case rel => exact ⟨i + 1, by go_num, by omega, HT.out, H1.tail2⟩
                case measure => simp [intOf]; omega
          · have HE := Lib.hid (HP.out.trans (lookF_none (pair_norow fun j r hr h1 h2 => hno j r (by have := (List.getElem?_eq_some_iff.1 hr).1; rw [rowTbl_len] at this; omega) hr h1 h2)))
            clear hno
            go_wp2_with fail
            go_ret2
            rw [HE.out]
            exact ⟨rfl, H.fr⟩
    · have HP := Lib.hid (pairF_rest (a := a) (b := b) hone (by rw [h3, Bool.false_and, Bool.false_and]))
      rw [h3]
      go_wp2_with fail
      go_loopw [43] (fun iv wr => ∃ i : Nat, iv = .int .i64 i ∧ i ≤ 13 ∧ (∀ (j : Nat) (r : List Int × List Int × Int), j < i → rowTbl[j]? = some r → 0 < r.2.2 → r.2.2 = b → a ∉ r.2.1) ∧ Hp [] w wr []) (fun iv _ => 13 - (intOf iv).toNat)
      case atStart => exact ⟨0, rfl, by omega, fun j r hj => by omega, H0⟩
      case round =>
        clear H0
        obtain ⟨i, rfl, hi, hno, H⟩ := hrel
        by_cases hlt : i < 13
        · obtain ⟨r, hr, K⟩ := implRow_any i hlt wr
          have HR := Lib.hid hr
          have HN := Lib.hid hno
          have HS : ∀ (P1 : 0 < r.2.2 → r.2.2 = b → a ∉ r.2.1), Hid (∀ (j : Nat) (r : List Int × List Int × Int), j < i + 1 → rowTbl[j]? = some r → 0 < r.2.2 → r.2.2 = b → a ∉ r.2.1) := fun P1 => Lib.hid fun j r' hj hr' => by
            by_cases hji : j = i
            · subst hji
              rw [HR.out] at hr'
              injection hr' with hr'
              rw [← hr']
              exact P1
            · exact HN.out j r' (by omega) hr'
          have hsm := rows_small hr
          have hle := rows_len hr
          clear hr hno
          go_wp2_with fail
          refine K.mono ?_
          rintro e w1 ⟨A, c, B, d, rfl, K1⟩
          have H1 := H.join K1
          clear H K1 K
          go_wp2_with fail
          refine (index_any B r.2.1.length d r.2.1 a _ (H1.rd 0 rfl) (by omega)).mono ?_
          rintro e w2 ⟨z, rfl, hz, rfl⟩
          rcases hz with ⟨rfl, hn⟩ | ⟨k, rfl, hk, hz⟩
          · have HT := HS fun _ _ => hn
            clear hn HS
            go_wp2_with fail
            go_roundw
            case rel => exact ⟨i + 1, by go_num, by omega, HT.out, H1.tail2⟩
            case measure => simp [intOf]; omega
          · have hk0 : (0 : Int) ≤ (k : Int) := by omega
            by_cases hm : 0 < r.2.2
            · by_cases hmb : r.2.2 = b
              · obtain ⟨cc, hcc⟩ := some_at (l := r.1) (n := r.1.length) rfl (show k < r.1.length by omega)
                obtain ⟨gA, cA, e, _⟩ := H1.form 1 rfl (by omega)
                injection e with e1 _ e2
                subst e1 e2
                have cl := H1.atM 1 rfl hcc
                have HE := Lib.hid (HP.out.trans (lookF_some (pair_row HR.out hz hcc hmb (by omega))))
                have hk1 : (k : Int) < (r.1.length : Int) := by omega
                have hm' : (r.2.2 == b) = true := by simpa using hmb
                clear hz hcc HS
                go_wp2_with fail
                go_ret2
                rw [HE.out]
                exact ⟨rfl, H1.fr⟩
              · have HT := HS fun _ h => absurd h hmb
                have hm' : (r.2.2 == b) = false := by simpa using hmb
                clear HS hz
                go_wp2_with fail
                go_roundw
                case rel => exact ⟨i + 1, by go_num, by omega, HT.out, H1.tail2⟩
                case measure => simp [intOf]; omega
            · have HT := HS fun h => absurd h hm
              clear HS hz
              go_wp2_with fail
              go_roundw
              case rel => exact ⟨i + 1, by go_num, by omega, HT.out, H1.tail2⟩
              case measure => simp [intOf]; omega
        · have HE := Lib.hid (HP.out.trans (lookF_none (pair_norow fun j r hr h1 h2 => hno j r (by have := (List.getElem?_eq_some_iff.1 hr).1; rw [rowTbl_len] at this; omega) hr h1 h2)))
          clear hno
          go_wp2_with fail
          go_ret2
          rw [HE.out]
          exact ⟨rfl, H.fr⟩
end Go.Proofs.YtfmifaneggenoaaDoor
