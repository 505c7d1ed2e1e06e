/-
  The classes of marks, the program's and the reference's.
-/
import Derived.Test.YtfmifaneggenoaaDoorTaken
namespace Go.Proofs.YtfmifaneggenoaaDoor
open Go.RowKit

set_option linter.unusedVariables false
set_option maxRecDepth 100000 in
set_option maxHeartbeats 2000000 in
theorem implClass_any (c : Int) (w : World) :
    Calls Tryd.prog 65 #[.int .i64 c] w fun e w' => e = .returned (.int .i64 (cls c)) ∧ w' = w := by
  obtain ⟨k, hk⟩ : ∃ q, q = cls c := ⟨_, rfl⟩
  have HK := Lib.hid hk
  rw [← hk]
  clear hk
  go_enter Tryd.func65, Tryd.ntmps65
  go_wp2_with fail
  refine (within_any _ _ _ _).mono ?_
  rintro e w ⟨rfl, rfl⟩
  rcases (show inB c 768 772 = true ∨ inB c 768 772 = false by cases inB c 768 772 <;> simp) with hb | hb
  · have HE := Lib.hid (HK.out.trans (show cls c = 230 by unfold cls; rw [hb]; rfl))
    rw [hb]
    go_wp2_with fail
    go_ret
    rw [HE.out]
    exact ⟨rfl, rfl⟩
  · by_cases h1 : c = 776
    · subst h1
      have HE := Lib.hid (HK.out.trans (show cls 776 = 230 by decide))
      rw [hb]
      go_wp2_with fail
      go_ret
      rw [HE.out]
      exact ⟨rfl, rfl⟩
    · by_cases h2 : c = 778
      · subst h2
        have HE := Lib.hid (HK.out.trans (show cls 778 = 230 by decide))
        rw [hb]
        go_wp2_with fail
        go_ret
        rw [HE.out]
        exact ⟨rfl, rfl⟩
      · have h1' : (c == 776) = false := by simpa using h1
        have h2' : (c == 778) = false := by simpa using h2
        have HE := Lib.hid (HK.out.trans (show cls c = if c = 803 then 220 else if c = 807 then 202 else 0 by unfold cls; rw [hb, h1', h2']; rfl))
        rw [hb]
        by_cases h3 : c = 803
        · have HE2 := Lib.hid (HE.out.trans (if_pos h3))
          have h3' : (c == 803) = true := by simpa using h3
          go_wp2_with fail
          go_ret
          rw [HE2.out]
          exact ⟨rfl, rfl⟩
        · have h3' : (c == 803) = false := by simpa using h3
          by_cases h4 : c = 807
          · have HE2 := Lib.hid (HE.out.trans ((if_neg h3).trans (if_pos h4)))
            have h4' : (c == 807) = true := by simpa using h4
            go_wp2_with fail
            go_ret
            rw [HE2.out]
            exact ⟨rfl, rfl⟩
          · have HE2 := Lib.hid (HE.out.trans ((if_neg h3).trans (if_neg h4)))
            have h4' : (c == 807) = false := by simpa using h4
            go_wp2_with fail
            go_ret
            rw [HE2.out]
            exact ⟨rfl, rfl⟩

set_option maxRecDepth 100000 in
set_option maxHeartbeats 2000000 in
theorem l3Among_any (c : Int) (A : Option Addr) (n cc : Nat) (l : List Int) (w : World) (h : Rd w A n 1 (l.map (Value.int .i64))) (hn : n ≤ 1000) :
    Calls Tryd.prog 89 #[.int .i64 c, .slice A n cc] w fun e w' => e = .returned (.bool (l.contains c)) ∧ w' = w := by
  have HL := Lib.hid h.len1
  have G := Lib.hid h
  obtain ⟨k, hk⟩ : ∃ q, q = l.contains c := ⟨_, rfl⟩
  have HK := Lib.hid hk
  rw [← hk]
  clear h hk
  go_enter Tryd.func89, Tryd.ntmps89
  go_wp2_with fail
  go_loopw [5] (fun iv wr => ∃ i : Nat, iv = .int .i64 i ∧ i ≤ n ∧ c ∉ l.take i ∧ wr = w) (fun iv _ => n - (intOf iv).toNat)
  case atStart => exact ⟨0, rfl, by omega, by simp, rfl⟩
  case round =>
    obtain ⟨i, rfl, hi, hno, rfl⟩ := hrel
    by_cases hlt : i < n
    · obtain ⟨y, hy⟩ := some_at HL.out hlt
      obtain ⟨bk, of, rfl, hc⟩ := G.out.get1 hy
      have hi0 : (0 : Int) ≤ (i : Int) := by omega
      have hi1 : (i : Int) < (n : Int) := by omega
      have HY := Lib.hid hy
      have HO := Lib.hid hno
      clear hy hno
      by_cases hxy : y = c
      · subst hxy
        have HE := Lib.hid (HK.out.trans (by rw [List.contains_iff_mem]; exact List.mem_of_getElem? HY.out : _ = true))
        go_wp2_with fail
        go_ret
        rw [HE.out]
        exact ⟨rfl, rfl⟩
      · have HN := Lib.hid (show c ∉ l.take (i + 1) by rw [At.take HY.out, List.mem_append, not_or]; exact ⟨HO.out, by simpa using fun h => hxy h.symm⟩)
        go_wp2_with fail
        go_roundw
        case rel => exact ⟨i + 1, by go_num, by omega, HN.out, trivial⟩
        case measure => simp [intOf]; omega
    · have HE := Lib.hid (HK.out.trans (by rw [List.take_of_length_le (by rw [HL.out]; omega)] at hno; simpa using hno : _ = false))
      clear hno
      go_wp2_with fail
      go_ret
      rw [HE.out]
      exact ⟨rfl, rfl⟩

theorem among_cls (c : Int) : ([768, 769, 770, 771, 772, 776, 778] : List Int).contains c = ((inB c 768 772 || c == 776) || c == 778) := by
  rw [Bool.eq_iff_iff, List.contains_iff_mem]
  simp only [List.mem_cons, List.not_mem_nil, or_false, Bool.or_eq_true, inB_iff, beq_iff_eq]
  omega
set_option maxRecDepth 100000 in
set_option maxHeartbeats 2000000 in
theorem specClass_any (c : Int) (w : World) :
    Calls Tryd.prog 66 #[.int .i64 c] w fun e w' => e = .returned (.int .i64 (cls c)) ∧ Fr w w' := by
  obtain ⟨k, hk⟩ : ∃ q, q = cls c := ⟨_, rfl⟩
  have HK := Lib.hid hk
  rw [← hk]
  clear hk
  have H1 := (Hp.start w).lit 3 1 7 (([768, 769, 770, 771, 772, 776, 778] : List Int).map (Value.int .i64)) rfl (by simp [maxLen])
  go_enter Tryd.func66, Tryd.ntmps66
  go_wp2_with fail
  refine (l3Among_any c _ 7 7 [768, 769, 770, 771, 772, 776, 778] _ (H1.rd 0 rfl) (by decide)).mono ?_
  rintro e w1 ⟨rfl, hw1⟩
  rw [← hw1] at H1
  clear hw1
  rw [among_cls]
  rcases (show ((inB c 768 772 || c == 776) || c == 778) = true ∨ ((inB c 768 772 || c == 776) || c == 778) = false by cases ((inB c 768 772 || c == 776) || c == 778) <;> simp) with hb | hb
  · have HE := Lib.hid (HK.out.trans (show cls c = 230 by unfold cls; rw [hb]; rfl))
    rw [hb]
    go_wp2_with fail
    go_ret
    rw [HE.out]
    exact ⟨rfl, H1.fr⟩
  · have HE := Lib.hid (HK.out.trans (show cls c = if c = 803 then 220 else if c = 807 then 202 else 0 by unfold cls; rw [hb]; rfl))
    rw [hb]
    by_cases h3 : c = 803
    · have HE2 := Lib.hid (HE.out.trans (if_pos h3))
      have h3' : (c == 803) = true := by simpa using h3
      go_wp2_with fail
      go_ret
      rw [HE2.out]
      exact ⟨rfl, H1.fr⟩
    · have h3' : (c == 803) = false := by simpa using h3
      by_cases h4 : c = 807
      · have HE2 := Lib.hid (HE.out.trans ((if_neg h3).trans (if_pos h4)))
        have h4' : (c == 807) = true := by simpa using h4
        go_wp2_with fail
        go_ret
        rw [HE2.out]
        exact ⟨rfl, H1.fr⟩
      · have HE2 := Lib.hid (HE.out.trans ((if_neg h3).trans (if_neg h4)))
        have h4' : (c == 807) = false := by simpa using h4
        go_wp2_with fail
        go_ret
        rw [HE2.out]
        exact ⟨rfl, H1.fr⟩
end Go.Proofs.YtfmifaneggenoaaDoor
