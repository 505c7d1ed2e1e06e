/-
  Is a device right: DevOk of both builds; writeOk, l8WriteOk.
-/
import Derived.Test.YtaogikhpglcmjaaGreatDoorGs
import Derived.Test.YtaogikhpglcmjaaGreatDoorGa
import Derived.Test.YtaogikhpglcmjaaGreatDoorGw
namespace Go.Proofs.YtaogikhpglcmjaaGreatDoor
open Go.RowKit

set_option linter.unusedVariables false
set_option linter.unusedSimpArgs false
def wrOk (x : Int × ByteArray) : Bool := inB x.1 0 17 && decide (x.2.size ≤ 4000)
def devB (bl : List ByteArray) (pd : List (Int × ByteArray)) : Bool := decide (bl.length = 18) && decide (pd.length ≤ 40) && (bl.all fun t => decide (t.size ≤ 4000)) && pd.all wrOk
theorem all_take_yes {α : Type} {p : α → Bool} {l : List α} {k : Nat} {x : α} (h : (l.take k).all p = true) (hx : l[k]? = some x) (hp : p x = true) : (l.take (k + 1)).all p = true := by
  rw [List.take_add_one, hx, List.all_append, h]; simpa using hp
theorem all_no {α : Type} {p : α → Bool} {l : List α} {k : Nat} {x : α} (hx : l[k]? = some x) (hp : p x = false) : l.all p = false := by
  rw [List.all_eq_false]; exact ⟨x, List.mem_of_getElem? hx, by simp [hp]⟩
theorem implWriteOk_any (x0 : Int) (x1 : ByteArray) (w : World) :
    Calls Tryz.prog 77 #[.agg #[.int .i64 x0, .string x1]] w fun e w' => e = .returned (.bool (wrOk (x0, x1))) ∧ Fr w w' := by
  have H := (Hp.start w).lay_ 61 [.int .i64 x0, .string x1] rfl
  have y0 := H.bat 0 rfl (j := 0) rfl
  have y1 := H.bat 0 rfl (j := 1) rfl
  obtain ⟨b, hb⟩ : ∃ b, inB x0 0 17 = b := ⟨_, rfl⟩
  have HB := Lib.hid hb
  clear hb
  cases b
  all_goals
    go_enter Tryz.func77, Tryz.ntmps77
    go_wp2_with fail
    refine (within_any _ _ _ _).mono ?_
    rintro e _ ⟨rfl, rfl⟩
    rw [HB.out]
    go_wp2_with fail
    go_ret
    exact ⟨ret_bool (by first | (simp [wrOk, HB.out]; done) | (simp [wrOk, HB.out]; omega)), H.fr⟩
theorem specWriteOk_any (x0 : Int) (x1 : ByteArray) (w : World) :
    Calls Tryz.prog 70 #[.agg #[.int .i64 x0, .string x1]] w fun e w' => e = .returned (.bool (wrOk (x0, x1))) ∧ Fr w w' := by
  have H := (Hp.start w).lay_ 61 [.int .i64 x0, .string x1] rfl
  have y0 := H.bat 0 rfl (j := 0) rfl
  have y1 := H.bat 0 rfl (j := 1) rfl
  by_cases h0 : 0 ≤ x0
  · by_cases h1 : x0 < 18
    · have hb : inB x0 0 17 = true := by simp [inB]; omega
      go_enter Tryz.func70, Tryz.ntmps70
      go_wp2_with fail
      go_ret
      exact ⟨ret_bool (by first | (simp [wrOk, hb]; done) | (simp [wrOk, hb]; omega)), H.fr⟩
    · have hb : inB x0 0 17 = false := by simp [inB]; omega
      go_enter Tryz.func70, Tryz.ntmps70
      go_wp2_with fail
      go_ret
      exact ⟨ret_bool (by first | (simp [wrOk, hb]; done) | (simp [wrOk, hb]; omega)), H.fr⟩
  · have hb : inB x0 0 17 = false := by simp [inB]; omega
    go_enter Tryz.func70, Tryz.ntmps70
    go_wp2_with fail
    go_ret
    exact ⟨ret_bool (by first | (simp [wrOk, hb]; done) | (simp [wrOk, hb]; omega)), H.fr⟩
set_option maxRecDepth 100000 in
set_option maxHeartbeats 4000000 in
theorem implDevOk_any (A : Option Addr) (n c : Nat) (bl : List ByteArray) (B : Option Addr) (m d : Nat) (pd : List (Int × ByteArray)) (w : World) (h : Rd w A n 1 (bl.map Value.string)) (hB : Rd w B m 2 (pd.flatMap cWrite)) (hn : n ≤ 1048576) (hm : m ≤ 1048576) :
    Calls Tryz.prog 44 #[.agg #[.slice A n c, .slice B m d]] w fun e w' => e = .returned (.bool (devB bl pd)) ∧ Fr w w' := by
  have HL := Lib.hid h.len1
  have HM := Lib.hid (show pd.length = m from hB.lenk cWrite_len (by omega))
  obtain ⟨q0, hq0⟩ : ∃ q, q = devB bl pd := ⟨_, rfl⟩
  rw [← hq0]
  have HQ := Lib.hid hq0
  clear hq0
  have H := (Hp.start w).lay_ 49 [.slice A n c, .slice B m d] rfl
  have y0 := H.bat 0 rfl (j := 0) rfl
  go_enter Tryz.func44, Tryz.ntmps44
  go_wp2_with fail
  go_loopw [10] (fun iv wr => ∃ i : Nat, iv = .int .i64 i ∧ i ≤ n ∧ ((bl.take i).all fun t => decide (t.size ≤ 4000)) = true ∧ Hp [] w wr [.blk w.heap.size 49 [.slice A n c, .slice B m d]]) (fun iv _ => n - (intOf iv).toNat)
  case atStart => exact ⟨0, rfl, by omega, rfl, H⟩
  case round =>
    clear H y0
    obtain ⟨i, rfl, hi, hall, H⟩ := hrel
    have HA := Lib.hid hall
    clear hall
    by_cases hlt : i < n
    · obtain ⟨s, hs⟩ := some_at HL.out hlt
      obtain ⟨bk, of, rfl, hc⟩ := (h.fr H.fr).get1 hs
      have HS := Lib.hid hs
      clear hs
      by_cases hz : s.size ≤ 4000
      · have hz1 : ¬ (4000 : Int) < (s.size : Int) := by omega
        have HE := Lib.hid (all_take_yes (p := fun t : ByteArray => decide (t.size ≤ 4000)) HA.out HS.out (by simpa using hz))
        go_wp2_with fail
        go_roundw
        case rel => exact ⟨i + 1, by go_num, by omega, HE.out, H⟩
        case measure => simp [intOf]; omega
      · have hz1 : (4000 : Int) < (s.size : Int) := by omega
        have HE := Lib.hid (HQ.out.trans (show _ = false by rw [devB, all_no (p := fun t : ByteArray => decide (t.size ≤ 4000)) HS.out (by simpa using hz)]; simp))
        go_wp2_with fail
        go_ret
        rw [HE.out]
        exact ⟨rfl, H.fr⟩
    · obtain rfl : i = n := by omega
      have HA2 := Lib.hid (show (bl.all fun t => decide (t.size ≤ 4000)) = true by
        have h1 := HA.out
        rwa [List.take_of_length_le (by rw [HL.out]; exact Nat.le_refl _)] at h1)
      have y1 := H.bat 0 rfl (j := 1) rfl
      go_wp2_with fail
      go_loopw [21] (fun iv wr => ∃ k : Nat, iv = .int .i64 k ∧ k ≤ m ∧ (pd.take k).all wrOk = true ∧ Hp [] w wr [.blk w.heap.size 49 [.slice A i c, .slice B m d]]) (fun iv _ => m - (intOf iv).toNat)
      case atStart => exact ⟨0, rfl, by omega, rfl, H⟩
      case round =>
        clear H y1 HA
        obtain ⟨k, rfl, hk, hall, H⟩ := hrel
        have HA := Lib.hid hall
        clear hall
        by_cases hlt2 : k < m
        · obtain ⟨⟨x0, x1⟩, hx⟩ := some_at HM.out hlt2
          obtain ⟨bk, of, rfl, hcell⟩ := (hB.fr H.fr).elem cWrite_len hx (by omega)
          have ca0 := hcell 0 _ rfl; simp only [Nat.add_zero] at ca0
          have ca1 := hcell 1 _ rfl
          have HX := Lib.hid hx
          clear hx hcell
          have HH := H.lay_ 61 [.int .i64 x0, .string x1] rfl
          go_wp2_with fail
          refine (implWriteOk_any x0 x1 _).mono ?_
          rintro e w2 ⟨rfl, f2⟩
          have H2 := (HH.go f2).tail
          clear f2 HH ca0 ca1 H
          obtain ⟨b, hb⟩ : ∃ b, wrOk (x0, x1) = b := ⟨_, rfl⟩
          rw [hb]
          have HB := Lib.hid hb
          clear hb
          cases b with
          | false =>
            have HE := Lib.hid (HQ.out.trans (show _ = false by rw [devB, all_no (p := wrOk) HX.out HB.out]; simp))
            go_wp2_with fail
            go_ret
            rw [HE.out]
            exact ⟨rfl, H2.fr⟩
          | true =>
            have HE := Lib.hid (all_take_yes (p := wrOk) HA.out HX.out HB.out)
            go_wp2_with fail
            go_roundw
            case rel => exact ⟨k + 1, by go_num, by omega, HE.out, H2⟩
            case measure => simp [intOf]; omega
        · obtain rfl : k = m := by omega
          have HA3 := Lib.hid (show pd.all wrOk = true by
            have h1 := HA.out
            rwa [List.take_of_length_le (by rw [HM.out]; exact Nat.le_refl _)] at h1)
          have HE := Lib.hid (HQ.out.trans (show _ = (decide (i = 18) && decide (k ≤ 40)) by rw [devB, HA3.out, HA2.out, HL.out, HM.out]; simp))
          have y0 := H.bat 0 rfl (j := 0) rfl
          have y1 := H.bat 0 rfl (j := 1) rfl
          by_cases h18 : i = 18
          · have h18b : ((i : Int) == 18) = true := by simp; omega
            go_wp2_with fail
            go_ret
            rw [HE.out]
            exact ⟨ret_bool (by rw [decide_eq_true h18]; first | (simp; done) | (simp; omega)), H.fr⟩
          · have h18b : ((i : Int) == 18) = false := by simp; omega
            go_wp2_with fail
            go_ret
            rw [HE.out]
            exact ⟨ret_bool (by rw [decide_eq_false h18]; simp), H.fr⟩
set_option maxRecDepth 100000 in
set_option maxHeartbeats 4000000 in
theorem specDevOk_any (A : Option Addr) (n c : Nat) (bl : List ByteArray) (B : Option Addr) (m d : Nat) (pd : List (Int × ByteArray)) (w : World) (h : Rd w A n 1 (bl.map Value.string)) (hB : Rd w B m 2 (pd.flatMap cWrite)) (hn : n ≤ 1048576) (hm : m ≤ 1048576) :
    Calls Tryz.prog 35 #[.agg #[.slice A n c, .slice B m d]] w fun e w' => e = .returned (.bool (devB bl pd)) ∧ Fr w w' := by
  have HL := Lib.hid h.len1
  have HM := Lib.hid (show pd.length = m from hB.lenk cWrite_len (by omega))
  obtain ⟨q0, hq0⟩ : ∃ q, q = devB bl pd := ⟨_, rfl⟩
  rw [← hq0]
  have HQ := Lib.hid hq0
  clear hq0
  have H := (Hp.start w).lay_ 49 [.slice A n c, .slice B m d] rfl
  have y0 := H.bat 0 rfl (j := 0) rfl
  have y1 := H.bat 0 rfl (j := 1) rfl
  by_cases h18 : n = 18
  rotate_left
  · have h18b : ((n : Int) == 18) = false := by simp; omega
    have h18c : ((n : Int) != 18) = true := by simp; omega
    have HE := Lib.hid (HQ.out.trans (show _ = false by rw [devB, HL.out, decide_eq_false h18]; simp))
    go_enter Tryz.func35, Tryz.ntmps35
    go_wp2_with fail
    go_ret
    rw [HE.out]
    exact ⟨rfl, H.fr⟩
  have h18b : ((n : Int) == 18) = true := by simp; omega
  have h18c : ((n : Int) != 18) = false := by simp; omega
  by_cases h40 : m ≤ 40
  rotate_left
  · have h40b : (40 : Int) < (m : Int) := by omega
    have HE := Lib.hid (HQ.out.trans (show _ = false by rw [devB, HM.out, decide_eq_false h40]; simp))
    have H18 := Lib.hid h18
    clear h18
    go_enter Tryz.func35, Tryz.ntmps35
    go_wp2_with fail
    go_ret
    rw [HE.out]
    exact ⟨rfl, H.fr⟩
  have h40b : ¬ (40 : Int) < (m : Int) := by omega
  have HE0 := Lib.hid (HQ.out.trans (show _ = ((bl.all fun t => decide (t.size ≤ 4000)) && pd.all wrOk) by rw [devB, HL.out, HM.out, decide_eq_true h18, decide_eq_true h40]; simp))
  clear h18
  go_enter Tryz.func35, Tryz.ntmps35
  go_wp2_with fail
  go_loopw [3] (fun iv wr => ∃ i : Nat, iv = .int .i64 i ∧ i ≤ n ∧ ((bl.take i).all fun t => decide (t.size ≤ 4000)) = true ∧ Hp [] w wr [.blk w.heap.size 49 [.slice A n c, .slice B m d]]) (fun iv _ => n - (intOf iv).toNat)
  case atStart => exact ⟨0, rfl, by omega, rfl, H⟩
  case round =>
    clear H y0 y1
    obtain ⟨i, rfl, hi, hall, H⟩ := hrel
    have HA := Lib.hid hall
    clear hall
    have y0 := H.bat 0 rfl (j := 0) rfl
    by_cases hlt : i < n
    · obtain ⟨s, hs⟩ := some_at HL.out hlt
      obtain ⟨bk, of, rfl, hc⟩ := (h.fr H.fr).get1 hs
      have HS := Lib.hid hs
      clear hs
      by_cases hz : s.size ≤ 4000
      · have hz1 : ¬ (4000 : Int) < (s.size : Int) := by omega
        have HE := Lib.hid (all_take_yes (p := fun t : ByteArray => decide (t.size ≤ 4000)) HA.out HS.out (by simpa using hz))
        go_wp2_with fail
        go_roundw
        case rel => exact ⟨i + 1, by go_num, by omega, HE.out, H⟩
        case measure => simp [intOf]; omega
      · have hz1 : (4000 : Int) < (s.size : Int) := by omega
        have HE := Lib.hid (HE0.out.trans (show _ = false by rw [all_no (p := fun t : ByteArray => decide (t.size ≤ 4000)) HS.out (by simpa using hz)]; simp))
        go_wp2_with fail
        go_ret
        rw [HE.out]
        exact ⟨rfl, H.fr⟩
    · have hin : i = n := by omega
      have HA2 := Lib.hid (show (bl.all fun t => decide (t.size ≤ 4000)) = true by
        have h1 := HA.out
        rwa [List.take_of_length_le (by rw [HL.out]; omega)] at h1)
      subst hin
      have y1 := H.bat 0 rfl (j := 1) rfl
      go_wp2_with fail
      go_loopw [4] (fun iv wr => ∃ k : Nat, iv = .int .i64 k ∧ k ≤ m ∧ (pd.take k).all wrOk = true ∧ Hp [] w wr [.blk w.heap.size 49 [.slice A i c, .slice B m d]]) (fun iv _ => m - (intOf iv).toNat)
      case atStart => exact ⟨0, rfl, by omega, rfl, H⟩
      case round =>
        clear H y0 y1 HA
        obtain ⟨k, rfl, hk, hall, H⟩ := hrel
        have HA := Lib.hid hall
        clear hall
        have y1 := H.bat 0 rfl (j := 1) rfl
        by_cases hlt2 : k < m
        · obtain ⟨⟨x0, x1⟩, hx⟩ := some_at HM.out hlt2
          obtain ⟨bk, of, rfl, hcell⟩ := (hB.fr H.fr).elem cWrite_len hx (by omega)
          have ca0 := hcell 0 _ rfl; simp only [Nat.add_zero] at ca0
          have ca1 := hcell 1 _ rfl
          have HX := Lib.hid hx
          clear hx hcell
          go_wp2_with fail
          refine (specWriteOk_any x0 x1 _).mono ?_
          rintro e w2 ⟨rfl, f2⟩
          have H2 := H.go f2
          clear f2 ca0 ca1 H y1
          obtain ⟨b, hb⟩ : ∃ b, wrOk (x0, x1) = b := ⟨_, rfl⟩
          rw [hb]
          have HB := Lib.hid hb
          clear hb
          cases b with
          | false =>
            have HE := Lib.hid (HE0.out.trans (show _ = false by rw [all_no (p := wrOk) HX.out HB.out]; simp))
            go_wp2_with fail
            go_ret
            rw [HE.out]
            exact ⟨rfl, H2.fr⟩
          | true =>
            have HE := Lib.hid (all_take_yes (p := wrOk) HA.out HX.out HB.out)
            go_wp2_with fail
            go_roundw
            case rel => exact ⟨k + 1, by go_num, by omega, HE.out, H2⟩
            case measure => simp [intOf]; omega
        · obtain rfl : k = m := by omega
          have HE := Lib.hid (HE0.out.trans (show _ = true by
            have h1 := HA.out
            rw [List.take_of_length_le (by rw [HM.out]; exact Nat.le_refl _)] at h1
            rw [HA2.out, h1]; rfl))
          go_wp2_with fail
          go_ret
          rw [HE.out]
          exact ⟨rfl, H.fr⟩
end Go.Proofs.YtaogikhpglcmjaaGreatDoor
