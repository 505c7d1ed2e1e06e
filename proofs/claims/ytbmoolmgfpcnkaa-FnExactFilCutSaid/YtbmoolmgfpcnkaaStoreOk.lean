/-
  StoreOk: the program and the reference say the same of every store.
-/
import Derived.Test.YtbmoolmgfpcnkaaStore
import Derived.Test.YtbmoolmgfpcnkaaBitsOk
namespace Go.Proofs.Ytbmoolmgfpcnkaa
open Go.RowKit

/-- Are there 24 flags, and 24 texts of 4 bytes? -/
def stOk (l : List Bool) (ss : List ByteArray) : Bool := decide (l.length = 24) && decide (ss.length = 24) && ss.all fun s => decide (s.size = 4)
theorem all4_snoc {ss : List ByteArray} {k : Nat} {s : ByteArray} (h : ss[k]? = some s) (hs : s.size = 4) (ha : ∀ x ∈ ss.take k, x.size = 4) : ∀ x ∈ ss.take (k + 1), x.size = 4 := by
  rw [List.take_add_one, h]
  intro x hx
  simp only [Option.toList_some, List.mem_append, List.mem_singleton] at hx
  rcases hx with h1 | rfl
  · exact ha x h1
  · exact hs
theorem all4_yes {ss : List ByteArray} {n : Nat} (hn : ss.length = n) (ha : ∀ x ∈ ss.take n, x.size = 4) : (ss.all fun s => decide (s.size = 4)) = true := by
  rw [List.take_of_length_le (by omega)] at ha
  simpa using ha
theorem all4_no {ss : List ByteArray} {k : Nat} {s : ByteArray} (h : ss[k]? = some s) (hs : s.size ≠ 4) : (ss.all fun s => decide (s.size = 4)) = false := by
  rw [List.all_eq_false]
  exact ⟨s, List.mem_of_getElem? h, by simpa using hs⟩

set_option maxRecDepth 100000 in
set_option maxHeartbeats 1000000 in
theorem specStoreOk_any (A : Option Addr) (n c : Nat) (l : List Bool) (B : Option Addr) (m d : Nat) (ss : List ByteArray) (w : World) (h : Rd w A n 1 (l.map Value.bool)) (h' : Rd w B m 1 (ss.map Value.string)) (hm : m ≤ 1048576) (hz : ∀ s ∈ ss, s.size ≤ 1048576) :
    Calls Try.prog 82 #[.agg #[.slice A n c, .slice B m d]] w fun e w' => e = .returned (.bool (stOk l ss)) ∧ Fr w w' := by
  have HL := Lib.hid h.len1
  have HM := Lib.hid h'.len1
  clear h
  by_cases hn : n = 24
  · have hd : decide (n = 24) = true := by simp [hn]
    by_cases hm24 : m = 24
    · have hr : stOk l ss = ss.all fun s => decide (s.size = 4) := by simp [stOk, HL.out, HM.out, hn, hm24]
      have HR := Lib.hid hr
      subst hm24
      clear hr hn
      go_enter Try.func82, Try.ntmps82
      go_wp2_with fail
      refine (specBitsOk_any _ _ _ _).mono ?_
      rintro e w' ⟨rfl, rfl⟩
      rw [hd]
      go_wp2_with fail
      go_loopw [3] (fun i wr => ∃ k : Nat, k ≤ 24 ∧ i = .int .i64 k ∧ (∀ x ∈ ss.take k, x.size = 4) ∧ wr = w.alloc (.cells #[.slice A n c, .slice B 24 d] 31)) (fun i _ => 24 - (intOf i).toNat)
      case atStart => exact ⟨0, Nat.zero_le _, rfl, by simp, rfl⟩
      case round =>
        obtain ⟨k, hk, rfl, hall, rfl⟩ := hrel
        have HA := Lib.hid hall
        clear hall
        by_cases hlt : k < 24
        · obtain ⟨s, hs⟩ := some_at HM.out hlt
          obtain ⟨bk, of, rfl, hc⟩ := h'.get1 hs
          have hbk := World.block_lt_of_cell? w _ hc
          simp only at hbk
          have hsz := hz s (List.mem_of_getElem? hs)
          have HS := Lib.hid hs
          clear h' hs hz
          by_cases h4 : s.size = 4
          · have H4 := Lib.hid h4
            have hb4 : ((s.size : Int) == 4) = true := by simp [h4]
            clear h4
            go_wp2
            go_roundw
            case rel => exact ⟨k + 1, by omega, by go_num, all4_snoc HS.out H4.out HA.out, by first | trivial | rfl⟩
            case measure => simp [intOf]; omega
          · have H4 := Lib.hid (all4_no HS.out h4)
            have hb4 : ((s.size : Int) == 4) = false := by simp; omega
            clear h4
            go_wp2
            go_ret
            exact ⟨ret_bool (by rw [HR.out, H4.out]), Fr.al (Below.refl _ _) _⟩
        · obtain rfl : k = 24 := by omega
          go_wp2
          go_ret
          exact ⟨ret_bool (by rw [HR.out, all4_yes HM.out HA.out]), Fr.al (Below.refl _ _) _⟩
    · have hr : stOk l ss = false := by simp [stOk, HM.out, hm24]
      have HR := Lib.hid hr
      have hq : ((m : Int) == 24) = false := by simp; omega
      clear hr hm24 hn
      go_enter Try.func82, Try.ntmps82
      go_wp2_with fail
      refine (specBitsOk_any _ _ _ _).mono ?_
      rintro e w' ⟨rfl, rfl⟩
      rw [hd]
      go_wp2
      go_ret
      exact ⟨ret_bool HR.out.symm, Fr.al (Below.refl _ _) _⟩
  · have hr : stOk l ss = false := by simp [stOk, HL.out, hn]
    have HR := Lib.hid hr
    have hd : decide (n = 24) = false := by simp [hn]
    clear hr hn
    go_enter Try.func82, Try.ntmps82
    go_wp2_with fail
    refine (specBitsOk_any _ _ _ _).mono ?_
    rintro e w' ⟨rfl, rfl⟩
    rw [hd]
    go_wp2
    go_ret
    exact ⟨ret_bool HR.out.symm, Fr.al (Below.refl _ _) _⟩

set_option maxRecDepth 100000 in
set_option maxHeartbeats 1000000 in
theorem implStoreOk_any (A : Option Addr) (n c : Nat) (l : List Bool) (B : Option Addr) (m d : Nat) (ss : List ByteArray) (w : World) (h : Rd w A n 1 (l.map Value.bool)) (h' : Rd w B m 1 (ss.map Value.string)) (hm : m ≤ 1048576) (hz : ∀ s ∈ ss, s.size ≤ 1048576) :
    Calls Try.prog 90 #[.agg #[.slice A n c, .slice B m d]] w fun e w' => e = .returned (.bool (stOk l ss)) ∧ Fr w w' := by
  have HL := Lib.hid h.len1
  have HM := Lib.hid h'.len1
  clear h
  go_enter Try.func90, Try.ntmps90
  go_wp2_with fail
  go_loopw [8] (fun i wr => ∃ k : Nat, k ≤ m ∧ i = .int .i64 k ∧ (∀ x ∈ ss.take k, x.size = 4) ∧ wr = w.alloc (.cells #[.slice A n c, .slice B m d] 31)) (fun i _ => m - (intOf i).toNat)
  case atStart => exact ⟨0, Nat.zero_le _, rfl, by simp, rfl⟩
  case round =>
    obtain ⟨k, hk, rfl, hall, rfl⟩ := hrel
    have HA := Lib.hid hall
    clear hall
    by_cases hlt : k < m
    · obtain ⟨s, hs⟩ := some_at HM.out hlt
      obtain ⟨bk, of, rfl, hc⟩ := h'.get1 hs
      have hbk := World.block_lt_of_cell? w _ hc
      simp only at hbk
      have hsz := hz s (List.mem_of_getElem? hs)
      have HS := Lib.hid hs
      clear h' hs hz
      by_cases h4 : s.size = 4
      · have H4 := Lib.hid h4
        have hb4 : ((s.size : Int) == 4) = true := by simp [h4]
        clear h4
        go_wp2
        go_roundw
        case rel => exact ⟨k + 1, by omega, by go_num, all4_snoc HS.out H4.out HA.out, by first | trivial | rfl⟩
        case measure => simp [intOf]; omega
      · have H4 := Lib.hid (all4_no HS.out h4)
        have hb4 : ((s.size : Int) == 4) = false := by simp; omega
        clear h4
        go_wp2
        go_ret
        exact ⟨ret_bool (by rw [stOk, H4.out, Bool.and_false]), Fr.al (Below.refl _ _) _⟩
    · obtain rfl : k = m := by omega
      have hr : stOk l ss = (decide (n = 24) && decide (k = 24)) := by rw [stOk, all4_yes HM.out HA.out, HL.out, HM.out, Bool.and_true]
      have HR := Lib.hid hr
      clear hr
      obtain ⟨b1, hb1⟩ : ∃ b, decide (n = 24) = b := ⟨_, rfl⟩
      have HB1 := Lib.hid hb1
      cases b1
      · go_wp2_with fail
        refine (implBitsOk_any _ _ _ _).mono ?_
        rintro e w' ⟨rfl, rfl⟩
        rw [hb1]
        clear hb1
        go_wp2
        go_ret
        exact ⟨ret_bool (by rw [HR.out, HB1.out]; rfl), Fr.al (Below.refl _ _) _⟩
      · go_wp2_with fail
        refine (implBitsOk_any _ _ _ _).mono ?_
        rintro e w' ⟨rfl, rfl⟩
        rw [hb1]
        clear hb1
        go_wp2
        go_ret
        exact ⟨ret_bool (by rw [HR.out, HB1.out, Bool.true_and, Bool.beq_eq_decide_eq, decide_eq_decide]; omega), Fr.al (Below.refl _ _) _⟩
end Go.Proofs.Ytbmoolmgfpcnkaa
