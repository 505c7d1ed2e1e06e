/-
  Slices of string in the laws: made anew, compared, marked.
-/
import Derived.Test.YtfmifaneggenoaaDoorInfo
namespace Go.Proofs.YtfmifaneggenoaaDoor
open Go.RowKit


set_option maxHeartbeats 400000 in
theorem toStringS_any (A : Option Addr) (n c : Nat) (l : List ByteArray) (w : World) (h : Rd w A n 1 (l.map Value.string)) (hn : n ≤ 1048576) :
    Calls Tryd.prog 36 #[.slice A n c] w fun e w' => ∃ g, e = .returned (.slice (some ⟨g, 0, none⟩) n n) ∧ w'.ownsRow w.heap.size 9 1 (.slice (some ⟨g, 0, none⟩) n n) n (l.map Value.string) ∧ Fr w w' := by
  obtain ⟨i0, hi, hz0, hz1, hz2⟩ := info_parts infoString
  go_enter Tryd.func36, Tryd.ntmps36
  go_wp2_with (at_make; refine wpList_make_full _ rfl _ _ 38 rfl w.heap.size 9 i0 _ 1 Tryd.underlying38 hi hz0 hz1 _ _ _ _ n rfl rfl rfl rfl ?c1 ?c2 ?c3 ?_)
  case c1 => rw [hz2]; omega
  case c2 => simp only [maxLen]; omega
  case c3 => omega
  intro w1 hown hg
  have hw1 : Fr w w1 := Fr.of_grown hg
  clear hg
  rw [toList_madeCells_one] at hown
  go_wp2_with fail
  go_loopw [4] (fun i wr => ∃ k : Nat, k ≤ n ∧ i = .int .i64 k ∧ wr.ownsRow w.heap.size 9 1 (.slice (some ⟨w.heap.size, 0, none⟩) n n) n ((l.map Value.string).take k ++ List.replicate (n - k) (.string ⟨#[]⟩)) ∧ Fr w wr)
    (fun i _ => n - (intOf i).toNat)
  case atStart => exact ⟨0, Nat.zero_le _, rfl, by simpa using hown, hw1⟩
  case round =>
    clear hown hw1
    obtain ⟨k, hk, rfl, hown, hfr⟩ := hrel
    by_cases hlt : k < n
    · obtain ⟨b, hb⟩ := some_at h.len1 hlt
      obtain ⟨bk, of, rfl, hc⟩ := (h.fr hfr).get1 hb
      have hst := hown.stored k (Value.string b)
      rw [fill_step (l.map Value.string) (.string ⟨#[]⟩) (Value.string b) k n (by simpa using h.1) (by simp [hb])] at hst
      have HST := Lib.hid hst
      have hf := hown.frozenAt k
      have ⟨d, hd⟩ : ∃ d, wr.cell? ⟨w.heap.size, k, none⟩ = some d := by rw [hown.cellAt k (by omega)]; exact ⟨_, List.getElem?_eq_getElem (by have := h.len1; simp; omega)⟩
      have HF := Lib.hid hfr
      clear hst hown hfr hb h
      go_wp2
      go_roundw
      case rel => exact ⟨k + 1, by omega, by go_num, HST.out.1, Below.setCell HF.out (Nat.le_refl _) _⟩
      case measure => simp [intOf]; omega
    · obtain rfl : k = n := by omega
      have hx : (l.map Value.string).take k = l.map Value.string := List.take_of_length_le (by have := h.1; omega)
      rw [hx, Nat.sub_self, List.replicate_zero, List.append_nil] at hown
      go_wp2
      go_ret
      exact ⟨w.heap.size, rfl, hown, hfr⟩

set_option maxHeartbeats 400000 in
theorem eqStringS_any (A B : Option Addr) (n m c d : Nat) (bs cs : List ByteArray) (w : World) (h : Rd w A n 1 (bs.map Value.string)) (h' : Rd w B m 1 (cs.map Value.string)) (hn : n ≤ 1048576) (hm : m ≤ 1048576) :
    Calls Tryd.prog 38 #[.slice A n c, .slice B m d] w fun e w' => e = .returned (.bool (decide (bs = cs))) ∧ Dr w w' := by
  have hl := h.len1
  have hl' := h'.len1
  have HL := Lib.hid hl
  have HL' := Lib.hid hl'
  clear hl hl'
  by_cases hnm : n = m
  · subst hnm
    go_enter Tryd.func38, Tryd.ntmps38
    go_wp2_with fail
    go_loopw [5] (fun i wr => ∃ k : Nat, k ≤ n ∧ i = .int .i64 k ∧ bs.take k = cs.take k ∧ Dr w wr) (fun i _ => n - (intOf i).toNat)
    case atStart => exact ⟨0, Nat.zero_le _, rfl, by simp, Dr.refl _⟩
    case round =>
      obtain ⟨k, hk, rfl, htake, hfr⟩ := hrel
      have HT := Lib.hid htake
      clear htake
      by_cases hlt : k < n
      · obtain ⟨x, hx⟩ := some_at HL.out hlt
        obtain ⟨y, hy⟩ := some_at HL'.out hlt
        obtain ⟨bk, of, rfl, hc⟩ := (h.fr hfr.fr).get1 hx
        obtain ⟨bk', of', rfl, hc'⟩ := (h'.fr hfr.fr).get1 hy
        have HX := Lib.hid hx
        have HY := Lib.hid hy
        have HF := Lib.hid hfr
        clear h h' hx hy hfr
        by_cases hxy : x = y
        · subst hxy
          go_wp2_with fail
          go_quiet (fail)
          go_wp2
          go_roundw
          case rel => exact ⟨k + 1, by omega, by go_num, take_eq_step HT.out HX.out HY.out, Dr.on HF.out _⟩
          case measure => simp [intOf]; omega
        · have hne : (x.toList == y.toList) = false := str_ne hxy
          have e : bs ≠ cs := ne_of_at HX.out HY.out hxy
          have HE := Lib.hid e
          clear hxy e
          go_wp2_with fail
          go_quiet (fail)
          go_wp2
          go_ret
          exact ⟨by simp [HE.out], Dr.on HF.out _⟩
      · go_wp2
        go_ret
        have e : bs = cs := take_eq_all (n := n) (by rw [show n = k from by omega]; exact HT.out) HL.out HL'.out
        exact ⟨by simp [e], hfr⟩
  · go_enter Tryd.func38, Tryd.ntmps38
    go_wp2
    go_ret
    have e : bs ≠ cs := by rintro rfl; exact hnm (HL.out.symm.trans HL'.out)
    exact ⟨by simp [e], Dr.refl _⟩

set_option maxHeartbeats 1000000 in
theorem szStringS_fr (A : Option Addr) (n c : Nat) (l : List ByteArray) (left : Int) (w : World) (h : Rd w A n 1 (l.map Value.string)) (ok : ∀ s ∈ l, s.size ≤ 9223372036854775807) (hn : n ≤ 9223372036854775807) (h0 : 0 ≤ left) (h1 : left ≤ 1048576) :
    Calls Tryd.prog 34 #[.slice A n c, .int .i64 left] w fun e w' => e = .returned (.int .i64 (szOf left (strTot l))) ∧ Fr w w' := by
  have hl := h.len1
  have HL := Lib.hid hl
  by_cases hlt : left < n
  · have hr : szOf left (strTot l) = -1 := szOf_no (by have := strTot_len l; omega)
    have HR := Lib.hid hr
    clear hr hl
    go_enter Tryd.func34, Tryd.ntmps34
    go_wp2
    go_ret
    exact ⟨ret_int HR.out.symm, Below.refl _ _⟩
  · clear hl
    go_enter Tryd.func34, Tryd.ntmps34
    go_wp2_with fail
    go_loopw [1, 5] (fun v i wr => ∃ k : Nat, k ≤ n ∧ i = .int .i64 k ∧ v = .int .i64 (left - n - (sizes (l.take k) : Nat)) ∧ 0 ≤ left - n - (sizes (l.take k) : Nat) ∧ wr = w) (fun _ i _ => n - (intOf i).toNat)
    case atStart => exact ⟨0, Nat.zero_le _, rfl, by simp [sizes], by simp [sizes]; omega, rfl⟩
    case round =>
      obtain ⟨k, hk, rfl, rfl, hb, rfl⟩ := hrel
      by_cases hlt2 : k < n
      · obtain ⟨s, hs⟩ := some_at HL.out hlt2
        obtain ⟨bk, of, rfl, hc⟩ := h.get1 hs
        have hsz := ok s (List.mem_of_getElem? hs)
        have hst := sizes_step hs
        have hle := sizes_le l (k + 1)
        have HST := Lib.hid hst
        have HLE := Lib.hid hle
        clear hs h hst hle
        generalize sizes (l.take k) = q at hb HST
        by_cases hover : left - n - (q : Nat) < s.size
        · go_wp2
          go_ret
          exact ⟨ret_int (szOf_no (by have q1 := HST.out; have q2 := HLE.out; have q3 := HL.out; unfold strTot; omega)).symm, Below.refl _ _⟩
        · go_wp2
          go_roundw
          case rel => exact ⟨k + 1, by omega, by go_num, by rw [HST.out]; go_num, by rw [HST.out]; omega, by first | trivial | rfl⟩
          case measure => simp [intOf]; omega
      · have e : sizes (l.take k) = sizes l := by rw [List.take_of_length_le (by have := HL.out; omega)]
        go_wp2
        go_ret
        exact ⟨ret_int (by have q3 := HL.out; rw [szOf_yes (by unfold strTot; omega)]; unfold strTot; omega), Below.refl _ _⟩

end Go.Proofs.YtfmifaneggenoaaDoor

