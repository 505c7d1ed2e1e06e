/-
  Flags: what 'toBoolS' and 'eqBoolS' of the laws do.
-/
import Derived.Test.YtbncjalihkpabaaKit
namespace Go.Proofs.Ytbncjalihkpabaa
open Go.RowKit

theorem infoBool : (Try.prog.info? 4).map (fun i => (i.zero, i.size, i.bytes)) = some (some (.bool false), 1, 1) := by kernel_rfl

set_option maxHeartbeats 400000 in
theorem toBoolS_any (A : Option Addr) (n c : Nat) (l : List Bool) (w : World) (h : Rd w A n 1 (l.map .bool)) (hn : n ≤ 1048576) :
    Calls Try.prog 14 #[.slice A n c] w fun e w' => ∃ g, e = .returned (.slice (some ⟨g, 0, none⟩) n n) ∧ w'.ownsRow w.heap.size 4 1 (.slice (some ⟨g, 0, none⟩) n n) n (l.map .bool) ∧ Fr w w' := by
  obtain ⟨i0, hi, hz0, hz1, hz2⟩ := info_parts infoBool
  go_enter Try.func14, Try.ntmps14
  go_wp2_with (at_make; refine wpList_make_full _ rfl _ _ 22 rfl w.heap.size 4 i0 _ 1 Try.underlying22 hi hz0 hz1 _ _ _ _ n rfl rfl rfl rfl ?c1 ?c2 ?c3 ?_)
  case c1 => rw [hz2]; omega
  case c2 => simp only [maxLen]; omega
  case c3 => omega
  intro w1 hown hg
  have hw1 : Fr w w1 := Fr.of_grown hg
  clear hg
  rw [toList_madeCells_one] at hown
  go_wp2_with fail
  go_loopw [4] (fun i wr => ∃ k : Nat, k ≤ n ∧ i = .int .i64 k ∧ wr.ownsRow w.heap.size 4 1 (.slice (some ⟨w.heap.size, 0, none⟩) n n) n ((l.map .bool).take k ++ List.replicate (n - k) (.bool false)) ∧ Fr w wr)
    (fun i _ => n - (intOf i).toNat)
  case atStart => exact ⟨0, Nat.zero_le _, rfl, by simpa using hown, hw1⟩
  case round =>
    clear hown hw1
    obtain ⟨k, hk, rfl, hown, hfr⟩ := hrel
    by_cases hlt : k < n
    · obtain ⟨b, hb⟩ := some_at h.len1 hlt
      obtain ⟨ad, rfl, hc⟩ := (h.fr hfr).get1 hb
      have hst := hown.stored k (.bool b)
      rw [fill_step (l.map .bool) (.bool false) (.bool b) k n (by simpa using h.1) (by simp [hb])] at hst
      have HST := Lib.hid hst
      have hf := hown.frozenAt k
      have ⟨d, hd⟩ : ∃ d, wr.cell? ⟨w.heap.size, k, none⟩ = some d := by rw [hown.cellAt k (by omega)]; exact ⟨_, List.getElem?_eq_getElem (by have := h.len1; simp; omega)⟩
      have HF := Lib.hid hfr
      clear hst hown hfr hb h
      go_wp2
      go_roundw
      case rel => exact ⟨k + 1, by omega, by go_num, HST.out.1, Below.setCell HF.out (Nat.le_refl _) _⟩
      case measure => simp [intOf]; omega
    · obtain rfl : k = n := by omega
      have hx : (l.map Value.bool).take k = l.map .bool := List.take_of_length_le (by have := h.1; omega)
      rw [hx, Nat.sub_self, List.replicate_zero, List.append_nil] at hown
      go_wp2
      go_ret
      exact ⟨w.heap.size, rfl, hown, hfr⟩

set_option maxHeartbeats 400000 in
theorem eqBoolS_any (A B : Option Addr) (n m c d : Nat) (bs cs : List Bool) (w : World) (h : Rd w A n 1 (bs.map .bool)) (h' : Rd w B m 1 (cs.map .bool)) (hn : n ≤ 1048576) (hm : m ≤ 1048576) :
    Calls Try.prog 16 #[.slice A n c, .slice B m d] w fun e w' => e = .returned (.bool (decide (bs = cs))) ∧ ∃ j, w' = w.drewN j := by
  have hl := h.len1
  have hl' := h'.len1
  have HL := Lib.hid hl
  have HL' := Lib.hid hl'
  clear hl hl'
  by_cases hnm : n = m
  · subst hnm
    go_enter Try.func16, Try.ntmps16
    go_wp2_with fail
    go_loopw [5] (fun i wr => ∃ k : Nat, k ≤ n ∧ i = .int .i64 k ∧ bs.take k = cs.take k ∧ ∃ j, wr = w.drewN j) (fun i _ => n - (intOf i).toNat)
    case atStart => exact ⟨0, Nat.zero_le _, rfl, by simp, 0, rfl⟩
    case round =>
      obtain ⟨k, hk, rfl, htake, j, rfl⟩ := hrel
      have HT := Lib.hid htake
      clear htake
      by_cases hlt : k < n
      · obtain ⟨x, hx⟩ := some_at HL.out hlt
        obtain ⟨y, hy⟩ := some_at HL'.out hlt
        obtain ⟨ad, rfl, hc⟩ := h.get1 hx
        obtain ⟨ad', rfl, hc'⟩ := h'.get1 hy
        have HX := Lib.hid hx
        have HY := Lib.hid hy
        clear h h' hx hy
        go_wp2_with fail
        go_quiet (fail)
        go_wp2
        · have hne : x ≠ y := by have hh : (!x == y) = true := by assumption
                                 simpa using hh
          go_ret
          have e : bs ≠ cs := ne_of_at HX.out HY.out hne
          exact ⟨by simp [e], j + nq, by simp [World.drewN_drewN]⟩
        · have he : x = y := by have hh : (!x == y) = false := by assumption
                                simpa using hh
          go_roundw
          case rel => exact ⟨k + 1, by omega, by go_num, take_eq_step HT.out HX.out (he ▸ HY.out), j + nq, rfl⟩
          case measure => simp [intOf]; omega
      · go_wp2
        go_ret
        have e : bs = cs := take_eq_all (n := n) (by rw [show n = k from by omega]; exact HT.out) HL.out HL'.out
        exact ⟨by simp [e], j, rfl⟩
  · go_enter Try.func16, Try.ntmps16
    go_wp2
    go_ret
    have e : bs ≠ cs := by rintro rfl; exact hnm (HL.out.symm.trans HL'.out)
    exact ⟨by simp [e], 0, rfl⟩
end Go.Proofs.Ytbncjalihkpabaa
