/-
  Slices of bool in the laws: made anew, compared, marked.
-/
import Derived.Test.YtbmoolmgfpcnkaaInfo
namespace Go.Proofs.Ytbmoolmgfpcnkaa
open Go.RowKit


set_option maxHeartbeats 400000 in
theorem toBoolS_any (A : Option Addr) (n c : Nat) (l : List Bool) (w : World) (h : Rd w A n 1 (l.map Value.bool)) (hn : n ≤ 1048576) :
    Calls Try.prog 50 #[.slice A n c] w fun e w' => ∃ g, e = .returned (.slice (some ⟨g, 0, none⟩) n n) ∧ w'.ownsRow w.heap.size 4 1 (.slice (some ⟨g, 0, none⟩) n n) n (l.map Value.bool) ∧ Fr w w' := by
  obtain ⟨i0, hi, hz0, hz1, hz2⟩ := info_parts infoBool
  go_enter Try.func50, Try.ntmps50
  go_wp2_with (at_make; refine wpList_make_full _ rfl _ _ 22 rfl w.heap.size 4 i0 _ 1 Try.underlying22 hi hz0 hz1 _ _ _ _ n rfl rfl rfl rfl ?c1 ?c2 ?c3 ?_)
  case c1 => rw [hz2]; omega
  case c2 => simp only [maxLen]; omega
  case c3 => omega
  intro w1 hown hg
  have hw1 : Fr w w1 := Fr.of_grown hg
  clear hg
  rw [toList_madeCells_one] at hown
  go_wp2_with fail
  go_loopw [4] (fun i wr => ∃ k : Nat, k ≤ n ∧ i = .int .i64 k ∧ wr.ownsRow w.heap.size 4 1 (.slice (some ⟨w.heap.size, 0, none⟩) n n) n ((l.map Value.bool).take k ++ List.replicate (n - k) (.bool false)) ∧ Fr w wr)
    (fun i _ => n - (intOf i).toNat)
  case atStart => exact ⟨0, Nat.zero_le _, rfl, by simpa using hown, hw1⟩
  case round =>
    clear hown hw1
    obtain ⟨k, hk, rfl, hown, hfr⟩ := hrel
    by_cases hlt : k < n
    · obtain ⟨b, hb⟩ := some_at h.len1 hlt
      obtain ⟨bk, of, rfl, hc⟩ := (h.fr hfr).get1 hb
      have hst := hown.stored k (Value.bool b)
      rw [fill_step (l.map Value.bool) (.bool false) (Value.bool b) k n (by simpa using h.1) (by simp [hb])] at hst
      have HST := Lib.hid hst
      have hf := hown.frozenAt k
      have ⟨d, hd⟩ : ∃ d, wr.cell? ⟨w.heap.size, k, none⟩ = some d := by rw [hown.cellAt k (by omega)]; exact ⟨_, List.getElem?_eq_getElem (by have := h.len1; simp; omega)⟩
      have HF := Lib.hid hfr
      clear hst hown hfr hb h
      go_wp2
      go_roundw
      case rel => exact ⟨k + 1, by omega, by go_num, HST.out.1, Below.setCell HF.out (Nat.le_refl _) _⟩
      case measure => simp [intOf]; omega
    · obtain rfl : k = n := by omega
      have hx : (l.map Value.bool).take k = l.map Value.bool := List.take_of_length_le (by have := h.1; omega)
      rw [hx, Nat.sub_self, List.replicate_zero, List.append_nil] at hown
      go_wp2
      go_ret
      exact ⟨w.heap.size, rfl, hown, hfr⟩

set_option maxHeartbeats 400000 in
theorem eqBoolS_any (A B : Option Addr) (n m c d : Nat) (bs cs : List Bool) (w : World) (h : Rd w A n 1 (bs.map Value.bool)) (h' : Rd w B m 1 (cs.map Value.bool)) (hn : n ≤ 1048576) (hm : m ≤ 1048576) :
    Calls Try.prog 60 #[.slice A n c, .slice B m d] w fun e w' => e = .returned (.bool (decide (bs = cs))) ∧ Dr w w' := by
  have hl := h.len1
  have hl' := h'.len1
  have HL := Lib.hid hl
  have HL' := Lib.hid hl'
  clear hl hl'
  by_cases hnm : n = m
  · subst hnm
    go_enter Try.func60, Try.ntmps60
    go_wp2_with fail
    go_loopw [5] (fun i wr => ∃ k : Nat, k ≤ n ∧ i = .int .i64 k ∧ bs.take k = cs.take k ∧ Dr w wr) (fun i _ => n - (intOf i).toNat)
    case atStart => exact ⟨0, Nat.zero_le _, rfl, by simp, Dr.refl _⟩
    case round =>
      obtain ⟨k, hk, rfl, htake, hfr⟩ := hrel
      have HT := Lib.hid htake
      clear htake
      by_cases hlt : k < n
      · obtain ⟨x, hx⟩ := some_at HL.out hlt
        obtain ⟨y, hy⟩ := some_at HL'.out hlt
        obtain ⟨bk, of, rfl, hc⟩ := (h.fr hfr.fr).get1 hx
        obtain ⟨bk', of', rfl, hc'⟩ := (h'.fr hfr.fr).get1 hy
        have HX := Lib.hid hx
        have HY := Lib.hid hy
        have HF := Lib.hid hfr
        clear h h' hx hy hfr
        by_cases hxy : x = y
        · subst hxy
          go_wp2_with fail
          go_quiet (fail)
          go_wp2
          go_roundw
          case rel => exact ⟨k + 1, by omega, by go_num, take_eq_step HT.out HX.out HY.out, Dr.on HF.out _⟩
          case measure => simp [intOf]; omega
        · have hne : (x == y) = false := by simpa using hxy
          have e : bs ≠ cs := ne_of_at HX.out HY.out hxy
          have HE := Lib.hid e
          clear hxy e
          go_wp2_with fail
          go_quiet (fail)
          go_wp2
          go_ret
          exact ⟨by simp [HE.out], Dr.on HF.out _⟩
      · go_wp2
        go_ret
        have e : bs = cs := take_eq_all (n := n) (by rw [show n = k from by omega]; exact HT.out) HL.out HL'.out
        exact ⟨by simp [e], hfr⟩
  · go_enter Try.func60, Try.ntmps60
    go_wp2
    go_ret
    have e : bs ≠ cs := by rintro rfl; exact hnm (HL.out.symm.trans HL'.out)
    exact ⟨by simp [e], Dr.refl _⟩

/-- The marks of n elements, from the number k on. -/
def marksBool (n k : Nat) : List Bool := (List.range n).map fun (i : Nat) => (((k : Int) + (i : Int)) % 3 == 0)
theorem marksBool_at {n k i : Nat} (h : i < n) : (marksBool n k)[i]? = some ((((k : Int) + (i : Int)) % 3 == 0)) := by simp [marksBool, h]
theorem marksBool_take (n k i : Nat) (h : i ≤ n) : (marksBool n k).take i = marksBool i k := by
  rw [marksBool, marksBool, ← List.map_take, List.take_range, Nat.min_eq_left h]

set_option maxHeartbeats 1000000 in
theorem markBoolS_any (A : Option Addr) (n c k base : Nat) (xs : List Value) (w : World) (h : w.ownsRow base 4 1 (.slice A n c) n xs) (hn : n ≤ 16777216) (hk : k ≤ 1099511627776) :
    Calls Try.prog 63 #[.slice A n c, .int .i64 k] w fun e w' => e = .returned (.int .i64 ((k + n : Nat) : Int)) ∧ w'.ownsRow base 4 1 (.slice A n c) n ((marksBool n k).map Value.bool) ∧ w.grownBy w' (Value.slice A n c).ownBlock := by
  have hxl := h.1
  have HX := Lib.hid hxl
  have H := Lib.hid h
  clear hxl h
  go_enter Try.func63, Try.ntmps63
  go_wp2_with fail
  go_loopw [1, 5] (fun v i wr => ∃ j : Nat, j ≤ n ∧ i = .int .i64 j ∧ v = .int .i64 ((k + j : Nat) : Int) ∧ wr.ownsRow base 4 1 (.slice A n c) n ((marksBool j k).map Value.bool ++ xs.drop j) ∧ w.grownBy wr (Value.slice A n c).ownBlock)
    (fun _ i _ => n - (intOf i).toNat)
  case atStart => exact ⟨0, Nat.zero_le _, rfl, by simp, by simpa [marksBool] using H.out, World.grownBy.refl _ _⟩
  case round =>
    obtain ⟨i, hi, rfl, rfl, hown, hgr⟩ := hrel
    by_cases hlt : i < n
    · obtain ⟨g, rfl, _, _⟩ := own_form hown (by omega)
      have hst := (hown.stored i (Value.bool ((((k : Int) + (i : Int)) % 3 == 0)))).1
      have hse := sets_elem (f := fun x => [Value.bool x]) (K := 1) (l := marksBool n k) (x := (((k : Int) + (i : Int)) % 3 == 0)) (fun _ => rfl) (marksBool_at hlt) HX.out hlt
      rw [marksBool_take _ _ _ (by omega), marksBool_take _ _ _ (by omega), ← List.map_eq_flatMap, ← List.map_eq_flatMap, Nat.mul_one, Nat.mul_one] at hse
      have HST := Lib.hid hst
      have HSE := Lib.hid hse
      have HG := Lib.hid hgr
      have hf0 := hown.frozenAt i
      have ⟨d0, hd0⟩ : ∃ d, wr.cell? ⟨g, i, none⟩ = some d := by rw [hown.cellAt _ (by omega)]; exact ⟨_, List.getElem?_eq_getElem (by have := hown.1; omega)⟩
      clear hst hse hown hgr
      go_wp2
      go_roundw
      case rel => exact ⟨i + 1, by omega, by go_num, by rw [← Nat.add_assoc]; go_num, by rw [← HSE.out]; simpa [sets] using HST.out, grown_set HG.out⟩
      case measure => simp [intOf]; omega
    · obtain rfl : i = n := by omega
      rw [List.drop_of_length_le (by have := HX.out; omega), List.append_nil] at hown
      go_wp2
      go_ret
      exact ⟨rfl, hown, hgr⟩

set_option maxHeartbeats 1000000 in
theorem heldBoolS_any (A : Option Addr) (n c k : Nat) (w : World) (h : Rd w A n 1 ((marksBool n k).map Value.bool)) (hn : n ≤ 16777216) (hk : k ≤ 1099511627776) :
    Calls Try.prog 66 #[.slice A n c, .int .i64 k] w fun e w' => e = .returned (.int .i64 ((k + n : Nat) : Int)) ∧ Fr w w' := by
  go_enter Try.func66, Try.ntmps66
  go_wp2_with fail
  go_loopw [1, 5] (fun v i wr => ∃ j : Nat, j ≤ n ∧ i = .int .i64 j ∧ v = .int .i64 ((k + j : Nat) : Int) ∧ Fr w wr) (fun _ i _ => n - (intOf i).toNat)
  case atStart => exact ⟨0, Nat.zero_le _, rfl, by simp, Below.refl _ _⟩
  case round =>
    obtain ⟨i, hi, rfl, rfl, hfr⟩ := hrel
    by_cases hlt : i < n
    · obtain ⟨bk, of, rfl, hc⟩ := (h.fr hfr).get1 (marksBool_at hlt)
      have ca : wr.cell? ⟨bk, of + i, none⟩ = some (.bool (((k : Int) + (i : Int)) % 3 == 0)) := by simpa using hc
      have HF := Lib.hid hfr
      clear h hc hfr
      go_wp2
      go_roundw
      case rel => exact ⟨i + 1, by omega, by go_num, by rw [← Nat.add_assoc]; go_num, HF.out⟩
      case measure => simp [intOf]; omega
    · obtain rfl : i = n := by omega
      go_wp2
      go_ret
      exact ⟨rfl, hfr⟩

theorem szBoolS_fr (A : Option Addr) (n c : Nat) (left : Int) (w : World) (hn : n ≤ 9223372036854775807) (h0 : 0 ≤ left) (h1 : left ≤ 1048576) :
    Calls Try.prog 40 #[.slice A n c, .int .i64 left] w fun e w' => e = .returned (.int .i64 (szOf left n)) ∧ Fr w w' := by
  by_cases hlt : left < n
  all_goals
    go_enter Try.func40, Try.ntmps40
    go_wp2
    go_ret
    exact ⟨ret_int (by unfold szOf; split <;> omega), Below.refl _ _⟩

end Go.Proofs.Ytbmoolmgfpcnkaa

