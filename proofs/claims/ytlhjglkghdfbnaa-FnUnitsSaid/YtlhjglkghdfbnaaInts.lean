/-
  Slices of int in the laws: made anew, compared, marked.
-/
import Derived.Test.YtlhjglkghdfbnaaInfo
namespace Go.Proofs.Ytlhjglkghdfbnaa
open Go.RowKit


set_option maxHeartbeats 400000 in
theorem toIntS_any (A : Option Addr) (n c : Nat) (l : List Int) (w : World) (h : Rd w A n 1 (l.map (Value.int .i64))) (hn : n ≤ 1048576) :
    Calls Try.prog 6 #[.slice A n c] w fun e w' => ∃ g, e = .returned (.slice (some ⟨g, 0, none⟩) n n) ∧ w'.ownsRow w.heap.size 3 1 (.slice (some ⟨g, 0, none⟩) n n) n (l.map (Value.int .i64)) ∧ Fr w w' := by
  obtain ⟨i0, hi, hz0, hz1, hz2⟩ := info_parts infoInt
  go_enter Try.func6, Try.ntmps6
  go_wp2_with (at_make; refine wpList_make_full _ rfl _ _ 22 rfl w.heap.size 3 i0 _ 1 Try.underlying22 hi hz0 hz1 _ _ _ _ n rfl rfl rfl rfl ?c1 ?c2 ?c3 ?_)
  case c1 => rw [hz2]; omega
  case c2 => simp only [maxLen]; omega
  case c3 => omega
  intro w1 hown hg
  have hw1 : Fr w w1 := Fr.of_grown hg
  clear hg
  rw [toList_madeCells_one] at hown
  go_wp2_with fail
  go_loopw [4] (fun i wr => ∃ k : Nat, k ≤ n ∧ i = .int .i64 k ∧ wr.ownsRow w.heap.size 3 1 (.slice (some ⟨w.heap.size, 0, none⟩) n n) n ((l.map (Value.int .i64)).take k ++ List.replicate (n - k) (.int .i64 0)) ∧ Fr w wr)
    (fun i _ => n - (intOf i).toNat)
  case atStart => exact ⟨0, Nat.zero_le _, rfl, by simpa using hown, hw1⟩
  case round =>
    clear hown hw1
    obtain ⟨k, hk, rfl, hown, hfr⟩ := hrel
    by_cases hlt : k < n
    · obtain ⟨b, hb⟩ := some_at h.len1 hlt
      obtain ⟨bk, of, rfl, hc⟩ := (h.fr hfr).get1 hb
      have hst := hown.stored k ((Value.int .i64) b)
      rw [fill_step (l.map (Value.int .i64)) (.int .i64 0) ((Value.int .i64) b) k n (by simpa using h.1) (by simp [hb])] at hst
      have HST := Lib.hid hst
      have hf := hown.frozenAt k
      have ⟨d, hd⟩ : ∃ d, wr.cell? ⟨w.heap.size, k, none⟩ = some d := by rw [hown.cellAt k (by omega)]; exact ⟨_, List.getElem?_eq_getElem (by have := h.len1; simp; omega)⟩
      have HF := Lib.hid hfr
      clear hst hown hfr hb h
      go_wp2
      go_roundw
      case rel => exact ⟨k + 1, by omega, by go_num, HST.out.1, Below.setCell HF.out (Nat.le_refl _) _⟩
      case measure => simp [intOf]; omega
    · obtain rfl : k = n := by omega
      have hx : (l.map (Value.int .i64)).take k = l.map (Value.int .i64) := List.take_of_length_le (by have := h.1; omega)
      rw [hx, Nat.sub_self, List.replicate_zero, List.append_nil] at hown
      go_wp2
      go_ret
      exact ⟨w.heap.size, rfl, hown, hfr⟩

set_option maxHeartbeats 400000 in
theorem eqIntS_any (A B : Option Addr) (n m c d : Nat) (bs cs : List Int) (w : World) (h : Rd w A n 1 (bs.map (Value.int .i64))) (h' : Rd w B m 1 (cs.map (Value.int .i64))) (hn : n ≤ 100000000) (hm : m ≤ 100000000) :
    Calls Try.prog 9 #[.slice A n c, .slice B m d] w fun e w' => e = .returned (.bool (decide (bs = cs))) ∧ Dr w w' := by
  have hl := h.len1
  have hl' := h'.len1
  have HL := Lib.hid hl
  have HL' := Lib.hid hl'
  clear hl hl'
  by_cases hnm : n = m
  · subst hnm
    go_enter Try.func9, Try.ntmps9
    go_wp2_with fail
    go_loopw [5] (fun i wr => ∃ k : Nat, k ≤ n ∧ i = .int .i64 k ∧ bs.take k = cs.take k ∧ Dr w wr) (fun i _ => n - (intOf i).toNat)
    case atStart => exact ⟨0, Nat.zero_le _, rfl, by simp, Dr.refl _⟩
    case round =>
      obtain ⟨k, hk, rfl, htake, hfr⟩ := hrel
      have HT := Lib.hid htake
      clear htake
      by_cases hlt : k < n
      · obtain ⟨x, hx⟩ := some_at HL.out hlt
        obtain ⟨y, hy⟩ := some_at HL'.out hlt
        obtain ⟨bk, of, rfl, hc⟩ := (h.fr hfr.fr).get1 hx
        obtain ⟨bk', of', rfl, hc'⟩ := (h'.fr hfr.fr).get1 hy
        have HX := Lib.hid hx
        have HY := Lib.hid hy
        have HF := Lib.hid hfr
        clear h h' hx hy hfr
        by_cases hxy : x = y
        · subst hxy
          go_wp2_with fail
          go_quiet (fail)
          go_wp2
          go_roundw
          case rel => exact ⟨k + 1, by omega, by go_num, take_eq_step HT.out HX.out HY.out, Dr.on HF.out _⟩
          case measure => simp [intOf]; omega
        · have hne : (x == y) = false := by simpa using hxy
          have e : bs ≠ cs := ne_of_at HX.out HY.out hxy
          have HE := Lib.hid e
          clear hxy e
          go_wp2_with fail
          go_quiet (fail)
          go_wp2
          go_ret
          exact ⟨by simp [HE.out], Dr.on HF.out _⟩
      · go_wp2
        go_ret
        have e : bs = cs := take_eq_all (n := n) (by rw [show n = k from by omega]; exact HT.out) HL.out HL'.out
        exact ⟨by simp [e], hfr⟩
  · go_enter Try.func9, Try.ntmps9
    go_wp2
    go_ret
    have e : bs ≠ cs := by rintro rfl; exact hnm (HL.out.symm.trans HL'.out)
    exact ⟨by simp [e], Dr.refl _⟩

/-- The marks of n elements, from the number k on. -/
def marksInt (n k : Nat) : List Int := (List.range n).map fun (i : Nat) => ((k : Int) + (i : Int))
theorem marksInt_at {n k i : Nat} (h : i < n) : (marksInt n k)[i]? = some (((k : Int) + (i : Int))) := by simp [marksInt, h]
theorem marksInt_take (n k i : Nat) (h : i ≤ n) : (marksInt n k).take i = marksInt i k := by
  rw [marksInt, marksInt, ← List.map_take, List.take_range, Nat.min_eq_left h]

set_option maxHeartbeats 1000000 in
theorem markIntS_any (A : Option Addr) (n c k base : Nat) (xs : List Value) (w : World) (h : w.ownsRow base 3 1 (.slice A n c) n xs) (hn : n ≤ 100000000) (hk : k ≤ 1299511627776) :
    Calls Try.prog 10 #[.slice A n c, .int .i64 k] w fun e w' => e = .returned (.int .i64 ((k + n : Nat) : Int)) ∧ w'.ownsRow base 3 1 (.slice A n c) n ((marksInt n k).map (Value.int .i64)) ∧ w.grownBy w' (Value.slice A n c).ownBlock := by
  have hxl := h.1
  have HX := Lib.hid hxl
  have H := Lib.hid h
  clear hxl h
  go_enter Try.func10, Try.ntmps10
  go_wp2_with fail
  go_loopw [1, 5] (fun v i wr => ∃ j : Nat, j ≤ n ∧ i = .int .i64 j ∧ v = .int .i64 ((k + j : Nat) : Int) ∧ wr.ownsRow base 3 1 (.slice A n c) n ((marksInt j k).map (Value.int .i64) ++ xs.drop j) ∧ w.grownBy wr (Value.slice A n c).ownBlock)
    (fun _ i _ => n - (intOf i).toNat)
  case atStart => exact ⟨0, Nat.zero_le _, rfl, by simp, by simpa [marksInt] using H.out, World.grownBy.refl _ _⟩
  case round =>
    obtain ⟨i, hi, rfl, rfl, hown, hgr⟩ := hrel
    by_cases hlt : i < n
    · obtain ⟨g, rfl, _, _⟩ := own_form hown (by omega)
      have hst := (hown.stored i ((Value.int .i64) (((k : Int) + (i : Int))))).1
      have hse := sets_elem (f := fun x => [(Value.int .i64) x]) (K := 1) (l := marksInt n k) (x := ((k : Int) + (i : Int))) (fun _ => rfl) (marksInt_at hlt) HX.out hlt
      rw [marksInt_take _ _ _ (by omega), marksInt_take _ _ _ (by omega), ← List.map_eq_flatMap, ← List.map_eq_flatMap, Nat.mul_one, Nat.mul_one] at hse
      have HST := Lib.hid hst
      have HSE := Lib.hid hse
      have HG := Lib.hid hgr
      have hf0 := hown.frozenAt i
      have ⟨d0, hd0⟩ : ∃ d, wr.cell? ⟨g, i, none⟩ = some d := by rw [hown.cellAt _ (by omega)]; exact ⟨_, List.getElem?_eq_getElem (by have := hown.1; omega)⟩
      clear hst hse hown hgr
      go_wp2
      go_roundw
      case rel => exact ⟨i + 1, by omega, by go_num, by rw [← Nat.add_assoc]; go_num, by rw [← HSE.out]; simpa [sets] using HST.out, grown_set HG.out⟩
      case measure => simp [intOf]; omega
    · obtain rfl : i = n := by omega
      rw [List.drop_of_length_le (by have := HX.out; omega), List.append_nil] at hown
      go_wp2
      go_ret
      exact ⟨rfl, hown, hgr⟩

set_option maxHeartbeats 1000000 in
theorem heldIntS_any (A : Option Addr) (n c k : Nat) (w : World) (h : Rd w A n 1 ((marksInt n k).map (Value.int .i64))) (hn : n ≤ 100000000) (hk : k ≤ 1299511627776) :
    Calls Try.prog 18 #[.slice A n c, .int .i64 k] w fun e w' => e = .returned (.int .i64 ((k + n : Nat) : Int)) ∧ Fr w w' := by
  go_enter Try.func18, Try.ntmps18
  go_wp2_with fail
  go_loopw [1, 5] (fun v i wr => ∃ j : Nat, j ≤ n ∧ i = .int .i64 j ∧ v = .int .i64 ((k + j : Nat) : Int) ∧ Fr w wr) (fun _ i _ => n - (intOf i).toNat)
  case atStart => exact ⟨0, Nat.zero_le _, rfl, by simp, Below.refl _ _⟩
  case round =>
    obtain ⟨i, hi, rfl, rfl, hfr⟩ := hrel
    by_cases hlt : i < n
    · obtain ⟨bk, of, rfl, hc⟩ := (h.fr hfr).get1 (marksInt_at hlt)
      have ca : wr.cell? ⟨bk, of + i, none⟩ = some (.int .i64 ((k : Int) + (i : Int))) := by simpa using hc
      have HF := Lib.hid hfr
      clear h hc hfr
      go_wp2
      go_roundw
      case rel => exact ⟨i + 1, by omega, by go_num, by rw [← Nat.add_assoc]; go_num, HF.out⟩
      case measure => simp [intOf]; omega
    · obtain rfl : i = n := by omega
      go_wp2
      go_ret
      exact ⟨rfl, hfr⟩

end Go.Proofs.Ytlhjglkghdfbnaa

