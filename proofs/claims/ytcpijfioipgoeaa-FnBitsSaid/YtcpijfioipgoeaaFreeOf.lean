/-
  FreeOf and FindRun: what the program and the reference read off the free runs.
-/
import Derived.Test.YtcpijfioipgoeaaRuns
namespace Go.Proofs.Ytcpijfioipgoeaa
open Go.RowKit

theorem take_snoc {α : Type} {l : List α} {k : Nat} {x : α} (h : l[k]? = some x) : l.take (k + 1) = l.take k ++ [x] := by rw [List.take_add_one, h]; rfl
theorem runs_at {bs : List Bool} {k : Nat} {r : Int × Int} (h : (runs bs)[k]? = some r) : 0 ≤ r.1 ∧ r.1 ≤ 24 ∧ 1 ≤ r.2 ∧ r.2 ≤ 24 := (runs_bounds bs).2 r (List.mem_of_getElem? h)
theorem sum_take_bound (bs : List Bool) (k : Nat) : 0 ≤ sumLen ((runs bs).take k) ∧ sumLen ((runs bs).take k) ≤ 24 * 24 := by
  have h := sumLen_bound ((runs bs).take k) (fun r hr => by have := (runs_bounds bs).2 r (List.mem_of_mem_take hr); omega)
  have h2 := (runs_bounds bs).1
  have h3 : ((runs bs).take k).length ≤ (runs bs).length := by rw [List.length_take]; omega
  omega

set_option maxRecDepth 100000 in
set_option maxHeartbeats 1000000 in
theorem specFreeOf_any (A : Option Addr) (n c : Nat) (bs : List Bool) (w : World) (h : Rd w A n 1 (bs.map .bool)) :
    Calls Try.prog 12 #[.slice A n c] w fun e w' => e = .returned (.int .i64 (sumLen (runs bs))) ∧ Fr w w' := by
  have hlen := (runs_bounds bs).1
  go_enter Try.func12, Try.ntmps12
  go_wp2_with fail
  refine (specRuns_any A n c bs _ h).mono ?_
  rintro e w1 ⟨A', c', rfl, o1, f1⟩
  generalize hm : (runs bs).length = m at o1 hlen
  have HM := Lib.hid hm
  have r1 := Rd.of_own o1
  clear hm h o1
  go_wp2_with fail
  go_loopw [3, 5] (fun s i wr => ∃ k : Nat, k ≤ m ∧ i = .int .i64 k ∧ s = .int .i64 (sumLen ((runs bs).take k)) ∧ Fr w1 wr) (fun _ i _ => m - (intOf i).toNat)
  case atStart => exact ⟨0, Nat.zero_le _, rfl, rfl, Below.refl _ _⟩
  case round =>
    obtain ⟨k, hk, rfl, rfl, hfr⟩ := hrel
    have hb := sum_take_bound bs k
    by_cases hlt : k < m
    · obtain ⟨⟨a, b⟩, hx⟩ := some_at HM.out hlt
      obtain ⟨bk, of, rfl, hcell⟩ := (r1.fr hfr).elem cRun_len hx (by omega)
      have ca := hcell 0 _ rfl; simp only [Nat.add_zero] at ca
      have cb := hcell 1 _ rfl
      have hr := runs_at hx
      have hs := sumLen_snoc ((runs bs).take k) (a, b)
      rw [← take_snoc hx] at hs
      have HS := Lib.hid hs
      have HF := Lib.hid hfr
      simp only at hr
      clear r1 hcell hx hfr hs
      go_wp2
      go_roundw
      case rel => exact ⟨k + 1, by omega, by go_num, by rw [HS.out], HF.out⟩
      case measure => simp [intOf]; omega
    · go_wp2
      go_ret
      exact ⟨ret_int (by rw [List.take_of_length_le (by have := HM.out; omega)]), f1.then hfr⟩

set_option maxRecDepth 100000 in
set_option maxHeartbeats 1000000 in
theorem implFreeOf_any (A : Option Addr) (n c : Nat) (bs : List Bool) (w : World) (h : Rd w A n 1 (bs.map .bool)) :
    Calls Try.prog 10 #[.slice A n c] w fun e w' => e = .returned (.int .i64 (sumLen (runs bs))) ∧ Fr w w' := by
  have hlen := (runs_bounds bs).1
  go_enter Try.func10, Try.ntmps10
  go_wp2_with fail
  refine (implRuns_any A n c bs _ h).mono ?_
  rintro e w1 ⟨A', c', rfl, o1, f1⟩
  generalize hm : (runs bs).length = m at o1 hlen
  have HM := Lib.hid hm
  have r1 := Rd.of_own o1
  clear hm h o1
  go_wp2_with fail
  go_loopw [3, 9] (fun s i wr => ∃ k : Nat, k ≤ m ∧ i = .int .i64 k ∧ s = .int .i64 (sumLen ((runs bs).take k)) ∧ Fr w1 wr) (fun _ i _ => m - (intOf i).toNat)
  case atStart => exact ⟨0, Nat.zero_le _, rfl, rfl, Below.refl _ _⟩
  case round =>
    obtain ⟨k, hk, rfl, rfl, hfr⟩ := hrel
    have hb := sum_take_bound bs k
    by_cases hlt : k < m
    · obtain ⟨⟨a, b⟩, hx⟩ := some_at HM.out hlt
      obtain ⟨bk, of, rfl, hcell⟩ := (r1.fr hfr).elem cRun_len hx (by omega)
      have ca := hcell 0 _ rfl; simp only [Nat.add_zero] at ca
      have cb := hcell 1 _ rfl
      have hr := runs_at hx
      have hs := sumLen_snoc ((runs bs).take k) (a, b)
      rw [← take_snoc hx] at hs
      have HS := Lib.hid hs
      have HF := Lib.hid hfr
      simp only at hr
      clear r1 hcell hx hfr hs
      go_wp2
      go_roundw
      case rel => exact ⟨k + 1, by omega, by go_num, by rw [HS.out], Fr.al HF.out _⟩
      case measure => simp [intOf]; omega
    · go_wp2
      go_ret
      exact ⟨ret_int (by rw [List.take_of_length_le (by have := HM.out; omega)]), f1.then hfr⟩

theorem find_none {l : List (Int × Int)} {m : Int} (h : ∀ r ∈ l, r.2 < m) : findR l m = -1 := by
  unfold findR
  split
  · rw [List.find?_eq_none.2 (fun r hr => by simpa using h r hr)]; rfl
  · rfl
theorem find_some {l : List (Int × Int)} {m : Int} {k : Nat} {r : Int × Int} (hm : 1 ≤ m) (hx : l[k]? = some r) (hr : m ≤ r.2) (h : ∀ x ∈ l.take k, x.2 < m) : findR l m = r.1 := by
  unfold findR
  rw [if_pos hm]
  have e : l = l.take k ++ r :: l.drop (k + 1) := by
    have hk := (List.getElem?_eq_some_iff.1 hx).1
    have hg := (List.getElem?_eq_some_iff.1 hx).2
    conv => lhs; rw [← List.take_append_drop k l]
    rw [List.drop_eq_getElem_cons hk, hg]
  rw [e, List.find?_append, List.find?_eq_none.2 (fun x hx => by simpa using h x hx)]
  simp [hr]
theorem find_low {l : List (Int × Int)} {m : Int} (h : m < 1) : findR l m = -1 := by rw [findR, if_neg (by omega)]
theorem none_snoc {l : List (Int × Int)} {m : Int} {k : Nat} {r : Int × Int} (hx : l[k]? = some r) (hr : r.2 < m) (h : ∀ x ∈ l.take k, x.2 < m) : ∀ x ∈ l.take (k + 1), x.2 < m := by
  rw [take_snoc hx]
  intro x hx'
  simp only [List.mem_append, List.mem_singleton] at hx'
  rcases hx' with h1 | h1
  · exact h x h1
  · subst h1; exact hr

set_option maxRecDepth 100000 in
set_option maxHeartbeats 1000000 in
theorem specFindRun_any (A : Option Addr) (n c : Nat) (bs : List Bool) (q : Int) (w : World) (h : Rd w A n 1 (bs.map .bool)) :
    Calls Try.prog 14 #[.slice A n c, .int .i64 q] w fun e w' => e = .returned (.int .i64 (findR (runs bs) q)) ∧ Fr w w' := by
  have hlen := (runs_bounds bs).1
  go_enter Try.func14, Try.ntmps14
  go_wp2_with fail
  refine (specRuns_any A n c bs _ h).mono ?_
  rintro e w1 ⟨A', c', rfl, o1, f1⟩
  generalize hm : (runs bs).length = m at o1 hlen
  have HM := Lib.hid hm
  have r1 := Rd.of_own o1
  clear hm h o1
  go_wp2_with fail
  go_loopw [6] (fun i wr => ∃ k : Nat, k ≤ m ∧ i = .int .i64 k ∧ (∀ x ∈ (runs bs).take k, x.2 < q) ∧ Fr w1 wr) (fun i _ => m - (intOf i).toNat)
  case atStart => exact ⟨0, Nat.zero_le _, rfl, by simp, Below.refl _ _⟩
  case round =>
    obtain ⟨k, hk, rfl, hall, hfr⟩ := hrel
    have HA := Lib.hid hall
    by_cases hlt : k < m
    · obtain ⟨⟨a, b⟩, hx⟩ := some_at HM.out hlt
      obtain ⟨bk, of, rfl, hcell⟩ := (r1.fr hfr).elem cRun_len hx (by omega)
      have ca := hcell 0 _ rfl; simp only [Nat.add_zero] at ca
      have cb := hcell 1 _ rfl
      have HX := Lib.hid hx
      have HF := Lib.hid hfr
      clear r1 hcell hx hfr hall
      by_cases hq : 1 ≤ q
      · by_cases hb : q ≤ b
        · go_wp2
          go_ret
          exact ⟨ret_int (find_some hq HX.out hb HA.out).symm, f1.then HF.out⟩
        · go_wp2
          go_roundw
          case rel => exact ⟨k + 1, by omega, by go_num, none_snoc HX.out (by simp only; omega) HA.out, HF.out⟩
          case measure => simp [intOf]; omega
      · go_wp2
        go_ret
        exact ⟨ret_int (find_low (by omega)).symm, f1.then HF.out⟩
    · clear hall
      go_wp2
      go_ret
      refine ⟨ret_int (find_none ?_).symm, f1.then hfr⟩
      have := HA.out
      rwa [List.take_of_length_le (by have := HM.out; omega)] at this

set_option maxRecDepth 100000 in
set_option maxHeartbeats 1000000 in
theorem implFindRun_any (A : Option Addr) (n c : Nat) (bs : List Bool) (q : Int) (w : World) (h : Rd w A n 1 (bs.map .bool)) :
    Calls Try.prog 13 #[.slice A n c, .int .i64 q] w fun e w' => e = .returned (.int .i64 (findR (runs bs) q)) ∧ Fr w w' := by
  have hlen := (runs_bounds bs).1
  go_enter Try.func13, Try.ntmps13
  go_wp2_with fail
  refine (implRuns_any A n c bs _ h).mono ?_
  rintro e w1 ⟨A', c', rfl, o1, f1⟩
  generalize hm : (runs bs).length = m at o1 hlen
  have HM := Lib.hid hm
  have r1 := Rd.of_own o1
  clear hm h o1
  go_wp2_with fail
  go_loopw [10] (fun i wr => ∃ k : Nat, k ≤ m ∧ i = .int .i64 k ∧ (1 ≤ q → ∀ x ∈ (runs bs).take k, x.2 < q) ∧ Fr w1 wr) (fun i _ => m - (intOf i).toNat)
  case atStart => exact ⟨0, Nat.zero_le _, rfl, by simp, Below.refl _ _⟩
  case round =>
    obtain ⟨k, hk, rfl, hall, hfr⟩ := hrel
    have HA := Lib.hid hall
    by_cases hlt : k < m
    · obtain ⟨⟨a, b⟩, hx⟩ := some_at HM.out hlt
      obtain ⟨bk, of, rfl, hcell⟩ := (r1.fr hfr).elem cRun_len hx (by omega)
      have ca := hcell 0 _ rfl; simp only [Nat.add_zero] at ca
      have cb := hcell 1 _ rfl
      have HX := Lib.hid hx
      have HF := Lib.hid hfr
      clear r1 hcell hx hfr hall
      by_cases hq : 1 ≤ q
      · by_cases hb : q ≤ b
        · go_wp2
          go_ret
          exact ⟨ret_int (find_some hq HX.out hb (HA.out hq)).symm, f1.then (Fr.al HF.out _)⟩
        · go_wp2
          go_roundw
          case rel => exact ⟨k + 1, by omega, by go_num, fun h1 => none_snoc HX.out (by simp only; omega) (HA.out h1), Fr.al HF.out _⟩
          case measure => simp [intOf]; omega
      · go_wp2
        go_roundw
        case rel => exact ⟨k + 1, by omega, by go_num, fun h1 => absurd h1 hq, Fr.al HF.out _⟩
        case measure => simp [intOf]; omega
    · clear hall
      go_wp2
      go_ret
      refine ⟨ret_int ?_, f1.then hfr⟩
      by_cases hq : 1 ≤ q
      · have := HA.out hq
        rw [List.take_of_length_le (by have := HM.out; omega)] at this
        exact (find_none this).symm
      · exact (find_low (by omega)).symm
end Go.Proofs.Ytcpijfioipgoeaa
