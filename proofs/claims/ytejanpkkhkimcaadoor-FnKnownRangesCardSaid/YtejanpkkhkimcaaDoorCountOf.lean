/-
  CountOf and InRanges: the program and the reference count the same signs, and find the same.
-/
import Derived.Test.YtejanpkkhkimcaaDoorRangesOk
namespace Go.Proofs.YtejanpkkhkimcaaDoor
open Go.RowKit

def sumR (l : List (Int × Int)) : Int := (l.map fun r => r.2 - r.1 + 1).sum
/-- How many signs are in right ranges; 0 where they are not right. -/
def cntR (l : List (Int × Int)) : Int := if rOk l = true then sumR l else 0
theorem sumR_snoc (l : List (Int × Int)) (r : Int × Int) : sumR (l ++ [r]) = sumR l + (r.2 - r.1 + 1) := by simp [sumR]
theorem sumR_bound : ∀ (l : List (Int × Int)), (∀ r ∈ l, 0 ≤ r.1 ∧ r.1 ≤ r.2 ∧ r.2 ≤ 1114111) → 0 ≤ sumR l ∧ sumR l ≤ 1114112 * l.length
  | [], _ => by simp [sumR]
  | r :: l, h => by
    have h1 := sumR_bound l fun x hx => h x (by simp [hx])
    have h2 := h r (by simp)
    simp only [sumR, List.map_cons, List.sum_cons, List.length_cons] at h1 ⊢
    omega
theorem rOk_at {l : List (Int × Int)} {k : Nat} {r : Int × Int} (h : rOk l = true) (hx : l[k]? = some r) : 0 ≤ r.1 ∧ r.1 ≤ r.2 ∧ r.2 ≤ 1114111 := by
  have hk := (List.getElem?_eq_some_iff.1 hx).1
  simp only [rOk, List.all_eq_true, List.mem_range] at h
  have h1 := h k hk
  simp only [rAt, List.getD, hx, Option.getD_some, Bool.and_eq_true, inB_iff] at h1
  omega
theorem rOk_mem {l : List (Int × Int)} {r : Int × Int} (h : rOk l = true) (hr : r ∈ l) : 0 ≤ r.1 ∧ r.1 ≤ r.2 ∧ r.2 ≤ 1114111 := by
  obtain ⟨k, hk⟩ := List.getElem?_of_mem hr
  exact rOk_at h hk
theorem snoc_take {α : Type} {l : List α} {k : Nat} {x : α} (h : l[k]? = some x) : l.take (k + 1) = l.take k ++ [x] := by rw [List.take_add_one, h]; rfl
theorem sumR_take {l : List (Int × Int)} {n k : Nat} (hl : l.length = n) (h : rOk l = true) (hk : k ≤ n) : 0 ≤ sumR (l.take k) ∧ sumR (l.take k) ≤ 1114112 * k := by
  have h1 := sumR_bound (l.take k) fun r hr => rOk_mem h (List.mem_of_mem_take hr)
  rw [List.length_take, Nat.min_eq_left (by omega)] at h1
  exact h1

set_option maxRecDepth 100000 in
set_option maxHeartbeats 1000000 in
theorem specCountOf_any (A : Option Addr) (n c : Nat) (l : List (Int × Int)) (w : World) (h : Rd w A n 2 (l.flatMap cRange)) (hn : n ≤ 1048576) :
    Calls Tryd.prog 16 #[.slice A n c] w fun e w' => e = .returned (.int .i64 (cntR l)) ∧ Dr w w' := by
  have hl := h.lenk cRange_len (by omega)
  have HL := Lib.hid hl
  clear hl
  by_cases hok : rOk l = true
  · have hres : cntR l = sumR l := by simp [cntR, hok]
    have HR := Lib.hid hres
    have HK := Lib.hid hok
    clear hres
    go_enter Tryd.func16, Tryd.ntmps16
    go_wp2_with fail
    go_loopw [3, 4] (fun s i wr => ∃ k : Nat, k ≤ n ∧ i = .int .i64 k ∧ s = .int .i64 (sumR (l.take k)) ∧ Dr w wr) (fun _ i _ => n - (intOf i).toNat)
    case atStart => exact ⟨0, Nat.zero_le _, rfl, rfl, Dr.refl _⟩
    case round =>
      obtain ⟨k, hk, rfl, rfl, hd⟩ := hrel
      have hb := sumR_take HL.out HK.out hk
      by_cases hlt : k < n
      · obtain ⟨⟨a, b⟩, hx⟩ := some_at HL.out hlt
        have hcall := specRangesOk_any A n c l wr (h.fr hd.fr) hn
        rw [hok] at hcall
        have HC := Lib.hid hcall
        have hr := rOk_at HK.out hx
        have hs := sumR_snoc (l.take k) (a, b)
        rw [← snoc_take hx] at hs
        simp only at hr hs
        have HS := Lib.hid hs
        have HX := Lib.hid hx
        have HD := Lib.hid hd
        have HH := Lib.hid h
        clear hcall hs hok hx hd h
        generalize sumR (l.take k) = s at hb HS
        go_wp2_with fail
        refine (HC.out).mono ?_
        rintro e w2 ⟨rfl, d2⟩
        have HD2 := Lib.hid (HD.out.then d2)
        obtain ⟨bk, of, rfl, hcell⟩ := (HH.out.fr HD2.out.fr).elem cRange_len HX.out (by omega)
        have ca := hcell 0 _ rfl; simp only [Nat.add_zero] at ca
        have cb := hcell 1 _ rfl
        have s1 : IntKind.i64.wrap (s + b) = s + b := IntWalk.i64_in _ (by omega)
        have s2 : IntKind.i64.wrap (s + b - a) = s + b - a := IntWalk.i64_in _ (by omega)
        have s3 : IntKind.i64.wrap (s + b - a + 1) = s + b - a + 1 := IntWalk.i64_in _ (by omega)
        clear hcell d2 HH HC
        go_wp2_with fail
        go_quiet (fail)
        clear s1 s2 s3
        go_wp2
        go_roundw
        case rel => exact ⟨k + 1, by omega, by go_num, by rw [HS.out]; go_num, Dr.on HD2.out _⟩
        case measure => simp [intOf]; omega
      · go_wp2
        go_ret
        exact ⟨ret_int (by rw [HR.out, List.take_of_length_le (by have := HL.out; omega)]), hd⟩
  · have hno : rOk l = false := by simpa using hok
    have hres : cntR l = 0 := by simp [cntR, hno]
    have HR := Lib.hid hres
    have hn0 : 0 < n := by
      rcases Nat.eq_zero_or_pos n with h0 | h0
      · have : l = [] := List.eq_nil_of_length_eq_zero (by have := HL.out; omega)
        subst this
        simp [rOk] at hno
      · exact h0
    have hcall := specRangesOk_any A n c l w h hn
    rw [hno] at hcall
    have HC := Lib.hid hcall
    clear hres hok hno hcall
    go_enter Tryd.func16, Tryd.ntmps16
    go_wp2_with fail
    refine wp_loop_rounds 1 ?_
    rw [rounds_succ]
    go_wp2_with fail
    refine (HC.out).mono ?_
    rintro e w2 ⟨rfl, d2⟩
    go_wp2
    go_ret
    exact ⟨ret_int HR.out.symm, d2⟩

set_option maxRecDepth 100000 in
set_option maxHeartbeats 1000000 in
theorem implCountOf_any (A : Option Addr) (n c : Nat) (l : List (Int × Int)) (w : World) (h : Rd w A n 2 (l.flatMap cRange)) (hn : n ≤ 1048576) :
    Calls Tryd.prog 15 #[.slice A n c] w fun e w' => e = .returned (.int .i64 (cntR l)) ∧ Fr w w' := by
  have hl := h.lenk cRange_len (by omega)
  have HL := Lib.hid hl
  clear hl
  by_cases hok : rOk l = true
  · have hres : cntR l = sumR l := by simp [cntR, hok]
    have HR := Lib.hid hres
    have HK := Lib.hid hok
    clear hres
    have hcall := implRangesOk_any A n c l w h hn
    rw [hok] at hcall
    clear hok
    go_enter Tryd.func15, Tryd.ntmps15
    go_wp2_with fail
    refine hcall.mono ?_
    rintro e w1 ⟨rfl, f1⟩
    have r1 := h.fr f1
    clear h hcall
    go_wp2_with fail
    go_loopw [3, 11] (fun s i wr => ∃ k : Nat, k ≤ n ∧ i = .int .i64 k ∧ s = .int .i64 (sumR (l.take k)) ∧ Fr w1 wr) (fun _ i _ => n - (intOf i).toNat)
    case atStart => exact ⟨0, Nat.zero_le _, rfl, rfl, Below.refl _ _⟩
    case round =>
      obtain ⟨k, hk, rfl, rfl, hd⟩ := hrel
      have hb := sumR_take HL.out HK.out hk
      by_cases hlt : k < n
      · obtain ⟨⟨a, b⟩, hx⟩ := some_at HL.out hlt
        have hr := rOk_at HK.out hx
        have hs := sumR_snoc (l.take k) (a, b)
        rw [← snoc_take hx] at hs
        simp only at hr hs
        obtain ⟨bk, of, rfl, hcell⟩ := (r1.fr hd).elem cRange_len hx (by omega)
        have ca := hcell 0 _ rfl; simp only [Nat.add_zero] at ca
        have cb := hcell 1 _ rfl
        have HS := Lib.hid hs
        have HD := Lib.hid hd
        clear hs hx hd r1 hcell
        generalize sumR (l.take k) = s at hb HS
        go_wp2
        go_roundw
        case rel => exact ⟨k + 1, by omega, by go_num, by rw [HS.out]; go_num, Fr.al HD.out _⟩
        case measure => simp [intOf]; omega
      · go_wp2
        go_ret
        exact ⟨ret_int (by rw [HR.out, List.take_of_length_le (by have := HL.out; omega)]), f1.then hd⟩
  · have hno : rOk l = false := by simpa using hok
    have hres : cntR l = 0 := by simp [cntR, hno]
    have HR := Lib.hid hres
    have hcall := implRangesOk_any A n c l w h hn
    rw [hno] at hcall
    clear hok hno hres
    go_enter Tryd.func15, Tryd.ntmps15
    go_wp2_with fail
    refine hcall.mono ?_
    rintro e w1 ⟨rfl, f1⟩
    go_wp2
    go_ret
    exact ⟨ret_int HR.out.symm, f1⟩

/-- Is c in one of them, and are they right? -/
def inR (l : List (Int × Int)) (c : Int) : Bool := rOk l && l.any fun r => inB c r.1 r.2
theorem any_snoc {l : List (Int × Int)} {k : Nat} {r : Int × Int} {p : Int × Int → Bool} (h : l[k]? = some r) : (l.take (k + 1)).any p = ((l.take k).any p || p r) := by
  rw [snoc_take h]; simp

set_option maxRecDepth 100000 in
set_option maxHeartbeats 1000000 in
theorem implInRanges_any (A : Option Addr) (n c : Nat) (l : List (Int × Int)) (x : Int) (w : World) (h : Rd w A n 2 (l.flatMap cRange)) (hn : n ≤ 1048576) :
    Calls Tryd.prog 13 #[.slice A n c, .int .i64 x] w fun e w' => e = .returned (.bool (inR l x)) ∧ Fr w w' := by
  have hl := h.lenk cRange_len (by omega)
  have HL := Lib.hid hl
  clear hl
  go_enter Tryd.func13, Tryd.ntmps13
  go_wp2_with fail
  go_loopw [5, 10] (fun s i wr => ∃ (k : Nat) (bb : Bool), k ≤ n ∧ i = .int .i64 k ∧ s = .bool bb ∧ ((l.take k).any fun r => inB x r.1 r.2) = bb ∧ Fr w wr) (fun _ i _ => n - (intOf i).toNat)
  case atStart => exact ⟨0, false, Nat.zero_le _, rfl, rfl, rfl, Below.refl _ _⟩
  case round =>
    obtain ⟨k, bb, hk, rfl, rfl, hany, hd⟩ := hrel
    have HA := Lib.hid hany
    clear hany
    by_cases hlt : k < n
    · obtain ⟨⟨a, b⟩, hx⟩ := some_at HL.out hlt
      obtain ⟨bk, of, rfl, hcell⟩ := (h.fr hd).elem cRange_len hx (by omega)
      have ca := hcell 0 _ rfl; simp only [Nat.add_zero] at ca
      have cb := hcell 1 _ rfl
      have hst := any_snoc (p := fun r => inB x r.1 r.2) hx
      simp only at hst
      rw [HA.out] at hst
      have HST := Lib.hid hst
      have HD := Lib.hid hd
      clear hx hd h hcell hst
      cases bb
      · go_wp2_with fail
        refine (within_any _ _ _ _).mono ?_
        rintro e w2 ⟨rfl, rfl⟩
        go_wp2
        go_roundw
        case rel => exact ⟨k + 1, inB x a b, by omega, by go_num, rfl, by rw [HST.out]; rfl, Fr.al HD.out _⟩
        case measure => simp [intOf]; omega
      · go_wp2
        go_roundw
        case rel => exact ⟨k + 1, true, by omega, by go_num, rfl, by rw [HST.out]; rfl, Fr.al HD.out _⟩
        case measure => simp [intOf]; omega
    · have e := HA.out
      rw [List.take_of_length_le (by have := HL.out; omega)] at e
      have HE := Lib.hid e
      clear e HA
      cases bb
      · go_wp2
        go_ret
        exact ⟨ret_bool (by rw [inR, HE.out]; simp), hd⟩
      · have hcall := implRangesOk_any A n c l wr (h.fr hd) hn
        go_wp2_with fail
        refine hcall.mono ?_
        rintro e w1 ⟨rfl, f1⟩
        go_wp2
        go_ret
        exact ⟨ret_bool (by rw [inR, HE.out]; simp), hd.then f1⟩
end Go.Proofs.YtejanpkkhkimcaaDoor
