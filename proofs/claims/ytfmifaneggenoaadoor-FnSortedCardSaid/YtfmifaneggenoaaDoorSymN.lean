/-
  slices.swapRangeCmpFunc and slices.rotateCmpFunc at names of the call's own.
-/
import Derived.Test.YtfmifaneggenoaaDoorSortN
namespace Go.Proofs.YtfmifaneggenoaaDoor
open Go.RowKit

set_option linter.unusedVariables false
set_option linter.unusedSimpArgs false
set_option maxRecDepth 100000 in
set_option maxHeartbeats 4000000 in
theorem swapRange_any (g n c a b k base : Nat) (fv : Value) (xs : List ByteArray) (w : World) (h : w.ownsRow base 9 1 (.slice (some ⟨g, 0, none⟩) n c) n (xs.map Value.string)) (hn : n ≤ 1048576) (hab : a + k ≤ b) (hbk : b + k ≤ n) :
    Calls Tryd.prog 105 #[.slice (some ⟨g, 0, none⟩) n c, .int .i64 a, .int .i64 b, .int .i64 k, fv] w fun e w' => ∃ ys : List ByteArray, e = .returned (.tuple #[]) ∧ Via (srI a b k) xs ys ∧ Hp [g] w w' [.row 9 1 (.slice (some ⟨g, 0, none⟩) n c) n (ys.map Value.string)] := by
  have H0 : Hp [g] w w [.row 9 1 (.slice (some ⟨g, 0, none⟩) n c) n (xs.map Value.string)] := Hp.start_row h
  have HL := Lib.hid (show xs.length = n by have := h.1; simpa using this)
  clear h
  go_enter Tryd.func105, Tryd.ntmps105
  go_wp2_with fail
  go_loopw [10] (fun i wr => ∃ (j : Nat) (zs : List ByteArray), i = .int .i64 j ∧ j ≤ k ∧ Via (srI a b j) xs zs ∧ Hp [g] w wr [.row 9 1 (.slice (some ⟨g, 0, none⟩) n c) n (zs.map Value.string)]) (fun i _ => k - (intOf i).toNat)
  case atStart => exact ⟨0, xs, rfl, by omega, .of_id _ fun p => srI_0 a b p, H0⟩
  case round =>
    clear H0
    obtain ⟨j, zs, rfl, hj, hv, H⟩ := hrel
    have HV := Lib.hid hv
    have HY := Lib.hid (show zs.length = n by rw [hv.len]; exact HL.out)
    clear hv
    by_cases hlt : j < k
    · have hlt1 : (j : Int) < (k : Int) := by omega
      obtain ⟨p, hp⟩ : ∃ p, p = a + j := ⟨_, rfl⟩
      obtain ⟨q, hq⟩ : ∃ q, q = b + j := ⟨_, rfl⟩
      obtain ⟨x, hx⟩ := at_some HY.out (show p < n by omega)
      obtain ⟨y, hy⟩ := at_some HY.out (show q < n by omega)
      have hwp' : (a : Int) + (j : Int) = (p : Int) := by omega
      have hwq' : (b : Int) + (j : Int) = (q : Int) := by omega
      have hwp : IntKind.i64.wrap ((a : Int) + (j : Int)) = (p : Int) := by rw [hwp']; exact IntWalk.i64_in _ (by omega)
      have hwq : IntKind.i64.wrap ((b : Int) + (j : Int)) = (q : Int) := by rw [hwq']; exact IntWalk.i64_in _ (by omega)
      have hp0 : (0 : Int) ≤ (p : Int) := by omega
      have hp1 : (p : Int) < (n : Int) := by omega
      have hq0 : (0 : Int) ≤ (q : Int) := by omega
      have hq1 : (q : Int) < (n : Int) := by omega
      have cx := H.atM (f1 := Value.string) 0 rfl hx
      have cy := H.atM (f1 := Value.string) 0 rfl hy
      have fx := H.free 0 rfl p
      have fy := H.free 0 rfl q
      have HX := Lib.hid hx
      have HYY := Lib.hid hy
      have HP := Lib.hid hp
      have HQ := Lib.hid hq
      clear hx hy hp hq
      go_wp2_with fail
      go_region
      go_wp2_with fail
      have H9 := Lib.hid ((H.putM 0 rfl p y).putM 0 rfl q x).drew
      go_roundw
      case rel =>
        have e1 := HP.out
        have e2 := HQ.out
        exact ⟨j + 1, swL zs p q x y, by go_num, by omega, HV.out.then (swL_via HX.out HYY.out (by omega)) (fun r => by rw [e1, e2]; exact srI_step hlt hab), H9.out⟩
      case measure => simp [intOf]; omega
    · have hlt1 : ¬ ((j : Int) < (k : Int)) := by omega
      have hjk : j = k := by omega
      have HV2 := Lib.hid (show Via (srI a b k) xs zs by rw [← hjk]; exact HV.out)
      clear hjk
      go_wp2_with fail
      go_end0
      first | exact ⟨zs, rfl, HV2.out, H⟩ | exact ⟨rfl, zs, HV2.out, H⟩
set_option maxRecDepth 100000 in
set_option maxHeartbeats 4000000 in
theorem rotate_any (g n c a m b base : Nat) (fv : Value) (xs : List ByteArray) (w : World) (h : w.ownsRow base 9 1 (.slice (some ⟨g, 0, none⟩) n c) n (xs.map Value.string)) (hn : n ≤ 1048576) (ham : a < m) (hmb : m < b) (hbn : b ≤ n) :
    Calls Tryd.prog 104 #[.slice (some ⟨g, 0, none⟩) n c, .int .i64 a, .int .i64 m, .int .i64 b, fv] w fun e w' => ∃ ys : List ByteArray, e = .returned (.tuple #[]) ∧ Via (rotI a m b) xs ys ∧ Hp [g] w w' [.row 9 1 (.slice (some ⟨g, 0, none⟩) n c) n (ys.map Value.string)] := by
  have H0 : Hp [g] w w [.row 9 1 (.slice (some ⟨g, 0, none⟩) n c) n (xs.map Value.string)] := Hp.start_row h
  clear h
  obtain ⟨i0, hi0⟩ : ∃ x, x = m - a := ⟨_, rfl⟩
  obtain ⟨j0, hj0⟩ : ∃ x, x = b - m := ⟨_, rfl⟩
  have hwi' : (m : Int) - (a : Int) = (i0 : Int) := by omega
  have hwj' : (b : Int) - (m : Int) = (j0 : Int) := by omega
  have hwi : IntKind.i64.wrap ((m : Int) - (a : Int)) = (i0 : Int) := by rw [hwi']; exact IntWalk.i64_in _ (by omega)
  have hwj : IntKind.i64.wrap ((b : Int) - (m : Int)) = (j0 : Int) := by rw [hwj']; exact IntWalk.i64_in _ (by omega)
  have HI := Lib.hid hi0
  have HJ := Lib.hid hj0
  have hb1 : 1 ≤ i0 := by omega
  have hb2 : 1 ≤ j0 := by omega
  have hb3 : i0 ≤ m := by omega
  have hb4 : m + j0 ≤ n := by omega
  clear hi0 hj0
  go_enter Tryd.func104, Tryd.ntmps104
  go_wp2_with fail
  go_loopw [10, 11] (fun iv jv wr => ∃ (i j : Nat) (s : Nat → Nat) (zs : List ByteArray), iv = .int .i64 i ∧ jv = .int .i64 j ∧ 1 ≤ i ∧ 1 ≤ j ∧ i ≤ m ∧ m + j ≤ n ∧ Via s xs zs ∧ (∀ p, rotI a m b p = s (rotI (m - i) m (m + j) p)) ∧ Hp [g] w wr [.row 9 1 (.slice (some ⟨g, 0, none⟩) n c) n (zs.map Value.string)]) (fun iv jv _ => (intOf iv).toNat + (intOf jv).toNat)
  case atStart => exact ⟨i0, j0, id, xs, rfl, rfl, hb1, hb2, hb3, hb4, .refl _, fun p => by rw [HI.out, HJ.out, show m - (m - a) = a by omega, show m + (b - m) = b by omega]; rfl, H0⟩
  case round =>
    clear H0 hb1 hb2 hb3 hb4 hwi hwj hwi' hwj' HI HJ
    obtain ⟨i, j, s, zs, rfl, rfl, hb1, hb2, hb3, hb4, hv, hs, H⟩ := hrel
    have HV := Lib.hid hv
    have HS := Lib.hid hs
    clear hv hs
    obtain ⟨d, hd⟩ : ∃ x, x = m - i := ⟨_, rfl⟩
    have hwd' : (m : Int) - (i : Int) = (d : Int) := by omega
    have hwd : IntKind.i64.wrap ((m : Int) - (i : Int)) = (d : Int) := by rw [hwd']; exact IntWalk.i64_in _ (by omega)
    have hdi : d + i = m := by omega
    have HD := Lib.hid hd
    clear hd
    rcases Nat.lt_trichotomy j i with hij | hij | hij
    · have h1 : ¬ ((i : Int) = (j : Int)) := by omega
      have h2 : (j : Int) < (i : Int) := by omega
      go_wp2_with fail
      refine (swapRange_any g n c d m j 0 fv zs _ (H.row 0 rfl) hn (by omega) (by omega)).mono ?_
      rintro e w1 ⟨ys, rfl, hv2, K⟩
      replace H := H.turnRow 0 rfl K.gr (K.row 0 rfl) (.inl rfl)
      have HV2 := Lib.hid (HV.out.then hv2 fun _ => rfl)
      clear K hv2
      have hw3 : IntKind.i64.wrap ((i : Int) - (j : Int)) = ((i - j : Nat) : Int) := by rw [IntWalk.i64_in _ (by omega)]; omega
      obtain ⟨i', hi'⟩ : ∃ x, x = i - j := ⟨_, rfl⟩
      rw [← hi'] at hw3
      have HI := Lib.hid hi'
      have hi2 : 1 ≤ i' := by omega
      have hi3 : i' ≤ m := by omega
      clear hi'
      go_wp2_with fail
      go_roundw
      case rel => exact ⟨i', j, _, ys, rfl, rfl, hi2, hb2, hi3, hb4, HV2.out, fun p => by rw [HS.out, rotI_gt hb3 hij, HI.out, HD.out], H⟩
      case measure => have := HI.out; simp [intOf]; omega
    · subst hij
      go_wp2_with fail
      refine (swapRange_any g n c d m j 0 fv zs _ (H.row 0 rfl) hn (by omega) (by omega)).mono ?_
      rintro e w1 ⟨ys, rfl, hv2, K⟩
      replace H := H.turnRow 0 rfl K.gr (K.row 0 rfl) (.inl rfl)
      have HV2 := Lib.hid (HV.out.then (u := rotI a m b) hv2 fun p => by rw [HS.out, rotI_eq hb3, HD.out])
      clear K hv2
      go_wp2_with fail
      go_end0
      first | exact ⟨ys, rfl, HV2.out, H⟩ | exact ⟨rfl, ys, HV2.out, H⟩
    · have h1 : ¬ ((i : Int) = (j : Int)) := by omega
      have h2 : ¬ ((j : Int) < (i : Int)) := by omega
      have hw5 : IntKind.i64.wrap ((m : Int) + (j : Int)) = (m : Int) + (j : Int) := IntWalk.i64_in _ (by omega)
      obtain ⟨f, hf⟩ : ∃ x, x = m + j - i := ⟨_, rfl⟩
      have hwf' : (m : Int) + (j : Int) - (i : Int) = (f : Int) := by omega
      have hwf : IntKind.i64.wrap ((m : Int) + (j : Int) - (i : Int)) = (f : Int) := by rw [hwf']; exact IntWalk.i64_in _ (by omega)
      have hfi : f + i = m + j := by omega
      have HF := Lib.hid hf
      clear hf
      go_wp2_with fail
      refine (swapRange_any g n c d f i 0 fv zs _ (H.row 0 rfl) hn (by omega) (by omega)).mono ?_
      rintro e w1 ⟨ys, rfl, hv2, K⟩
      replace H := H.turnRow 0 rfl K.gr (K.row 0 rfl) (.inl rfl)
      have HV2 := Lib.hid (HV.out.then hv2 fun _ => rfl)
      clear K hv2
      obtain ⟨j', hj'⟩ : ∃ x, x = j - i := ⟨_, rfl⟩
      have hw3 : IntKind.i64.wrap ((j : Int) - (i : Int)) = (j' : Int) := by rw [IntWalk.i64_in _ (by omega)]; omega
      have HJ := Lib.hid hj'
      have hj2 : 1 ≤ j' := by omega
      have hj3 : m + j' ≤ n := by omega
      clear hj'
      go_wp2_with fail
      go_roundw
      case rel => exact ⟨i, j', _, ys, rfl, rfl, hb1, hj2, hb3, hj3, HV2.out, fun p => by rw [HS.out, rotI_lt hb3 hij, HJ.out, HD.out, HF.out], H⟩
      case measure => have := HJ.out; simp [intOf]; omega
end Go.Proofs.YtfmifaneggenoaaDoor
