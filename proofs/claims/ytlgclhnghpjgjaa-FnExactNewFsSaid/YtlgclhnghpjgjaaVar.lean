/-
  Numbers written as bytes: Var of the program and of the reference.
-/
import Derived.Test.YtlgclhnghpjgjaaStr
import Derived.Test.YtlgclhnghpjgjaaWithin
import Derived.Test.YtlgclhnghpjgjaaL1In
import Derived.Laws.BitsLemmas
namespace Go.Proofs.Ytlgclhnghpjgjaa
open Go.RowKit

set_option linter.unusedVariables false
set_option linter.unusedSimpArgs false
/-- A number in groups of seven bits, the lowest first. -/
def varT (n : Nat) : List UInt8 := if _h : n < 128 then [UInt8.ofNat n] else UInt8.ofNat (n % 128 + 128) :: varT (n / 128)
termination_by n
decreasing_by omega
theorem varT_lo {n : Nat} (h : n < 128) : varT n = [UInt8.ofNat n] := by rw [varT, dif_pos h]
theorem varT_hi {n : Nat} (h : ¬ n < 128) : varT n = UInt8.ofNat (n % 128 + 128) :: varT (n / 128) := by rw [varT, dif_neg h]
theorem varT_len : ∀ (k n : Nat), n < 128 ^ (k + 1) → (varT n).length ≤ k + 1
  | 0, n, h => by rw [varT_lo (by simpa using h)]; simp
  | k + 1, n, h => by
    by_cases hn : n < 128
    · rw [varT_lo hn]; simp
    · rw [varT_hi hn, List.length_cons]
      have := varT_len k (n / 128) (by rw [Nat.div_lt_iff_lt_mul (by decide)]; rw [Nat.pow_succ] at h; omega)
      omega
def varB (n : Int) : List UInt8 := if 0 ≤ n ∧ n ≤ 562949953421311 then varT n.toNat else []
def varS (n : Int) : ByteArray := ofB (varB n)
theorem varB_len (n : Int) : (varB n).length ≤ 7 := by
  rw [varB]
  split
  · exact varT_len 6 n.toNat (by rename_i h; show n.toNat < 562949953421312; omega)
  · simp
theorem varS_size (n : Int) : (varS n).size ≤ 7 := by rw [varS, ofB_size]; exact varB_len n
theorem and_127 {c : Int} (h0 : 0 ≤ c) (h1 : c < 9223372036854775808) : bits .and .i64 c 127 = c % 128 := bits_mask .i64 63 (by decide) (fun n h₀ h₁ => IntWalk.i64_in _ (by omega)) 7 (by decide) c h0 (by omega)
theorem or_128 {c : Int} (h0 : 0 ≤ c) (h1 : c < 128) : bits .or .i64 c 128 = c + 128 := by
  obtain ⟨k, rfl⟩ : ∃ k : Nat, c = k := ⟨c.toNat, by omega⟩
  have h : ((List.range 128).all fun (n : Nat) => bits .or .i64 (n : Int) 128 == (n : Int) + 128) = true := by decide +kernel
  have := List.all_eq_true.1 h k (List.mem_range.2 (by omega))
  simpa using this
theorem u8_of {c : Int} (h0 : 0 ≤ c) (h1 : c < 256) : ∃ u : UInt8, UInt8.ofNat c.toNat = u ∧ cU8 u = .int .u8 c := by
  refine ⟨_, rfl, ?_⟩
  simp only [cU8]
  congr 1
  rw [UInt8.toNat_ofNat_of_lt' (by simp [UInt8.size]; omega)]
  omega
theorem byte_ofV {y : Int} (h0 : 0 ≤ y) (h1 : y ≤ 255) : ∃ u : UInt8, y = (u.toNat : Int) := by
  refine ⟨UInt8.ofNat y.toNat, ?_⟩
  rw [UInt8.toNat_ofNat_of_lt' (by simp [UInt8.size]; omega)]
  omega
set_option maxRecDepth 100000 in
set_option maxHeartbeats 4000000 in
theorem implVar_any (n : Int) (w : World) :
    Calls Try.prog 30 #[.int .i64 n] w fun e w' => e = .returned (.string (varS n)) ∧ Fr w w' := by
  by_cases hb : 0 ≤ n ∧ n ≤ 562949953421311
  · obtain ⟨k, rfl⟩ : ∃ k : Nat, n = k := ⟨n.toNat, by omega⟩
    have H := (Hp.start w).lit0 5 1
    have hlen : (varT k).length ≤ 7 := by
      have := varB_len (k : Int)
      rwa [varB, if_pos hb, Int.toNat_natCast] at this
    have HV := Lib.hid (show varS (k : Int) = ofB (varT k) by rw [varS, varB, if_pos hb, Int.toNat_natCast])
    rw [HV.out]
    have hk : k ≤ 562949953421311 := by omega
    clear HV
    go_enter Try.func30, Try.ntmps30
    go_wp2_with fail
    refine (within_any _ _ _ _).mono ?_
    rintro e wq ⟨rfl, hwq⟩
    rw [hwq]
    clear hwq
    have hd : inB (k : Int) 0 562949953421311 = true := inB_iff.2 hb
    rw [hd]
    clear hd hb
    go_wp2_with fail
    go_loopw [0, 3] (fun nv ov wr => ∃ (m : Nat) (l : List UInt8), nv = .int .i64 m ∧ m ≤ 562949953421311 ∧ l ++ varT m = varT k ∧ Hp [] w wr [.row 5 1 ov l.length (l.map cU8)]) (fun nv _ _ => (intOf nv).toNat)
    case atStart => exact ⟨k, [], rfl, hk, rfl, H⟩
    case round =>
      clear H
      obtain ⟨m, l, rfl, hm, hl, H⟩ := hrel
      have HL := Lib.hid hl
      have hll : l.length ≤ 7 := by have := congrArg List.length hl; rw [List.length_append] at this; omega
      clear hl
      by_cases hlt : 127 < m
      · obtain ⟨r, hr⟩ : ∃ r : Nat, (m : Int) % 128 = (r : Int) := ⟨m % 128, by omega⟩
        obtain ⟨q, hq⟩ : ∃ q : Nat, (m : Int) / 128 = (q : Int) := ⟨m / 128, by omega⟩
        have hrb : r < 128 := by omega
        obtain ⟨u, hu⟩ := byte_ofV (y := (r : Int) + 128) (by omega) (by omega)
        have HS := Lib.hid (show varT m = u :: varT q by
          rw [varT_hi (by omega), show m / 128 = q by omega, show m % 128 + 128 = u.toNat by omega, UInt8.ofNat_toNat])
        have hqm : q < m := by omega
        have hlt1 : 127 < (m : Int) := by omega
        have hur : (r : Int) + 128 = (u.toNat : Int) := by omega
        have a1 : bits .and .i64 (m : Int) 127 = (r : Int) := by rw [and_127 (by omega) (by omega)]; exact hr
        have a2 : bits .or .i64 (r : Int) 128 = (u.toNat : Int) := by rw [or_128 (by omega) (by omega)]; exact hur
        have a4 : IntKind.u8.wrap (u.toNat : Int) = (u.toNat : Int) := wraps_u8 _ (by have := u.toNat_lt; omega) (by have := u.toNat_lt; omega)
        have a5 : (m : Int) / 128 = (q : Int) := hq
        clear hr hq hu
        go_wp2_with (at_builtin; refine wp_appM (f := cU8) (H) rfl _ _ _ rfl Try.underlying61 infoU8 rfl 0 _ _ rfl rfl _ _ (u) rfl (by simp) rfl (by first | (simp only [maxLen]; omega) | (simp [maxLen]; done) | (simp [maxLen]; omega)) (by first | omega | (simp; done) | (simp; omega)) ?_)
        intro v' w5 H5
        have H6 := Lib.hid (show Hp [] w w5 [.row 5 1 v' (l ++ [u]).length ((l ++ [u]).map cU8)] by
          rw [List.map_append, List.length_append]; exact H5)
        clear H H5
        go_wp2_with fail
        go_roundw
        case rel => exact ⟨q, l ++ [u], rfl, by omega, by rw [List.append_assoc, ← HL.out, HS.out]; rfl, H6.out⟩
        case measure => simp [intOf]; omega
      · obtain ⟨u, hu⟩ := byte_ofV (y := (m : Int)) (by omega) (by omega)
        have HS := Lib.hid (show varT m = [u] by rw [varT_lo (by omega), show m = u.toNat by omega, UInt8.ofNat_toNat])
        have hmu : m = u.toNat := by omega
        subst hmu
        have hub := u.toNat_lt
        have hlt1 : ¬ (127 < (u.toNat : Int)) := by omega
        have hlt2 : ¬ (128 ≤ (u.toNat : Int)) := by omega
        have hw8 : IntKind.u8.wrap (u.toNat : Int) = (u.toNat : Int) := wraps_u8 _ (by omega) (by omega)
        clear hu
        go_wp2_with (at_builtin; refine wp_appM (f := cU8) (H) rfl _ _ _ rfl Try.underlying61 infoU8 rfl 0 _ _ rfl rfl _ _ (u) rfl (by simp) rfl (by first | (simp only [maxLen]; omega) | (simp [maxLen]; done) | (simp [maxLen]; omega)) (by first | omega | (simp; done) | (simp; omega)) ?_)
        intro v' w5 H5
        have H6 : Hp [] w w5 [.row 5 1 v' (l.length + 1) ((l ++ [u]).map cU8)] := by
          rw [List.map_append]; exact H5.recast (by simp)
        obtain ⟨B, d, rfl⟩ := H6.shape 0 rfl
        have hks := run_str (c := d) 61 9 5 Try.underlying61 Try.underlying5 Try.underlying9 (H6.rd 0 rfl)
        have HF := Lib.hid H6
        clear H H5 H6
        go_wp2_with fail
        go_ret
        have hE := HL.out
        rw [HS.out] at hE
        exact ⟨congrArg (fun b => Ending.returned (.string (ofB b))) hE, HF.out.fr⟩
  ·
    have hd : inB n 0 562949953421311 = false := by rw [← Bool.not_eq_true, inB_iff]; exact hb
    have hv : varS n = ByteArray.mk #[] := by rw [varS, varB, if_neg hb]; rfl
    rw [hv]
    go_enter Try.func30, Try.ntmps30
    go_wp2_with fail
    refine (within_any _ _ _ _).mono ?_
    rintro e wq ⟨rfl, hwq⟩
    rw [hwq, hd]
    clear hwq
    go_wp2_with fail
    go_ret
    exact ⟨rfl, Below.refl _ _⟩
set_option maxRecDepth 100000 in
set_option maxHeartbeats 4000000 in
theorem specVar_any (n : Int) (w : World) :
    Calls Try.prog 28 #[.int .i64 n] w fun e w' => e = .returned (.string (varS n)) ∧ Fr w w' := by
  by_cases hb : 0 ≤ n ∧ n ≤ 562949953421311
  · obtain ⟨k, rfl⟩ : ∃ k : Nat, n = k := ⟨n.toNat, by omega⟩
    have H := (Hp.start w).lit0 5 1
    have hlen : (varT k).length ≤ 7 := by
      have := varB_len (k : Int)
      rwa [varB, if_pos hb, Int.toNat_natCast] at this
    have HV := Lib.hid (show varS (k : Int) = ofB (varT k) by rw [varS, varB, if_pos hb, Int.toNat_natCast])
    rw [HV.out]
    have hk : k ≤ 562949953421311 := by omega
    clear HV
    go_enter Try.func28, Try.ntmps28
    go_wp2_with fail
    refine (l1In_any _ _ _ _).mono ?_
    rintro e wq ⟨rfl, hwq⟩
    rw [hwq]
    clear hwq
    have hd : inB (k : Int) 0 562949953421311 = true := inB_iff.2 hb
    rw [hd]
    clear hd hb
    go_wp2_with fail
    go_loopw [0, 3] (fun nv ov wr => ∃ (m : Nat) (l : List UInt8), nv = .int .i64 m ∧ m ≤ 562949953421311 ∧ l ++ varT m = varT k ∧ Hp [] w wr [.row 5 1 ov l.length (l.map cU8)]) (fun nv _ _ => (intOf nv).toNat)
    case atStart => exact ⟨k, [], rfl, hk, rfl, H⟩
    case round =>
      clear H
      obtain ⟨m, l, rfl, hm, hl, H⟩ := hrel
      have HL := Lib.hid hl
      have hll : l.length ≤ 7 := by have := congrArg List.length hl; rw [List.length_append] at this; omega
      clear hl
      by_cases hlt : 127 < m
      · obtain ⟨r, hr⟩ : ∃ r : Nat, (m : Int) % 128 = (r : Int) := ⟨m % 128, by omega⟩
        obtain ⟨q, hq⟩ : ∃ q : Nat, (m : Int) / 128 = (q : Int) := ⟨m / 128, by omega⟩
        have hrb : r < 128 := by omega
        obtain ⟨u, hu⟩ := byte_ofV (y := (r : Int) + 128) (by omega) (by omega)
        have HS := Lib.hid (show varT m = u :: varT q by
          rw [varT_hi (by omega), show m / 128 = q by omega, show m % 128 + 128 = u.toNat by omega, UInt8.ofNat_toNat])
        have hqm : q < m := by omega
        have hlt1 : 128 ≤ (m : Int) := by omega
        have hub := u.toNat_lt
        have hur : 128 + (r : Int) = (u.toNat : Int) := by omega
        have a1 : (m : Int).tmod 128 = (r : Int) := by rw [Int.tmod_eq_emod_of_nonneg (by omega)]; omega
        have a2 : (m : Int).tdiv 128 = (q : Int) := by rw [Int.tdiv_eq_ediv_of_nonneg (by omega)]; omega
        have a3 : IntKind.i64.wrap (r : Int) = (r : Int) := IntWalk.i64_in _ (by omega)
        have a4 : IntKind.u8.wrap (u.toNat : Int) = (u.toNat : Int) := wraps_u8 _ (by omega) (by omega)
        have a5 : IntKind.i64.wrap (128 + (r : Int)) = (u.toNat : Int) := by rw [hur]; exact IntWalk.i64_in _ (by omega)
        clear hr hq hu
        go_wp2_with (at_builtin; refine wp_appM (f := cU8) (H) rfl _ _ _ rfl Try.underlying61 infoU8 rfl 0 _ _ rfl rfl _ _ (u) rfl (by simp) rfl (by first | (simp only [maxLen]; omega) | (simp [maxLen]; done) | (simp [maxLen]; omega)) (by first | omega | (simp; done) | (simp; omega)) ?_)
        intro v' w5 H5
        have H6 := Lib.hid (show Hp [] w w5 [.row 5 1 v' (l ++ [u]).length ((l ++ [u]).map cU8)] by
          rw [List.map_append, List.length_append]; exact H5)
        clear H H5
        go_wp2_with fail
        go_roundw
        case rel => exact ⟨q, l ++ [u], rfl, by omega, by rw [List.append_assoc, ← HL.out, HS.out]; rfl, H6.out⟩
        case measure => simp [intOf]; omega
      · obtain ⟨u, hu⟩ := byte_ofV (y := (m : Int)) (by omega) (by omega)
        have HS := Lib.hid (show varT m = [u] by rw [varT_lo (by omega), show m = u.toNat by omega, UInt8.ofNat_toNat])
        have hmu : m = u.toNat := by omega
        subst hmu
        have hub := u.toNat_lt
        have hlt1 : ¬ (127 < (u.toNat : Int)) := by omega
        have hlt2 : ¬ (128 ≤ (u.toNat : Int)) := by omega
        have hw8 : IntKind.u8.wrap (u.toNat : Int) = (u.toNat : Int) := wraps_u8 _ (by omega) (by omega)
        clear hu
        go_wp2_with (at_builtin; refine wp_appM (f := cU8) (H) rfl _ _ _ rfl Try.underlying61 infoU8 rfl 0 _ _ rfl rfl _ _ (u) rfl (by simp) rfl (by first | (simp only [maxLen]; omega) | (simp [maxLen]; done) | (simp [maxLen]; omega)) (by first | omega | (simp; done) | (simp; omega)) ?_)
        intro v' w5 H5
        have H6 : Hp [] w w5 [.row 5 1 v' (l.length + 1) ((l ++ [u]).map cU8)] := by
          rw [List.map_append]; exact H5.recast (by simp)
        obtain ⟨B, d, rfl⟩ := H6.shape 0 rfl
        have hks := run_str (c := d) 61 9 5 Try.underlying61 Try.underlying5 Try.underlying9 (H6.rd 0 rfl)
        have HF := Lib.hid H6
        clear H H5 H6
        go_wp2_with fail
        go_ret
        have hE := HL.out
        rw [HS.out] at hE
        exact ⟨congrArg (fun b => Ending.returned (.string (ofB b))) hE, HF.out.fr⟩
  ·
    have hd : inB n 0 562949953421311 = false := by rw [← Bool.not_eq_true, inB_iff]; exact hb
    have hv : varS n = ByteArray.mk #[] := by rw [varS, varB, if_neg hb]; rfl
    rw [hv]
    go_enter Try.func28, Try.ntmps28
    go_wp2_with fail
    refine (l1In_any _ _ _ _).mono ?_
    rintro e wq ⟨rfl, hwq⟩
    rw [hwq, hd]
    clear hwq
    go_wp2_with fail
    go_ret
    exact ⟨rfl, Below.refl _ _⟩
end Go.Proofs.Ytlgclhnghpjgjaa
