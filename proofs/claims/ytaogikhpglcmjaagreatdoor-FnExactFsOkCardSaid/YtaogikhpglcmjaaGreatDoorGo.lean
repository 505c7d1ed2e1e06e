/-
  Many texts in one: Scan, Crc, Hash, VolAt.
-/
import Derived.Test.YtaogikhpglcmjaaGreatDoorGn
import Derived.Test.YtaogikhpglcmjaaGreatDoorGe
import Derived.Test.YtaogikhpglcmjaaGreatDoorGk
import Derived.Test.YtaogikhpglcmjaaGreatDoorGl
import Derived.Test.YtaogikhpglcmjaaGreatDoorGq
import Derived.Test.YtaogikhpglcmjaaGreatDoorGi
namespace Go.Proofs.YtaogikhpglcmjaaGreatDoor
open Go.RowKit

set_option linter.unusedVariables false
set_option linter.unusedSimpArgs false
theorem Hp.turnBlk {W : List Nat} {w0 w w' : World} {l : List Ob} {g : Nat} {t t' : TypeId} {cs cs' : List Value} (h : Hp W w0 w l) (i : Nat) (hi : l[i]? = some (.blk g t cs)) (K : Hp [g] w w' [.blk g t' cs']) : Hp W w0 w' (l.set i (.blk g t' cs')) :=
  h.turn i hi K.gr (K.ok _ List.mem_cons_self) fun b hb => .inl hb
theorem ext_tail (r : List UInt8) (k : Nat) : (ofB r).extract k (ofB r).size = ofB (r.drop k) := by
  rw [extract_ofB, List.take_of_length_le (by rw [List.length_drop, ofB_size]; omega)]
theorem ext_head (r : List UInt8) (k : Nat) : (ofB r).extract 0 k = ofB (r.take k) := by
  rw [extract_ofB, List.drop_zero, Nat.sub_zero]
abbrev scanC (st : Sc) : List Value := [.string (ofB st.1), .bool st.2]
set_option maxRecDepth 100000 in
set_option maxHeartbeats 2000000 in
theorem scanNum_any (g : Nat) (r : List UInt8) (bad : Bool) (w : World) (h : Bk w g 96 (scanC (r, bad))) (hr : r.length ≤ 1099511627776) :
    Calls Tryz.prog 57 #[.pointer (some ⟨g, 0, none⟩)] w fun e w' => e = .returned (.int .i64 ((numP (r, bad)).1 : Int)) ∧ Hp [g] w w' [.blk g 96 (scanC (numP (r, bad)).2)] := by
  have H := Hp.start_blk h
  clear h
  obtain ⟨S, hS⟩ : ∃ S, S = ofB r := ⟨_, rfl⟩
  have HSZ := Lib.hid (show S.size = r.length by rw [hS, ofB_size])
  have HTS := Lib.hid (show toB S = r by rw [hS, toB_ofB])
  have HS := Lib.hid hS
  simp only [scanC] at H ⊢
  rw [← hS] at H
  obtain ⟨R, hR⟩ : ∃ R, R = readV r := ⟨_, rfl⟩
  have hle := readV_le r
  rw [← hR] at hle
  have HR := Lib.hid hR
  clear hR hS
  obtain ⟨R1, R2⟩ := R
  simp only at hle
  have HN := Lib.hid (show numP (r, bad) = if (bad || decide (R2 = 0)) = true then (0, (r, true)) else (R1, (r.drop R2, false)) by rw [numP, ← HR.out])
  obtain ⟨Q, hQ⟩ : ∃ Q, Q = numP (r, bad) := ⟨_, rfl⟩
  rw [← hQ] at HN ⊢
  clear hQ
  obtain ⟨Q1, Q2, Q3⟩ := Q
  simp only
  have y0 := H.bat 0 rfl (j := 0) rfl
  have y1 := H.bat 0 rfl (j := 1) rfl
  go_enter Tryz.func57, Tryz.ntmps57
  go_wp2_with fail
  refine (implReadVar_any S _ (by rw [HSZ.out]; exact hr)).mono ?_
  rintro e w1 ⟨rfl, f1⟩
  rw [HTS.out, ← HR.out]
  replace H := H.go f1
  clear f1 y0 y1
  have y0 := H.bat 0 rfl (j := 0) rfl
  have y1 := H.bat 0 rfl (j := 1) rfl
  have q0 := H.bfree 0 rfl 0
  have q1 := H.bfree 0 rfl 1
  by_cases hz : bad = false ∧ R2 ≠ 0
  · obtain ⟨rfl, hz⟩ := hz
    have hz1 : ((R2 : Int) == 0) = false := by simpa using hz
    have hz2 : ¬ (R2 : Int) = 0 := by omega
    have hk0 : (0 : Int) ≤ (R2 : Int) := by omega
    have hk2 : R2 ≤ S.size := by rw [HSZ.out]; omega
    have hk1 : (R2 : Int) ≤ (S.size : Int) := by omega
    obtain ⟨t1, ht1⟩ : ∃ t, t = S.extract R2 S.size := ⟨_, rfl⟩
    have hex : S.extract R2 S.size = t1 := ht1.symm
    have HT1 := Lib.hid (show t1 = ofB (r.drop R2) by rw [ht1, HS.out, ext_tail])
    clear ht1
    have HQ := Lib.hid (HN.out.trans (if_neg (by simp [hz])))
    obtain ⟨rfl, rfl, rfl⟩ : Q1 = R1 ∧ Q2 = r.drop R2 ∧ Q3 = false := ⟨congrArg Prod.fst HQ.out, congrArg (fun p => p.2.1) HQ.out, congrArg (fun p => p.2.2) HQ.out⟩
    have H2 := Lib.hid (H.bput 0 rfl 0 (.string t1))
    go_wp2_with fail
    go_ret
    rw [← HT1.out]
    exact ⟨rfl, H2.out⟩
  · have HQ := Lib.hid (HN.out.trans (if_pos (by
      cases bad with
      | true => rfl
      | false => simpa using hz)))
    obtain ⟨rfl, rfl, rfl⟩ : Q1 = 0 ∧ Q2 = r ∧ Q3 = true := ⟨congrArg Prod.fst HQ.out, congrArg (fun p => p.2.1) HQ.out, congrArg (fun p => p.2.2) HQ.out⟩
    have H2 := Lib.hid (H.bput 0 rfl 1 (.bool true))
    cases bad with
    | true =>
      clear hz
      go_wp2_with fail
      go_ret
      rw [← HS.out]
      exact ⟨rfl, H2.out⟩
    | false =>
      have hz0 : R2 = 0 := by simpa using hz
      subst hz0
      clear hz
      go_wp2_with fail
      go_ret
      rw [← HS.out]
      exact ⟨rfl, H2.out⟩
set_option maxRecDepth 100000 in
set_option maxHeartbeats 2000000 in
theorem scanCut_any (g : Nat) (r : List UInt8) (bad : Bool) (n : Nat) (w : World) (h : Bk w g 96 (scanC (r, bad))) (hr : r.length ≤ 1099511627776) :
    Calls Tryz.prog 56 #[.pointer (some ⟨g, 0, none⟩), .int .i64 (n : Int)] w fun e w' => e = .returned (.string (ofB (cutP (r, bad) n).1)) ∧ Hp [g] w w' [.blk g 96 (scanC (cutP (r, bad) n).2)] := by
  have H := Hp.start_blk h
  clear h
  obtain ⟨S, hS⟩ : ∃ S, S = ofB r := ⟨_, rfl⟩
  have HSZ := Lib.hid (show S.size = r.length by rw [hS, ofB_size])
  have HS := Lib.hid hS
  simp only [scanC] at H ⊢
  rw [← hS] at H
  clear hS
  have HN := Lib.hid (show cutP (r, bad) n = if (bad || decide (r.length < n)) = true then ([], (r, true)) else (r.take n, (r.drop n, false)) from rfl)
  obtain ⟨Q, hQ⟩ : ∃ Q, Q = cutP (r, bad) n := ⟨_, rfl⟩
  rw [← hQ] at HN ⊢
  clear hQ
  obtain ⟨Q1, Q2, Q3⟩ := Q
  simp only
  have y0 := H.bat 0 rfl (j := 0) rfl
  have y1 := H.bat 0 rfl (j := 1) rfl
  have q0 := H.bfree 0 rfl 0
  have q1 := H.bfree 0 rfl 1
  have hn0 : (0 : Int) ≤ (n : Int) := by omega
  go_enter Tryz.func56, Tryz.ntmps56
  cases bad with
  | true =>
    have HQ := Lib.hid (HN.out.trans (if_pos (by rfl)))
    obtain ⟨rfl, rfl, rfl⟩ : Q1 = [] ∧ Q2 = r ∧ Q3 = true := ⟨congrArg Prod.fst HQ.out, congrArg (fun p => p.2.1) HQ.out, congrArg (fun p => p.2.2) HQ.out⟩
    have H2 := Lib.hid (H.bput 0 rfl 1 (.bool true))
    go_wp2_with fail
    go_ret
    rw [← HS.out]
    exact ⟨rfl, H2.out⟩
  | false =>
    go_wp2_with fail
    refine (within_any (n : Int) 0 (S.size : Int) _).mono ?_
    rintro e w1 ⟨rfl, hw⟩
    subst hw
    by_cases hz : n ≤ S.size
    · have hb : inB (n : Int) 0 (S.size : Int) = true := inB_iff.2 ⟨by omega, by omega⟩
      have hk1 : (n : Int) ≤ (S.size : Int) := by omega
      rw [hb]
      clear hb
      obtain ⟨t0, ht0⟩ : ∃ t, t = S.extract 0 n := ⟨_, rfl⟩
      have hex0 : S.extract 0 n = t0 := ht0.symm
      have HT0 := Lib.hid (show t0 = ofB (r.take n) by rw [ht0, HS.out, ext_head])
      obtain ⟨t1, ht1⟩ : ∃ t, t = S.extract n S.size := ⟨_, rfl⟩
      have hex : S.extract n S.size = t1 := ht1.symm
      have HT1 := Lib.hid (show t1 = ofB (r.drop n) by rw [ht1, HS.out, ext_tail])
      clear ht0 ht1
      have HQ := Lib.hid (HN.out.trans (if_neg (by have := HSZ.out; simp; omega)))
      obtain ⟨rfl, rfl, rfl⟩ : Q1 = r.take n ∧ Q2 = r.drop n ∧ Q3 = false := ⟨congrArg Prod.fst HQ.out, congrArg (fun p => p.2.1) HQ.out, congrArg (fun p => p.2.2) HQ.out⟩
      have H2 := Lib.hid (H.bput 0 rfl 0 (.string t1))
      go_wp2_with fail
      go_ret
      rw [← HT1.out, ← HT0.out]
      exact ⟨rfl, H2.out⟩
    · have hb : inB (n : Int) 0 (S.size : Int) = false := by
        cases hq : inB (n : Int) 0 (S.size : Int) with
        | false => rfl
        | true => have := inB_iff.1 hq; omega
      rw [hb]
      clear hb
      have HQ := Lib.hid (HN.out.trans (if_pos (by have := HSZ.out; simp; omega)))
      obtain ⟨rfl, rfl, rfl⟩ : Q1 = [] ∧ Q2 = r ∧ Q3 = true := ⟨congrArg Prod.fst HQ.out, congrArg (fun p => p.2.1) HQ.out, congrArg (fun p => p.2.2) HQ.out⟩
      have H2 := Lib.hid (H.bput 0 rfl 1 (.bool true))
      go_wp2_with fail
      go_ret
      rw [← HS.out]
      exact ⟨rfl, H2.out⟩
theorem numP_len (st : Sc) : (numP st).2.1.length ≤ st.1.length := by
  rw [numP]; split
  · exact Nat.le_refl _
  · simp only [List.length_drop]; omega
theorem cutP_len (st : Sc) (n : Nat) : (cutP st n).2.1.length ≤ st.1.length := by
  rw [cutP]; split
  · exact Nat.le_refl _
  · simp only [List.length_drop]; omega
theorem pieceP_len (st : Sc) : (pieceP st).2.1.length ≤ st.1.length := Nat.le_trans (cutP_len _ _) (numP_len st)
theorem manyP_len (st : Sc) (m : Nat) : (manyP st m).2.1.length ≤ st.1.length := by
  rw [manyP]; split
  · exact numP_len st
  · split <;> exact numP_len st
theorem pieceP_size (st : Sc) : (pieceP st).1.length ≤ st.1.length := by
  rw [pieceP, cutP]; split
  · simp
  · have := numP_len st
    simp only [List.length_take]; omega
set_option maxRecDepth 100000 in
set_option maxHeartbeats 2000000 in
theorem scanPiece_any (g : Nat) (st : Sc) (w : World) (h : Bk w g 96 (scanC st)) (hr : st.1.length ≤ 1099511627776) :
    Calls Tryz.prog 59 #[.pointer (some ⟨g, 0, none⟩)] w fun e w' => e = .returned (.string (ofB (pieceP st).1)) ∧ Hp [g] w w' [.blk g 96 (scanC (pieceP st).2)] := by
  have hl := numP_len st
  rw [show pieceP st = cutP ((numP st).2.1, (numP st).2.2) (numP st).1 from rfl]
  obtain ⟨Q, hQ⟩ : ∃ Q, Q = numP st := ⟨_, rfl⟩
  have HN := Lib.hid (show numP (st.1, st.2) = Q from hQ.symm)
  rw [← hQ] at hl ⊢
  clear hQ
  obtain ⟨Q1, Q2, Q3⟩ := Q
  simp only at hl ⊢
  obtain ⟨P, hP⟩ : ∃ P, P = cutP (Q2, Q3) Q1 := ⟨_, rfl⟩
  rw [← hP]
  have HP := Lib.hid hP
  clear hP
  have HB := Lib.hid h
  clear h
  go_enter Tryz.func59, Tryz.ntmps59
  go_wp2_with fail
  refine (scanNum_any g st.1 st.2 _ HB.out hr).mono ?_
  rintro e w1 ⟨rfl, K⟩
  rw [HN.out] at K ⊢
  have HK := Lib.hid K
  clear K
  have hq : Q2.length ≤ 1099511627776 := Nat.le_trans hl hr
  go_wp2_with fail
  refine (scanCut_any g Q2 Q3 Q1 _ (HK.out.blk 0 rfl) hq).mono ?_
  rintro e w2 ⟨rfl, K2⟩
  rw [← HP.out] at K2 ⊢
  have H2 := Lib.hid (HK.out.turnBlk 0 rfl K2)
  clear K2
  go_wp2_with fail
  go_ret
  exact ⟨rfl, H2.out⟩
set_option maxRecDepth 100000 in
set_option maxHeartbeats 2000000 in
theorem scanMany_any (g : Nat) (st : Sc) (most : Nat) (w : World) (h : Bk w g 96 (scanC st)) (hr : st.1.length ≤ 1099511627776) :
    Calls Tryz.prog 58 #[.pointer (some ⟨g, 0, none⟩), .int .i64 (most : Int)] w fun e w' => e = .returned (.int .i64 ((manyP st most).1 : Int)) ∧ Hp [g] w w' [.blk g 96 (scanC (manyP st most).2)] := by
  rw [show manyP st most = if most < (numP st).1 then (0, ((numP st).2.1, true)) else if (numP st).2.2 = true then (0, (numP st).2) else ((numP st).1, (numP st).2) from rfl]
  obtain ⟨Q, hQ⟩ : ∃ Q, Q = numP st := ⟨_, rfl⟩
  have HN := Lib.hid (show numP (st.1, st.2) = Q from hQ.symm)
  rw [← hQ]
  clear hQ
  obtain ⟨Q1, Q2, Q3⟩ := Q
  simp only
  obtain ⟨P, hP⟩ : ∃ P : Nat × Sc, P = if most < Q1 then (0, (Q2, true)) else if Q3 = true then (0, (Q2, Q3)) else (Q1, (Q2, Q3)) := ⟨_, rfl⟩
  rw [← hP]
  have HP := Lib.hid hP
  clear hP
  have HB := Lib.hid h
  clear h
  obtain ⟨P1, P2, P3⟩ := P
  go_enter Tryz.func58, Tryz.ntmps58
  go_wp2_with fail
  refine (scanNum_any g st.1 st.2 _ HB.out hr).mono ?_
  rintro e w1 ⟨rfl, K⟩
  rw [HN.out] at K ⊢
  simp only [scanC] at K ⊢
  have y1 := K.bat 0 rfl (j := 1) rfl
  have q1 := K.bfree 0 rfl 1
  by_cases hm : most < Q1
  · have hm1 : (most : Int) < (Q1 : Int) := by omega
    have H2 := Lib.hid (K.bput 0 rfl 1 (.bool true))
    have HE := Lib.hid (HP.out.trans (if_pos hm))
    obtain ⟨rfl, rfl, rfl⟩ : P1 = 0 ∧ P2 = Q2 ∧ P3 = true := ⟨congrArg Prod.fst HE.out, congrArg (fun p => p.2.1) HE.out, congrArg (fun p => p.2.2) HE.out⟩
    go_wp2_with fail
    go_ret
    exact ⟨rfl, H2.out⟩
  · have hm1 : ¬ (most : Int) < (Q1 : Int) := by omega
    have HE := Lib.hid (HP.out.trans (if_neg hm))
    have H2 := Lib.hid K
    clear K
    cases Q3 with
    | true =>
      obtain ⟨rfl, rfl, rfl⟩ : P1 = 0 ∧ P2 = Q2 ∧ P3 = true := ⟨congrArg Prod.fst HE.out, congrArg (fun p => p.2.1) HE.out, congrArg (fun p => p.2.2) HE.out⟩
      go_wp2_with fail
      go_ret
      exact ⟨rfl, H2.out⟩
    | false =>
      obtain ⟨rfl, rfl, rfl⟩ : P1 = Q1 ∧ P2 = Q2 ∧ P3 = false := ⟨congrArg Prod.fst HE.out, congrArg (fun p => p.2.1) HE.out, congrArg (fun p => p.2.2) HE.out⟩
      go_wp2_with fail
      go_ret
      exact ⟨rfl, H2.out⟩
end Go.Proofs.YtaogikhpglcmjaaGreatDoor

namespace Go.Proofs.YtaogikhpglcmjaaGreatDoor
open Go.RowKit

set_option linter.unusedVariables false
set_option linter.unusedSimpArgs false
set_option maxRecDepth 100000 in
set_option maxHeartbeats 2000000 in
theorem implCrc_any (s : ByteArray) (w : World) (hs : s.size ≤ 1099511627776) :
    Calls Tryz.prog 97 #[.string s] w fun e w' => e = .returned (.int .i64 (crcZ (toB s))) ∧ w' = w := by
  have HT := Lib.hid (show (toB s).length = s.size from toB_len s)
  obtain ⟨n, hn⟩ : ∃ n, n = s.size := ⟨_, rfl⟩
  have HN := Lib.hid hn
  clear hn
  go_enter Tryz.func97, Tryz.ntmps97
  go_wp2_with fail
  go_loopw [3, 4] (fun cv iv wr => ∃ (i c : Nat), iv = .int .i64 i ∧ cv = .int .i64 c ∧ i ≤ n ∧ c < 4294967296 ∧ c = ((toB s).take i).foldl crcByte 4294967295 ∧ w = wr) (fun _ iv _ => n - (intOf iv).toNat)
  case atStart => exact ⟨0, 4294967295, rfl, rfl, by omega, by decide, rfl, rfl⟩
  case round =>
    obtain ⟨i, c, rfl, rfl, hi, hc, hcf, hw⟩ := hrel
    have HC := Lib.hid hcf
    have HW := Lib.hid hw
    clear hcf hw
    by_cases hlt : i < n
    · have hlt1 : (i : Int) < (s.size : Int) := by rw [← HN.out]; omega
      have hks : i < s.size := by rw [← HN.out]; exact hlt
      have hi0 : (0 : Int) ≤ (i : Int) := by omega
      obtain ⟨b, hb⟩ := at_some (HT.out.trans HN.out.symm) hlt
      have hbb := b.toNat_lt
      have hg := toB_getC hb hks
      have HS := Lib.hid (crc_take hb)
      obtain ⟨c0, hc0⟩ : ∃ x, x = c ^^^ b.toNat := ⟨_, rfl⟩
      have hc0b : c0 < 4294967296 := by rw [hc0]; exact xor32 hc (by omega)
      have hx : bits .xor .i64 (c : Int) (b.toNat : Int) = (c0 : Int) := by rw [hc0]; exact bits_xor hc (by omega)
      have HC0 := Lib.hid hc0
      clear hc0 hb
      go_wp2_with fail
      go_loopw [3, 18] (fun cv kv wr => ∃ (k d : Nat), kv = .int .i64 k ∧ cv = .int .i64 d ∧ k ≤ 8 ∧ d < 4294967296 ∧ d = crcBits k c0 ∧ w = wr) (fun _ kv _ => 8 - (intOf kv).toNat)
      case atStart => exact ⟨0, c0, rfl, rfl, by omega, hc0b, rfl, HW.out⟩
      case round =>
        obtain ⟨k, d, rfl, rfl, hk, hd, hdf, hw⟩ := hrel
        have HD := Lib.hid hdf
        have HW := Lib.hid hw
        clear hdf hw
        have hk0 : (0 : Int) ≤ (k : Int) := by omega
        by_cases hk8 : k < 8
        · have hk81 : (k : Int) < 8 := by omega
          obtain ⟨q, hq1, hq2⟩ : ∃ q : Nat, 2 * q ≤ d ∧ d ≤ 2 * q + 1 := ⟨d / 2, by omega, by omega⟩
          have a2 : (d : Int) / 2 = (q : Int) := by omega
          have a4 : (d : Int).tdiv 2 = (q : Int) := by rw [Int.tdiv_eq_ediv_of_nonneg (by omega)]; omega
          have hqd : d / 2 = q := by omega
          by_cases hr : d % 2 = 1
          · have a1 : bits .and .i64 (d : Int) 1 = 1 := by rw [and_1c (by omega) (by omega)]; omega
            have a3 : (d : Int).tmod 2 = 1 := by rw [Int.tmod_eq_emod_of_nonneg (by omega)]; omega
            obtain ⟨e, he⟩ : ∃ x, x = q ^^^ 2197175160 := ⟨_, rfl⟩
            have heb : e < 4294967296 := by rw [he]; exact xor32 (by omega) (by decide)
            have hx2 : bits .xor .i64 (q : Int) 2197175160 = (e : Int) := by rw [he]; exact bits_xor (b := 2197175160) (by omega) (by decide)
            have HE := Lib.hid (show e = crcBits (k + 1) c0 by rw [crcBits, ← HD.out, crcBit, if_pos hr, hqd, he])
            clear he hqd
            go_wp2_with fail
            go_roundw
            case rel => exact ⟨k + 1, e, by go_num, rfl, by omega, heb, HE.out, HW.out⟩
            case measure => simp [intOf]; omega
          · have hr0 : d % 2 = 0 := by omega
            have a1 : bits .and .i64 (d : Int) 1 = 0 := by rw [and_1c (by omega) (by omega)]; omega
            have a3 : (d : Int).tmod 2 = 0 := by rw [Int.tmod_eq_emod_of_nonneg (by omega)]; omega
            have HE := Lib.hid (show q = crcBits (k + 1) c0 by rw [crcBits, ← HD.out, crcBit, if_neg hr, hqd])
            clear hqd
            go_wp2_with fail
            go_roundw
            case rel => exact ⟨k + 1, q, by go_num, rfl, by omega, by omega, HE.out, HW.out⟩
            case measure => simp [intOf]; omega
        · have hk81 : ¬ ((k : Int) < 8) := by omega
          have hk8e : k = 8 := by omega
          have HE := Lib.hid (show d = ((toB s).take (i + 1)).foldl crcByte 4294967295 by rw [HS.out, ← HC.out, crcByte, ← HC0.out, HD.out, hk8e])
          clear hk8e
          go_wp2_with fail
          go_roundw
          case rel => exact ⟨i + 1, d, by go_num, rfl, by omega, hd, HE.out, HW.out⟩
          case measure => simp [intOf]; omega
    · have hlt1 : ¬ ((i : Int) < (s.size : Int)) := by rw [← HN.out]; omega
      have hz : crcZ (toB s) = 4294967295 - (c : Int) := by
        rw [crcZ, crcL, HC.out, List.take_of_length_le (by rw [HT.out, ← HN.out]; omega)]
      have HZ := Lib.hid hz
      have hwc : IntKind.i64.wrap (4294967295 - (c : Int)) = 4294967295 - (c : Int) := IntWalk.i64_in _ (by omega)
      clear hz
      go_wp2_with fail
      go_ret
      rw [HZ.out]
      exact ⟨rfl, HW.out.symm⟩
set_option maxRecDepth 100000 in
set_option maxHeartbeats 2000000 in
theorem specCrc_any (s : ByteArray) (w : World) (hs : s.size ≤ 1099511627776) :
    Calls Tryz.prog 89 #[.string s] w fun e w' => e = .returned (.int .i64 (crcZ (toB s))) ∧ w' = w := by
  have HT := Lib.hid (show (toB s).length = s.size from toB_len s)
  obtain ⟨n, hn⟩ : ∃ n, n = s.size := ⟨_, rfl⟩
  have HN := Lib.hid hn
  clear hn
  go_enter Tryz.func89, Tryz.ntmps89
  go_wp2_with fail
  go_loopw [3, 4] (fun cv iv wr => ∃ (i c : Nat), iv = .int .i64 i ∧ cv = .int .i64 c ∧ i ≤ n ∧ c < 4294967296 ∧ c = ((toB s).take i).foldl crcByte 4294967295 ∧ w = wr) (fun _ iv _ => n - (intOf iv).toNat)
  case atStart => exact ⟨0, 4294967295, rfl, rfl, by omega, by decide, rfl, rfl⟩
  case round =>
    obtain ⟨i, c, rfl, rfl, hi, hc, hcf, hw⟩ := hrel
    have HC := Lib.hid hcf
    have HW := Lib.hid hw
    clear hcf hw
    by_cases hlt : i < n
    · have hlt1 : (i : Int) < (s.size : Int) := by rw [← HN.out]; omega
      have hks : i < s.size := by rw [← HN.out]; exact hlt
      have hi0 : (0 : Int) ≤ (i : Int) := by omega
      obtain ⟨b, hb⟩ := at_some (HT.out.trans HN.out.symm) hlt
      have hbb := b.toNat_lt
      have hg := toB_getC hb hks
      have HS := Lib.hid (crc_take hb)
      obtain ⟨c0, hc0⟩ : ∃ x, x = c ^^^ b.toNat := ⟨_, rfl⟩
      have hc0b : c0 < 4294967296 := by rw [hc0]; exact xor32 hc (by omega)
      have hx : bits .xor .i64 (c : Int) (b.toNat : Int) = (c0 : Int) := by rw [hc0]; exact bits_xor hc (by omega)
      have HC0 := Lib.hid hc0
      clear hc0 hb
      go_wp2_with fail
      go_loopw [3, 5] (fun cv kv wr => ∃ (k d : Nat), kv = .int .i64 k ∧ cv = .int .i64 d ∧ k ≤ 8 ∧ d < 4294967296 ∧ d = crcBits k c0 ∧ w = wr) (fun _ kv _ => 8 - (intOf kv).toNat)
      case atStart => exact ⟨0, c0, rfl, rfl, by omega, hc0b, rfl, HW.out⟩
      case round =>
        obtain ⟨k, d, rfl, rfl, hk, hd, hdf, hw⟩ := hrel
        have HD := Lib.hid hdf
        have HW := Lib.hid hw
        clear hdf hw
        have hk0 : (0 : Int) ≤ (k : Int) := by omega
        by_cases hk8 : k < 8
        · have hk81 : (k : Int) < 8 := by omega
          obtain ⟨q, hq1, hq2⟩ : ∃ q : Nat, 2 * q ≤ d ∧ d ≤ 2 * q + 1 := ⟨d / 2, by omega, by omega⟩
          have a2 : (d : Int) / 2 = (q : Int) := by omega
          have a4 : (d : Int).tdiv 2 = (q : Int) := by rw [Int.tdiv_eq_ediv_of_nonneg (by omega)]; omega
          have hqd : d / 2 = q := by omega
          by_cases hr : d % 2 = 1
          · have a1 : bits .and .i64 (d : Int) 1 = 1 := by rw [and_1c (by omega) (by omega)]; omega
            have a3 : (d : Int).tmod 2 = 1 := by rw [Int.tmod_eq_emod_of_nonneg (by omega)]; omega
            obtain ⟨e, he⟩ : ∃ x, x = q ^^^ 2197175160 := ⟨_, rfl⟩
            have heb : e < 4294967296 := by rw [he]; exact xor32 (by omega) (by decide)
            have hx2 : bits .xor .i64 (q : Int) 2197175160 = (e : Int) := by rw [he]; exact bits_xor (b := 2197175160) (by omega) (by decide)
            have HE := Lib.hid (show e = crcBits (k + 1) c0 by rw [crcBits, ← HD.out, crcBit, if_pos hr, hqd, he])
            clear he hqd
            go_wp2_with fail
            go_roundw
            case rel => exact ⟨k + 1, e, by go_num, rfl, by omega, heb, HE.out, HW.out⟩
            case measure => simp [intOf]; omega
          · have hr0 : d % 2 = 0 := by omega
            have a1 : bits .and .i64 (d : Int) 1 = 0 := by rw [and_1c (by omega) (by omega)]; omega
            have a3 : (d : Int).tmod 2 = 0 := by rw [Int.tmod_eq_emod_of_nonneg (by omega)]; omega
            have HE := Lib.hid (show q = crcBits (k + 1) c0 by rw [crcBits, ← HD.out, crcBit, if_neg hr, hqd])
            clear hqd
            go_wp2_with fail
            go_roundw
            case rel => exact ⟨k + 1, q, by go_num, rfl, by omega, by omega, HE.out, HW.out⟩
            case measure => simp [intOf]; omega
        · have hk81 : ¬ ((k : Int) < 8) := by omega
          have hk8e : k = 8 := by omega
          have HE := Lib.hid (show d = ((toB s).take (i + 1)).foldl crcByte 4294967295 by rw [HS.out, ← HC.out, crcByte, ← HC0.out, HD.out, hk8e])
          clear hk8e
          go_wp2_with fail
          go_roundw
          case rel => exact ⟨i + 1, d, by go_num, rfl, by omega, hd, HE.out, HW.out⟩
          case measure => simp [intOf]; omega
    · have hlt1 : ¬ ((i : Int) < (s.size : Int)) := by rw [← HN.out]; omega
      have hz : crcZ (toB s) = 4294967295 - (c : Int) := by
        rw [crcZ, crcL, HC.out, List.take_of_length_le (by rw [HT.out, ← HN.out]; omega)]
      have HZ := Lib.hid hz
      have hwc : IntKind.i64.wrap (4294967295 - (c : Int)) = 4294967295 - (c : Int) := IntWalk.i64_in _ (by omega)
      clear hz
      go_wp2_with fail
      go_ret
      rw [HZ.out]
      exact ⟨rfl, HW.out.symm⟩
end Go.Proofs.YtaogikhpglcmjaaGreatDoor

namespace Go.Proofs.YtaogikhpglcmjaaGreatDoor
open Go.RowKit

set_option linter.unusedVariables false
set_option linter.unusedSimpArgs false
set_option maxRecDepth 100000 in
set_option maxHeartbeats 2000000 in
theorem implHashOf_any (s : ByteArray) (w : World) (hs : s.size ≤ 16777216) (hk : KT w) :
    Calls Tryz.prog 98 #[.string s] w fun e w' => e = .returned (.int .i64 (hashN (toB s))) ∧ Fr w w' := by
  obtain ⟨q, hq⟩ : ∃ q, q = hashN (toB s) := ⟨_, rfl⟩
  have HQ := Lib.hid hq
  rw [← hq]
  clear hq
  have HL := Lib.hid (keyR_len (toB s))
  obtain ⟨K, hK⟩ : ∃ K, K = keyR (toB s) := ⟨_, rfl⟩
  have HK := Lib.hid hK
  clear hK
  obtain ⟨kk, kb⟩ := K
  go_enter Tryz.func98, Tryz.ntmps98
  go_wp2_with fail
  refine (implKeyOf_any s _ hs hk).mono ?_
  rintro e w1 ⟨rfl, f1⟩
  rw [← HK.out]
  cases kb with
  | true =>
    have hl : (ofB kk).size ≤ 1099511627776 := by
      have := HL.out
      rw [← HK.out] at this
      rw [ofB_size]
      exact Nat.le_trans this (by decide)
    go_wp2_with fail
    refine (implCrc_any (ofB kk) _ hl).mono ?_
    rintro e w2 ⟨rfl, f2⟩
    have F2 := Lib.hid f2
    clear f2
    rw [toB_ofB]
    obtain ⟨z, hz⟩ : ∃ z, z = crcZ kk := ⟨_, rfl⟩
    have HZ := Lib.hid hz
    have h0 : 0 ≤ z := by rw [hz]; exact (crcZ_in kk).1
    have h1 : z ≤ 4294967295 := by rw [hz]; exact (crcZ_in kk).2
    rw [← hz]
    clear hz
    have HE := Lib.hid (show q = z.tmod 16 by rw [Int.tmod_eq_emod_of_nonneg h0, HZ.out, HQ.out, hashN, ← HK.out, if_pos rfl])
    obtain ⟨y, hy⟩ : ∃ y, y = z.tmod 16 := ⟨_, rfl⟩
    have HY := Lib.hid hy
    have hy2 : z.tmod 16 = y := hy.symm
    have hy0 : 0 ≤ y ∧ y < 16 := by rw [hy, Int.tmod_eq_emod_of_nonneg h0]; omega
    have hyw : IntKind.i64.wrap y = y := IntWalk.i64_in _ (by omega)
    clear hy
    go_wp2_with fail
    go_ret
    rw [HE.out, HY.out, F2.out]
    exact ⟨rfl, f1⟩
  | false =>
    have HE := Lib.hid (show q = -1 by rw [HQ.out, hashN, ← HK.out, if_neg (by simp)])
    go_wp2_with fail
    go_ret
    rw [HE.out]
    exact ⟨rfl, f1⟩
set_option maxRecDepth 100000 in
set_option maxHeartbeats 2000000 in
theorem specHashOf_any (s : ByteArray) (w : World) (hs : s.size ≤ 16777216) :
    Calls Tryz.prog 90 #[.string s] w fun e w' => e = .returned (.int .i64 (hashN (toB s))) ∧ Fr w w' := by
  obtain ⟨q, hq⟩ : ∃ q, q = hashN (toB s) := ⟨_, rfl⟩
  have HQ := Lib.hid hq
  rw [← hq]
  clear hq
  have HL := Lib.hid (keyR_len (toB s))
  obtain ⟨K, hK⟩ : ∃ K, K = keyR (toB s) := ⟨_, rfl⟩
  have HK := Lib.hid hK
  clear hK
  obtain ⟨kk, kb⟩ := K
  go_enter Tryz.func90, Tryz.ntmps90
  go_wp2_with fail
  refine (specKeyOf_any s _ hs).mono ?_
  rintro e w1 ⟨rfl, f1⟩
  rw [← HK.out]
  cases kb with
  | true =>
    have hl : (ofB kk).size ≤ 1099511627776 := by
      have := HL.out
      rw [← HK.out] at this
      rw [ofB_size]
      exact Nat.le_trans this (by decide)
    go_wp2_with fail
    refine (specCrc_any (ofB kk) _ hl).mono ?_
    rintro e w2 ⟨rfl, f2⟩
    have F2 := Lib.hid f2
    clear f2
    rw [toB_ofB]
    obtain ⟨z, hz⟩ : ∃ z, z = crcZ kk := ⟨_, rfl⟩
    have HZ := Lib.hid hz
    have h0 : 0 ≤ z := by rw [hz]; exact (crcZ_in kk).1
    have h1 : z ≤ 4294967295 := by rw [hz]; exact (crcZ_in kk).2
    rw [← hz]
    clear hz
    have HE := Lib.hid (show q = z.tmod 16 by rw [Int.tmod_eq_emod_of_nonneg h0, HZ.out, HQ.out, hashN, ← HK.out, if_pos rfl])
    obtain ⟨y, hy⟩ : ∃ y, y = z.tmod 16 := ⟨_, rfl⟩
    have HY := Lib.hid hy
    have hy2 : z.tmod 16 = y := hy.symm
    have hy0 : 0 ≤ y ∧ y < 16 := by rw [hy, Int.tmod_eq_emod_of_nonneg h0]; omega
    have hyw : IntKind.i64.wrap y = y := IntWalk.i64_in _ (by omega)
    clear hy
    go_wp2_with fail
    go_ret
    rw [HE.out, HY.out, F2.out]
    exact ⟨rfl, f1⟩
  | false =>
    have HE := Lib.hid (show q = -1 by rw [HQ.out, hashN, ← HK.out, if_neg (by simp)])
    go_wp2_with fail
    go_ret
    rw [HE.out]
    exact ⟨rfl, f1⟩
end Go.Proofs.YtaogikhpglcmjaaGreatDoor

namespace Go.Proofs.YtaogikhpglcmjaaGreatDoor
open Go.RowKit

set_option linter.unusedVariables false
set_option linter.unusedSimpArgs false
theorem atZ_hit {l : List Nod} {id : Int} {k : Nat} {x : Nod} (hno : ∀ y ∈ l.take k, y.1 ≠ id) (hx : l[k]? = some x) (he : x.1 = id) : atZ l id = (k : Int) := by
  have : atN l id = some k := by
    obtain ⟨hk, hxe⟩ := List.getElem?_eq_some_iff.1 hx
    refine List.findIdx?_eq_some_iff_getElem.2 ⟨hk, by rw [hxe]; simpa using he, fun j hj => ?_⟩
    have hjm : l[j] ∈ l.take k := by
      rw [List.mem_take_iff_getElem]
      exact ⟨j, by omega, rfl⟩
    simpa using hno _ hjm
  rw [atZ, this]
theorem atZ_miss {l : List Nod} {id : Int} (hno : ∀ y ∈ l, y.1 ≠ id) : atZ l id = -1 := by
  have : atN l id = none := by
    refine List.findIdx?_eq_none_iff.2 fun x hx => ?_
    simpa using hno x hx
  rw [atZ, this]
theorem atZ_cases (l : List Nod) (id : Int) : (atZ l id = -1 ∧ atN l id = none) ∨ ∃ k : Nat, atZ l id = (k : Int) ∧ atN l id = some k ∧ k < l.length := by
  cases h : atN l id with
  | none => exact .inl ⟨by rw [atZ, h], rfl⟩
  | some k => exact .inr ⟨k, by rw [atZ, h], rfl, atN_lt h⟩
theorem nodes_at {L : List (Value × Nod)} {k : Nat} {p : Value × Nod} (h : L[k]? = some p) : (nodes L)[k]? = some p.2 := by rw [nodes, List.getElem?_map, h]; rfl
set_option maxRecDepth 100000 in
theorem atC_any (x0 x1 x2 : Int) (x3 : ByteArray) (v : Value) (id : Int) (g : Nat) (w : World) (hg : w.cell? ⟨g, 0, none⟩ = some (.int .i64 id)) (hv : v.oneCell' = true) :
    Calls Tryz.prog 128 #[.agg #[.int .i64 x0, .int .i64 x1, .int .i64 x2, .string x3, v], .pointer (some ⟨g, 0, none⟩)] w fun e w' => e = .returned (.bool (decide (x0 = id))) ∧ Fr w w' := by
  have hgl := World.block_lt_of_cell? w _ hg
  simp only at hgl
  have H := (Hp.start w).lay_ 90 [.int .i64 x0, .int .i64 x1, .int .i64 x2, .string x3, v] rfl
  have F := Lib.hid H.fr
  have h1 := fr_cellM F.out hg
  by_cases h2 : x0 = id
  · subst h2
    go_enter Tryz.func128, Tryz.ntmps128
    go_wp2_with fail
    go_ret
    exact ⟨by simp, F.out⟩
  · have h2' : (x0 == id) = false := by simpa using h2
    have HE := Lib.hid (show decide (x0 = id) = false from decide_eq_false h2)
    go_enter Tryz.func128, Tryz.ntmps128
    go_wp2_with fail
    go_ret
    rw [HE.out]
    exact ⟨rfl, F.out⟩
set_option maxRecDepth 100000 in
set_option maxHeartbeats 2000000 in
theorem implAtF_any (A : Option Addr) (n c : Nat) (L : List (Value × Nod)) (id : Int) (g : Nat) (w : World) (h : RdN w A n L) (hg : w.cell? ⟨g, 0, none⟩ = some (.int .i64 id)) (hn : n ≤ 1048576) :
    Calls Tryz.prog 113 #[.slice A n c, .func (.func 128) #[] #[.pointer (some ⟨g, 0, none⟩)]] w fun e w' => e = .returned (.int .i64 (atZ (nodes L) id)) ∧ Fr w w' := by
  have HL := Lib.hid h.len
  have HR := Lib.hid h
  have HG := Lib.hid hg
  clear h hg
  obtain ⟨z, hz⟩ : ∃ z, z = atZ (nodes L) id := ⟨_, rfl⟩
  rw [← hz]
  have HZ := Lib.hid hz
  clear hz
  go_enter Tryz.func113, Tryz.ntmps113
  go_wp2_with fail
  go_loopw [5, 8] (fun jv iv wr => ∃ i : Nat, iv = .int .i64 i ∧ i ≤ n ∧ (∀ y ∈ (nodes L).take i, y.1 ≠ id) ∧ Fr w wr) (fun _ iv _ => n - (intOf iv).toNat)
  case atStart => exact ⟨0, rfl, by omega, by simp, Below.refl _ _⟩
  case round =>
    obtain ⟨i, rfl, hi, hno, hf⟩ := hrel
    have HO := Lib.hid hno
    have HF := Lib.hid hf
    clear hno hf
    have hi0 : (0 : Int) ≤ (i : Int) := by omega
    by_cases hlt : i < n
    · have hi1 : (i : Int) < (n : Int) := by omega
      obtain ⟨⟨v, x0, x1, x2, x3, es⟩, hx⟩ := some_at HL.out hlt
      obtain ⟨bk, of, B1, d1, rfl, e1, r1, c1⟩ := (HR.out.fr HF.out).elem hx
      simp only at e1 r1
      subst e1
      have ca0 := c1 0 _ rfl; simp only [Nat.add_zero] at ca0
      have ca1 := c1 1 _ rfl
      have ca2 := c1 2 _ rfl
      have ca3 := c1 3 _ rfl
      have ca4 := c1 4 _ rfl
      have HX := Lib.hid (nodes_at hx)
      clear hx c1 r1
      go_wp2_with fail
      refine (atC_any x0 x1 x2 x3 _ id g _ (fr_cellM HF.out HG.out) rfl).mono ?_
      rintro e w2 ⟨rfl, f2⟩
      by_cases he : x0 = id
      · have HE := Lib.hid (HZ.out.trans (atZ_hit HO.out HX.out he))
        have hd : decide (x0 = id) = true := decide_eq_true he
        rw [hd]
        clear he hd
        go_wp2_with fail
        go_ret
        rw [HE.out]
        exact ⟨rfl, HF.out.then f2⟩
      · have HO2 := Lib.hid (show ∀ y ∈ (nodes L).take (i + 1), y.1 ≠ id from fun y hy => by
          rw [List.take_add_one, HX.out] at hy
          rcases List.mem_append.1 hy with h | h
          · exact HO.out y h
          · simp only [Option.toList_some, List.mem_singleton] at h
            rw [h]; exact he)
        have hd : decide (x0 = id) = false := decide_eq_false he
        rw [hd]
        clear he hd
        have F2 := Lib.hid (HF.out.then f2)
        clear f2
        go_wp2_with fail
        go_roundw
        case rel => exact ⟨i + 1, by go_num, by omega, HO2.out, F2.out⟩
        case measure => simp [intOf]; omega
    · have hi1 : ¬ (i : Int) < (n : Int) := by omega
      have HE := Lib.hid (HZ.out.trans (atZ_miss (by
        have := HO.out
        rwa [List.take_of_length_le (by rw [nodes_len, HL.out]; omega)] at this)))
      go_wp2_with fail
      go_ret
      rw [HE.out]
      exact ⟨rfl, HF.out⟩
set_option maxRecDepth 100000 in
set_option maxHeartbeats 1000000 in
theorem implAt_any (next : Int) (A : Option Addr) (n c : Nat) (L : List (Value × Nod)) (id : Int) (w : World) (h : RdN w A n L) (hn : n ≤ 1048576) :
    Calls Tryz.prog 112 #[.agg #[.int .i64 next, .slice A n c], .int .i64 id] w fun e w' => e = .returned (.int .i64 (atZ (nodes L) id)) ∧ Fr w w' := by
  have H := ((Hp.start w).lay_ 26 [.int .i64 next, .slice A n c] rfl).lay_ 3 [.int .i64 id] (g := w.heap.size + 1) (by simp)
  have HR := Lib.hid (h.fr H.fr)
  have HG := Lib.hid (H.bat 0 rfl (j := 0) rfl)
  have HF := Lib.hid H.fr
  clear h H
  have hmf : ∀ (fn : Fn) (first cap : Array Value) (w : World), (Instr.makeFunc fn first cap).run Tryz.prog w = .ok (.func fn first cap) w := fun _ _ _ _ => rfl
  go_enter Tryz.func112, Tryz.ntmps112
  go_wp2_with fail
  refine (implAtF_any A n c L id _ _ HR.out HG.out hn).mono ?_
  rintro e w2 ⟨rfl, f2⟩
  go_wp2_with fail
  go_ret
  exact ⟨rfl, HF.out.then f2⟩
set_option maxRecDepth 100000 in
set_option maxHeartbeats 2000000 in
theorem specAt_any (next : Int) (A : Option Addr) (n c : Nat) (L : List (Value × Nod)) (id : Int) (w : World) (h : RdN w A n L) (hn : n ≤ 1048576) :
    Calls Tryz.prog 105 #[.agg #[.int .i64 next, .slice A n c], .int .i64 id] w fun e w' => e = .returned (.int .i64 (atZ (nodes L) id)) ∧ Fr w w' := by
  have HL := Lib.hid h.len
  have H := (Hp.start w).lay_ 26 [.int .i64 next, .slice A n c] rfl
  obtain ⟨w1, hw1⟩ : ∃ x, x = w.alloc (.cells #[.int .i64 next, .slice A n c] 26) := ⟨_, rfl⟩
  have HR := Lib.hid (h.fr H.fr)
  have HF := Lib.hid H.fr
  have y1 := H.bat 0 rfl (j := 1) rfl
  clear h H
  obtain ⟨z, hz⟩ : ∃ z, z = atZ (nodes L) id := ⟨_, rfl⟩
  rw [← hz]
  have HZ := Lib.hid hz
  clear hz
  go_enter Tryz.func105, Tryz.ntmps105
  go_wp2_with fail
  go_loopw [5] (fun iv wr => ∃ i : Nat, iv = .int .i64 i ∧ i ≤ n ∧ (∀ y ∈ (nodes L).take i, y.1 ≠ id) ∧ wr = w.alloc (.cells #[.int .i64 next, .slice A n c] 26)) (fun iv _ => n - (intOf iv).toNat)
  case atStart => exact ⟨0, rfl, by omega, by simp, rfl⟩
  case round =>
    obtain ⟨i, rfl, hi, hno, rfl⟩ := hrel
    have HO := Lib.hid hno
    clear hno
    have hi0 : (0 : Int) ≤ (i : Int) := by omega
    by_cases hlt : i < n
    · have hi1 : (i : Int) < (n : Int) := by omega
      obtain ⟨⟨v, x0, x1, x2, x3, es⟩, hx⟩ := some_at HL.out hlt
      obtain ⟨bk, of, B1, d1, rfl, e1, r1, c1⟩ := HR.out.elem hx
      simp only at e1 r1
      subst e1
      have ca0 := c1 0 _ rfl; simp only [Nat.add_zero] at ca0
      have HX := Lib.hid (nodes_at hx)
      clear hx c1 r1
      by_cases he : x0 = id
      · have HE := Lib.hid (HZ.out.trans (atZ_hit HO.out HX.out he))
        subst he
        go_wp2_with fail
        go_ret
        rw [HE.out]
        exact ⟨rfl, HF.out⟩
      · have HO2 := Lib.hid (show ∀ y ∈ (nodes L).take (i + 1), y.1 ≠ id from fun y hy => by
          rw [List.take_add_one, HX.out] at hy
          rcases List.mem_append.1 hy with h | h
          · exact HO.out y h
          · simp only [Option.toList_some, List.mem_singleton] at h
            rw [h]; exact he)
        have hd : (x0 == id) = false := by simpa using he
        go_wp2_with fail
        go_roundw
        case rel => exact ⟨i + 1, by go_num, by omega, HO2.out, trivial⟩
        case measure => simp [intOf]; omega
    · have hi1 : ¬ (i : Int) < (n : Int) := by omega
      have HE := Lib.hid (HZ.out.trans (atZ_miss (by
        have := HO.out
        rwa [List.take_of_length_le (by rw [nodes_len, HL.out]; omega)] at this)))
      go_wp2_with fail
      go_ret
      rw [HE.out]
      exact ⟨rfl, HF.out⟩
end Go.Proofs.YtaogikhpglcmjaaGreatDoor
