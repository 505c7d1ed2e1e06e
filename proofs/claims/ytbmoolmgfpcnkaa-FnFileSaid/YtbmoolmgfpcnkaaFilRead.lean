/-
  Reading a file: the program and the reference hand back the same bytes.
-/
import Derived.Test.YtbmoolmgfpcnkaaFilOkS
import Derived.Deep.RegionWith
namespace Go.Proofs.Ytbmoolmgfpcnkaa
open Go.RowKit

theorem wholeL_eq {data : List ByteArray} {m : List Int} {z : Int} {e : Nat} (hd : ∀ s ∈ data, s.size = 4) (hl : data.length = 24) (hm : BlkOk m) (hml : m.length = 12) (he : e ≤ 12) (hz : z ≤ 4 * e) : (bytesTo data m e).take z.toNat = wholeL data m z := by
  have key : ∀ k, e ≤ k → k ≤ 12 → (bytesTo data m k).take z.toNat = (bytesTo data m e).take z.toNat := by
    intro k
    induction k with
    | zero => intro h1 _; rw [show e = 0 from by omega]
    | succ k ih =>
      intro h1 h2
      by_cases hk : e = k + 1
      · rw [hk]
      · obtain ⟨x, hx⟩ := some_at hml (show k < 12 by omega)
        rw [bytesTo_succ hx, List.take_append_of_le_length (by rw [bytesTo_len hd hl hm hml k (by omega)]; omega), ih (by omega) (by omega)]
  exact (key 12 he (Nat.le_refl _)).symm
theorem filOk_parts {bits : List Bool} {data : List ByteArray} {z : Int} {l : List (Int × Int × Int)} (h : filOk bits data z l = true) : stOk bits data = true ∧ inB z 0 48 = true ∧ eOk l = true ∧ filRest bits data z (flatL l) = true := by
  simpa [filOk, and_assoc] using h
theorem wholeL_len {data : List ByteArray} {m : List Int} {z : Int} (hd : ∀ s ∈ data, s.size = 4) (hl : data.length = 24) (hm : BlkOk m) (hml : m.length = 12) (h0 : 0 ≤ z) (h1 : z ≤ 48) : (wholeL data m z).length = z.toNat := by
  rw [wholeL, List.length_take, bytesTo_len hd hl hm hml 12 (Nat.le_refl _)]; omega


set_option maxRecDepth 100000 in
set_option maxHeartbeats 4000000 in
theorem implWhole_any (A : Option Addr) (n c : Nat) (bits : List Bool) (B : Option Addr) (m d : Nat) (data : List ByteArray) (z : Int) (E : Option Addr) (q r : Nat) (l : List (Int × Int × Int)) (w : World)
    (h1 : Rd w B m 1 (data.map Value.string)) (h2 : Rd w E q 3 (l.flatMap cExt)) (hq : q ≤ 1048576) (hst : stOk bits data = true) (hin : inB z 0 48 = true) (hok : eOk l = true) :
    Calls Try.prog 81 #[.agg #[.slice A n c, .slice B m d], .agg #[.int .i64 z, .slice E q r]] w fun e w' => e = .returned (.string (ofB (wholeL data (flatL l) z))) ∧ Fr w w' := by
  have H1 := ((Hp.start w).lay_ 31 [.slice A n c, .slice B m d] rfl).lay_ 34 [.int .i64 z, .slice E q r] (g := w.heap.size + 1) (by simp)
  have hin2 := inB_iff.1 hin
  have OK := eOk_ranges hok
  have HB := Lib.hid (flatL_ok OK)
  have HM := Lib.hid (flatL_len l)
  have ST := Lib.hid (stOk_iff.1 hst)
  have G1 := Lib.hid h1
  obtain ⟨mm, hmm⟩ : ∃ u, u = flatL l := ⟨_, rfl⟩
  have HMM := Lib.hid hmm
  rw [← hmm] at HB HM ⊢
  clear hmm
  go_enter Try.func81, Try.ntmps81
  go_wp2_with fail
  refine (implFlat_any E q r l _ (H1.old h2) OK hq).mono ?_
  rintro e w4 ⟨A4, c4, rfl, o4, f4⟩
  have H4 := H1.made o4 f4
  clear H1 f4 o4 h1 h2 hst hin hok OK hq
  obtain ⟨g, c5, e, hg⟩ := H4.form 0 rfl (by omega)
  injection e with e1 _ e2
  subst e1 e2
  rw [← HMM.out] at H4
  clear hg
  have hm24 : m = 24 := by have := G1.out.len1; rw [ST.out.2.1] at this; exact this.symm
  subst hm24
  go_wp2_with fail
  go_loopw [5, 12] (fun v j wr => ∃ k : Nat, k ≤ 12 ∧ j = .int .i64 k ∧ v = .string (ofB (bytesTo data mm k)) ∧ Hp [] w wr [.row 3 1 (.slice (some ⟨g, 0, none⟩) 12 c4) 12 (mm.map (Value.int .i64)), .blk (w.heap.size + 1) 34 [.int .i64 z, .slice E q r], .blk w.heap.size 31 [.slice A n c, .slice B 24 d]]) (fun _ j _ => 12 - (intOf j).toNat)
  case atStart => exact ⟨0, by omega, rfl, rfl, H4⟩
  case round =>
    clear H4
    obtain ⟨k, hk, rfl, rfl, H⟩ := hrel
    have hbl := bytesTo_len ST.out.2.2 ST.out.2.1 HB.out HM.out k hk
    have hsz : (ofB (bytesTo data mm k)).size ≤ 48 := by rw [ofB_size, hbl]; omega
    have hsz2 : (ofB (zB 4)).size ≤ 4 := by simp [ofB_size, zB]
    have s1 := H.bat 2 rfl (j := 1) rfl
    have t0 := H.bat 1 rfl (j := 0) rfl
    by_cases hlt : k < 12
    · obtain ⟨x, hx⟩ := at_some HM.out hlt
      have cx := H.atM 0 rfl hx
      have hxb := HB.out x hx.mem
      have HE := Lib.hid (bytesTo_succ (data := data) hx)
      clear hbl
      by_cases hneg : x < 0
      · have HX := Lib.hid (show ofB (bytesTo data mm k) ++ ofB (zB 4) = ofB (bytesTo data mm (k + 1)) by rw [HE.out, ofB_append]; simp [blkB, hneg])
        go_wp2_with fail
        refine (implZeros_any 4 (by decide) (by decide) _).mono ?_
        rintro e w5 ⟨rfl, f5⟩
        have H5 := H.go f5
        clear H
        go_wp2_with fail
        go_roundw
        case rel => exact ⟨k + 1, by omega, by go_num, congrArg Value.string HX.out, H5⟩
        case measure => simp [intOf]; omega
      · obtain ⟨x, rfl⟩ : ∃ u : Nat, x = u := ⟨x.toNat, by omega⟩
        obtain ⟨s, hs⟩ := at_some ST.out.2.1 (show x < 24 by omega)
        obtain ⟨b1, o1, rfl, cs⟩ := (H.old G1.out).get1 hs
        have hs4 : s.size ≤ 4 := Nat.le_of_eq (ST.out.2.2 s hs.mem)
        have HX := Lib.hid (show ofB (bytesTo data mm k) ++ s = ofB (bytesTo data mm (k + 1)) by
          rw [HE.out, ← ofB_append]
          congr 1
          rw [blkB, if_neg (by omega)]
          simp [List.getD_eq_getElem?_getD, show data[x]? = some s from hs, ofB_toB])
        go_wp2_with fail
        go_roundw
        case rel => exact ⟨k + 1, by omega, by go_num, congrArg Value.string HX.out, H⟩
        case measure => simp [intOf]; omega
    · have hk12 : k = 12 := by omega
      have HX := Lib.hid (show (ofB (bytesTo data mm k)).extract 0 z.toNat = ofB (wholeL data mm z) by rw [hk12, extract_ofB, wholeL]; simp)
      have hzs : z ≤ ((ofB (bytesTo data mm k)).size : Int) := by rw [ofB_size, hbl, hk12]; omega
      have hz0 : 0 ≤ z := hin2.1
      clear hk12 hbl
      go_wp2_with fail
      go_ret
      exact ⟨congrArg (fun s => Ending.returned (.string s)) HX.out, H.fr⟩

theorem ret_sb {s s' : ByteArray} {b b' : Bool} (h : s = s') (h2 : b = b') : Ending.returned (.tuple #[.string s, .bool b]) = .returned (.tuple #[.string s', .bool b']) := by rw [h, h2]
theorem extract_tail (b : List UInt8) (k : Nat) : (ofB b).extract k (ofB b).size = ofB (b.drop k) := by
  rw [extract_ofB, List.take_of_length_le (by rw [List.length_drop, ofB_size]; omega)]
/-- What is read of a text from a place on, so many bytes at most. -/
def readL (b : List UInt8) (off n : Int) : List UInt8 := (b.drop off.toNat).take n.toNat
def filReadS (bits : List Bool) (data : List ByteArray) (z : Int) (l : List (Int × Int × Int)) (off n : Int) : ByteArray :=
  if filOk bits data z l && decide (0 ≤ off) && decide (0 ≤ n) then ofB (readL (wholeL data (flatL l) z) off n) else ⟨#[]⟩
def filReadB (bits : List Bool) (data : List ByteArray) (z : Int) (l : List (Int × Int × Int)) (off n : Int) : Bool := filOk bits data z l && decide (0 ≤ off) && decide (0 ≤ n)
theorem readL_sub {b : List UInt8} {off n : Int} {fr cn : Nat} {z : Int} (hb : b.length = z.toNat) (h0 : 0 ≤ z) (h1 : 0 ≤ off) (h2 : 0 ≤ n) (hf : (fr : Int) = min off z) (hc : (cn : Int) = min n (z - fr)) : (b.drop fr).take cn = readL b off n := by
  unfold readL
  by_cases h : off ≤ z
  · rw [show fr = off.toNat from by omega]
    by_cases h3 : n ≤ z - off
    · rw [show cn = n.toNat from by omega]
    · rw [List.take_of_length_le (by rw [List.length_drop]; omega), List.take_of_length_le (by rw [List.length_drop]; omega)]
  · rw [List.drop_of_length_le (show b.length ≤ fr by omega), List.drop_of_length_le (show b.length ≤ off.toNat by omega)]
    simp

set_option maxRecDepth 100000 in
set_option maxHeartbeats 4000000 in
theorem implFilRead_any (A : Option Addr) (n c : Nat) (bits : List Bool) (B : Option Addr) (m d : Nat) (data : List ByteArray) (z : Int) (E : Option Addr) (q r : Nat) (l : List (Int × Int × Int)) (off cnt : Int) (w : World)
    (h0 : Rd w A n 1 (bits.map Value.bool)) (h1 : Rd w B m 1 (data.map Value.string)) (h2 : Rd w E q 3 (l.flatMap cExt)) (hm : m ≤ 1048576) (hz : ∀ s ∈ data, s.size ≤ 1048576) (hq : q ≤ 1048576) :
    Calls Try.prog 34 #[.agg #[.slice A n c, .slice B m d], .agg #[.int .i64 z, .slice E q r], .int .i64 off, .int .i64 cnt] w
      fun e w' => e = .returned (.tuple #[.string (filReadS bits data z l off cnt), .bool (filReadB bits data z l off cnt)]) ∧ Fr w w' := by
  have H1 := ((Hp.start w).lay_ 31 [.slice A n c, .slice B m d] rfl).lay_ 34 [.int .i64 z, .slice E q r] (g := w.heap.size + 1) (by simp)
  by_cases hok : filOk bits data z l = true
  · by_cases ho : off < 0
    · have HX := Lib.hid (show filReadS bits data z l off cnt = ⟨#[]⟩ ∧ filReadB bits data z l off cnt = false by simp [filReadS, filReadB, show ¬ 0 ≤ off by omega])
      go_enter Try.func34, Try.ntmps34
      go_wp2_with fail
      refine (implFilOk_any A n c bits B m d data z E q r l _ (H1.old h0) (H1.old h1) (H1.old h2) hm hz hq).mono ?_
      rintro e w1 ⟨rfl, f1⟩
      rw [hok]
      go_wp2_with fail
      go_ret2
      exact ⟨ret_sb HX.out.1.symm HX.out.2.symm, (H1.go f1).fr⟩
    · by_cases hc : cnt < 0
      · have HX := Lib.hid (show filReadS bits data z l off cnt = ⟨#[]⟩ ∧ filReadB bits data z l off cnt = false by simp [filReadS, filReadB, show ¬ 0 ≤ cnt by omega])
        go_enter Try.func34, Try.ntmps34
        go_wp2_with fail
        refine (implFilOk_any A n c bits B m d data z E q r l _ (H1.old h0) (H1.old h1) (H1.old h2) hm hz hq).mono ?_
        rintro e w1 ⟨rfl, f1⟩
        rw [hok]
        go_wp2_with fail
        go_ret2
        exact ⟨ret_sb HX.out.1.symm HX.out.2.symm, (H1.go f1).fr⟩
      · have HX := Lib.hid (show filReadS bits data z l off cnt = ofB (readL (wholeL data (flatL l) z) off cnt) ∧ filReadB bits data z l off cnt = true by simp [filReadS, filReadB, hok, show 0 ≤ off by omega, show 0 ≤ cnt by omega])
        obtain ⟨hst, hin, hek, _⟩ := filOk_parts hok
        have hin2 := inB_iff.1 hin
        have ST := Lib.hid (stOk_iff.1 hst)
        have HWL := Lib.hid (wholeL_len ST.out.2.2 ST.out.2.1 (flatL_ok (eOk_ranges hek)) (flatL_len l) hin2.1 hin2.2)
        obtain ⟨zn, rfl⟩ : ∃ u : Nat, z = u := ⟨z.toNat, by omega⟩
        have hsz0 : ((ofB (wholeL data (flatL l) zn)).size : Int) = zn := by rw [ofB_size, HWL.out]; omega
        have HSZ := Lib.hid hsz0
        have hszl : (zn : Int) ≤ ((ofB (wholeL data (flatL l) zn)).size : Int) := by omega
        clear hsz0
        by_cases ho2 : off ≤ zn
        · obtain ⟨fr, rfl⟩ : ∃ u : Nat, off = u := ⟨off.toNat, by omega⟩
          by_cases hc2 : cnt ≤ (zn : Int) - fr
          · obtain ⟨cn, rfl⟩ : ∃ u : Nat, cnt = u := ⟨cnt.toNat, by omega⟩
            obtain ⟨hi, hhi⟩ : ∃ u : Nat, u = fr + cn := ⟨_, rfl⟩
            have HEX := Lib.hid (show (ofB (wholeL data (flatL l) zn)).extract fr hi = ofB (readL (wholeL data (flatL l) zn) fr cn) by
              rw [extract_ofB, show hi - fr = cn from by omega]; rfl)
            have hx0 : (0 : Int) ≤ (fr : Int) := by omega
            have hx2 : (hi : Int) ≤ ((ofB (wholeL data (flatL l) zn)).size : Int) := by omega
            have hx3 : (fr : Int) ≤ (hi : Int) := by omega
            have hc3 : ¬ (zn : Int) - fr < cn := by omega
            have hc4 : decide ((cn : Int) ≤ (zn : Int) - fr) = true := decide_eq_true hc2
            have hc5 : ((cn : Int) ≤ (zn : Int) - fr) = True := eq_true hc2
            have hc6 : ((zn : Int) - fr < cn) = False := eq_false hc3
            have ho3 : ¬ (zn : Int) < fr := by omega
            have hw1 : IntKind.i64.wrap ((zn : Int) - (fr : Int)) = (zn : Int) - (fr : Int) := IntWalk.i64_in _ (by omega)
            have hw2 : IntKind.i64.wrap ((fr : Int) + (cn : Int)) = (hi : Int) := (IntWalk.i64_in _ (by omega)).trans (by omega)
            clear hhi
            go_enter Try.func34, Try.ntmps34
            go_wp2_with fail
            refine (implFilOk_any A n c bits B m d data _ E q r l _ (H1.old h0) (H1.old h1) (H1.old h2) hm hz hq).mono ?_
            rintro e w1 ⟨rfl, f1⟩
            have H2 := H1.go f1
            have t0 := H2.bat 0 rfl (j := 0) rfl
            rw [hok]
            go_wp2_with fail
            go_region_held3 (fun w' => w'.cell? ⟨w.heap.size, 0, none⟩ = some (.slice A n c) ∧ w'.cell? ⟨w.heap.size, 1, none⟩ = some (.slice B m d) ∧ w'.cell? ⟨w.heap.size + 1, 0, none⟩ = some (.int .i64 (zn : Int)) ∧ w'.cell? ⟨w.heap.size + 1, 1, none⟩ = some (.slice E q r))
              (first
                | exact ⟨H2.bat 1 rfl (j := 0) rfl, H2.bat 1 rfl (j := 1) rfl, H2.bat 0 rfl (j := 0) rfl, H2.bat 0 rfl (j := 1) rfl⟩
                | exact ⟨H3.bat 1 rfl (j := 0) rfl, H3.bat 1 rfl (j := 1) rfl, H3.bat 0 rfl (j := 0) rfl, H3.bat 0 rfl (j := 1) rfl⟩)
              ((first
                | (go_at_call 81
                   refine (implWhole_any A n c bits B m d data (zn : Int) E q r l _ (H2.drew.old h1) (H2.drew.old h2) hq hst hin hek).mono ?_
                   rintro e w3 ⟨rfl, f3⟩
                   have H3 := H2.drew.go f3)))
            all_goals go_wp2_with fail
            all_goals (go_ret2; exact ⟨ret_sb (HEX.out.trans HX.out.1.symm) HX.out.2.symm, H3.fr⟩)
          · have HEX := Lib.hid (show (ofB (wholeL data (flatL l) zn)).extract fr zn = ofB (readL (wholeL data (flatL l) zn) fr cnt) by
              rw [extract_ofB]
              exact congrArg ofB (readL_sub (z := (zn : Int)) HWL.out (by omega) (by omega) (by omega) (by omega) (by omega)))
            have hx0 : (0 : Int) ≤ (fr : Int) := by omega
            have hx2 : (zn : Int) ≤ ((ofB (wholeL data (flatL l) zn)).size : Int) := by omega
            have hx3 : (fr : Int) ≤ (zn : Int) := by omega
            have hw1 : IntKind.i64.wrap ((zn : Int) - (fr : Int)) = (zn : Int) - (fr : Int) := IntWalk.i64_in _ (by omega)
            have hw2 : IntKind.i64.wrap ((fr : Int) + ((zn : Int) - (fr : Int))) = (zn : Int) := (IntWalk.i64_in _ (by omega)).trans (by omega)
            have hc3 : (zn : Int) - fr < cnt := by omega
            have hc5 : (cnt ≤ (zn : Int) - fr) = False := eq_false hc2
            have hc6 : ((zn : Int) - fr < cnt) = True := eq_true hc3
            have ho3 : ¬ (zn : Int) < fr := by omega
            go_enter Try.func34, Try.ntmps34
            go_wp2_with fail
            refine (implFilOk_any A n c bits B m d data _ E q r l _ (H1.old h0) (H1.old h1) (H1.old h2) hm hz hq).mono ?_
            rintro e w1 ⟨rfl, f1⟩
            have H2 := H1.go f1
            have t0 := H2.bat 0 rfl (j := 0) rfl
            rw [hok]
            go_wp2_with fail
            go_region_held3 (fun w' => w'.cell? ⟨w.heap.size, 0, none⟩ = some (.slice A n c) ∧ w'.cell? ⟨w.heap.size, 1, none⟩ = some (.slice B m d) ∧ w'.cell? ⟨w.heap.size + 1, 0, none⟩ = some (.int .i64 (zn : Int)) ∧ w'.cell? ⟨w.heap.size + 1, 1, none⟩ = some (.slice E q r))
              (first
                | exact ⟨H2.bat 1 rfl (j := 0) rfl, H2.bat 1 rfl (j := 1) rfl, H2.bat 0 rfl (j := 0) rfl, H2.bat 0 rfl (j := 1) rfl⟩
                | exact ⟨H3.bat 1 rfl (j := 0) rfl, H3.bat 1 rfl (j := 1) rfl, H3.bat 0 rfl (j := 0) rfl, H3.bat 0 rfl (j := 1) rfl⟩)
              ((first
                | (go_at_call 81
                   refine (implWhole_any A n c bits B m d data (zn : Int) E q r l _ (H2.drew.old h1) (H2.drew.old h2) hq hst hin hek).mono ?_
                   rintro e w3 ⟨rfl, f3⟩
                   have H3 := H2.drew.go f3)))
            all_goals go_wp2_with fail
            all_goals (go_ret2; exact ⟨ret_sb (HEX.out.trans HX.out.1.symm) HX.out.2.symm, H3.fr⟩)
        · have HEX := Lib.hid (show ByteArray.empty = ofB (readL (wholeL data (flatL l) zn) off cnt) by
            rw [readL, List.drop_of_length_le (by rw [HWL.out]; omega)]
            simp [ofB]; rfl)
          have hx0 : (0 : Int) ≤ (zn : Int) := by omega
          have hx3 : (zn : Int) ≤ (zn : Int) := by omega
          have ho3 : (zn : Int) < off := by omega
          have hw3 : IntKind.i64.wrap (zn : Int) = (zn : Int) := IntWalk.i64_in _ (by omega)
          have hw0 : IntKind.i64.wrap 0 = 0 := by decide
          have hw1 : IntKind.i64.wrap ((zn : Int) - (zn : Int)) = 0 := (IntWalk.i64_in _ (by omega)).trans (by omega)
          have hw2 : IntKind.i64.wrap ((zn : Int) + 0) = (zn : Int) := (IntWalk.i64_in _ (by omega)).trans (by omega)
          have hx4 : (zn : Int) ≤ ((ofB (wholeL data (flatL l) zn)).size : Int) := hszl
          have ho4 : (off ≤ (zn : Int)) = False := eq_false ho2
          by_cases hc0 : cnt ≤ 0
          · obtain rfl : cnt = 0 := by omega
            go_enter Try.func34, Try.ntmps34
            go_wp2_with fail
            refine (implFilOk_any A n c bits B m d data _ E q r l _ (H1.old h0) (H1.old h1) (H1.old h2) hm hz hq).mono ?_
            rintro e w1 ⟨rfl, f1⟩
            have H2 := H1.go f1
            have t0 := H2.bat 0 rfl (j := 0) rfl
            rw [hok]
            go_wp2_with fail
            go_region_held3 (fun w' => w'.cell? ⟨w.heap.size, 0, none⟩ = some (.slice A n c) ∧ w'.cell? ⟨w.heap.size, 1, none⟩ = some (.slice B m d) ∧ w'.cell? ⟨w.heap.size + 1, 0, none⟩ = some (.int .i64 (zn : Int)) ∧ w'.cell? ⟨w.heap.size + 1, 1, none⟩ = some (.slice E q r))
              (first
                | exact ⟨H2.bat 1 rfl (j := 0) rfl, H2.bat 1 rfl (j := 1) rfl, H2.bat 0 rfl (j := 0) rfl, H2.bat 0 rfl (j := 1) rfl⟩
                | exact ⟨H3.bat 1 rfl (j := 0) rfl, H3.bat 1 rfl (j := 1) rfl, H3.bat 0 rfl (j := 0) rfl, H3.bat 0 rfl (j := 1) rfl⟩)
              ((first
                | (go_at_call 81
                   refine (implWhole_any A n c bits B m d data (zn : Int) E q r l _ (H2.drew.old h1) (H2.drew.old h2) hq hst hin hek).mono ?_
                   rintro e w3 ⟨rfl, f3⟩
                   have H3 := H2.drew.go f3)))
            all_goals go_wp2_with fail
            all_goals (go_ret2; exact ⟨ret_sb (HEX.out.trans HX.out.1.symm) HX.out.2.symm, H3.fr⟩)
          · have hc5 : (cnt ≤ 0) = False := eq_false hc0
            have hc6 : (0 < cnt) = True := eq_true (by omega)
            go_enter Try.func34, Try.ntmps34
            go_wp2_with fail
            refine (implFilOk_any A n c bits B m d data _ E q r l _ (H1.old h0) (H1.old h1) (H1.old h2) hm hz hq).mono ?_
            rintro e w1 ⟨rfl, f1⟩
            have H2 := H1.go f1
            have t0 := H2.bat 0 rfl (j := 0) rfl
            rw [hok]
            go_wp2_with fail
            go_region_held3 (fun w' => w'.cell? ⟨w.heap.size, 0, none⟩ = some (.slice A n c) ∧ w'.cell? ⟨w.heap.size, 1, none⟩ = some (.slice B m d) ∧ w'.cell? ⟨w.heap.size + 1, 0, none⟩ = some (.int .i64 (zn : Int)) ∧ w'.cell? ⟨w.heap.size + 1, 1, none⟩ = some (.slice E q r))
              (first
                | exact ⟨H2.bat 1 rfl (j := 0) rfl, H2.bat 1 rfl (j := 1) rfl, H2.bat 0 rfl (j := 0) rfl, H2.bat 0 rfl (j := 1) rfl⟩
                | exact ⟨H3.bat 1 rfl (j := 0) rfl, H3.bat 1 rfl (j := 1) rfl, H3.bat 0 rfl (j := 0) rfl, H3.bat 0 rfl (j := 1) rfl⟩)
              ((first
                | (go_at_call 81
                   refine (implWhole_any A n c bits B m d data (zn : Int) E q r l _ (H2.drew.old h1) (H2.drew.old h2) hq hst hin hek).mono ?_
                   rintro e w3 ⟨rfl, f3⟩
                   have H3 := H2.drew.go f3)))
            all_goals go_wp2_with fail
            all_goals (go_ret2; exact ⟨ret_sb (HEX.out.trans HX.out.1.symm) HX.out.2.symm, H3.fr⟩)
  · have hok' : filOk bits data z l = false := by simpa using hok
    have HX := Lib.hid (show filReadS bits data z l off cnt = ⟨#[]⟩ ∧ filReadB bits data z l off cnt = false by simp [filReadS, filReadB, hok'])
    go_enter Try.func34, Try.ntmps34
    go_wp2_with fail
    refine (implFilOk_any A n c bits B m d data z E q r l _ (H1.old h0) (H1.old h1) (H1.old h2) hm hz hq).mono ?_
    rintro e w1 ⟨rfl, f1⟩
    rw [hok']
    go_wp2_with fail
    go_ret2
    exact ⟨ret_sb HX.out.1.symm HX.out.2.symm, (H1.go f1).fr⟩

end Go.Proofs.Ytbmoolmgfpcnkaa
