/-
  The law FnCompose, walked.
-/
import Derived.Test.YtfmifaneggenoaaDoorMEnc
import Derived.Test.YtfmifaneggenoaaDoorDrawSigns
import Derived.Test.YtfmifaneggenoaaDoorCompose
import Derived.Test.YtfmifaneggenoaaDoorComposeS
import Derived.Test.YtfmifaneggenoaaDoorOrder
import Derived.Test.YtfmifaneggenoaaDoorEncode
import Derived.Test.YtfmifaneggenoaaDoorLaw
namespace Go.Proofs.YtfmifaneggenoaaDoor
open Go.RowKit

set_option linter.unusedVariables false
theorem bigC_any (A : Option Addr) (n c : Nat) (w : World) (_hn : n ≤ 9223372036854775807) :
    Calls Tryd.prog 16 #[.slice A n c] w fun e w' => e = .returned (.bool (decide (1048576 < n))) ∧ w = w' := by
  go_enter Tryd.func16, Tryd.ntmps16
  go_wp2
  go_ret
  exact ⟨ret_bool (by simp; omega), rfl⟩
theorem i64_in (x : Int) : InI (IntKind.i64.wrap x) := by
  unfold InI
  simp [IntKind.wrap, IntKind.signed, IntKind.bits]
  omega
set_option maxRecDepth 100000 in
set_option maxHeartbeats 1000000 in
theorem sameI_yes (A : Option Addr) (n c : Nat) (B : Option Addr) (m d : Nat) (l : List Int) (w : World) (h : Rd w A n 1 (l.map (Value.int .i64))) (h' : Rd w B m 1 (l.map (Value.int .i64))) (hn : n ≤ 100000000) :
    Calls Tryd.prog 25 #[.slice A n c, .slice B m d] w fun e w' => e = .returned (.bool true) ∧ Fr w w' := by
  have hl := h.len1
  have hl' := h'.len1
  obtain rfl : n = m := by omega
  have HL := Lib.hid hl
  clear hl hl'
  have G := Lib.hid h
  have G' := Lib.hid h'
  clear h h'
  go_enter Tryd.func25, Tryd.ntmps25
  go_wp2_with fail
  go_loopw [5] (fun i wr => ∃ k : Nat, k ≤ n ∧ i = .int .i64 k ∧ Fr w wr) (fun i _ => n - (intOf i).toNat)
  case atStart => exact ⟨0, by omega, rfl, Below.refl _ _⟩
  case round =>
    obtain ⟨k, hk, rfl, hfr⟩ := hrel
    by_cases hlt : k < n
    · obtain ⟨u, hx⟩ := at_some HL.out hlt
      obtain ⟨b1, o1, rfl, c0⟩ := (G.out.fr hfr).get1 hx
      obtain ⟨b2, o2, rfl, d0⟩ := (G'.out.fr hfr).get1 hx
      have hk0 : (0 : Int) ≤ (k : Int) := by omega
      have hk1 : (k : Int) < (n : Int) := by omega
      clear hx
      go_wp2_with fail
      refine wp_region_quiet_lit (by kernel_rfl) (by kernel_rfl) ?_
      repeat (any_goals (first | go_big_quiet_step ((fail)) | quiet_step ((fail)) | (refine wpQuiet_step (fun K hK => ?_); go_simp; split <;> (refine hK _ ?_; clear hK K))))
      all_goals (refine wpQuiet_nil ?_; intro _ hw_; obtain ⟨nq, hw__⟩ := hw_; subst hw__)
      go_wp2_with fail
      go_roundw
      case rel => exact ⟨k + 1, by omega, by go_num, hfr.on _⟩
      case measure => simp [intOf]; omega
    · go_wp2_with fail
      go_ret
      exact ⟨rfl, hfr⟩
set_option maxRecDepth 100000 in
set_option maxHeartbeats 2000000 in
theorem drawPair_any (A : Option Addr) (n c : Nat) (bs : List UInt8) (w : World) (hA : Rd w A n 1 (bs.map cU8)) (hn : n ≤ 1048576) :
    Calls Tryd.prog 29 #[.slice A n c] w fun e w' => ∃ a b : Int, e = .returned (.tuple #[.int .i64 a, .int .i64 b]) ∧ InI a ∧ InI b ∧ Fr w w' := by
  go_enter Tryd.func29, Tryd.ntmps29
  go_wp2_with fail
  refine (l1New_any A n c bs _ hA hn).mono ?_
  rintro e w1 ⟨g, h, rfl, H1⟩
  have NE := Lib.hid (old_ne hA (own_new H1))
  have G := Lib.hid hA
  clear hA
  go_wp2_with fail
  refine (l3Some_any g A n c bs 0 h _ (H1.blk 0 rfl) (H1.old G.out) NE.out (by omega) (by omega) hn).mono ?_
  rintro e w2 ⟨s, rfl, hs, C⟩
  obtain ⟨i2, h2, a2, b2, H2⟩ := H1.cur 0 rfl C
  clear H1 C
  have hsI : InI s := by unfold InS at hs; unfold InI; omega
  go_wp2_with fail
  refine (specParts_any s _ hsI).mono ?_
  rintro e w3 ⟨P, dP, rfl, o3, f3⟩
  have H3 := H2.made o3 f3
  clear H2 o3 f3
  have HPI := Lib.hid (fun x hx => parts_in (c := s) x hx)
  obtain ⟨ps, hps⟩ : ∃ q, q = partsS s := ⟨_, rfl⟩
  have hp3 := parts_len s
  rw [← hps] at H3 HPI hp3 ⊢
  clear hps
  have HH := Lib.hid H3
  by_cases hl2 : ps.length = 2
  · obtain ⟨a, b, rfl⟩ : ∃ a b, ps = [a, b] := by
      match ps, hl2 with
      | [a, b], _ => exact ⟨a, b, rfl⟩
    obtain ⟨gP, cP, e, _⟩ := H3.form 0 rfl (by simp)
    injection e with e1 _ e2
    subst e1 e2
    simp only [List.length_cons, List.length_nil, Nat.zero_add, Nat.reduceAdd] at H3 ⊢
    clear HH
    go_wp2_with fail
    refine (l1Once_any g A n c bs i2 h2 4 _ (H3.blk 1 rfl) (H3.old G.out) NE.out a2 b2 hn (by decide)).mono ?_
    rintro e w4 ⟨x, rfl, C⟩
    obtain ⟨i4, h4, a4, b4, H4⟩ := H3.cur 1 rfl C
    clear H3 C
    cases x with
    | false =>
      have ca := H4.atM (f1 := Value.int .i64) 0 rfl (j := 0) (x := a) rfl
      have cb := H4.atM (f1 := Value.int .i64) 0 rfl (j := 1) (x := b) rfl
      have F4 := Lib.hid H4.tail
      clear H4
      go_wp2_with fail
      refine wp_region_quiet_lit (by kernel_rfl) (by kernel_rfl) ?_
      repeat (any_goals (first | go_big_quiet_step ((fail)) | quiet_step ((fail)) | (refine wpQuiet_step (fun K hK => ?_); go_simp; split <;> (refine hK _ ?_; clear hK K))))
      all_goals (refine wpQuiet_nil ?_; intro _ hw_; obtain ⟨nq, hw__⟩ := hw_; subst hw__)
      all_goals go_wp2_with fail
      all_goals go_ret2
      all_goals exact ⟨a, b, rfl, HPI.out a (by simp), HPI.out b (by simp), (F4.out.on nq).fr⟩
    | true =>
      go_wp2_with fail
      refine (l3Some_any g A n c bs i4 h4 _ (H4.blk 1 rfl) (H4.old G.out) NE.out a4 b4 hn).mono ?_
      rintro e w8 ⟨s8, rfl, hs8, C⟩
      obtain ⟨i8, h8, a8, b8, H8⟩ := H4.cur 1 rfl C
      clear C
      have hs8I : InI s8 := by unfold InS at hs8; unfold InI; omega
      go_wp2_with fail
      go_ret2
      exact ⟨s, s8, rfl, hsI, hs8I, H8.fr⟩
  · have hd2 : ((ps.length : Int) == 2) = false := beq_eq_false_iff_ne.2 (by omega)
    by_cases hl3 : ps.length = 3
    · obtain ⟨a, b, d, rfl⟩ : ∃ a b d, ps = [a, b, d] := by
        match ps, hl3 with
        | [a, b, d], _ => exact ⟨a, b, d, rfl⟩
      obtain ⟨gP, cP, e, _⟩ := H3.form 0 rfl (by simp)
      injection e with e1 _ e2
      subst e1 e2
      simp only [List.length_cons, List.length_nil, Nat.zero_add, Nat.reduceAdd] at H3 ⊢
      clear HH hd2
      go_wp2_with fail
      refine (l1Once_any g A n c bs i2 h2 4 _ (H3.blk 1 rfl) (H3.old G.out) NE.out a2 b2 hn (by decide)).mono ?_
      rintro e w4 ⟨x, rfl, C⟩
      obtain ⟨i4, h4, a4, b4, H4⟩ := H3.cur 1 rfl C
      clear H3 C
      cases x with
      | false =>
        have ca := H4.atM (f1 := Value.int .i64) 0 rfl (j := 0) (x := a) rfl
        have cb := H4.atM (f1 := Value.int .i64) 0 rfl (j := 1) (x := b) rfl
        have cd := H4.atM (f1 := Value.int .i64) 0 rfl (j := 2) (x := d) rfl
        have F4 := Lib.hid H4.tail
        clear H4
        obtain ⟨y1, hy1⟩ : ∃ y, IntKind.i64.wrap (a - 4352) = y := ⟨_, rfl⟩
        obtain ⟨y2, hy2⟩ : ∃ y, IntKind.i64.wrap (y1 * 588) = y := ⟨_, rfl⟩
        obtain ⟨y3, hy3⟩ : ∃ y, IntKind.i64.wrap (44032 + y2) = y := ⟨_, rfl⟩
        obtain ⟨y4, hy4⟩ : ∃ y, IntKind.i64.wrap (b - 4449) = y := ⟨_, rfl⟩
        obtain ⟨y5, hy5⟩ : ∃ y, IntKind.i64.wrap (y4 * 28) = y := ⟨_, rfl⟩
        obtain ⟨y6, hy6⟩ : ∃ y, IntKind.i64.wrap (y3 + y5) = y := ⟨_, rfl⟩
        have HY := Lib.hid (show InI y6 by rw [← hy6]; exact i64_in _)
        go_wp2_with fail
        refine wp_region_quiet_lit (by kernel_rfl) (by kernel_rfl) ?_
        repeat (any_goals (first | go_big_quiet_step ((fail)) | quiet_step ((fail)) | (refine wpQuiet_step (fun K hK => ?_); go_simp; split <;> (refine hK _ ?_; clear hK K))))
        all_goals (refine wpQuiet_nil ?_; intro _ hw_; obtain ⟨nq, hw__⟩ := hw_; subst hw__)
        all_goals go_wp2_with fail
        all_goals go_ret2
        all_goals exact ⟨y6, d, rfl, HY.out, HPI.out d (by simp), (F4.out.on nq).fr⟩
      | true =>
        go_wp2_with fail
        refine (l3Some_any g A n c bs i4 h4 _ (H4.blk 1 rfl) (H4.old G.out) NE.out a4 b4 hn).mono ?_
        rintro e w8 ⟨s8, rfl, hs8, C⟩
        obtain ⟨i8, h8, a8, b8, H8⟩ := H4.cur 1 rfl C
        clear C
        have hs8I : InI s8 := by unfold InS at hs8; unfold InI; omega
        go_wp2_with fail
        go_ret2
        exact ⟨s, s8, rfl, hsI, hs8I, H8.fr⟩
    · have hd3 : ((ps.length : Int) == 3) = false := beq_eq_false_iff_ne.2 (by omega)
      go_wp2_with fail
      refine (l3Some_any g A n c bs i2 h2 _ (H3.blk 1 rfl) (H3.old G.out) NE.out a2 b2 hn).mono ?_
      rintro e w8 ⟨s8, rfl, hs8, C⟩
      obtain ⟨i8, h8, a8, b8, H8⟩ := H3.cur 1 rfl C
      clear C
      have hs8I : InI s8 := by unfold InS at hs8; unfold InI; omega
      go_wp2_with fail
      go_ret2
      exact ⟨s, s8, rfl, hsI, hs8I, H8.fr⟩
theorem alike_comp {l : List Int} (h1 : nameB (encL l) = true) (h2 : nameB (encL (compL l)) = true) : aliB (encL l) (encL (compL l)) = true := by
  rw [aliB, keyR_yes h1, keyR_yes h2, name_enc h1, name_enc h2, keys_comp]
  simp
set_option maxRecDepth 100000 in
set_option maxHeartbeats 8000000 in
theorem lawFnCompose_walk (A : Option Addr) (n c : Nat) (bs : List UInt8) (w : World) (hA : Rd w A n 1 (bs.map cU8)) (hcap : n ≤ 9223372036854775807) (hk : KT w) :
    Calls Tryd.prog 7 #[.slice A n c] w fun e w' => e = .returned (.bool true) ∧ Fr w w' := by
  by_cases hbig : 1048576 < n
  · have hd : decide (1048576 < n) = true := by simpa using hbig
    go_enter Tryd.func7, Tryd.ntmps7
    go_wp2_with fail
    refine (bigC_any A n c _ hcap).mono ?_
    rintro e w1 ⟨rfl, rfl⟩
    rw [hd]
    go_wp2_with fail
    go_ret
    exact ⟨rfl, Below.refl _ _⟩
  have hd : decide (1048576 < n) = false := by simpa using hbig
  have hn : n ≤ 1048576 := by omega
  have G := Lib.hid hA
  have HK := Lib.hid hk
  clear hk
  go_enter Tryd.func7, Tryd.ntmps7
  go_wp2_with fail
  refine (bigC_any A n c _ hcap).mono ?_
  rintro e w1 ⟨rfl, rfl⟩
  rw [hd]
  clear hd
  go_wp2_with fail
  refine (drawCompose_any A n c bs _ hA hn).mono ?_
  rintro e w1 ⟨B, dB, L, rfl, hL8, hLin, H1⟩
  clear hA
  have HLI := Lib.hid (show ∀ x ∈ L, InI x from fun x hx => by have := hLin x hx; unfold InS at this; unfold InI; omega)
  clear hLin
  go_wp2_with fail
  refine (implCompose_any B L.length dB L _ (H1.rd 0 rfl) (by omega) HLI.out).mono ?_
  rintro e w2 ⟨X, dX, rfl, o2, f2⟩
  have H2 := H1.made o2 f2
  clear H1 o2 f2
  have hxl := comp_len L
  have hal := apart_len L
  have hxa := comp_short L
  have HX1 := Lib.hid (apart_comp L)
  have HX2 := Lib.hid (comp_comp L)
  have HXI := Lib.hid (show ∀ x ∈ compL L, InI x from comp_in (l := L) HLI.out)
  have HAL := Lib.hid (fun h1 h2 => alike_comp (l := L) h1 h2)
  obtain ⟨xs, hxs⟩ : ∃ q, q = compL L := ⟨_, rfl⟩
  obtain ⟨ys, hys⟩ : ∃ q, q = apartL L := ⟨_, rfl⟩
  have HXS := Lib.hid hxs
  have HYS := Lib.hid hys
  rw [← hxs] at H2 HX1 HX2 HXI hxl hxa HAL ⊢
  rw [← hys] at HX1 hxa hal
  clear hxs hys
  obtain ⟨kx, hkx⟩ : ∃ q, q = xs.length := ⟨_, rfl⟩
  obtain ⟨ka, hka⟩ : ∃ q, q = ys.length := ⟨_, rfl⟩
  have HKX := Lib.hid hkx
  have HKA := Lib.hid hka
  rw [← hkx] at H2 hxl hxa ⊢
  rw [← hka] at hal hxa
  clear hkx hka
  go_wp2_with fail
  refine (specCompose_any B L.length dB L _ (H2.rd 1 rfl) (by omega) HLI.out).mono ?_
  rintro e w3 ⟨A3, c3, rfl, o3, f3⟩
  rw [← HXS.out, ← HKX.out] at o3 ⊢
  have R3 := Rd.of_own o3
  have H3 := H2.go f3
  clear H2 o3 f3
  go_wp2_with fail
  refine (sameI_yes X kx dX A3 kx c3 xs _ (H3.rd 0 rfl) R3 (by omega)).mono ?_
  rintro e w4 ⟨rfl, f4⟩
  have H4 := H3.go f4
  clear H3 R3 f4
  go_wp2_with fail
  refine (implApart_any X kx dX xs _ (H4.rd 0 rfl) (by omega) HXI.out).mono ?_
  rintro e w5 ⟨A5, c5, rfl, o5, f5⟩
  rw [HX1.out, ← HKA.out] at o5 ⊢
  have R5 := Rd.of_own o5
  have H5 := H4.go f5
  clear H4 o5 f5
  go_wp2_with fail
  refine (specApart_any B L.length dB L _ (H5.rd 1 rfl) (by omega) HLI.out).mono ?_
  rintro e w6 ⟨A6, c6, rfl, o6, f6⟩
  rw [← HYS.out, ← HKA.out] at o6 ⊢
  have R6 := Rd.of_own o6
  have H6 := H5.go f6
  replace R5 := R5.fr f6
  clear H5 o6 f6
  go_wp2_with fail
  refine (sameI_yes A5 ka c5 A6 ka c6 ys _ R5 R6 (by omega)).mono ?_
  rintro e w7 ⟨rfl, f7⟩
  have H7 := H6.go f7
  clear H6 R5 R6 f7
  go_wp2_with fail
  refine (implCompose_any X kx dX xs _ (H7.rd 0 rfl) (by omega) HXI.out).mono ?_
  rintro e w8 ⟨A8, c8, rfl, o8, f8⟩
  rw [HX2.out, ← HKX.out] at o8 ⊢
  have R8 := Rd.of_own o8
  have H8 := H7.go f8
  clear H7 o8 f8
  go_wp2_with fail
  refine (sameI_yes A8 kx c8 X kx dX xs _ R8 (H8.rd 0 rfl) (by omega)).mono ?_
  rintro e w9 ⟨rfl, f9⟩
  have H9 := H8.go f9
  clear H8 R8 f9
  go_wp2_with fail
  refine (specApart_any B L.length dB L _ (H9.rd 1 rfl) (by omega) HLI.out).mono ?_
  rintro e w10 ⟨A10, c10, rfl, o10, f10⟩
  rw [← HYS.out, ← HKA.out]
  have H10 := H9.go f10
  clear H9 o10 f10
  have hlen : decide ((ka : Int) < (kx : Int)) = false := decide_eq_false (by omega)
  go_wp2_with fail
  refine (drawPair_any A n c bs _ (H10.old G.out) hn).mono ?_
  rintro e w11 ⟨a, b, rfl, ha, hb, f11⟩
  have H11 := H10.go f11
  clear H10 f11
  obtain ⟨p, is, hpr⟩ : ∃ p is, pairF a b = (p, is) := ⟨_, _, rfl⟩
  have HP := Lib.hid hpr
  clear hpr
  go_wp2_with fail
  refine (implPair_any a b _).mono ?_
  rintro e w12 ⟨rfl, f12⟩
  have H12 := H11.go f12
  clear H11 f12
  rw [HP.out]
  go_wp2_with fail
  refine (specPair_any a b _).mono ?_
  rintro e w13 ⟨rfl, f13⟩
  have H13 := H12.go f13
  clear H12 f13
  rw [HP.out]
  have hii : (is != is) = false := by cases is <;> rfl
  go_wp2_with fail
  refine (specEncode_any B L.length dB L _ (H13.rd 1 rfl) (by omega)).mono ?_
  rintro e w14 ⟨rfl, f14⟩
  have H14 := H13.go f14
  clear H13 f14
  have hs1 : (ofB (encL L)).size ≤ 16777216 := by rw [ofB_size]; have := encL_le L; omega
  go_wp2_with fail
  refine (specEncode_any X kx dX xs _ (H14.rd 0 rfl) (by omega)).mono ?_
  rintro e w15 ⟨rfl, f15⟩
  have H15 := H14.go f15
  clear H14 f15
  have hs2 : (ofB (encL xs)).size ≤ 16777216 := by rw [ofB_size]; have := encL_le xs; have := HKX.out; omega
  obtain ⟨s1, hs1e⟩ : ∃ q, q = ofB (encL L) := ⟨_, rfl⟩
  obtain ⟨s2, hs2e⟩ : ∃ q, q = ofB (encL xs) := ⟨_, rfl⟩
  rw [← hs1e] at hs1 ⊢
  rw [← hs2e] at hs2 ⊢
  have HS1 := Lib.hid (show toB s1 = encL L by rw [hs1e, toB_ofB])
  have HS2 := Lib.hid (show toB s2 = encL xs by rw [hs2e, toB_ofB])
  clear hs1e hs2e
  go_wp2_with fail
  refine (specNameOk_any s1 _ hs1).mono ?_
  rintro e w16 ⟨rfl, f16⟩
  have H16 := H15.go f16
  clear H15 f16
  cases hn1 : nameB (toB s1) with
  | false =>
    cases is with
    | false =>
      go_wp2_with fail
      go_ret
      exact ⟨rfl, H16.fr⟩
    | true =>
      have hpi := pairF_in HP.out
      have L1 := H16.lit 3 1 1 ([p].map (Value.int .i64)) rfl (by simp [maxLen])
      go_wp2_with fail
      refine (implApart_any _ 1 1 [p] _ (L1.rd 0 rfl) (by decide) (by intro x hx; rw [List.mem_singleton] at hx; subst hx; unfold InI; omega)).mono ?_
      rintro e w20 ⟨A20, c20, rfl, o20, f20⟩
      rw [apart_pair HP.out] at o20 ⊢
      have R20 := Rd.of_own o20
      have H20 := L1.go f20
      clear L1 o20 f20
      have L2 := H20.lit 3 1 2 ([a, b].map (Value.int .i64)) rfl (by simp [maxLen])
      replace R20 := R20.alloc (.cells #[.int .i64 a, .int .i64 b] 3)
      go_wp2_with fail
      refine (implApart_any _ 2 2 [a, b] _ (L2.rd 0 rfl) (by decide) (by intro x hx; simp only [List.mem_cons, List.not_mem_nil, or_false] at hx; rcases hx with rfl | rfl <;> assumption)).mono ?_
      rintro e w21 ⟨A21, c21, rfl, o21, f21⟩
      have R21 := Rd.of_own o21
      have H21 := L2.go f21
      replace R20 := R20.fr f21
      clear L2 o21 f21
      have hpl := apart_len [a, b]
      go_wp2_with fail
      refine (sameI_yes _ _ _ _ _ _ (apartL [a, b]) _ R20 R21 (by simp only [List.length_cons, List.length_nil] at hpl; omega)).mono ?_
      rintro e w22 ⟨rfl, f22⟩
      go_wp2_with fail
      go_ret
      exact ⟨rfl, (H21.go f22).fr⟩
  | true =>
    go_wp2_with fail
    refine (specNameOk_any s2 _ hs2).mono ?_
    rintro e w17 ⟨rfl, f17⟩
    have H17 := H16.go f17
    clear H16 f17
    cases hn2 : nameB (toB s2) with
    | false =>
      cases is with
      | false =>
        go_wp2_with fail
        go_ret
        exact ⟨rfl, H17.fr⟩
      | true =>
        have hpi := pairF_in HP.out
        have L1 := H17.lit 3 1 1 ([p].map (Value.int .i64)) rfl (by simp [maxLen])
        go_wp2_with fail
        refine (implApart_any _ 1 1 [p] _ (L1.rd 0 rfl) (by decide) (by intro x hx; rw [List.mem_singleton] at hx; subst hx; unfold InI; omega)).mono ?_
        rintro e w20 ⟨A20, c20, rfl, o20, f20⟩
        rw [apart_pair HP.out] at o20 ⊢
        have R20 := Rd.of_own o20
        have H20 := L1.go f20
        clear L1 o20 f20
        have L2 := H20.lit 3 1 2 ([a, b].map (Value.int .i64)) rfl (by simp [maxLen])
        replace R20 := R20.alloc (.cells #[.int .i64 a, .int .i64 b] 3)
        go_wp2_with fail
        refine (implApart_any _ 2 2 [a, b] _ (L2.rd 0 rfl) (by decide) (by intro x hx; simp only [List.mem_cons, List.not_mem_nil, or_false] at hx; rcases hx with rfl | rfl <;> assumption)).mono ?_
        rintro e w21 ⟨A21, c21, rfl, o21, f21⟩
        have R21 := Rd.of_own o21
        have H21 := L2.go f21
        replace R20 := R20.fr f21
        clear L2 o21 f21
        have hpl := apart_len [a, b]
        go_wp2_with fail
        refine (sameI_yes _ _ _ _ _ _ (apartL [a, b]) _ R20 R21 (by simp only [List.length_cons, List.length_nil] at hpl; omega)).mono ?_
        rintro e w22 ⟨rfl, f22⟩
        go_wp2_with fail
        go_ret
        exact ⟨rfl, (H21.go f22).fr⟩
    | true =>
      have HA1 := Lib.hid (show aliB (toB s1) (toB s2) = true by rw [HS1.out] at hn1 ⊢; rw [HS2.out] at hn2 ⊢; exact HAL.out hn1 hn2)
      clear hn1 hn2
      go_wp2_with fail
      refine (implAlike_any s1 s2 _ hs1 hs2 (HK.out.fr H17.fr)).mono ?_
      rintro e w18 ⟨rfl, f18⟩
      have H18 := H17.go f18
      clear H17 f18
      rw [HA1.out]
      cases is with
      | false =>
        go_wp2_with fail
        go_ret
        exact ⟨rfl, H18.fr⟩
      | true =>
        have hpi := pairF_in HP.out
        have L1 := H18.lit 3 1 1 ([p].map (Value.int .i64)) rfl (by simp [maxLen])
        go_wp2_with fail
        refine (implApart_any _ 1 1 [p] _ (L1.rd 0 rfl) (by decide) (by intro x hx; rw [List.mem_singleton] at hx; subst hx; unfold InI; omega)).mono ?_
        rintro e w20 ⟨A20, c20, rfl, o20, f20⟩
        rw [apart_pair HP.out] at o20 ⊢
        have R20 := Rd.of_own o20
        have H20 := L1.go f20
        clear L1 o20 f20
        have L2 := H20.lit 3 1 2 ([a, b].map (Value.int .i64)) rfl (by simp [maxLen])
        replace R20 := R20.alloc (.cells #[.int .i64 a, .int .i64 b] 3)
        go_wp2_with fail
        refine (implApart_any _ 2 2 [a, b] _ (L2.rd 0 rfl) (by decide) (by intro x hx; simp only [List.mem_cons, List.not_mem_nil, or_false] at hx; rcases hx with rfl | rfl <;> assumption)).mono ?_
        rintro e w21 ⟨A21, c21, rfl, o21, f21⟩
        have R21 := Rd.of_own o21
        have H21 := L2.go f21
        replace R20 := R20.fr f21
        clear L2 o21 f21
        have hpl := apart_len [a, b]
        go_wp2_with fail
        refine (sameI_yes _ _ _ _ _ _ (apartL [a, b]) _ R20 R21 (by simp only [List.length_cons, List.length_nil] at hpl; omega)).mono ?_
        rintro e w22 ⟨rfl, f22⟩
        go_wp2_with fail
        go_ret
        exact ⟨rfl, (H21.go f22).fr⟩
end Go.Proofs.YtfmifaneggenoaaDoor
