/-
  The law FnSorted, walked.
-/
import Derived.Test.YtfmifaneggenoaaDoorSortL
import Derived.Test.YtfmifaneggenoaaDoorDrawName
import Derived.Test.YtfmifaneggenoaaDoorLaw
namespace Go.Proofs.YtfmifaneggenoaaDoor
open Go.RowKit

set_option linter.unusedSimpArgs false
set_option linter.unusedVariables false
theorem bigS_any (A : Option Addr) (n c : Nat) (w : World) (_hn : n ≤ 9223372036854775807) :
    Calls Tryd.prog 16 #[.slice A n c] w fun e w' => e = .returned (.bool (decide (1048576 < n))) ∧ w = w' := by
  go_enter Tryd.func16, Tryd.ntmps16
  go_wp2
  go_ret
  exact ⟨ret_bool (by simp; omega), rfl⟩
theorem own_ncS {w : World} {base : Nat} {e : TypeId} {k n c : Nat} {A : Option Addr} {xs : List Value} (h : w.ownsRow base e k (.slice A n c) n xs) : A = none → c = 0 := by
  rintro rfl
  rcases h.2 with ⟨hv, _⟩ | ⟨g, cap, cur, hv, _⟩
  · injection hv
  · injection hv with h1; cases h1
theorem ordT_num (a b : List UInt8) : -1 ≤ ordT a b ∧ ordT a b ≤ 1 := by
  have h1 := cmpT_num (keyS a) (keyS b)
  have h2 := cmpT_num a b
  rw [ordT]
  split <;> omega
/-- Between two alike names in order each right name is alike. -/
theorem nle_key {a b : ByteArray} (h : nle a b) : cmpT (keyS (toB a)) (keyS (toB b)) ≤ 0 := by
  unfold nle ordT at h
  by_cases h0 : cmpT (keyS (toB a)) (keyS (toB b)) = 0
  · omega
  · rw [if_pos h0] at h; exact h
theorem cmpT_anti {a b : List UInt8} (h1 : cmpT a b ≤ 0) (h2 : cmpT b a ≤ 0) : a = b := by
  have := cmpT_neg a b
  exact cmpT_eq.1 (by omega)
theorem alike_mid {a b c : ByteArray} (h1 : nle a b) (h2 : nle b c) (h3 : aliB (toB a) (toB c) = true) (h4 : nameB (toB b) = true) : aliB (toB a) (toB b) = true := by
  simp only [aliB, Bool.and_eq_true, decide_eq_true_eq] at h3 ⊢
  obtain ⟨⟨h5, h6⟩, h7⟩ := h3
  have h8 : (keyR (toB b)).2 = true := by rw [keyR_yes h4]
  have k1 := nle_key h1
  have k2 := nle_key h2
  rw [keyS_yes h5, keyS_yes h8] at k1
  rw [keyS_yes h8, keyS_yes h6, ← h7] at k2
  exact ⟨⟨h5, h8⟩, cmpT_anti k1 k2⟩
set_option maxRecDepth 100000 in
set_option maxHeartbeats 4000000 in
theorem drawSortNames_any (A : Option Addr) (n c : Nat) (bs : List UInt8) (w : World) (hA : Rd w A n 1 (bs.map cU8)) (hn : n ≤ 1048576) :
    Calls Tryd.prog 41 #[.slice A n c] w fun e w' => ∃ (B : Option Addr) (m d : Nat) (l : List ByteArray), e = .returned (.slice B m d) ∧ m ≤ 6 ∧ (∀ x ∈ l, x.size ≤ 32) ∧ Hp [] w w' [.row 9 1 (.slice B m d) m (l.map Value.string)] := by
  have G := Lib.hid hA
  go_enter Tryd.func41, Tryd.ntmps41
  go_wp2_with fail
  refine (l1New_any A n c bs _ hA hn).mono ?_
  rintro e w1 ⟨g, h, rfl, H1⟩
  have hne := old_ne hA (own_new H1)
  have NE := Lib.hid hne
  have H2 := H1.lit0 9 1
  clear H1 hA hne
  go_wp2_with fail
  refine (l1Below_any g A n c bs 0 h 7 _ (H2.blk 1 rfl) (H2.old G.out) NE.out (by omega) (by omega) hn (by omega)).mono ?_
  rintro e w2 ⟨x1, rfl, x0, xm, _, C⟩
  obtain ⟨i1, hh1, a1, b1, H3⟩ := H2.cur 1 rfl C
  have x2 := xm (by omega)
  obtain ⟨k0, rfl⟩ : ∃ q : Nat, x1 = q := ⟨x1.toNat, by omega⟩
  clear H2 C xm
  go_wp2_with fail
  go_loopw [4, 5] (fun v j wr => ∃ (k : Nat) (L : List ByteArray) (i' h' : Int), j = .int .i64 k ∧ L.length + k ≤ 6 ∧ (∀ x ∈ L, x.size ≤ 32) ∧ 0 ≤ i' ∧ i' ≤ n ∧
    Hp [] w wr [.row 9 1 v L.length (L.map Value.string), .blk g 75 [.slice A n c, .int .i64 i', .int .i64 h']]) (fun _ j _ => (intOf j).toNat)
  case atStart => exact ⟨k0, [], i1, hh1, rfl, by simp; omega, by simp, a1, b1, H3⟩
  case round =>
    clear H3
    obtain ⟨k, L, i3, h3, rfl, hL, hin, a3, b3, H⟩ := hrel
    have HIN := Lib.hid hin
    clear hin
    rcases Nat.eq_zero_or_pos k with hk | hk
    · subst hk
      obtain ⟨B, d, rfl⟩ := H.shape 0 rfl
      have HH := Lib.hid H.drop1
      clear H
      go_wp2_with fail
      go_ret
      exact ⟨B, L.length, d, L, rfl, by omega, HIN.out, HH.out⟩
    · have hkk : (0 : Int) < (k : Int) := by omega
      go_wp2_with fail
      refine (l4Name_any g A n c bs i3 h3 _ (H.blk 1 rfl) (H.old G.out) NE.out a3 b3 hn).mono ?_
      rintro e w4 ⟨x, rfl, hx, C⟩
      obtain ⟨i4, h4, a4, b4, H4⟩ := H.cur 1 rfl C
      have HX := Lib.hid hx
      clear H C hx
      go_wp2_with (at_builtin; refine wp_appM (f := Value.string) (H4) rfl _ _ _ rfl Tryd.underlying38 infoString rfl 0 _ _ rfl rfl _ _ (x) rfl (by simp) rfl (by first | (simp only [maxLen]; omega) | (simp [maxLen]; done) | (simp [maxLen]; omega)) (by first | omega | (simp; done) | (simp; omega)) ?_)
      intro v' w5 H5
      have H6 := Lib.hid (show Hp [] w w5 [.row 9 1 v' (L ++ [x]).length ((L ++ [x]).map Value.string), .blk g 75 [.slice A n c, .int .i64 i4, .int .i64 h4]] by
        rw [List.map_append, List.length_append]; exact H5)
      clear H4 H5
      go_wp2_with fail
      go_roundw
      case rel => exact ⟨k - 1, L ++ [x], i4, h4, by go_num, by simp; omega, fun y hy => by
        rcases List.mem_append.1 hy with h | h
        · exact HIN.out y h
        · rw [List.mem_singleton.1 h]; exact HX.out, a4, b4, H6.out⟩
      case measure => simp [intOf]; omega
set_option maxRecDepth 100000 in
set_option maxHeartbeats 1000000 in
theorem sameTextsL_any (A B : Option Addr) (n c d : Nat) (l : List ByteArray) (w : World) (h : Rd w A n 1 (l.map Value.string)) (h' : Rd w B n 1 (l.map Value.string)) (hn : n ≤ 1048576) :
    Calls Tryd.prog 42 #[.slice A n c, .slice B n d] w fun e w' => e = .returned (.bool true) ∧ Fr w w' := by
  have HL := Lib.hid h.len1
  go_enter Tryd.func42, Tryd.ntmps42
  go_wp2_with fail
  go_loopw [5] (fun i wr => ∃ k : Nat, i = .int .i64 k ∧ k ≤ n ∧ Fr w wr) (fun i _ => n - (intOf i).toNat)
  case atStart => exact ⟨0, rfl, Nat.zero_le _, Below.refl _ _⟩
  case round =>
    obtain ⟨k, rfl, hk, hfr⟩ := hrel
    have HF := Lib.hid hfr
    by_cases hlt : k < n
    · have hlt1 : (k : Int) < (n : Int) := by omega
      have hk0 : (0 : Int) ≤ (k : Int) := by omega
      obtain ⟨x, hx⟩ := some_at HL.out hlt
      obtain ⟨b1, o1, rfl, c1⟩ := (h.fr hfr).get1 hx
      obtain ⟨b2, o2, rfl, c2⟩ := (h'.fr hfr).get1 hx
      have hss : (x.toList != x.toList) = false := bne_self_eq_false _
      clear h h' hx hfr
      go_wp2_with fail
      refine wp_region_quiet_lit (by kernel_rfl) (by kernel_rfl) ?_
      repeat (any_goals (first | go_big_quiet_step ((fail)) | quiet_step ((fail)) | (refine wpQuiet_step (fun K hK => ?_); go_simp; split <;> (refine hK _ ?_; clear hK K))))
      all_goals (refine wpQuiet_nil ?_; intro _ hw_; obtain ⟨nq, hw__⟩ := hw_; subst hw__)
      go_wp2_with fail
      go_roundw
      case rel => exact ⟨k + 1, by go_num, by omega, HF.out.then (Fr.drewN_ _ _)⟩
      case measure => simp [intOf]; omega
    · have hlt1 : ¬ ((k : Int) < (n : Int)) := by omega
      go_wp2_with fail
      go_ret
      exact ⟨rfl, HF.out⟩
set_option maxRecDepth 100000 in
set_option maxHeartbeats 8000000 in
theorem lawFnSorted_walk (A : Option Addr) (n c : Nat) (bs : List UInt8) (w : World) (hA : Rd w A n 1 (bs.map cU8)) (hcap : n ≤ 9223372036854775807) (hk : KT w) :
    Calls Tryd.prog 9 #[.slice A n c] w fun e w' => e = .returned (.bool true) ∧ Fr w w' := by
  by_cases hbig : 1048576 < n
  · have hd : decide (1048576 < n) = true := by simpa using hbig
    go_enter Tryd.func9, Tryd.ntmps9
    go_wp2_with fail
    refine (bigS_any A n c _ hcap).mono ?_
    rintro e w1 ⟨rfl, rfl⟩
    rw [hd]
    go_wp2_with fail
    go_ret
    exact ⟨rfl, Below.refl _ _⟩
  have hd : decide (1048576 < n) = false := by simpa using hbig
  have hn : n ≤ 1048576 := by omega
  have HA := Lib.hid hA
  have HK := Lib.hid hk
  go_enter Tryd.func9, Tryd.ntmps9
  go_wp2_with fail
  refine (bigS_any A n c _ hcap).mono ?_
  rintro e wq ⟨rfl, hwq⟩
  rw [← hwq, hd]
  clear hwq hd hbig hA hk
  go_wp2_with fail
  refine (drawSortNames_any A n c bs _ HA.out hn).mono ?_
  rintro e w1 ⟨B, m, d, l, rfl, hm, hz, H1⟩
  have hcB := own_ncS (H1.row 0 rfl)
  have HZ := Lib.hid (show ∀ x ∈ l, x.size ≤ 16777216 from fun x hx => Nat.le_trans (hz x hx) (by decide))
  clear hz
  go_wp2_with fail
  refine (implSortNames_any B m d l _ (H1.rd 0 rfl) hcB (by omega) HZ.out (HK.out.fr H1.fr)).mono ?_
  rintro e w2 ⟨C, dc, rfl, o2, f2⟩
  have H2 := H1.made o2 f2
  clear H1 o2 f2 hcB
  go_wp2_with fail
  refine (specSortNames_any B m d l _ (H2.rd 1 rfl) (by omega) HZ.out).mono ?_
  rintro e w3 ⟨D, dd, rfl, o3, f3⟩
  have H3 := H2.made o3 f3
  clear H2 o3 f3
  go_wp2_with fail
  refine (sameTextsL_any C D m dc dd (sortL l) _ (H3.rd 1 rfl) (H3.rd 0 rfl) (by omega)).mono ?_
  rintro e w4 ⟨rfl, f4⟩
  have HZS := Lib.hid (show ∀ x ∈ sortL l, x.size ≤ 16777216 from fun x hx => HZ.out x ((sortL_perm l).mem_iff.1 hx))
  have HU := Lib.hid (sortL_up l)
  have HL := Lib.hid (show (sortL l).length = m by rw [sortL_len]; exact (H3.rd 2 rfl).len1)
  obtain ⟨ys, hys⟩ : ∃ ys, ys = sortL l := ⟨_, rfl⟩
  rw [← hys] at HZS HU HL H3
  have H : Hp [] w w4 [.row 9 1 (.slice C m dc) m (ys.map Value.string)] := ((H3.go f4).tail).drop1
  clear H3 f4 hys HZ
  go_wp2_with fail
  go_loopw [5] (fun iv wr => ∃ i : Nat, iv = .int .i64 i ∧ 1 ≤ i ∧ (i ≤ m ∨ i = 1) ∧ Hp [] w wr [.row 9 1 (.slice C m dc) m (ys.map Value.string)]) (fun iv _ => m - (intOf iv).toNat)
  case atStart => exact ⟨1, rfl, by omega, .inr rfl, H⟩
  case round =>
    clear H
    obtain ⟨i, rfl, hi1, hi2, H⟩ := hrel
    by_cases hlt : i < m
    · have hlt1 : (i : Int) < (m : Int) := by omega
      obtain ⟨g, dc', e, _⟩ := H.form 0 rfl (by omega)
      injection e with e1 _ e2
      subst e1 e2
      obtain ⟨p, hp1, hp2⟩ : ∃ p : Nat, p + 1 ≤ i ∧ i ≤ p + 1 := ⟨i - 1, by omega, by omega⟩
      have hwp' : (i : Int) - 1 = (p : Int) := by omega
      have hwp0 : IntKind.i64.wrap (p : Int) = (p : Int) := IntWalk.i64_in _ (by omega)
      have hwp : IntKind.i64.wrap ((i : Int) - 1) = (p : Int) := by rw [hwp']; exact hwp0
      have hwi0 : IntKind.i64.wrap (i : Int) = (i : Int) := IntWalk.i64_in _ (by omega)
      have hi0 : (0 : Int) ≤ (i : Int) := by omega
      have hp0 : (0 : Int) ≤ (p : Int) := by omega
      have hpm : (p : Int) < (m : Int) := by omega
      obtain ⟨x, hx⟩ := at_some HL.out (show p < m by omega)
      obtain ⟨y, hy⟩ := at_some HL.out hlt
      have HX := Lib.hid hx
      have HY := Lib.hid hy
      clear hx hy
      have sx := Lib.hid (HZS.out x HX.out.mem)
      have sy := Lib.hid (HZS.out y HY.out.mem)
      obtain ⟨o, ho⟩ : ∃ o, o = ordT (toB x) (toB y) := ⟨_, rfl⟩
      have HO := Lib.hid ho
      have hle : o ≤ 0 := by
        have := List.pairwise_iff_getElem.1 HU.out p i (List.getElem?_eq_some_iff.1 HX.out).1 (List.getElem?_eq_some_iff.1 HY.out).1 (by omega)
        obtain ⟨q1, e1⟩ := List.getElem?_eq_some_iff.1 HX.out
        obtain ⟨q2, e2⟩ := List.getElem?_eq_some_iff.1 HY.out
        rw [e1, e2] at this
        rw [ho]; exact this
      have hd1 : decide (0 < o) = false := by simp; omega
      have hd2 : ¬ (0 < o) := by omega
      clear ho
      replace H := H.drew
      have cx := H.atM (f1 := Value.string) 0 rfl HX.out
      have cy := H.atM (f1 := Value.string) 0 rfl HY.out
      go_wp2_with fail
      refine wp_region_held_drew (S := fun w' => w'.cell? ⟨g, p, none⟩ = some (.string x) ∧ w'.cell? ⟨g, i, none⟩ = some (.string y)) (by kernel_rfl) ?_ (fun hHeld => ?_)
      · exact ⟨cx, cy⟩
      obtain ⟨u0, hu0⟩ : ∃ uu : World, uu = wr.drew := ⟨_, rfl⟩
      rw [← hu0] at H hHeld ⊢
      clear hu0
      refine wpAnyH_take (i := 0) (v := ?_) rfl (by kernel_rfl) (by kernel_rfl) (by kernel_rfl) (fun _ _ _ h => h) (Or.inl ⟨by kernel_rfl, ?_⟩) (by assumption) ?_
      rotate_left
      · (intro w hSw; (try dsimp only at hSw); go_simp; try (with_reducible rfl))
      try simp only [sA, sB, sC, Act.put, sD, sE, sF]
      refine wpAnyH_take (i := 1) (v := ?_) rfl (by kernel_rfl) (by kernel_rfl) (by kernel_rfl) (fun _ _ _ h => h) (Or.inl ⟨by kernel_rfl, ?_⟩) (by assumption) ?_
      rotate_left
      · (intro w hSw; (try dsimp only at hSw); go_simp; try (with_reducible rfl))
      try simp only [sA, sB, sC, Act.put, sD, sE, sF]
      refine wpAnyH_take (i := 2) (v := ?_) rfl (by kernel_rfl) (by kernel_rfl) (by kernel_rfl) (fun _ _ _ h => h) (Or.inl ⟨by kernel_rfl, ?_⟩) (by assumption) ?_
      rotate_left
      · (intro w hSw; (try dsimp only at hSw); go_simp; try (with_reducible rfl))
      try simp only [sA, sB, sC, Act.put, sD, sE, sF]
      refine wpAnyH_take (i := 3) (v := ?_) rfl (by kernel_rfl) (by kernel_rfl) (by kernel_rfl) (fun _ _ _ h => h) (Or.inl ⟨by kernel_rfl, ?_⟩) (by assumption) ?_
      rotate_left
      · (intro w hSw; (try dsimp only at hSw); go_simp; try (with_reducible rfl))
      try simp only [sA, sB, sC, Act.put, sD, sE, sF]
      refine wpAnyH_take (i := 4) (v := ?_) rfl (by kernel_rfl) (by kernel_rfl) (by kernel_rfl) (fun _ _ _ h => h) (Or.inl ⟨by kernel_rfl, ?_⟩) (by assumption) ?_
      rotate_left
      · (intro w hSw; (try dsimp only at hSw); go_simp; try (with_reducible rfl))
      try simp only [sA, sB, sC, Act.put, sD, sE, sF]
      refine wpAnyH_take (i := 5) (v := ?_) rfl (by kernel_rfl) (by kernel_rfl) (by kernel_rfl) (fun _ _ _ h => h) (Or.inl ⟨by kernel_rfl, ?_⟩) (by assumption) ?_
      rotate_left
      · (intro w hSw; (try dsimp only at hSw); go_simp; try (with_reducible rfl))
      try simp only [sA, sB, sC, Act.put, sD, sE, sF]
      refine wpAnyH_take (i := 6) (v := ?_) rfl (by kernel_rfl) (by kernel_rfl) (by kernel_rfl) (fun _ _ _ h => h) (Or.inl ⟨by kernel_rfl, ?_⟩) (by assumption) ?_
      rotate_left
      · (intro w hSw; (try dsimp only at hSw); go_simp; try (with_reducible rfl))
      try simp only [sA, sB, sC, Act.put, sD, sE, sF]
      refine wpAnyH_take (i := 7) (v := ?_) rfl (by kernel_rfl) (by kernel_rfl) (by kernel_rfl) (fun _ _ _ h => h) (Or.inl ⟨by kernel_rfl, ?_⟩) (by assumption) ?_
      rotate_left
      · (intro w hSw; (try dsimp only at hSw); go_simp; try (with_reducible rfl))
      try simp only [sA, sB, sC, Act.put, sD, sE, sF]
      refine wpAnyH_take (i := 8) (v := ?_) rfl (by kernel_rfl) (by kernel_rfl) (by kernel_rfl) (fun _ _ _ h => h) (Or.inl ⟨by kernel_rfl, ?_⟩) (by assumption) ?_
      rotate_left
      · (intro w hSw; (try dsimp only at hSw); go_simp; try (with_reducible rfl))
      try simp only [sA, sB, sC, Act.put, sD, sE, sF]
      refine wpAnyH_ready (rs := [9]) (by kernel_rfl) (by simp) ?_
      refine (AllReadyH.cons rfl (fun K hK => ?_) AllReadyH.nil)
      go_simp
      refine (implOrder_any x y _ sx.out sy.out (HK.out.fr H.fr)).mono ?_
      rintro e u1 ⟨rfl, f9⟩
      replace H := H.go f9
      clear f9
      rw [← HO.out]
      go_wp2_with fail
      refine hK.out _ _ ?_ (fun hHeld => ?_)
      · exact ⟨H.atM (f1 := Value.string) 0 rfl HX.out, H.atM (f1 := Value.string) 0 rfl HY.out⟩
      clear hK K
      try simp only [sA, sB, sC, Act.put, sD, sE, sF]
      refine wpAnyH_take (i := 10) (v := ?_) rfl (by kernel_rfl) (by kernel_rfl) (by kernel_rfl) (fun _ _ _ h => h) (Or.inl ⟨by kernel_rfl, ?_⟩) (by assumption) ?_
      rotate_left
      · (intro w hSw; (try dsimp only at hSw); go_simp; try (with_reducible rfl))
      try simp only [sA, sB, sC, Act.put, sD, sE, sF]
      refine wpAnyH_done (by kernel_rfl) ?_ _
      clear cx cy
      go_wp2_with fail
      go_roundw
      case rel => exact ⟨i + 1, by go_num, by omega, by omega, H⟩
      case measure => simp [intOf]; omega
    · have hlt1 : ¬ ((i : Int) < (m : Int)) := by omega
      go_wp2_with fail
      go_loopw [6] (fun iv wr => ∃ i : Nat, iv = .int .i64 i ∧ i ≤ m ∧ Hp [] w wr [.row 9 1 (.slice C m dc) m (ys.map Value.string)]) (fun iv _ => m - (intOf iv).toNat)
      case atStart => exact ⟨0, rfl, by omega, H⟩
      case round =>
        clear H
        obtain ⟨i, rfl, him, H⟩ := hrel
        by_cases hlt2 : i < m
        · have hlt3 : (i : Int) < (m : Int) := by omega
          obtain ⟨g, dc', e, _⟩ := H.form 0 rfl (by omega)
          injection e with e1 _ e2
          subst e1 e2
          have hw2 : IntKind.i64.wrap ((i : Int) + 2) = (i : Int) + 2 := IntWalk.i64_in _ (by omega)
          go_wp2_with fail
          go_loopw [7] (fun kv wr => ∃ k : Nat, kv = .int .i64 k ∧ i + 2 ≤ k ∧ (k ≤ m ∨ k = i + 2) ∧ Hp [] w wr [.row 9 1 (.slice (some ⟨g, 0, none⟩) m dc) m (ys.map Value.string)]) (fun kv _ => m - (intOf kv).toNat)
          case atStart => exact ⟨i + 2, by go_num, by omega, .inr rfl, H⟩
          case round =>
            clear H
            obtain ⟨k, rfl, hk1, hk2, H⟩ := hrel
            by_cases hlt4 : k < m
            · have hlt5 : (k : Int) < (m : Int) := by omega
              obtain ⟨p, hp1, hp2⟩ : ∃ p : Nat, p ≤ i + 1 ∧ i + 1 ≤ p := ⟨i + 1, by omega, by omega⟩
              have hwp' : (i : Int) + 1 = (p : Int) := by omega
              have hwp0 : IntKind.i64.wrap (p : Int) = (p : Int) := IntWalk.i64_in _ (by omega)
              have hwp : IntKind.i64.wrap ((i : Int) + 1) = (p : Int) := by rw [hwp']; exact hwp0
              have hwi0 : IntKind.i64.wrap (i : Int) = (i : Int) := IntWalk.i64_in _ (by omega)
              have hwk0 : IntKind.i64.wrap (k : Int) = (k : Int) := IntWalk.i64_in _ (by omega)
              have hi0 : (0 : Int) ≤ (i : Int) := by omega
              have hk0 : (0 : Int) ≤ (k : Int) := by omega
              have hp0 : (0 : Int) ≤ (p : Int) := by omega
              have hpm : (p : Int) < (m : Int) := by omega
              obtain ⟨x, hx⟩ := at_some HL.out hlt2
              obtain ⟨z, hz⟩ := at_some HL.out (show p < m by omega)
              obtain ⟨y, hy⟩ := at_some HL.out hlt4
              have HX := Lib.hid hx
              have HY := Lib.hid hy
              have HZ := Lib.hid hz
              clear hx hy hz
              have sx := Lib.hid (HZS.out x HX.out.mem)
              have sy := Lib.hid (HZS.out y HY.out.mem)
              have sz := Lib.hid (HZS.out z HZ.out.mem)
              have HXZ := Lib.hid (show nle x z ∧ nle z y by
                obtain ⟨q1, e1⟩ := List.getElem?_eq_some_iff.1 HX.out
                obtain ⟨q2, e2⟩ := List.getElem?_eq_some_iff.1 HY.out
                obtain ⟨q3, e3⟩ := List.getElem?_eq_some_iff.1 HZ.out
                have k1 := List.pairwise_iff_getElem.1 HU.out i p q1 q3 (by omega)
                have k2 := List.pairwise_iff_getElem.1 HU.out p k q3 q2 (by omega)
                rw [e1, e3] at k1
                rw [e3, e2] at k2
                exact ⟨k1, k2⟩)
              obtain ⟨b1, hb1⟩ : ∃ b, b = aliB (toB x) (toB y) := ⟨_, rfl⟩
              obtain ⟨b2, hb2⟩ : ∃ b, b = nameB (toB z) := ⟨_, rfl⟩
              obtain ⟨b3, hb3⟩ : ∃ b, b = aliB (toB x) (toB z) := ⟨_, rfl⟩
              have HB1 := Lib.hid hb1
              have HB2 := Lib.hid hb2
              have HB3 := Lib.hid hb3
              clear hb1 hb2 hb3
              replace H := H.drew
              have cx := H.atM (f1 := Value.string) 0 rfl HX.out
              have cy := H.atM (f1 := Value.string) 0 rfl HY.out
              have cz := H.atM (f1 := Value.string) 0 rfl HZ.out
              cases b1 with
              | false =>
                go_wp2_with fail
                refine wp_region_held_drew (S := fun w' => w'.cell? ⟨g, i, none⟩ = some (.string x) ∧ w'.cell? ⟨g, p, none⟩ = some (.string z) ∧ w'.cell? ⟨g, k, none⟩ = some (.string y)) (by kernel_rfl) ?_ (fun hHeld => ?_)
                · exact ⟨cx, cz, cy⟩
                obtain ⟨u0, hu0⟩ : ∃ uu : World, uu = wr.drew := ⟨_, rfl⟩
                rw [← hu0] at H hHeld ⊢
                clear hu0
                refine wpAnyH_take (i := 0) (v := ?_) rfl (by kernel_rfl) (by kernel_rfl) (by kernel_rfl) (fun _ _ _ h => h) (Or.inl ⟨by kernel_rfl, ?_⟩) (by assumption) ?_
                rotate_left
                · (intro w hSw; (try dsimp only at hSw); go_simp; try (with_reducible rfl))
                try simp only [sA, sB, sC, Act.put, sD, sE, sF]
                refine wpAnyH_take (i := 1) (v := ?_) rfl (by kernel_rfl) (by kernel_rfl) (by kernel_rfl) (fun _ _ _ h => h) (Or.inl ⟨by kernel_rfl, ?_⟩) (by assumption) ?_
                rotate_left
                · (intro w hSw; (try dsimp only at hSw); go_simp; try (with_reducible rfl))
                try simp only [sA, sB, sC, Act.put, sD, sE, sF]
                refine wpAnyH_take (i := 2) (v := ?_) rfl (by kernel_rfl) (by kernel_rfl) (by kernel_rfl) (fun _ _ _ h => h) (Or.inl ⟨by kernel_rfl, ?_⟩) (by assumption) ?_
                rotate_left
                · (intro w hSw; (try dsimp only at hSw); go_simp; try (with_reducible rfl))
                try simp only [sA, sB, sC, Act.put, sD, sE, sF]
                refine wpAnyH_take (i := 3) (v := ?_) rfl (by kernel_rfl) (by kernel_rfl) (by kernel_rfl) (fun _ _ _ h => h) (Or.inl ⟨by kernel_rfl, ?_⟩) (by assumption) ?_
                rotate_left
                · (intro w hSw; (try dsimp only at hSw); go_simp; try (with_reducible rfl))
                try simp only [sA, sB, sC, Act.put, sD, sE, sF]
                refine wpAnyH_take (i := 4) (v := ?_) rfl (by kernel_rfl) (by kernel_rfl) (by kernel_rfl) (fun _ _ _ h => h) (Or.inl ⟨by kernel_rfl, ?_⟩) (by assumption) ?_
                rotate_left
                · (intro w hSw; (try dsimp only at hSw); go_simp; try (with_reducible rfl))
                try simp only [sA, sB, sC, Act.put, sD, sE, sF]
                refine wpAnyH_take (i := 5) (v := ?_) rfl (by kernel_rfl) (by kernel_rfl) (by kernel_rfl) (fun _ _ _ h => h) (Or.inl ⟨by kernel_rfl, ?_⟩) (by assumption) ?_
                rotate_left
                · (intro w hSw; (try dsimp only at hSw); go_simp; try (with_reducible rfl))
                try simp only [sA, sB, sC, Act.put, sD, sE, sF]
                refine wpAnyH_take (i := 6) (v := ?_) rfl (by kernel_rfl) (by kernel_rfl) (by kernel_rfl) (fun _ _ _ h => h) (Or.inl ⟨by kernel_rfl, ?_⟩) (by assumption) ?_
                rotate_left
                · (intro w hSw; (try dsimp only at hSw); go_simp; try (with_reducible rfl))
                try simp only [sA, sB, sC, Act.put, sD, sE, sF]
                refine wpAnyH_take (i := 7) (v := ?_) rfl (by kernel_rfl) (by kernel_rfl) (by kernel_rfl) (fun _ _ _ h => h) (Or.inl ⟨by kernel_rfl, ?_⟩) (by assumption) ?_
                rotate_left
                · (intro w hSw; (try dsimp only at hSw); go_simp; try (with_reducible rfl))
                try simp only [sA, sB, sC, Act.put, sD, sE, sF]
                refine wpAnyH_ready (rs := [8]) (by kernel_rfl) (by simp) ?_
                refine (AllReadyH.cons rfl (fun K hK => ?_) AllReadyH.nil)
                go_simp
                refine (specAlike_any x y _ sx.out sy.out).mono ?_
                rintro e u1 ⟨rfl, f9⟩
                replace H := H.go f9
                clear f9
                rw [← HB1.out]
                go_wp2_with fail
                refine hK.out _ _ ?_ (fun hHeld => ?_)
                · exact ⟨H.atM (f1 := Value.string) 0 rfl HX.out, H.atM (f1 := Value.string) 0 rfl HZ.out, H.atM (f1 := Value.string) 0 rfl HY.out⟩
                clear hK K
                try simp only [sA, sB, sC, Act.put, sD, sE, sF]
                refine wpAnyH_take (i := 9) (v := ?_) rfl (by kernel_rfl) (by kernel_rfl) (by kernel_rfl) (fun _ _ _ h => h) (Or.inl ⟨by kernel_rfl, ?_⟩) (by assumption) ?_
                rotate_left
                · (intro w hSw; (try dsimp only at hSw); go_simp; try (with_reducible rfl))
                try simp only [sA, sB, sC, Act.put, sD, sE, sF]
                refine wpAnyH_take (i := 10) (v := undef) rfl (by kernel_rfl) (by kernel_rfl) (by kernel_rfl) (fun _ _ _ h => h) (Or.inr ⟨by kernel_rfl, rfl⟩) (by assumption) ?_
                try simp only [sA, sB, sC, Act.put, sD, sE, sF]
                refine wpAnyH_take (i := 11) (v := undef) rfl (by kernel_rfl) (by kernel_rfl) (by kernel_rfl) (fun _ _ _ h => h) (Or.inr ⟨by kernel_rfl, rfl⟩) (by assumption) ?_
                try simp only [sA, sB, sC, Act.put, sD, sE, sF]
                refine wpAnyH_take (i := 12) (v := undef) rfl (by kernel_rfl) (by kernel_rfl) (by kernel_rfl) (fun _ _ _ h => h) (Or.inr ⟨by kernel_rfl, rfl⟩) (by assumption) ?_
                try simp only [sA, sB, sC, Act.put, sD, sE, sF]
                refine wpAnyH_take (i := 13) (v := undef) rfl (by kernel_rfl) (by kernel_rfl) (by kernel_rfl) (fun _ _ _ h => h) (Or.inr ⟨by kernel_rfl, rfl⟩) (by assumption) ?_
                try simp only [sA, sB, sC, Act.put, sD, sE, sF]
                refine wpAnyH_take (i := 14) (v := undef) rfl (by kernel_rfl) (by kernel_rfl) (by kernel_rfl) (fun _ _ _ h => h) (Or.inr ⟨by kernel_rfl, rfl⟩) (by assumption) ?_
                try simp only [sA, sB, sC, Act.put, sD, sE, sF]
                refine wpAnyH_take (i := 15) (v := undef) rfl (by kernel_rfl) (by kernel_rfl) (by kernel_rfl) (fun _ _ _ h => h) (Or.inr ⟨by kernel_rfl, rfl⟩) (by assumption) ?_
                try simp only [sA, sB, sC, Act.put, sD, sE, sF]
                refine wpAnyH_take (i := 16) (v := ?_) rfl (by kernel_rfl) (by kernel_rfl) (by kernel_rfl) (fun _ _ _ h => h) (Or.inl ⟨by kernel_rfl, ?_⟩) (by assumption) ?_
                rotate_left
                · (intro w hSw; (try dsimp only at hSw); go_simp; try (with_reducible rfl))
                try simp only [sA, sB, sC, Act.put, sD, sE, sF]
                refine wpAnyH_take (i := 17) (v := ?_) rfl (by kernel_rfl) (by kernel_rfl) (by kernel_rfl) (fun _ _ _ h => h) (Or.inl ⟨by kernel_rfl, ?_⟩) (by assumption) ?_
                rotate_left
                · (intro w hSw; (try dsimp only at hSw); go_simp; try (with_reducible rfl))
                try simp only [sA, sB, sC, Act.put, sD, sE, sF]
                refine wpAnyH_take (i := 18) (v := undef) rfl (by kernel_rfl) (by kernel_rfl) (by kernel_rfl) (fun _ _ _ h => h) (Or.inr ⟨by kernel_rfl, rfl⟩) (by assumption) ?_
                try simp only [sA, sB, sC, Act.put, sD, sE, sF]
                refine wpAnyH_take (i := 19) (v := undef) rfl (by kernel_rfl) (by kernel_rfl) (by kernel_rfl) (fun _ _ _ h => h) (Or.inr ⟨by kernel_rfl, rfl⟩) (by assumption) ?_
                try simp only [sA, sB, sC, Act.put, sD, sE, sF]
                refine wpAnyH_take (i := 20) (v := undef) rfl (by kernel_rfl) (by kernel_rfl) (by kernel_rfl) (fun _ _ _ h => h) (Or.inr ⟨by kernel_rfl, rfl⟩) (by assumption) ?_
                try simp only [sA, sB, sC, Act.put, sD, sE, sF]
                refine wpAnyH_take (i := 21) (v := undef) rfl (by kernel_rfl) (by kernel_rfl) (by kernel_rfl) (fun _ _ _ h => h) (Or.inr ⟨by kernel_rfl, rfl⟩) (by assumption) ?_
                try simp only [sA, sB, sC, Act.put, sD, sE, sF]
                refine wpAnyH_take (i := 22) (v := undef) rfl (by kernel_rfl) (by kernel_rfl) (by kernel_rfl) (fun _ _ _ h => h) (Or.inr ⟨by kernel_rfl, rfl⟩) (by assumption) ?_
                try simp only [sA, sB, sC, Act.put, sD, sE, sF]
                refine wpAnyH_take (i := 23) (v := undef) rfl (by kernel_rfl) (by kernel_rfl) (by kernel_rfl) (fun _ _ _ h => h) (Or.inr ⟨by kernel_rfl, rfl⟩) (by assumption) ?_
                try simp only [sA, sB, sC, Act.put, sD, sE, sF]
                refine wpAnyH_take (i := 24) (v := undef) rfl (by kernel_rfl) (by kernel_rfl) (by kernel_rfl) (fun _ _ _ h => h) (Or.inr ⟨by kernel_rfl, rfl⟩) (by assumption) ?_
                try simp only [sA, sB, sC, Act.put, sD, sE, sF]
                refine wpAnyH_take (i := 25) (v := undef) rfl (by kernel_rfl) (by kernel_rfl) (by kernel_rfl) (fun _ _ _ h => h) (Or.inr ⟨by kernel_rfl, rfl⟩) (by assumption) ?_
                try simp only [sA, sB, sC, Act.put, sD, sE, sF]
                refine wpAnyH_take (i := 26) (v := undef) rfl (by kernel_rfl) (by kernel_rfl) (by kernel_rfl) (fun _ _ _ h => h) (Or.inr ⟨by kernel_rfl, rfl⟩) (by assumption) ?_
                try simp only [sA, sB, sC, Act.put, sD, sE, sF]
                refine wpAnyH_take (i := 27) (v := undef) rfl (by kernel_rfl) (by kernel_rfl) (by kernel_rfl) (fun _ _ _ h => h) (Or.inr ⟨by kernel_rfl, rfl⟩) (by assumption) ?_
                try simp only [sA, sB, sC, Act.put, sD, sE, sF]
                refine wpAnyH_take (i := 28) (v := undef) rfl (by kernel_rfl) (by kernel_rfl) (by kernel_rfl) (fun _ _ _ h => h) (Or.inr ⟨by kernel_rfl, rfl⟩) (by assumption) ?_
                try simp only [sA, sB, sC, Act.put, sD, sE, sF]
                refine wpAnyH_take (i := 29) (v := ?_) rfl (by kernel_rfl) (by kernel_rfl) (by kernel_rfl) (fun _ _ _ h => h) (Or.inl ⟨by kernel_rfl, ?_⟩) (by assumption) ?_
                rotate_left
                · (intro w hSw; (try dsimp only at hSw); go_simp; try (with_reducible rfl))
                try simp only [sA, sB, sC, Act.put, sD, sE, sF]
                refine wpAnyH_done (by kernel_rfl) ?_ _
                clear cx cy cz
                go_wp2_with fail
                go_roundw
                case rel => exact ⟨k + 1, by go_num, by omega, by omega, H⟩
                case measure => simp [intOf]; omega
              | true =>
                cases b2 with
                | false =>
                  go_wp2_with fail
                  refine wp_region_held_drew (S := fun w' => w'.cell? ⟨g, i, none⟩ = some (.string x) ∧ w'.cell? ⟨g, p, none⟩ = some (.string z) ∧ w'.cell? ⟨g, k, none⟩ = some (.string y)) (by kernel_rfl) ?_ (fun hHeld => ?_)
                  · exact ⟨cx, cz, cy⟩
                  obtain ⟨u0, hu0⟩ : ∃ uu : World, uu = wr.drew := ⟨_, rfl⟩
                  rw [← hu0] at H hHeld ⊢
                  clear hu0
                  refine wpAnyH_take (i := 0) (v := ?_) rfl (by kernel_rfl) (by kernel_rfl) (by kernel_rfl) (fun _ _ _ h => h) (Or.inl ⟨by kernel_rfl, ?_⟩) (by assumption) ?_
                  rotate_left
                  · (intro w hSw; (try dsimp only at hSw); go_simp; try (with_reducible rfl))
                  try simp only [sA, sB, sC, Act.put, sD, sE, sF]
                  refine wpAnyH_take (i := 1) (v := ?_) rfl (by kernel_rfl) (by kernel_rfl) (by kernel_rfl) (fun _ _ _ h => h) (Or.inl ⟨by kernel_rfl, ?_⟩) (by assumption) ?_
                  rotate_left
                  · (intro w hSw; (try dsimp only at hSw); go_simp; try (with_reducible rfl))
                  try simp only [sA, sB, sC, Act.put, sD, sE, sF]
                  refine wpAnyH_take (i := 2) (v := ?_) rfl (by kernel_rfl) (by kernel_rfl) (by kernel_rfl) (fun _ _ _ h => h) (Or.inl ⟨by kernel_rfl, ?_⟩) (by assumption) ?_
                  rotate_left
                  · (intro w hSw; (try dsimp only at hSw); go_simp; try (with_reducible rfl))
                  try simp only [sA, sB, sC, Act.put, sD, sE, sF]
                  refine wpAnyH_take (i := 3) (v := ?_) rfl (by kernel_rfl) (by kernel_rfl) (by kernel_rfl) (fun _ _ _ h => h) (Or.inl ⟨by kernel_rfl, ?_⟩) (by assumption) ?_
                  rotate_left
                  · (intro w hSw; (try dsimp only at hSw); go_simp; try (with_reducible rfl))
                  try simp only [sA, sB, sC, Act.put, sD, sE, sF]
                  refine wpAnyH_take (i := 4) (v := ?_) rfl (by kernel_rfl) (by kernel_rfl) (by kernel_rfl) (fun _ _ _ h => h) (Or.inl ⟨by kernel_rfl, ?_⟩) (by assumption) ?_
                  rotate_left
                  · (intro w hSw; (try dsimp only at hSw); go_simp; try (with_reducible rfl))
                  try simp only [sA, sB, sC, Act.put, sD, sE, sF]
                  refine wpAnyH_take (i := 5) (v := ?_) rfl (by kernel_rfl) (by kernel_rfl) (by kernel_rfl) (fun _ _ _ h => h) (Or.inl ⟨by kernel_rfl, ?_⟩) (by assumption) ?_
                  rotate_left
                  · (intro w hSw; (try dsimp only at hSw); go_simp; try (with_reducible rfl))
                  try simp only [sA, sB, sC, Act.put, sD, sE, sF]
                  refine wpAnyH_take (i := 6) (v := ?_) rfl (by kernel_rfl) (by kernel_rfl) (by kernel_rfl) (fun _ _ _ h => h) (Or.inl ⟨by kernel_rfl, ?_⟩) (by assumption) ?_
                  rotate_left
                  · (intro w hSw; (try dsimp only at hSw); go_simp; try (with_reducible rfl))
                  try simp only [sA, sB, sC, Act.put, sD, sE, sF]
                  refine wpAnyH_take (i := 7) (v := ?_) rfl (by kernel_rfl) (by kernel_rfl) (by kernel_rfl) (fun _ _ _ h => h) (Or.inl ⟨by kernel_rfl, ?_⟩) (by assumption) ?_
                  rotate_left
                  · (intro w hSw; (try dsimp only at hSw); go_simp; try (with_reducible rfl))
                  try simp only [sA, sB, sC, Act.put, sD, sE, sF]
                  refine wpAnyH_ready (rs := [8]) (by kernel_rfl) (by simp) ?_
                  refine (AllReadyH.cons rfl (fun K hK => ?_) AllReadyH.nil)
                  go_simp
                  refine (specAlike_any x y _ sx.out sy.out).mono ?_
                  rintro e u1 ⟨rfl, f9⟩
                  replace H := H.go f9
                  clear f9
                  rw [← HB1.out]
                  go_wp2_with fail
                  refine hK.out _ _ ?_ (fun hHeld => ?_)
                  · exact ⟨H.atM (f1 := Value.string) 0 rfl HX.out, H.atM (f1 := Value.string) 0 rfl HZ.out, H.atM (f1 := Value.string) 0 rfl HY.out⟩
                  clear hK K
                  try simp only [sA, sB, sC, Act.put, sD, sE, sF]
                  refine wpAnyH_take (i := 9) (v := ?_) rfl (by kernel_rfl) (by kernel_rfl) (by kernel_rfl) (fun _ _ _ h => h) (Or.inl ⟨by kernel_rfl, ?_⟩) (by assumption) ?_
                  rotate_left
                  · (intro w hSw; (try dsimp only at hSw); go_simp; try (with_reducible rfl))
                  try simp only [sA, sB, sC, Act.put, sD, sE, sF]
                  refine wpAnyH_take (i := 10) (v := ?_) rfl (by kernel_rfl) (by kernel_rfl) (by kernel_rfl) (fun _ _ _ h => h) (Or.inl ⟨by kernel_rfl, ?_⟩) (by assumption) ?_
                  rotate_left
                  · (intro w hSw; (try dsimp only at hSw); go_simp; try (with_reducible rfl))
                  try simp only [sA, sB, sC, Act.put, sD, sE, sF]
                  refine wpAnyH_take (i := 11) (v := ?_) rfl (by kernel_rfl) (by kernel_rfl) (by kernel_rfl) (fun _ _ _ h => h) (Or.inl ⟨by kernel_rfl, ?_⟩) (by assumption) ?_
                  rotate_left
                  · (intro w hSw; (try dsimp only at hSw); go_simp; try (with_reducible rfl))
                  try simp only [sA, sB, sC, Act.put, sD, sE, sF]
                  refine wpAnyH_take (i := 12) (v := ?_) rfl (by kernel_rfl) (by kernel_rfl) (by kernel_rfl) (fun _ _ _ h => h) (Or.inl ⟨by kernel_rfl, ?_⟩) (by assumption) ?_
                  rotate_left
                  · (intro w hSw; (try dsimp only at hSw); go_simp; try (with_reducible rfl))
                  try simp only [sA, sB, sC, Act.put, sD, sE, sF]
                  refine wpAnyH_take (i := 13) (v := ?_) rfl (by kernel_rfl) (by kernel_rfl) (by kernel_rfl) (fun _ _ _ h => h) (Or.inl ⟨by kernel_rfl, ?_⟩) (by assumption) ?_
                  rotate_left
                  · (intro w hSw; (try dsimp only at hSw); go_simp; try (with_reducible rfl))
                  try simp only [sA, sB, sC, Act.put, sD, sE, sF]
                  refine wpAnyH_take (i := 14) (v := ?_) rfl (by kernel_rfl) (by kernel_rfl) (by kernel_rfl) (fun _ _ _ h => h) (Or.inl ⟨by kernel_rfl, ?_⟩) (by assumption) ?_
                  rotate_left
                  · (intro w hSw; (try dsimp only at hSw); go_simp; try (with_reducible rfl))
                  try simp only [sA, sB, sC, Act.put, sD, sE, sF]
                  refine wpAnyH_ready (rs := [15]) (by kernel_rfl) (by simp) ?_
                  refine (AllReadyH.cons rfl (fun K hK => ?_) AllReadyH.nil)
                  go_simp
                  refine (specNameOk_any z _ sz.out).mono ?_
                  rintro e u2 ⟨rfl, f9⟩
                  replace H := H.go f9
                  clear f9
                  rw [← HB2.out]
                  go_wp2_with fail
                  refine hK.out _ _ ?_ (fun hHeld => ?_)
                  · exact ⟨H.atM (f1 := Value.string) 0 rfl HX.out, H.atM (f1 := Value.string) 0 rfl HZ.out, H.atM (f1 := Value.string) 0 rfl HY.out⟩
                  clear hK K
                  try simp only [sA, sB, sC, Act.put, sD, sE, sF]
                  refine wpAnyH_take (i := 16) (v := ?_) rfl (by kernel_rfl) (by kernel_rfl) (by kernel_rfl) (fun _ _ _ h => h) (Or.inl ⟨by kernel_rfl, ?_⟩) (by assumption) ?_
                  rotate_left
                  · (intro w hSw; (try dsimp only at hSw); go_simp; try (with_reducible rfl))
                  try simp only [sA, sB, sC, Act.put, sD, sE, sF]
                  refine wpAnyH_take (i := 17) (v := ?_) rfl (by kernel_rfl) (by kernel_rfl) (by kernel_rfl) (fun _ _ _ h => h) (Or.inl ⟨by kernel_rfl, ?_⟩) (by assumption) ?_
                  rotate_left
                  · (intro w hSw; (try dsimp only at hSw); go_simp; try (with_reducible rfl))
                  try simp only [sA, sB, sC, Act.put, sD, sE, sF]
                  refine wpAnyH_take (i := 18) (v := undef) rfl (by kernel_rfl) (by kernel_rfl) (by kernel_rfl) (fun _ _ _ h => h) (Or.inr ⟨by kernel_rfl, rfl⟩) (by assumption) ?_
                  try simp only [sA, sB, sC, Act.put, sD, sE, sF]
                  refine wpAnyH_take (i := 19) (v := undef) rfl (by kernel_rfl) (by kernel_rfl) (by kernel_rfl) (fun _ _ _ h => h) (Or.inr ⟨by kernel_rfl, rfl⟩) (by assumption) ?_
                  try simp only [sA, sB, sC, Act.put, sD, sE, sF]
                  refine wpAnyH_take (i := 20) (v := undef) rfl (by kernel_rfl) (by kernel_rfl) (by kernel_rfl) (fun _ _ _ h => h) (Or.inr ⟨by kernel_rfl, rfl⟩) (by assumption) ?_
                  try simp only [sA, sB, sC, Act.put, sD, sE, sF]
                  refine wpAnyH_take (i := 21) (v := undef) rfl (by kernel_rfl) (by kernel_rfl) (by kernel_rfl) (fun _ _ _ h => h) (Or.inr ⟨by kernel_rfl, rfl⟩) (by assumption) ?_
                  try simp only [sA, sB, sC, Act.put, sD, sE, sF]
                  refine wpAnyH_take (i := 22) (v := undef) rfl (by kernel_rfl) (by kernel_rfl) (by kernel_rfl) (fun _ _ _ h => h) (Or.inr ⟨by kernel_rfl, rfl⟩) (by assumption) ?_
                  try simp only [sA, sB, sC, Act.put, sD, sE, sF]
                  refine wpAnyH_take (i := 23) (v := undef) rfl (by kernel_rfl) (by kernel_rfl) (by kernel_rfl) (fun _ _ _ h => h) (Or.inr ⟨by kernel_rfl, rfl⟩) (by assumption) ?_
                  try simp only [sA, sB, sC, Act.put, sD, sE, sF]
                  refine wpAnyH_take (i := 24) (v := undef) rfl (by kernel_rfl) (by kernel_rfl) (by kernel_rfl) (fun _ _ _ h => h) (Or.inr ⟨by kernel_rfl, rfl⟩) (by assumption) ?_
                  try simp only [sA, sB, sC, Act.put, sD, sE, sF]
                  refine wpAnyH_take (i := 25) (v := undef) rfl (by kernel_rfl) (by kernel_rfl) (by kernel_rfl) (fun _ _ _ h => h) (Or.inr ⟨by kernel_rfl, rfl⟩) (by assumption) ?_
                  try simp only [sA, sB, sC, Act.put, sD, sE, sF]
                  refine wpAnyH_take (i := 26) (v := undef) rfl (by kernel_rfl) (by kernel_rfl) (by kernel_rfl) (fun _ _ _ h => h) (Or.inr ⟨by kernel_rfl, rfl⟩) (by assumption) ?_
                  try simp only [sA, sB, sC, Act.put, sD, sE, sF]
                  refine wpAnyH_take (i := 27) (v := undef) rfl (by kernel_rfl) (by kernel_rfl) (by kernel_rfl) (fun _ _ _ h => h) (Or.inr ⟨by kernel_rfl, rfl⟩) (by assumption) ?_
                  try simp only [sA, sB, sC, Act.put, sD, sE, sF]
                  refine wpAnyH_take (i := 28) (v := undef) rfl (by kernel_rfl) (by kernel_rfl) (by kernel_rfl) (fun _ _ _ h => h) (Or.inr ⟨by kernel_rfl, rfl⟩) (by assumption) ?_
                  try simp only [sA, sB, sC, Act.put, sD, sE, sF]
                  refine wpAnyH_take (i := 29) (v := ?_) rfl (by kernel_rfl) (by kernel_rfl) (by kernel_rfl) (fun _ _ _ h => h) (Or.inl ⟨by kernel_rfl, ?_⟩) (by assumption) ?_
                  rotate_left
                  · (intro w hSw; (try dsimp only at hSw); go_simp; try (with_reducible rfl))
                  try simp only [sA, sB, sC, Act.put, sD, sE, sF]
                  refine wpAnyH_done (by kernel_rfl) ?_ _
                  clear cx cy cz
                  go_wp2_with fail
                  go_roundw
                  case rel => exact ⟨k + 1, by go_num, by omega, by omega, H⟩
                  case measure => simp [intOf]; omega
                | true =>
                  have hb3t : b3 = true := by rw [HB3.out]; exact alike_mid HXZ.out.1 HXZ.out.2 HB1.out.symm HB2.out.symm
                  subst hb3t
                  go_wp2_with fail
                  refine wp_region_held_drew (S := fun w' => w'.cell? ⟨g, i, none⟩ = some (.string x) ∧ w'.cell? ⟨g, p, none⟩ = some (.string z) ∧ w'.cell? ⟨g, k, none⟩ = some (.string y)) (by kernel_rfl) ?_ (fun hHeld => ?_)
                  · exact ⟨cx, cz, cy⟩
                  obtain ⟨u0, hu0⟩ : ∃ uu : World, uu = wr.drew := ⟨_, rfl⟩
                  rw [← hu0] at H hHeld ⊢
                  clear hu0
                  refine wpAnyH_take (i := 0) (v := ?_) rfl (by kernel_rfl) (by kernel_rfl) (by kernel_rfl) (fun _ _ _ h => h) (Or.inl ⟨by kernel_rfl, ?_⟩) (by assumption) ?_
                  rotate_left
                  · (intro w hSw; (try dsimp only at hSw); go_simp; try (with_reducible rfl))
                  try simp only [sA, sB, sC, Act.put, sD, sE, sF]
                  refine wpAnyH_take (i := 1) (v := ?_) rfl (by kernel_rfl) (by kernel_rfl) (by kernel_rfl) (fun _ _ _ h => h) (Or.inl ⟨by kernel_rfl, ?_⟩) (by assumption) ?_
                  rotate_left
                  · (intro w hSw; (try dsimp only at hSw); go_simp; try (with_reducible rfl))
                  try simp only [sA, sB, sC, Act.put, sD, sE, sF]
                  refine wpAnyH_take (i := 2) (v := ?_) rfl (by kernel_rfl) (by kernel_rfl) (by kernel_rfl) (fun _ _ _ h => h) (Or.inl ⟨by kernel_rfl, ?_⟩) (by assumption) ?_
                  rotate_left
                  · (intro w hSw; (try dsimp only at hSw); go_simp; try (with_reducible rfl))
                  try simp only [sA, sB, sC, Act.put, sD, sE, sF]
                  refine wpAnyH_take (i := 3) (v := ?_) rfl (by kernel_rfl) (by kernel_rfl) (by kernel_rfl) (fun _ _ _ h => h) (Or.inl ⟨by kernel_rfl, ?_⟩) (by assumption) ?_
                  rotate_left
                  · (intro w hSw; (try dsimp only at hSw); go_simp; try (with_reducible rfl))
                  try simp only [sA, sB, sC, Act.put, sD, sE, sF]
                  refine wpAnyH_take (i := 4) (v := ?_) rfl (by kernel_rfl) (by kernel_rfl) (by kernel_rfl) (fun _ _ _ h => h) (Or.inl ⟨by kernel_rfl, ?_⟩) (by assumption) ?_
                  rotate_left
                  · (intro w hSw; (try dsimp only at hSw); go_simp; try (with_reducible rfl))
                  try simp only [sA, sB, sC, Act.put, sD, sE, sF]
                  refine wpAnyH_take (i := 5) (v := ?_) rfl (by kernel_rfl) (by kernel_rfl) (by kernel_rfl) (fun _ _ _ h => h) (Or.inl ⟨by kernel_rfl, ?_⟩) (by assumption) ?_
                  rotate_left
                  · (intro w hSw; (try dsimp only at hSw); go_simp; try (with_reducible rfl))
                  try simp only [sA, sB, sC, Act.put, sD, sE, sF]
                  refine wpAnyH_take (i := 6) (v := ?_) rfl (by kernel_rfl) (by kernel_rfl) (by kernel_rfl) (fun _ _ _ h => h) (Or.inl ⟨by kernel_rfl, ?_⟩) (by assumption) ?_
                  rotate_left
                  · (intro w hSw; (try dsimp only at hSw); go_simp; try (with_reducible rfl))
                  try simp only [sA, sB, sC, Act.put, sD, sE, sF]
                  refine wpAnyH_take (i := 7) (v := ?_) rfl (by kernel_rfl) (by kernel_rfl) (by kernel_rfl) (fun _ _ _ h => h) (Or.inl ⟨by kernel_rfl, ?_⟩) (by assumption) ?_
                  rotate_left
                  · (intro w hSw; (try dsimp only at hSw); go_simp; try (with_reducible rfl))
                  try simp only [sA, sB, sC, Act.put, sD, sE, sF]
                  refine wpAnyH_ready (rs := [8]) (by kernel_rfl) (by simp) ?_
                  refine (AllReadyH.cons rfl (fun K hK => ?_) AllReadyH.nil)
                  go_simp
                  refine (specAlike_any x y _ sx.out sy.out).mono ?_
                  rintro e u1 ⟨rfl, f9⟩
                  replace H := H.go f9
                  clear f9
                  rw [← HB1.out]
                  go_wp2_with fail
                  refine hK.out _ _ ?_ (fun hHeld => ?_)
                  · exact ⟨H.atM (f1 := Value.string) 0 rfl HX.out, H.atM (f1 := Value.string) 0 rfl HZ.out, H.atM (f1 := Value.string) 0 rfl HY.out⟩
                  clear hK K
                  try simp only [sA, sB, sC, Act.put, sD, sE, sF]
                  refine wpAnyH_take (i := 9) (v := ?_) rfl (by kernel_rfl) (by kernel_rfl) (by kernel_rfl) (fun _ _ _ h => h) (Or.inl ⟨by kernel_rfl, ?_⟩) (by assumption) ?_
                  rotate_left
                  · (intro w hSw; (try dsimp only at hSw); go_simp; try (with_reducible rfl))
                  try simp only [sA, sB, sC, Act.put, sD, sE, sF]
                  refine wpAnyH_take (i := 10) (v := ?_) rfl (by kernel_rfl) (by kernel_rfl) (by kernel_rfl) (fun _ _ _ h => h) (Or.inl ⟨by kernel_rfl, ?_⟩) (by assumption) ?_
                  rotate_left
                  · (intro w hSw; (try dsimp only at hSw); go_simp; try (with_reducible rfl))
                  try simp only [sA, sB, sC, Act.put, sD, sE, sF]
                  refine wpAnyH_take (i := 11) (v := ?_) rfl (by kernel_rfl) (by kernel_rfl) (by kernel_rfl) (fun _ _ _ h => h) (Or.inl ⟨by kernel_rfl, ?_⟩) (by assumption) ?_
                  rotate_left
                  · (intro w hSw; (try dsimp only at hSw); go_simp; try (with_reducible rfl))
                  try simp only [sA, sB, sC, Act.put, sD, sE, sF]
                  refine wpAnyH_take (i := 12) (v := ?_) rfl (by kernel_rfl) (by kernel_rfl) (by kernel_rfl) (fun _ _ _ h => h) (Or.inl ⟨by kernel_rfl, ?_⟩) (by assumption) ?_
                  rotate_left
                  · (intro w hSw; (try dsimp only at hSw); go_simp; try (with_reducible rfl))
                  try simp only [sA, sB, sC, Act.put, sD, sE, sF]
                  refine wpAnyH_take (i := 13) (v := ?_) rfl (by kernel_rfl) (by kernel_rfl) (by kernel_rfl) (fun _ _ _ h => h) (Or.inl ⟨by kernel_rfl, ?_⟩) (by assumption) ?_
                  rotate_left
                  · (intro w hSw; (try dsimp only at hSw); go_simp; try (with_reducible rfl))
                  try simp only [sA, sB, sC, Act.put, sD, sE, sF]
                  refine wpAnyH_take (i := 14) (v := ?_) rfl (by kernel_rfl) (by kernel_rfl) (by kernel_rfl) (fun _ _ _ h => h) (Or.inl ⟨by kernel_rfl, ?_⟩) (by assumption) ?_
                  rotate_left
                  · (intro w hSw; (try dsimp only at hSw); go_simp; try (with_reducible rfl))
                  try simp only [sA, sB, sC, Act.put, sD, sE, sF]
                  refine wpAnyH_ready (rs := [15]) (by kernel_rfl) (by simp) ?_
                  refine (AllReadyH.cons rfl (fun K hK => ?_) AllReadyH.nil)
                  go_simp
                  refine (specNameOk_any z _ sz.out).mono ?_
                  rintro e u2 ⟨rfl, f9⟩
                  replace H := H.go f9
                  clear f9
                  rw [← HB2.out]
                  go_wp2_with fail
                  refine hK.out _ _ ?_ (fun hHeld => ?_)
                  · exact ⟨H.atM (f1 := Value.string) 0 rfl HX.out, H.atM (f1 := Value.string) 0 rfl HZ.out, H.atM (f1 := Value.string) 0 rfl HY.out⟩
                  clear hK K
                  try simp only [sA, sB, sC, Act.put, sD, sE, sF]
                  refine wpAnyH_take (i := 16) (v := ?_) rfl (by kernel_rfl) (by kernel_rfl) (by kernel_rfl) (fun _ _ _ h => h) (Or.inl ⟨by kernel_rfl, ?_⟩) (by assumption) ?_
                  rotate_left
                  · (intro w hSw; (try dsimp only at hSw); go_simp; try (with_reducible rfl))
                  try simp only [sA, sB, sC, Act.put, sD, sE, sF]
                  refine wpAnyH_take (i := 17) (v := ?_) rfl (by kernel_rfl) (by kernel_rfl) (by kernel_rfl) (fun _ _ _ h => h) (Or.inl ⟨by kernel_rfl, ?_⟩) (by assumption) ?_
                  rotate_left
                  · (intro w hSw; (try dsimp only at hSw); go_simp; try (with_reducible rfl))
                  try simp only [sA, sB, sC, Act.put, sD, sE, sF]
                  refine wpAnyH_take (i := 18) (v := ?_) rfl (by kernel_rfl) (by kernel_rfl) (by kernel_rfl) (fun _ _ _ h => h) (Or.inl ⟨by kernel_rfl, ?_⟩) (by assumption) ?_
                  rotate_left
                  · (intro w hSw; (try dsimp only at hSw); go_simp; try (with_reducible rfl))
                  try simp only [sA, sB, sC, Act.put, sD, sE, sF]
                  refine wpAnyH_take (i := 19) (v := ?_) rfl (by kernel_rfl) (by kernel_rfl) (by kernel_rfl) (fun _ _ _ h => h) (Or.inl ⟨by kernel_rfl, ?_⟩) (by assumption) ?_
                  rotate_left
                  · (intro w hSw; (try dsimp only at hSw); go_simp; try (with_reducible rfl))
                  try simp only [sA, sB, sC, Act.put, sD, sE, sF]
                  refine wpAnyH_take (i := 20) (v := ?_) rfl (by kernel_rfl) (by kernel_rfl) (by kernel_rfl) (fun _ _ _ h => h) (Or.inl ⟨by kernel_rfl, ?_⟩) (by assumption) ?_
                  rotate_left
                  · (intro w hSw; (try dsimp only at hSw); go_simp; try (with_reducible rfl))
                  try simp only [sA, sB, sC, Act.put, sD, sE, sF]
                  refine wpAnyH_take (i := 21) (v := ?_) rfl (by kernel_rfl) (by kernel_rfl) (by kernel_rfl) (fun _ _ _ h => h) (Or.inl ⟨by kernel_rfl, ?_⟩) (by assumption) ?_
                  rotate_left
                  · (intro w hSw; (try dsimp only at hSw); go_simp; try (with_reducible rfl))
                  try simp only [sA, sB, sC, Act.put, sD, sE, sF]
                  refine wpAnyH_take (i := 22) (v := ?_) rfl (by kernel_rfl) (by kernel_rfl) (by kernel_rfl) (fun _ _ _ h => h) (Or.inl ⟨by kernel_rfl, ?_⟩) (by assumption) ?_
                  rotate_left
                  · (intro w hSw; (try dsimp only at hSw); go_simp; try (with_reducible rfl))
                  try simp only [sA, sB, sC, Act.put, sD, sE, sF]
                  refine wpAnyH_take (i := 23) (v := ?_) rfl (by kernel_rfl) (by kernel_rfl) (by kernel_rfl) (fun _ _ _ h => h) (Or.inl ⟨by kernel_rfl, ?_⟩) (by assumption) ?_
                  rotate_left
                  · (intro w hSw; (try dsimp only at hSw); go_simp; try (with_reducible rfl))
                  try simp only [sA, sB, sC, Act.put, sD, sE, sF]
                  refine wpAnyH_take (i := 24) (v := ?_) rfl (by kernel_rfl) (by kernel_rfl) (by kernel_rfl) (fun _ _ _ h => h) (Or.inl ⟨by kernel_rfl, ?_⟩) (by assumption) ?_
                  rotate_left
                  · (intro w hSw; (try dsimp only at hSw); go_simp; try (with_reducible rfl))
                  try simp only [sA, sB, sC, Act.put, sD, sE, sF]
                  refine wpAnyH_take (i := 25) (v := ?_) rfl (by kernel_rfl) (by kernel_rfl) (by kernel_rfl) (fun _ _ _ h => h) (Or.inl ⟨by kernel_rfl, ?_⟩) (by assumption) ?_
                  rotate_left
                  · (intro w hSw; (try dsimp only at hSw); go_simp; try (with_reducible rfl))
                  try simp only [sA, sB, sC, Act.put, sD, sE, sF]
                  refine wpAnyH_take (i := 26) (v := ?_) rfl (by kernel_rfl) (by kernel_rfl) (by kernel_rfl) (fun _ _ _ h => h) (Or.inl ⟨by kernel_rfl, ?_⟩) (by assumption) ?_
                  rotate_left
                  · (intro w hSw; (try dsimp only at hSw); go_simp; try (with_reducible rfl))
                  try simp only [sA, sB, sC, Act.put, sD, sE, sF]
                  refine wpAnyH_ready (rs := [27]) (by kernel_rfl) (by simp) ?_
                  refine (AllReadyH.cons rfl (fun K hK => ?_) AllReadyH.nil)
                  go_simp
                  refine (specAlike_any x z _ sx.out sz.out).mono ?_
                  rintro e u3 ⟨rfl, f9⟩
                  replace H := H.go f9
                  clear f9
                  rw [← HB3.out]
                  go_wp2_with fail
                  refine hK.out _ _ ?_ (fun hHeld => ?_)
                  · exact ⟨H.atM (f1 := Value.string) 0 rfl HX.out, H.atM (f1 := Value.string) 0 rfl HZ.out, H.atM (f1 := Value.string) 0 rfl HY.out⟩
                  clear hK K
                  try simp only [sA, sB, sC, Act.put, sD, sE, sF]
                  refine wpAnyH_take (i := 28) (v := ?_) rfl (by kernel_rfl) (by kernel_rfl) (by kernel_rfl) (fun _ _ _ h => h) (Or.inl ⟨by kernel_rfl, ?_⟩) (by assumption) ?_
                  rotate_left
                  · (intro w hSw; (try dsimp only at hSw); go_simp; try (with_reducible rfl))
                  try simp only [sA, sB, sC, Act.put, sD, sE, sF]
                  refine wpAnyH_take (i := 29) (v := ?_) rfl (by kernel_rfl) (by kernel_rfl) (by kernel_rfl) (fun _ _ _ h => h) (Or.inl ⟨by kernel_rfl, ?_⟩) (by assumption) ?_
                  rotate_left
                  · (intro w hSw; (try dsimp only at hSw); go_simp; try (with_reducible rfl))
                  try simp only [sA, sB, sC, Act.put, sD, sE, sF]
                  refine wpAnyH_done (by kernel_rfl) ?_ _
                  clear cx cy cz
                  go_wp2_with fail
                  go_roundw
                  case rel => exact ⟨k + 1, by go_num, by omega, by omega, H⟩
                  case measure => simp [intOf]; omega
            · have hlt5 : ¬ ((k : Int) < (m : Int)) := by omega
              go_wp2_with fail
              go_roundw
              case rel => exact ⟨i + 1, by go_num, by omega, H⟩
              case measure => simp [intOf]; omega
        · have hlt3 : ¬ ((i : Int) < (m : Int)) := by omega
          go_wp2_with fail
          refine (drawOrder_any A n c bs _ (H.old HA.out) hn).mono ?_
          rintro e w5 ⟨a, b, rfl, ha, hb, f5⟩
          have H5 := H.go f5
          have sa : a.size ≤ 16777216 := by omega
          have sb : b.size ≤ 16777216 := by omega
          clear H f5
          go_wp2_with fail
          refine (implOrder_any a b _ sa sb (HK.out.fr H5.fr)).mono ?_
          rintro e w6 ⟨rfl, f6⟩
          have H6 := H5.go f6
          clear H5 f6
          go_wp2_with fail
          refine (implOrder_any b a _ sb sa (HK.out.fr H6.fr)).mono ?_
          rintro e w7 ⟨rfl, f7⟩
          have H7 := H6.go f7
          clear H6 f7
          rw [ordT_neg (toB a) (toB b)]
          obtain ⟨o, ho⟩ : ∃ o, o = ordT (toB a) (toB b) := ⟨_, rfl⟩
          have ho1 : -1 ≤ o ∧ o ≤ 1 := by rw [ho]; exact ordT_num _ _
          have h2 : (a.toList == b.toList) = (o == 0) := by
            rw [cmpB, ho]
            by_cases hab : toB a = toB b
            · rw [hab, ordT_eq.2 rfl]; simp
            · have : ¬ ordT (toB a) (toB b) = 0 := fun h => hab (ordT_eq.1 h)
              simp [hab, this]
          obtain ⟨e1, he1⟩ : ∃ e, e = (o == 0) := ⟨_, rfl⟩
          rw [← he1] at h2
          have h1 : (o == 0) = e1 := he1.symm
          have h3 : (e1 == e1) = true := beq_self_eq_true _
          have h4 : (o == o) = true := beq_self_eq_true _
          have h5 : IntKind.i64.wrap o = o := IntWalk.i64_in _ (by omega)
          have h6 : IntKind.i64.wrap (- -o) = o := by rw [Int.neg_neg]; exact h5
          rw [← ho]
          have HO := Lib.hid ho
          clear ho he1
          go_wp2_with fail
          refine (specOrder_any a b _ sa sb).mono ?_
          rintro e w8 ⟨rfl, f8⟩
          rw [← HO.out]
          have H8 := H7.go f8
          clear H7 f8
          go_wp2_with fail
          go_ret
          exact ⟨rfl, H8.fr⟩
end Go.Proofs.YtfmifaneggenoaaDoor
