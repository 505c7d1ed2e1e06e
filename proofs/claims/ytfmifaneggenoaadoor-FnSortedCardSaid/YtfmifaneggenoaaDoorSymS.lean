/-
  slices.symMergeCmpFunc at names of the call's own, by impl.Order: two rising parts become one.
-/
import Derived.Test.YtfmifaneggenoaaDoorSymN
namespace Go.Proofs.YtfmifaneggenoaaDoor
open Go.RowKit

set_option linter.unusedVariables false
set_option linter.unusedSimpArgs false
theorem ord_lt {x y : ByteArray} {o : Int} (h : o = ordT (toB y) (toB x)) (k : o < 0) : nle y x := by unfold nle; omega
theorem ord_ge {x y : ByteArray} {o : Int} (h : o = ordT (toB y) (toB x)) (k : ¬ o < 0) : nle x y := by
  have := ordT_neg (toB x) (toB y)
  unfold nle; omega
set_option maxRecDepth 100000 in
set_option maxHeartbeats 8000000 in
theorem symOne_any (g n c a b base : Nat) (xs : List ByteArray) (w : World) (h : w.ownsRow base 9 1 (.slice (some ⟨g, 0, none⟩) n c) n (xs.map Value.string)) (hn : n ≤ 1048576) (hmb : a + 1 < b) (hbn : b ≤ n)
    (h2 : UpS (a + 1) b xs) (hz : ∀ x ∈ xs, x.size ≤ 16777216) (hk : KT w) (hg : g ≠ 0) :
    Calls Tryd.prog 102 #[.slice (some ⟨g, 0, none⟩) n c, .int .i64 a, .int .i64 ((a + 1 : Nat) : Int), .int .i64 b, .func (.func 11) #[] #[]] w fun e w' => ∃ ys : List ByteArray, e = .returned (.tuple #[]) ∧ Mv a b xs ys ∧ UpS a b ys ∧ Hp [g] w w' [.row 9 1 (.slice (some ⟨g, 0, none⟩) n c) n (ys.map Value.string)] := by
  have H : Hp [g] w w [.row 9 1 (.slice (some ⟨g, 0, none⟩) n c) n (xs.map Value.string)] := Hp.start_row h
  have HL := Lib.hid (show xs.length = n by have := h.1; simpa using this)
  have HK := Lib.hid hk
  have HZ := Lib.hid hz
  have HG := Lib.hid hg
  have HS := Lib.hid h2
  clear h h2 hz hk
  obtain ⟨m, hm⟩ : ∃ m, m = a + 1 := ⟨_, rfl⟩
  rw [← hm] at hmb ⊢
  have hw1 : IntKind.i64.wrap ((m : Int) - (a : Int)) = 1 := by rw [IntWalk.i64_in _ (by omega)]; omega
  have hw1' : (m : Int) - (a : Int) = 1 := by omega
  have HM := Lib.hid hm
  have ham : a < m := by omega
  clear hm
  obtain ⟨x0, hx0⟩ := at_some HL.out (show a < n by omega)
  have HX0 := Lib.hid hx0
  clear hx0
  have ha0 : (0 : Int) ≤ (a : Int) := by omega
  have han : (a : Int) < (n : Int) := by omega
  go_enter Tryd.func102, Tryd.ntmps102
  go_wp2_with fail
  go_loopw [10, 11] (fun iv jv wr => ∃ i j : Nat, iv = .int .i64 i ∧ jv = .int .i64 j ∧ m ≤ i ∧ i ≤ j ∧ j ≤ b ∧ (∀ p y, a < p → p < i → xs[p]? = some y → nle y x0) ∧ (∀ p y, j ≤ p → p < b → xs[p]? = some y → nle x0 y) ∧ Hp [g] w wr [.row 9 1 (.slice (some ⟨g, 0, none⟩) n c) n (xs.map Value.string)]) (fun iv jv _ => (intOf jv - intOf iv).toNat)
  case atStart => exact ⟨m, b, rfl, rfl, by omega, by omega, by omega, fun p y h1 h2 => by have := HM.out; omega, fun p y h1 h2 => by omega, H⟩
  case round =>
    clear H
    obtain ⟨i, j, rfl, rfl, hi1, hij, hjb, ha, hb, H⟩ := hrel
    have HA := Lib.hid ha
    have HB := Lib.hid hb
    clear ha hb
    by_cases hlt : i < j
    ·
      -- the place in the middle
      have hlt1 : ((i : Nat) : Int) < ((j : Nat) : Int) := by omega
      have hw2 : IntKind.i64.wrap ((i : Int) + (j : Int)) = (i : Int) + (j : Int) := IntWalk.i64_in _ (by omega)
      obtain ⟨h, hh⟩ : ∃ h : Nat, ((i : Int) + (j : Int)) / 2 = (h : Int) := ⟨(i + j) / 2, by omega⟩
      have hh0 : (0 : Int) ≤ (h : Int) := by omega
      have hhn : (h : Int) < (n : Int) := by omega
      have hil : i ≤ h := by omega
      have hjh : h < j := by omega
      have hwh : IntKind.i64.wrap ((h : Int) + 1) = (h : Int) + 1 := IntWalk.i64_in _ (by omega)
      -- the two names that are asked for
      obtain ⟨y, hy⟩ := at_some HL.out (show h < n by omega)
      obtain ⟨x, hx⟩ := at_some HL.out (show a < n by omega)
      have sy := Lib.hid (HZ.out y hy.mem)
      have sx := Lib.hid (HZ.out x hx.mem)
      have HX := Lib.hid hx
      have HYY := Lib.hid hy
      clear hx hy
      obtain ⟨o, ho⟩ : ∃ o, o = ordT (toB y) (toB x) := ⟨_, rfl⟩
      have HO := Lib.hid ho
      clear ho
      replace H := H.drew
      have HXX := Lib.hid (show x0 = x by have := HX0.out.symm.trans HX.out; simpa using this)
      by_cases hxy : o < 0
      · have hd : decide (o < 0) = true := by simpa using hxy
        go_wp2_with fail
        have cy := H.atM (f1 := Value.string) 0 rfl HYY.out
        have cx := H.atM (f1 := Value.string) 0 rfl HX.out
        refine wp_region_held_drew (S := fun w' => w'.cell? ⟨g, h, none⟩ = some (.string y) ∧ w'.cell? ⟨g, a, none⟩ = some (.string x)) (by kernel_rfl) ?_ (fun hHeld => ?_)
        · exact ⟨cy, cx⟩
        obtain ⟨u0, hu0⟩ : ∃ uu : World, uu = wr.drew := ⟨_, rfl⟩
        rw [← hu0] at H hHeld ⊢
        clear hu0
        refine wpAnyH_take (i := 0) (v := ?_) rfl (by kernel_rfl) (by kernel_rfl) (by kernel_rfl) (fun _ _ _ h => h) (Or.inl ⟨by kernel_rfl, ?_⟩) (by assumption) ?_
        rotate_left
        · (intro w hSw; (try dsimp only at hSw); go_simp; try (with_reducible rfl))
        try simp only [sA, sB, sC, Act.put, sD, sE, sF]
        refine wpAnyH_take (i := 1) (v := ?_) rfl (by kernel_rfl) (by kernel_rfl) (by kernel_rfl) (fun _ _ _ h => h) (Or.inl ⟨by kernel_rfl, ?_⟩) (by assumption) ?_
        rotate_left
        · (intro w hSw; (try dsimp only at hSw); go_simp; try (with_reducible rfl))
        try simp only [sA, sB, sC, Act.put, sD, sE, sF]
        refine wpAnyH_take (i := 2) (v := ?_) rfl (by kernel_rfl) (by kernel_rfl) (by kernel_rfl) (fun _ _ _ h => h) (Or.inl ⟨by kernel_rfl, ?_⟩) (by assumption) ?_
        rotate_left
        · (intro w hSw; (try dsimp only at hSw); go_simp; try (with_reducible rfl))
        try simp only [sA, sB, sC, Act.put, sD, sE, sF]
        refine wpAnyH_take (i := 3) (v := ?_) rfl (by kernel_rfl) (by kernel_rfl) (by kernel_rfl) (fun _ _ _ h => h) (Or.inl ⟨by kernel_rfl, ?_⟩) (by assumption) ?_
        rotate_left
        · (intro w hSw; (try dsimp only at hSw); go_simp; try (with_reducible rfl))
        try simp only [sA, sB, sC, Act.put, sD, sE, sF]
        refine wpAnyH_take (i := 4) (v := ?_) rfl (by kernel_rfl) (by kernel_rfl) (by kernel_rfl) (fun _ _ _ h => h) (Or.inl ⟨by kernel_rfl, ?_⟩) (by assumption) ?_
        rotate_left
        · (intro w hSw; (try dsimp only at hSw); go_simp; try (with_reducible rfl))
        try simp only [sA, sB, sC, Act.put, sD, sE, sF]
        refine wpAnyH_take (i := 5) (v := ?_) rfl (by kernel_rfl) (by kernel_rfl) (by kernel_rfl) (fun _ _ _ h => h) (Or.inl ⟨by kernel_rfl, ?_⟩) (by assumption) ?_
        rotate_left
        · (intro w hSw; (try dsimp only at hSw); go_simp; try (with_reducible rfl))
        try simp only [sA, sB, sC, Act.put, sD, sE, sF]
        refine wpAnyH_take (i := 6) (v := ?_) rfl (by kernel_rfl) (by kernel_rfl) (by kernel_rfl) (fun _ _ _ h => h) (Or.inl ⟨by kernel_rfl, ?_⟩) (by assumption) ?_
        rotate_left
        · (intro w hSw; (try dsimp only at hSw); go_simp; try (with_reducible rfl))
        try simp only [sA, sB, sC, Act.put, sD, sE, sF]
        refine wpAnyH_take (i := 7) (v := ?_) rfl (by kernel_rfl) (by kernel_rfl) (by kernel_rfl) (fun _ _ _ h => h) (Or.inl ⟨by kernel_rfl, ?_⟩) (by assumption) ?_
        rotate_left
        · (intro w hSw; (try dsimp only at hSw); go_simp; try (with_reducible rfl))
        try simp only [sA, sB, sC, Act.put, sD, sE, sF]
        refine wpAnyH_take (i := 8) (v := ?_) rfl (by kernel_rfl) (by kernel_rfl) (by kernel_rfl) (fun _ _ _ h => h) (Or.inl ⟨by kernel_rfl, ?_⟩) (by assumption) ?_
        rotate_left
        · (intro w hSw; (try dsimp only at hSw); go_simp; try (with_reducible rfl))
        try simp only [sA, sB, sC, Act.put, sD, sE, sF]
        refine wpAnyH_ready (rs := [9]) (by kernel_rfl) (by simp) ?_
        refine (AllReadyH.cons rfl (fun K hK => ?_) AllReadyH.nil)
        go_simp
        refine (implOrder_any y x _ sy.out sx.out (HK.out.hp H HG.out)).mono ?_
        rintro e u1 ⟨rfl, f9⟩
        replace H := H.go f9
        clear f9
        rw [← HO.out]
        go_wp2_with fail
        refine hK.out _ _ ?_ (fun hHeld => ?_)
        · exact ⟨H.atM (f1 := Value.string) 0 rfl HYY.out, H.atM (f1 := Value.string) 0 rfl HX.out⟩
        clear hK K
        try simp only [sA, sB, sC, Act.put, sD, sE, sF]
        refine wpAnyH_take (i := 10) (v := ?_) rfl (by kernel_rfl) (by kernel_rfl) (by kernel_rfl) (fun _ _ _ h => h) (Or.inl ⟨by kernel_rfl, ?_⟩) (by assumption) ?_
        rotate_left
        · (intro w hSw; (try dsimp only at hSw); go_simp; try (with_reducible rfl))
        try simp only [sA, sB, sC, Act.put, sD, sE, sF]
        refine wpAnyH_done (by kernel_rfl) ?_ _
        clear cy cx
        go_wp2_with fail
        go_roundw
        case rel =>
          have k1 := ord_lt HO.out (by omega)
          rw [← HXX.out] at k1
          have kM := HM.out
          exact ⟨h + 1, j, by go_num, rfl, by omega, by omega, hjb, fun p z h1 h2 hz => by
            by_cases hp : p = h
            · subst hp; have e := HYY.out.symm.trans hz; injection e with e; rw [← e]; exact k1
            · exact nle_trans (HS.out p h z y (by omega) (by omega) (by omega) hz HYY.out) k1, HB.out, H⟩
        case measure => simp [intOf]; omega
      · have hd : decide (o < 0) = false := by simpa using hxy
        go_wp2_with fail
        have cy := H.atM (f1 := Value.string) 0 rfl HYY.out
        have cx := H.atM (f1 := Value.string) 0 rfl HX.out
        refine wp_region_held_drew (S := fun w' => w'.cell? ⟨g, h, none⟩ = some (.string y) ∧ w'.cell? ⟨g, a, none⟩ = some (.string x)) (by kernel_rfl) ?_ (fun hHeld => ?_)
        · exact ⟨cy, cx⟩
        obtain ⟨u0, hu0⟩ : ∃ uu : World, uu = wr.drew := ⟨_, rfl⟩
        rw [← hu0] at H hHeld ⊢
        clear hu0
        refine wpAnyH_take (i := 0) (v := ?_) rfl (by kernel_rfl) (by kernel_rfl) (by kernel_rfl) (fun _ _ _ h => h) (Or.inl ⟨by kernel_rfl, ?_⟩) (by assumption) ?_
        rotate_left
        · (intro w hSw; (try dsimp only at hSw); go_simp; try (with_reducible rfl))
        try simp only [sA, sB, sC, Act.put, sD, sE, sF]
        refine wpAnyH_take (i := 1) (v := ?_) rfl (by kernel_rfl) (by kernel_rfl) (by kernel_rfl) (fun _ _ _ h => h) (Or.inl ⟨by kernel_rfl, ?_⟩) (by assumption) ?_
        rotate_left
        · (intro w hSw; (try dsimp only at hSw); go_simp; try (with_reducible rfl))
        try simp only [sA, sB, sC, Act.put, sD, sE, sF]
        refine wpAnyH_take (i := 2) (v := ?_) rfl (by kernel_rfl) (by kernel_rfl) (by kernel_rfl) (fun _ _ _ h => h) (Or.inl ⟨by kernel_rfl, ?_⟩) (by assumption) ?_
        rotate_left
        · (intro w hSw; (try dsimp only at hSw); go_simp; try (with_reducible rfl))
        try simp only [sA, sB, sC, Act.put, sD, sE, sF]
        refine wpAnyH_take (i := 3) (v := ?_) rfl (by kernel_rfl) (by kernel_rfl) (by kernel_rfl) (fun _ _ _ h => h) (Or.inl ⟨by kernel_rfl, ?_⟩) (by assumption) ?_
        rotate_left
        · (intro w hSw; (try dsimp only at hSw); go_simp; try (with_reducible rfl))
        try simp only [sA, sB, sC, Act.put, sD, sE, sF]
        refine wpAnyH_take (i := 4) (v := ?_) rfl (by kernel_rfl) (by kernel_rfl) (by kernel_rfl) (fun _ _ _ h => h) (Or.inl ⟨by kernel_rfl, ?_⟩) (by assumption) ?_
        rotate_left
        · (intro w hSw; (try dsimp only at hSw); go_simp; try (with_reducible rfl))
        try simp only [sA, sB, sC, Act.put, sD, sE, sF]
        refine wpAnyH_take (i := 5) (v := ?_) rfl (by kernel_rfl) (by kernel_rfl) (by kernel_rfl) (fun _ _ _ h => h) (Or.inl ⟨by kernel_rfl, ?_⟩) (by assumption) ?_
        rotate_left
        · (intro w hSw; (try dsimp only at hSw); go_simp; try (with_reducible rfl))
        try simp only [sA, sB, sC, Act.put, sD, sE, sF]
        refine wpAnyH_take (i := 6) (v := ?_) rfl (by kernel_rfl) (by kernel_rfl) (by kernel_rfl) (fun _ _ _ h => h) (Or.inl ⟨by kernel_rfl, ?_⟩) (by assumption) ?_
        rotate_left
        · (intro w hSw; (try dsimp only at hSw); go_simp; try (with_reducible rfl))
        try simp only [sA, sB, sC, Act.put, sD, sE, sF]
        refine wpAnyH_take (i := 7) (v := ?_) rfl (by kernel_rfl) (by kernel_rfl) (by kernel_rfl) (fun _ _ _ h => h) (Or.inl ⟨by kernel_rfl, ?_⟩) (by assumption) ?_
        rotate_left
        · (intro w hSw; (try dsimp only at hSw); go_simp; try (with_reducible rfl))
        try simp only [sA, sB, sC, Act.put, sD, sE, sF]
        refine wpAnyH_take (i := 8) (v := ?_) rfl (by kernel_rfl) (by kernel_rfl) (by kernel_rfl) (fun _ _ _ h => h) (Or.inl ⟨by kernel_rfl, ?_⟩) (by assumption) ?_
        rotate_left
        · (intro w hSw; (try dsimp only at hSw); go_simp; try (with_reducible rfl))
        try simp only [sA, sB, sC, Act.put, sD, sE, sF]
        refine wpAnyH_ready (rs := [9]) (by kernel_rfl) (by simp) ?_
        refine (AllReadyH.cons rfl (fun K hK => ?_) AllReadyH.nil)
        go_simp
        refine (implOrder_any y x _ sy.out sx.out (HK.out.hp H HG.out)).mono ?_
        rintro e u1 ⟨rfl, f9⟩
        replace H := H.go f9
        clear f9
        rw [← HO.out]
        go_wp2_with fail
        refine hK.out _ _ ?_ (fun hHeld => ?_)
        · exact ⟨H.atM (f1 := Value.string) 0 rfl HYY.out, H.atM (f1 := Value.string) 0 rfl HX.out⟩
        clear hK K
        try simp only [sA, sB, sC, Act.put, sD, sE, sF]
        refine wpAnyH_take (i := 10) (v := ?_) rfl (by kernel_rfl) (by kernel_rfl) (by kernel_rfl) (fun _ _ _ h => h) (Or.inl ⟨by kernel_rfl, ?_⟩) (by assumption) ?_
        rotate_left
        · (intro w hSw; (try dsimp only at hSw); go_simp; try (with_reducible rfl))
        try simp only [sA, sB, sC, Act.put, sD, sE, sF]
        refine wpAnyH_done (by kernel_rfl) ?_ _
        clear cy cx
        go_wp2_with fail
        go_roundw
        case rel =>
          have k1 := ord_ge HO.out (by omega)
          rw [← HXX.out] at k1
          have kM := HM.out
          exact ⟨i, h, rfl, rfl, by omega, by omega, by omega, HA.out, fun p z h1 h2 hz => by
            by_cases hp : p = h
            · subst hp; have e := HYY.out.symm.trans hz; injection e with e; rw [← e]; exact k1
            · exact nle_trans k1 (HS.out h p y z (by omega) (by omega) (by omega) HYY.out hz), H⟩
        case measure => simp [intOf]; omega
    · have hlt1 : ¬ ((i : Int) < (j : Int)) := by omega
      obtain ⟨i1, hi1'⟩ : ∃ x, x = i - 1 := ⟨_, rfl⟩
      have hwi' : (i : Int) - 1 = (i1 : Int) := by omega
      have hwi : IntKind.i64.wrap ((i : Int) - 1) = (i1 : Int) := by rw [hwi']; exact IntWalk.i64_in _ (by omega)
      have hai : a ≤ i1 := by omega
      have hin : i1 < n := by omega
      have HI := Lib.hid hi1'
      have HB2 := Lib.hid (show ∀ p y, i ≤ p → p < b → xs[p]? = some y → nle x0 y from fun p y h1 h2 => HB.out p y (by omega) h2)
      have hib : i ≤ b := by omega
      clear hi1' HB
      go_wp2_with fail
      go_loopw [13] (fun kv wr => ∃ (k : Nat) (zs : List ByteArray), kv = .int .i64 k ∧ a ≤ k ∧ k ≤ i1 ∧ Via (upI a k) xs zs ∧ Hp [g] w wr [.row 9 1 (.slice (some ⟨g, 0, none⟩) n c) n (zs.map Value.string)]) (fun kv _ => i1 - (intOf kv).toNat)
      case atStart => exact ⟨a, xs, rfl, by omega, hai, .of_id _ fun p => upI_0 a p, H⟩
      case round =>
        clear H
        obtain ⟨k, zs, rfl, hak, hki, hv, H⟩ := hrel
        have HV := Lib.hid hv
        have HY := Lib.hid (show zs.length = n by rw [hv.len]; exact HL.out)
        clear hv
        by_cases hk1 : k < i1
        · have hk2 : (k : Int) < (i1 : Int) := by omega
          obtain ⟨q, hq⟩ : ∃ q, q = k + 1 := ⟨_, rfl⟩
          obtain ⟨x, hx⟩ := at_some HY.out (show k < n by omega)
          obtain ⟨y, hy⟩ := at_some HY.out (show q < n by omega)
          have hwq' : (k : Int) + 1 = (q : Int) := by omega
          have hwq : IntKind.i64.wrap ((k : Int) + 1) = (q : Int) := by rw [hwq']; exact IntWalk.i64_in _ (by omega)
          have hp0 : (0 : Int) ≤ (k : Int) := by omega
          have hp1 : (k : Int) < (n : Int) := by omega
          have hq0 : (0 : Int) ≤ (q : Int) := by omega
          have hq1 : (q : Int) < (n : Int) := by omega
          have cx := H.atM (f1 := Value.string) 0 rfl hx
          have cy := H.atM (f1 := Value.string) 0 rfl hy
          have fx := H.free 0 rfl k
          have fy := H.free 0 rfl q
          have HX := Lib.hid hx
          have HYY := Lib.hid hy
          have HQ := Lib.hid hq
          clear hx hy hq
          go_wp2_with fail
          go_region
          go_wp2_with fail
          have H9 := Lib.hid ((H.putM 0 rfl k y).putM 0 rfl q x).drew
          go_roundw
          case rel =>
            have e := HQ.out
            exact ⟨q, swL zs k q x y, rfl, by omega, by omega, HV.out.then (swL_via HX.out HYY.out (by omega)) (fun r => by rw [e]; exact upI_step hak), H9.out⟩
          case measure => have := HQ.out; simp [intOf]; omega
        · have hk2 : ¬ ((k : Int) < (i1 : Int)) := by omega
          have hki2 : k = i1 := by omega
          have hm' := HM.out
          have HR := Lib.hid (merge_one HX0.out (show a < i by omega) hib (show UpS (a + 1) b xs by exact HS.out) HA.out HB2.out (show Via (upI a (i - 1)) xs zs by rw [← HI.out, ← hki2]; exact HV.out))
          clear hki2 hm'
          go_wp2_with fail
          refine bodyPost_ret (results_none rfl _ _ _) rfl ?_
          first | exact ⟨zs, rfl, HR.out.2, HR.out.1, H⟩ | exact ⟨rfl, zs, HR.out.2, HR.out.1, H⟩
set_option maxRecDepth 100000 in
set_option maxHeartbeats 8000000 in
theorem symLast_any (g n c a m base : Nat) (xs : List ByteArray) (w : World) (h : w.ownsRow base 9 1 (.slice (some ⟨g, 0, none⟩) n c) n (xs.map Value.string)) (hn : n ≤ 1048576) (ham : a + 1 < m) (hbn : m + 1 ≤ n)
    (h1 : UpS a m xs) (hz : ∀ x ∈ xs, x.size ≤ 16777216) (hk : KT w) (hg : g ≠ 0) :
    Calls Tryd.prog 102 #[.slice (some ⟨g, 0, none⟩) n c, .int .i64 a, .int .i64 m, .int .i64 ((m + 1 : Nat) : Int), .func (.func 11) #[] #[]] w fun e w' => ∃ ys : List ByteArray, e = .returned (.tuple #[]) ∧ Mv a (m + 1) xs ys ∧ UpS a (m + 1) ys ∧ Hp [g] w w' [.row 9 1 (.slice (some ⟨g, 0, none⟩) n c) n (ys.map Value.string)] := by
  have H : Hp [g] w w [.row 9 1 (.slice (some ⟨g, 0, none⟩) n c) n (xs.map Value.string)] := Hp.start_row h
  have HL := Lib.hid (show xs.length = n by have := h.1; simpa using this)
  have HK := Lib.hid hk
  have HZ := Lib.hid hz
  have HG := Lib.hid hg
  have HS := Lib.hid h1
  clear h h1 hz hk
  obtain ⟨b, hb⟩ : ∃ b, b = m + 1 := ⟨_, rfl⟩
  rw [← hb] at hbn ⊢
  have hw0 : IntKind.i64.wrap ((m : Int) - (a : Int)) = (m : Int) - (a : Int) := IntWalk.i64_in _ (by omega)
  have hw00 : ¬ ((m : Int) - (a : Int) = 1) := by omega
  have hw01 : ((m : Int) - (a : Int) == 1) = false := by simpa using hw00
  have hw1 : IntKind.i64.wrap ((b : Int) - (m : Int)) = 1 := by rw [IntWalk.i64_in _ (by omega)]; omega
  have hw1' : (b : Int) - (m : Int) = 1 := by omega
  have HM := Lib.hid hb
  have hmn : m < n := by omega
  clear hb
  obtain ⟨x0, hx0⟩ := at_some HL.out (show m < n by omega)
  have HX0 := Lib.hid hx0
  clear hx0
  have ha0 : (0 : Int) ≤ (m : Int) := by omega
  have han : (m : Int) < (n : Int) := by omega
  go_enter Tryd.func102, Tryd.ntmps102
  go_wp2_with fail
  go_loopw [14, 15] (fun iv jv wr => ∃ i j : Nat, iv = .int .i64 i ∧ jv = .int .i64 j ∧ a ≤ i ∧ i ≤ j ∧ j ≤ m ∧ (∀ p y, a ≤ p → p < i → xs[p]? = some y → nle y x0) ∧ (∀ p y, j ≤ p → p < m → xs[p]? = some y → nle x0 y) ∧ Hp [g] w wr [.row 9 1 (.slice (some ⟨g, 0, none⟩) n c) n (xs.map Value.string)]) (fun iv jv _ => (intOf jv - intOf iv).toNat)
  case atStart => exact ⟨a, m, rfl, rfl, by omega, by omega, by omega, fun p y h1 h2 => by omega, fun p y h1 h2 => by omega, H⟩
  case round =>
    clear H
    obtain ⟨i, j, rfl, rfl, hi1, hij, hjb, ha, hb, H⟩ := hrel
    have HA := Lib.hid ha
    have HB := Lib.hid hb
    clear ha hb
    by_cases hlt : i < j
    ·
      -- the place in the middle
      have hlt1 : ((i : Nat) : Int) < ((j : Nat) : Int) := by omega
      have hw2 : IntKind.i64.wrap ((i : Int) + (j : Int)) = (i : Int) + (j : Int) := IntWalk.i64_in _ (by omega)
      obtain ⟨h, hh⟩ : ∃ h : Nat, ((i : Int) + (j : Int)) / 2 = (h : Int) := ⟨(i + j) / 2, by omega⟩
      have hh0 : (0 : Int) ≤ (h : Int) := by omega
      have hhn : (h : Int) < (n : Int) := by omega
      have hil : i ≤ h := by omega
      have hjh : h < j := by omega
      have hwh : IntKind.i64.wrap ((h : Int) + 1) = (h : Int) + 1 := IntWalk.i64_in _ (by omega)
      -- the two names that are asked for
      obtain ⟨y, hy⟩ := at_some HL.out (show m < n by omega)
      obtain ⟨x, hx⟩ := at_some HL.out (show h < n by omega)
      have sy := Lib.hid (HZ.out y hy.mem)
      have sx := Lib.hid (HZ.out x hx.mem)
      have HX := Lib.hid hx
      have HYY := Lib.hid hy
      clear hx hy
      obtain ⟨o, ho⟩ : ∃ o, o = ordT (toB y) (toB x) := ⟨_, rfl⟩
      have HO := Lib.hid ho
      clear ho
      replace H := H.drew
      have HXX := Lib.hid (show x0 = y by have := HX0.out.symm.trans HYY.out; simpa using this)
      by_cases hxy : o < 0
      · have hd : decide (o < 0) = true := by simpa using hxy
        go_wp2_with fail
        have cy := H.atM (f1 := Value.string) 0 rfl HYY.out
        have cx := H.atM (f1 := Value.string) 0 rfl HX.out
        refine wp_region_held_drew (S := fun w' => w'.cell? ⟨g, m, none⟩ = some (.string y) ∧ w'.cell? ⟨g, h, none⟩ = some (.string x)) (by kernel_rfl) ?_ (fun hHeld => ?_)
        · exact ⟨cy, cx⟩
        obtain ⟨u0, hu0⟩ : ∃ uu : World, uu = wr.drew := ⟨_, rfl⟩
        rw [← hu0] at H hHeld ⊢
        clear hu0
        refine wpAnyH_take (i := 0) (v := ?_) rfl (by kernel_rfl) (by kernel_rfl) (by kernel_rfl) (fun _ _ _ h => h) (Or.inl ⟨by kernel_rfl, ?_⟩) (by assumption) ?_
        rotate_left
        · (intro w hSw; (try dsimp only at hSw); go_simp; try (with_reducible rfl))
        try simp only [sA, sB, sC, Act.put, sD, sE, sF]
        refine wpAnyH_take (i := 1) (v := ?_) rfl (by kernel_rfl) (by kernel_rfl) (by kernel_rfl) (fun _ _ _ h => h) (Or.inl ⟨by kernel_rfl, ?_⟩) (by assumption) ?_
        rotate_left
        · (intro w hSw; (try dsimp only at hSw); go_simp; try (with_reducible rfl))
        try simp only [sA, sB, sC, Act.put, sD, sE, sF]
        refine wpAnyH_take (i := 2) (v := ?_) rfl (by kernel_rfl) (by kernel_rfl) (by kernel_rfl) (fun _ _ _ h => h) (Or.inl ⟨by kernel_rfl, ?_⟩) (by assumption) ?_
        rotate_left
        · (intro w hSw; (try dsimp only at hSw); go_simp; try (with_reducible rfl))
        try simp only [sA, sB, sC, Act.put, sD, sE, sF]
        refine wpAnyH_take (i := 3) (v := ?_) rfl (by kernel_rfl) (by kernel_rfl) (by kernel_rfl) (fun _ _ _ h => h) (Or.inl ⟨by kernel_rfl, ?_⟩) (by assumption) ?_
        rotate_left
        · (intro w hSw; (try dsimp only at hSw); go_simp; try (with_reducible rfl))
        try simp only [sA, sB, sC, Act.put, sD, sE, sF]
        refine wpAnyH_take (i := 4) (v := ?_) rfl (by kernel_rfl) (by kernel_rfl) (by kernel_rfl) (fun _ _ _ h => h) (Or.inl ⟨by kernel_rfl, ?_⟩) (by assumption) ?_
        rotate_left
        · (intro w hSw; (try dsimp only at hSw); go_simp; try (with_reducible rfl))
        try simp only [sA, sB, sC, Act.put, sD, sE, sF]
        refine wpAnyH_take (i := 5) (v := ?_) rfl (by kernel_rfl) (by kernel_rfl) (by kernel_rfl) (fun _ _ _ h => h) (Or.inl ⟨by kernel_rfl, ?_⟩) (by assumption) ?_
        rotate_left
        · (intro w hSw; (try dsimp only at hSw); go_simp; try (with_reducible rfl))
        try simp only [sA, sB, sC, Act.put, sD, sE, sF]
        refine wpAnyH_take (i := 6) (v := ?_) rfl (by kernel_rfl) (by kernel_rfl) (by kernel_rfl) (fun _ _ _ h => h) (Or.inl ⟨by kernel_rfl, ?_⟩) (by assumption) ?_
        rotate_left
        · (intro w hSw; (try dsimp only at hSw); go_simp; try (with_reducible rfl))
        try simp only [sA, sB, sC, Act.put, sD, sE, sF]
        refine wpAnyH_take (i := 7) (v := ?_) rfl (by kernel_rfl) (by kernel_rfl) (by kernel_rfl) (fun _ _ _ h => h) (Or.inl ⟨by kernel_rfl, ?_⟩) (by assumption) ?_
        rotate_left
        · (intro w hSw; (try dsimp only at hSw); go_simp; try (with_reducible rfl))
        try simp only [sA, sB, sC, Act.put, sD, sE, sF]
        refine wpAnyH_take (i := 8) (v := ?_) rfl (by kernel_rfl) (by kernel_rfl) (by kernel_rfl) (fun _ _ _ h => h) (Or.inl ⟨by kernel_rfl, ?_⟩) (by assumption) ?_
        rotate_left
        · (intro w hSw; (try dsimp only at hSw); go_simp; try (with_reducible rfl))
        try simp only [sA, sB, sC, Act.put, sD, sE, sF]
        refine wpAnyH_ready (rs := [9]) (by kernel_rfl) (by simp) ?_
        refine (AllReadyH.cons rfl (fun K hK => ?_) AllReadyH.nil)
        go_simp
        refine (implOrder_any y x _ sy.out sx.out (HK.out.hp H HG.out)).mono ?_
        rintro e u1 ⟨rfl, f9⟩
        replace H := H.go f9
        clear f9
        rw [← HO.out]
        go_wp2_with fail
        refine hK.out _ _ ?_ (fun hHeld => ?_)
        · exact ⟨H.atM (f1 := Value.string) 0 rfl HYY.out, H.atM (f1 := Value.string) 0 rfl HX.out⟩
        clear hK K
        try simp only [sA, sB, sC, Act.put, sD, sE, sF]
        refine wpAnyH_take (i := 10) (v := ?_) rfl (by kernel_rfl) (by kernel_rfl) (by kernel_rfl) (fun _ _ _ h => h) (Or.inl ⟨by kernel_rfl, ?_⟩) (by assumption) ?_
        rotate_left
        · (intro w hSw; (try dsimp only at hSw); go_simp; try (with_reducible rfl))
        try simp only [sA, sB, sC, Act.put, sD, sE, sF]
        refine wpAnyH_take (i := 11) (v := ?_) rfl (by kernel_rfl) (by kernel_rfl) (by kernel_rfl) (fun _ _ _ h => h) (Or.inl ⟨by kernel_rfl, ?_⟩) (by assumption) ?_
        rotate_left
        · (intro w hSw; (try dsimp only at hSw); go_simp; try (with_reducible rfl))
        try simp only [sA, sB, sC, Act.put, sD, sE, sF]
        refine wpAnyH_done (by kernel_rfl) ?_ _
        clear cy cx
        go_wp2_with fail
        go_roundw
        case rel =>
          have k1 := ord_lt HO.out (by omega)
          rw [← HXX.out] at k1
          exact ⟨i, h, rfl, rfl, by omega, by omega, by omega, HA.out, fun p z h1 h2 hz => by
            by_cases hp : p = h
            · subst hp; have e := HX.out.symm.trans hz; injection e with e; rw [← e]; exact k1
            · exact nle_trans k1 (HS.out h p x z (by omega) (by omega) (by omega) HX.out hz), H⟩
        case measure => simp [intOf]; omega
      · have hd : decide (o < 0) = false := by simpa using hxy
        go_wp2_with fail
        have cy := H.atM (f1 := Value.string) 0 rfl HYY.out
        have cx := H.atM (f1 := Value.string) 0 rfl HX.out
        refine wp_region_held_drew (S := fun w' => w'.cell? ⟨g, m, none⟩ = some (.string y) ∧ w'.cell? ⟨g, h, none⟩ = some (.string x)) (by kernel_rfl) ?_ (fun hHeld => ?_)
        · exact ⟨cy, cx⟩
        obtain ⟨u0, hu0⟩ : ∃ uu : World, uu = wr.drew := ⟨_, rfl⟩
        rw [← hu0] at H hHeld ⊢
        clear hu0
        refine wpAnyH_take (i := 0) (v := ?_) rfl (by kernel_rfl) (by kernel_rfl) (by kernel_rfl) (fun _ _ _ h => h) (Or.inl ⟨by kernel_rfl, ?_⟩) (by assumption) ?_
        rotate_left
        · (intro w hSw; (try dsimp only at hSw); go_simp; try (with_reducible rfl))
        try simp only [sA, sB, sC, Act.put, sD, sE, sF]
        refine wpAnyH_take (i := 1) (v := ?_) rfl (by kernel_rfl) (by kernel_rfl) (by kernel_rfl) (fun _ _ _ h => h) (Or.inl ⟨by kernel_rfl, ?_⟩) (by assumption) ?_
        rotate_left
        · (intro w hSw; (try dsimp only at hSw); go_simp; try (with_reducible rfl))
        try simp only [sA, sB, sC, Act.put, sD, sE, sF]
        refine wpAnyH_take (i := 2) (v := ?_) rfl (by kernel_rfl) (by kernel_rfl) (by kernel_rfl) (fun _ _ _ h => h) (Or.inl ⟨by kernel_rfl, ?_⟩) (by assumption) ?_
        rotate_left
        · (intro w hSw; (try dsimp only at hSw); go_simp; try (with_reducible rfl))
        try simp only [sA, sB, sC, Act.put, sD, sE, sF]
        refine wpAnyH_take (i := 3) (v := ?_) rfl (by kernel_rfl) (by kernel_rfl) (by kernel_rfl) (fun _ _ _ h => h) (Or.inl ⟨by kernel_rfl, ?_⟩) (by assumption) ?_
        rotate_left
        · (intro w hSw; (try dsimp only at hSw); go_simp; try (with_reducible rfl))
        try simp only [sA, sB, sC, Act.put, sD, sE, sF]
        refine wpAnyH_take (i := 4) (v := ?_) rfl (by kernel_rfl) (by kernel_rfl) (by kernel_rfl) (fun _ _ _ h => h) (Or.inl ⟨by kernel_rfl, ?_⟩) (by assumption) ?_
        rotate_left
        · (intro w hSw; (try dsimp only at hSw); go_simp; try (with_reducible rfl))
        try simp only [sA, sB, sC, Act.put, sD, sE, sF]
        refine wpAnyH_take (i := 5) (v := ?_) rfl (by kernel_rfl) (by kernel_rfl) (by kernel_rfl) (fun _ _ _ h => h) (Or.inl ⟨by kernel_rfl, ?_⟩) (by assumption) ?_
        rotate_left
        · (intro w hSw; (try dsimp only at hSw); go_simp; try (with_reducible rfl))
        try simp only [sA, sB, sC, Act.put, sD, sE, sF]
        refine wpAnyH_take (i := 6) (v := ?_) rfl (by kernel_rfl) (by kernel_rfl) (by kernel_rfl) (fun _ _ _ h => h) (Or.inl ⟨by kernel_rfl, ?_⟩) (by assumption) ?_
        rotate_left
        · (intro w hSw; (try dsimp only at hSw); go_simp; try (with_reducible rfl))
        try simp only [sA, sB, sC, Act.put, sD, sE, sF]
        refine wpAnyH_take (i := 7) (v := ?_) rfl (by kernel_rfl) (by kernel_rfl) (by kernel_rfl) (fun _ _ _ h => h) (Or.inl ⟨by kernel_rfl, ?_⟩) (by assumption) ?_
        rotate_left
        · (intro w hSw; (try dsimp only at hSw); go_simp; try (with_reducible rfl))
        try simp only [sA, sB, sC, Act.put, sD, sE, sF]
        refine wpAnyH_take (i := 8) (v := ?_) rfl (by kernel_rfl) (by kernel_rfl) (by kernel_rfl) (fun _ _ _ h => h) (Or.inl ⟨by kernel_rfl, ?_⟩) (by assumption) ?_
        rotate_left
        · (intro w hSw; (try dsimp only at hSw); go_simp; try (with_reducible rfl))
        try simp only [sA, sB, sC, Act.put, sD, sE, sF]
        refine wpAnyH_ready (rs := [9]) (by kernel_rfl) (by simp) ?_
        refine (AllReadyH.cons rfl (fun K hK => ?_) AllReadyH.nil)
        go_simp
        refine (implOrder_any y x _ sy.out sx.out (HK.out.hp H HG.out)).mono ?_
        rintro e u1 ⟨rfl, f9⟩
        replace H := H.go f9
        clear f9
        rw [← HO.out]
        go_wp2_with fail
        refine hK.out _ _ ?_ (fun hHeld => ?_)
        · exact ⟨H.atM (f1 := Value.string) 0 rfl HYY.out, H.atM (f1 := Value.string) 0 rfl HX.out⟩
        clear hK K
        try simp only [sA, sB, sC, Act.put, sD, sE, sF]
        refine wpAnyH_take (i := 10) (v := ?_) rfl (by kernel_rfl) (by kernel_rfl) (by kernel_rfl) (fun _ _ _ h => h) (Or.inl ⟨by kernel_rfl, ?_⟩) (by assumption) ?_
        rotate_left
        · (intro w hSw; (try dsimp only at hSw); go_simp; try (with_reducible rfl))
        try simp only [sA, sB, sC, Act.put, sD, sE, sF]
        refine wpAnyH_take (i := 11) (v := ?_) rfl (by kernel_rfl) (by kernel_rfl) (by kernel_rfl) (fun _ _ _ h => h) (Or.inl ⟨by kernel_rfl, ?_⟩) (by assumption) ?_
        rotate_left
        · (intro w hSw; (try dsimp only at hSw); go_simp; try (with_reducible rfl))
        try simp only [sA, sB, sC, Act.put, sD, sE, sF]
        refine wpAnyH_done (by kernel_rfl) ?_ _
        clear cy cx
        go_wp2_with fail
        go_roundw
        case rel =>
          have k1 := ord_ge HO.out (by omega)
          rw [← HXX.out] at k1
          exact ⟨h + 1, j, by go_num, rfl, by omega, by omega, hjb, fun p z h1 h2 hz => by
            by_cases hp : p = h
            · subst hp; have e := HX.out.symm.trans hz; injection e with e; rw [← e]; exact k1
            · exact nle_trans (HS.out p h z x (by omega) (by omega) (by omega) hz HX.out) k1, HB.out, H⟩
        case measure => simp [intOf]; omega
    · have hlt1 : ¬ ((i : Int) < (j : Int)) := by omega
      have HB2 := Lib.hid (show ∀ p y, i ≤ p → p < m → xs[p]? = some y → nle x0 y from fun p y h1 h2 => HB.out p y (by omega) h2)
      have hib : i ≤ m := by omega
      clear HB
      go_wp2_with fail
      go_loopw [17] (fun kv wr => ∃ (k : Nat) (zs : List ByteArray), kv = .int .i64 k ∧ i ≤ k ∧ k ≤ m ∧ Via (dnI k m) xs zs ∧ Hp [g] w wr [.row 9 1 (.slice (some ⟨g, 0, none⟩) n c) n (zs.map Value.string)]) (fun kv _ => (intOf kv).toNat)
      case atStart => exact ⟨m, xs, rfl, hib, by omega, .of_id _ fun p => dnI_0 m p, H⟩
      case round =>
        clear H
        obtain ⟨k, zs, rfl, hak, hki, hv, H⟩ := hrel
        have HV := Lib.hid hv
        have HY := Lib.hid (show zs.length = n by rw [hv.len]; exact HL.out)
        clear hv
        by_cases hk1 : i < k
        · have hk2 : (i : Int) < (k : Int) := by omega
          obtain ⟨q, hq⟩ : ∃ q, q = k - 1 := ⟨_, rfl⟩
          obtain ⟨x, hx⟩ := at_some HY.out (show k < n by omega)
          obtain ⟨y, hy⟩ := at_some HY.out (show q < n by omega)
          have hwq' : (k : Int) - 1 = (q : Int) := by omega
          have hwq : IntKind.i64.wrap ((k : Int) - 1) = (q : Int) := by rw [hwq']; exact IntWalk.i64_in _ (by omega)
          have hp0 : (0 : Int) ≤ (k : Int) := by omega
          have hp1 : (k : Int) < (n : Int) := by omega
          have hq0 : (0 : Int) ≤ (q : Int) := by omega
          have hq1 : (q : Int) < (n : Int) := by omega
          have cx := H.atM (f1 := Value.string) 0 rfl hx
          have cy := H.atM (f1 := Value.string) 0 rfl hy
          have fx := H.free 0 rfl k
          have fy := H.free 0 rfl q
          have hqk : q + 1 = k := by omega
          have HX := Lib.hid hx
          have HYY := Lib.hid hy
          have HQ := Lib.hid hqk
          clear hx hy hq hqk
          go_wp2_with fail
          go_region
          go_wp2_with fail
          have H9 := Lib.hid ((H.putM 0 rfl k y).putM 0 rfl q x).drew
          go_roundw
          case rel =>
            have e := HQ.out
            exact ⟨q, swL zs k q x y, rfl, by omega, by omega, HV.out.then (swL_via HX.out HYY.out (by omega)) (fun r => by rw [← e]; exact dnI_step (by omega)), H9.out⟩
          case measure => have := HQ.out; simp [intOf]; omega
        · have hk2 : ¬ ((i : Int) < (k : Int)) := by omega
          have hki2 : k = i := by omega
          have hm' := HM.out
          have HR := Lib.hid (merge_last HX0.out hi1 hib HS.out HA.out HB2.out (show Via (dnI i m) xs zs by rw [← hki2]; exact HV.out))
          rw [← hm'] at HR
          clear hki2 hm'
          go_wp2_with fail
          refine bodyPost_ret (results_none rfl _ _ _) rfl ?_
          first | exact ⟨zs, rfl, HR.out.2, HR.out.1, H⟩ | exact ⟨rfl, zs, HR.out.2, HR.out.1, H⟩
end Go.Proofs.YtfmifaneggenoaaDoor
