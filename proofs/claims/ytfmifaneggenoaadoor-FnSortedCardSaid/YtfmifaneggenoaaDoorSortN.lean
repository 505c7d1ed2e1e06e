/-
  slices.insertionSortCmpFunc at names of the call's own, by impl.Order: the same names, rising between a and b.
-/
import Derived.Test.YtfmifaneggenoaaDoorOrder
import Derived.Test.YtfmifaneggenoaaDoorMSymM
import Derived.Test.YtfmifaneggenoaaDoorTree
namespace Go.Proofs.YtfmifaneggenoaaDoor
open Go.RowKit

set_option linter.unusedVariables false
set_option linter.unusedSimpArgs false
theorem KT.hp {w w' : World} {g : Nat} {l : List Ob} (h : KT w) (H : Hp [g] w w' l) (hg : g ≠ 0) : KT w' :=
  H.oldW (show Rd w (some ⟨0, 0, none⟩) 27 2 (kpPairs.flatMap cPair) from h) fun ad e => by
    injection e with e; subst e; simp only [List.mem_singleton]; omega
set_option maxRecDepth 100000 in
set_option maxHeartbeats 4000000 in
theorem isortN_any (g n c a b base : Nat) (xs : List ByteArray) (w : World) (h : w.ownsRow base 9 1 (.slice (some ⟨g, 0, none⟩) n c) n (xs.map Value.string)) (hn : n ≤ 1048576) (hbn : b ≤ n) (han : a ≤ n) (hz : ∀ x ∈ xs, x.size ≤ 16777216) (hk : KT w) (hg : g ≠ 0) :
    Calls Tryd.prog 101 #[.slice (some ⟨g, 0, none⟩) n c, .int .i64 a, .int .i64 b, .func (.func 11) #[] #[]] w fun e w' => ∃ ys : List ByteArray, e = .returned (.tuple #[]) ∧ Mv a b xs ys ∧ UpS a b ys ∧ Hp [g] w w' [.row 9 1 (.slice (some ⟨g, 0, none⟩) n c) n (ys.map Value.string)] := by
  have H0 : Hp [g] w w [.row 9 1 (.slice (some ⟨g, 0, none⟩) n c) n (xs.map Value.string)] := Hp.start_row h
  have HL := Lib.hid (show xs.length = n by have := h.1; simpa using this)
  have HK := Lib.hid hk
  have HZ := Lib.hid hz
  have HG := Lib.hid hg
  clear h hk hz
  go_enter Tryd.func101, Tryd.ntmps101
  have ha1 : IntKind.i64.wrap ((a : Int) + 1) = (a : Int) + 1 := IntWalk.i64_in _ (by omega)
  go_wp2_with fail
  go_loopw [8] (fun i wr => ∃ (k : Nat) (ys : List ByteArray), i = .int .i64 k ∧ a + 1 ≤ k ∧ (k ≤ b ∨ k = a + 1) ∧ Mv a b xs ys ∧ UpS a k ys ∧ Hp [g] w wr [.row 9 1 (.slice (some ⟨g, 0, none⟩) n c) n (ys.map Value.string)]) (fun i _ => b - (intOf i).toNat)
  case atStart => exact ⟨a + 1, xs, by go_num, by omega, .inr rfl, .refl _ _ _, .one _ _ (by omega), H0⟩
  case round =>
    clear H0
    obtain ⟨k, ys, rfl, hk1, hk2, hp, hu, H⟩ := hrel
    by_cases hlt : k < b
    · obtain ⟨wo, rfl⟩ : ∃ wo : World, wo = wr := ⟨_, rfl⟩
      have HP := Lib.hid hp
      have HU := Lib.hid hu
      have hlt1 : (k : Int) < (b : Int) := by omega
      clear hp hu
      go_wp2_with fail
      go_loopw [9] (fun v wi => ∃ (j : Nat) (zs : List ByteArray), v = .int .i64 j ∧ a ≤ j ∧ j ≤ k ∧ Mv a b xs zs ∧ ExS a k j zs ∧ Hp [g] w wi [.row 9 1 (.slice (some ⟨g, 0, none⟩) n c) n (zs.map Value.string)]) (fun v _ => (intOf v).toNat)
      case atStart => exact ⟨k, ys, rfl, by omega, Nat.le_refl _, HP.out, .start HU.out, H⟩
      case round =>
        clear H HP HU
        obtain ⟨j, zs, rfl, haj, hj, hp, hex, H⟩ := hrel
        have HP := Lib.hid hp
        have HE := Lib.hid hex
        have hzl : zs.length = n := by rw [hp.len]; exact HL.out
        have HY := Lib.hid hzl
        have HS := Lib.hid (show ∀ x ∈ zs, x.size ≤ 16777216 from fun x hx => HZ.out x (hp.perm.mem_iff.1 hx))
        clear hp hex hzl
        rcases Nat.eq_or_lt_of_le haj with hj0 | hj0
        · have HUP := Lib.hid (HE.out.stop (.inl hj0.symm))
          have hd0 : decide ((a : Int) < (j : Int)) = false := by simp; omega
          have hd1 : ¬ ((a : Int) < (j : Int)) := by omega
          have hd2 : decide (a < j) = false := by simp; omega
          have hd3 : ¬ (a < j) := by omega
          clear hj0
          replace H := H.drew
          go_wp2_with fail
          refine wp_region_held_drew (S := fun _ => True) (by kernel_rfl) ?_ (fun hHeld => ?_)
          · exact trivial
          obtain ⟨u0, hu0⟩ : ∃ uu : World, uu = wr.drew := ⟨_, rfl⟩
          rw [← hu0] at H ⊢
          clear hu0
          refine wpAnyH_take (i := 0) (v := ?_) rfl (by kernel_rfl) (by kernel_rfl) (by kernel_rfl) (fun _ _ _ h => h) (Or.inl ⟨by kernel_rfl, ?_⟩) (by assumption) ?_
          rotate_left
          · (intro w hSw; (try dsimp only at hSw); go_simp; try (with_reducible rfl))
          try simp only [sA, sB, sC, Act.put, sD, sE, sF]
          refine wpAnyH_take (i := 1) (v := ?_) rfl (by kernel_rfl) (by kernel_rfl) (by kernel_rfl) (fun _ _ _ h => h) (Or.inl ⟨by kernel_rfl, ?_⟩) (by assumption) ?_
          rotate_left
          · (intro w hSw; (try dsimp only at hSw); go_simp; try (with_reducible rfl))
          try simp only [sA, sB, sC, Act.put, sD, sE, sF]
          refine wpAnyH_take (i := 2) (v := ?_) rfl (by kernel_rfl) (by kernel_rfl) (by kernel_rfl) (fun _ _ _ h => h) (Or.inl ⟨by kernel_rfl, ?_⟩) (by assumption) ?_
          rotate_left
          · (intro w hSw; (try dsimp only at hSw); go_simp; try (with_reducible rfl))
          try simp only [sA, sB, sC, Act.put, sD, sE, sF]
          refine wpAnyH_take (i := 3) (v := ?_) rfl (by kernel_rfl) (by kernel_rfl) (by kernel_rfl) (fun _ _ _ h => h) (Or.inl ⟨by kernel_rfl, ?_⟩) (by assumption) ?_
          rotate_left
          · (intro w hSw; (try dsimp only at hSw); go_simp; try (with_reducible rfl))
          try simp only [sA, sB, sC, Act.put, sD, sE, sF]
          refine wpAnyH_take (i := 4) (v := undef) rfl (by kernel_rfl) (by kernel_rfl) (by kernel_rfl) (fun _ _ _ h => h) (Or.inr ⟨by kernel_rfl, rfl⟩) (by assumption) ?_
          try simp only [sA, sB, sC, Act.put, sD, sE, sF]
          refine wpAnyH_take (i := 5) (v := undef) rfl (by kernel_rfl) (by kernel_rfl) (by kernel_rfl) (fun _ _ _ h => h) (Or.inr ⟨by kernel_rfl, rfl⟩) (by assumption) ?_
          try simp only [sA, sB, sC, Act.put, sD, sE, sF]
          refine wpAnyH_take (i := 6) (v := undef) rfl (by kernel_rfl) (by kernel_rfl) (by kernel_rfl) (fun _ _ _ h => h) (Or.inr ⟨by kernel_rfl, rfl⟩) (by assumption) ?_
          try simp only [sA, sB, sC, Act.put, sD, sE, sF]
          refine wpAnyH_take (i := 7) (v := undef) rfl (by kernel_rfl) (by kernel_rfl) (by kernel_rfl) (fun _ _ _ h => h) (Or.inr ⟨by kernel_rfl, rfl⟩) (by assumption) ?_
          try simp only [sA, sB, sC, Act.put, sD, sE, sF]
          refine wpAnyH_take (i := 8) (v := undef) rfl (by kernel_rfl) (by kernel_rfl) (by kernel_rfl) (fun _ _ _ h => h) (Or.inr ⟨by kernel_rfl, rfl⟩) (by assumption) ?_
          try simp only [sA, sB, sC, Act.put, sD, sE, sF]
          refine wpAnyH_take (i := 9) (v := undef) rfl (by kernel_rfl) (by kernel_rfl) (by kernel_rfl) (fun _ _ _ h => h) (Or.inr ⟨by kernel_rfl, rfl⟩) (by assumption) ?_
          try simp only [sA, sB, sC, Act.put, sD, sE, sF]
          refine wpAnyH_take (i := 10) (v := undef) rfl (by kernel_rfl) (by kernel_rfl) (by kernel_rfl) (fun _ _ _ h => h) (Or.inr ⟨by kernel_rfl, rfl⟩) (by assumption) ?_
          try simp only [sA, sB, sC, Act.put, sD, sE, sF]
          refine wpAnyH_take (i := 11) (v := undef) rfl (by kernel_rfl) (by kernel_rfl) (by kernel_rfl) (fun _ _ _ h => h) (Or.inr ⟨by kernel_rfl, rfl⟩) (by assumption) ?_
          try simp only [sA, sB, sC, Act.put, sD, sE, sF]
          refine wpAnyH_take (i := 12) (v := undef) rfl (by kernel_rfl) (by kernel_rfl) (by kernel_rfl) (fun _ _ _ h => h) (Or.inr ⟨by kernel_rfl, rfl⟩) (by assumption) ?_
          try simp only [sA, sB, sC, Act.put, sD, sE, sF]
          refine wpAnyH_take (i := 13) (v := undef) rfl (by kernel_rfl) (by kernel_rfl) (by kernel_rfl) (fun _ _ _ h => h) (Or.inr ⟨by kernel_rfl, rfl⟩) (by assumption) ?_
          try simp only [sA, sB, sC, Act.put, sD, sE, sF]
          refine wpAnyH_take (i := 14) (v := undef) rfl (by kernel_rfl) (by kernel_rfl) (by kernel_rfl) (fun _ _ _ h => h) (Or.inr ⟨by kernel_rfl, rfl⟩) (by assumption) ?_
          try simp only [sA, sB, sC, Act.put, sD, sE, sF]
          refine wpAnyH_take (i := 15) (v := undef) rfl (by kernel_rfl) (by kernel_rfl) (by kernel_rfl) (fun _ _ _ h => h) (Or.inr ⟨by kernel_rfl, rfl⟩) (by assumption) ?_
          try simp only [sA, sB, sC, Act.put, sD, sE, sF]
          refine wpAnyH_take (i := 16) (v := ?_) rfl (by kernel_rfl) (by kernel_rfl) (by kernel_rfl) (fun _ _ _ h => h) (Or.inl ⟨by kernel_rfl, ?_⟩) (by assumption) ?_
          rotate_left
          · (intro w hSw; (try dsimp only at hSw); go_simp; try (with_reducible rfl))
          try simp only [sA, sB, sC, Act.put, sD, sE, sF]
          refine wpAnyH_done (by kernel_rfl) ?_ _
          go_wp2_with fail
          go_roundw
          case rel => exact ⟨k + 1, zs, by go_num, by omega, by omega, HP.out, HUP.out, H⟩
          case measure => simp [intOf]; omega
        · obtain ⟨y, hy⟩ := at_some HY.out (show j < n by omega)
          obtain ⟨x, hx⟩ := at_some HY.out (show j - 1 < n by omega)
          obtain ⟨q, hq⟩ : ∃ q, q = j - 1 := ⟨_, rfl⟩
          rw [← hq] at hx
          have sy := Lib.hid (HS.out y hy.mem)
          have sx := Lib.hid (HS.out x hx.mem)
          have hd0 : decide ((a : Int) < (j : Int)) = true := by simp; omega
          have hd1 : (a : Int) < (j : Int) := by omega
          have hwj : IntKind.i64.wrap (j : Int) = (j : Int) := IntWalk.i64_in _ (by omega)
          have hwq : IntKind.i64.wrap (q : Int) = (q : Int) := IntWalk.i64_in _ (by omega)
          have hw2 : IntKind.i64.wrap ((j : Int) - 1) = (q : Int) := by rw [show (j : Int) - 1 = (q : Int) by omega]; exact hwq
          have hw3 : (j : Int) - 1 = (q : Int) := by omega
          have hi0 : (0 : Int) ≤ (j : Int) := by omega
          have hi1 : (j : Int) < (n : Int) := by omega
          have hi2 : (0 : Int) ≤ (q : Int) := by omega
          have hi3 : (q : Int) < (n : Int) := by omega
          have hqj : q < j := by omega
          have HQ := Lib.hid hq
          clear hq
          obtain ⟨o, ho⟩ : ∃ o, o = ordT (toB y) (toB x) := ⟨_, rfl⟩
          have HO := Lib.hid ho
          clear ho
          replace H := H.drew
          have cy := H.atM (f1 := Value.string) 0 rfl hy
          have cx := H.atM (f1 := Value.string) 0 rfl hx
          have HX := Lib.hid hx
          have HYY := Lib.hid hy
          clear hx hy
          by_cases hxy : o < 0
          · have hd : decide (o < 0) = true := by simpa using hxy
            go_wp2_with fail
            refine wp_region_held_drew (S := fun w' => w'.cell? ⟨g, j, none⟩ = some (.string y) ∧ w'.cell? ⟨g, q, none⟩ = some (.string x)) (by kernel_rfl) ?_ (fun hHeld => ?_)
            · exact ⟨cy, cx⟩
            obtain ⟨u0, hu0⟩ : ∃ uu : World, uu = wr.drew := ⟨_, rfl⟩
            rw [← hu0] at H hHeld ⊢
            clear hu0
            refine wpAnyH_take (i := 0) (v := ?_) rfl (by kernel_rfl) (by kernel_rfl) (by kernel_rfl) (fun _ _ _ h => h) (Or.inl ⟨by kernel_rfl, ?_⟩) (by assumption) ?_
            rotate_left
            · (intro w hSw; (try dsimp only at hSw); go_simp; try (with_reducible rfl))
            try simp only [sA, sB, sC, Act.put, sD, sE, sF]
            refine wpAnyH_take (i := 1) (v := ?_) rfl (by kernel_rfl) (by kernel_rfl) (by kernel_rfl) (fun _ _ _ h => h) (Or.inl ⟨by kernel_rfl, ?_⟩) (by assumption) ?_
            rotate_left
            · (intro w hSw; (try dsimp only at hSw); go_simp; try (with_reducible rfl))
            try simp only [sA, sB, sC, Act.put, sD, sE, sF]
            refine wpAnyH_take (i := 2) (v := ?_) rfl (by kernel_rfl) (by kernel_rfl) (by kernel_rfl) (fun _ _ _ h => h) (Or.inl ⟨by kernel_rfl, ?_⟩) (by assumption) ?_
            rotate_left
            · (intro w hSw; (try dsimp only at hSw); go_simp; try (with_reducible rfl))
            try simp only [sA, sB, sC, Act.put, sD, sE, sF]
            refine wpAnyH_take (i := 3) (v := ?_) rfl (by kernel_rfl) (by kernel_rfl) (by kernel_rfl) (fun _ _ _ h => h) (Or.inl ⟨by kernel_rfl, ?_⟩) (by assumption) ?_
            rotate_left
            · (intro w hSw; (try dsimp only at hSw); go_simp; try (with_reducible rfl))
            try simp only [sA, sB, sC, Act.put, sD, sE, sF]
            refine wpAnyH_take (i := 4) (v := ?_) rfl (by kernel_rfl) (by kernel_rfl) (by kernel_rfl) (fun _ _ _ h => h) (Or.inl ⟨by kernel_rfl, ?_⟩) (by assumption) ?_
            rotate_left
            · (intro w hSw; (try dsimp only at hSw); go_simp; try (with_reducible rfl))
            try simp only [sA, sB, sC, Act.put, sD, sE, sF]
            refine wpAnyH_take (i := 5) (v := ?_) rfl (by kernel_rfl) (by kernel_rfl) (by kernel_rfl) (fun _ _ _ h => h) (Or.inl ⟨by kernel_rfl, ?_⟩) (by assumption) ?_
            rotate_left
            · (intro w hSw; (try dsimp only at hSw); go_simp; try (with_reducible rfl))
            try simp only [sA, sB, sC, Act.put, sD, sE, sF]
            refine wpAnyH_take (i := 6) (v := ?_) rfl (by kernel_rfl) (by kernel_rfl) (by kernel_rfl) (fun _ _ _ h => h) (Or.inl ⟨by kernel_rfl, ?_⟩) (by assumption) ?_
            rotate_left
            · (intro w hSw; (try dsimp only at hSw); go_simp; try (with_reducible rfl))
            try simp only [sA, sB, sC, Act.put, sD, sE, sF]
            refine wpAnyH_take (i := 7) (v := ?_) rfl (by kernel_rfl) (by kernel_rfl) (by kernel_rfl) (fun _ _ _ h => h) (Or.inl ⟨by kernel_rfl, ?_⟩) (by assumption) ?_
            rotate_left
            · (intro w hSw; (try dsimp only at hSw); go_simp; try (with_reducible rfl))
            try simp only [sA, sB, sC, Act.put, sD, sE, sF]
            refine wpAnyH_take (i := 8) (v := ?_) rfl (by kernel_rfl) (by kernel_rfl) (by kernel_rfl) (fun _ _ _ h => h) (Or.inl ⟨by kernel_rfl, ?_⟩) (by assumption) ?_
            rotate_left
            · (intro w hSw; (try dsimp only at hSw); go_simp; try (with_reducible rfl))
            try simp only [sA, sB, sC, Act.put, sD, sE, sF]
            refine wpAnyH_take (i := 9) (v := ?_) rfl (by kernel_rfl) (by kernel_rfl) (by kernel_rfl) (fun _ _ _ h => h) (Or.inl ⟨by kernel_rfl, ?_⟩) (by assumption) ?_
            rotate_left
            · (intro w hSw; (try dsimp only at hSw); go_simp; try (with_reducible rfl))
            try simp only [sA, sB, sC, Act.put, sD, sE, sF]
            refine wpAnyH_take (i := 10) (v := ?_) rfl (by kernel_rfl) (by kernel_rfl) (by kernel_rfl) (fun _ _ _ h => h) (Or.inl ⟨by kernel_rfl, ?_⟩) (by assumption) ?_
            rotate_left
            · (intro w hSw; (try dsimp only at hSw); go_simp; try (with_reducible rfl))
            try simp only [sA, sB, sC, Act.put, sD, sE, sF]
            refine wpAnyH_take (i := 11) (v := ?_) rfl (by kernel_rfl) (by kernel_rfl) (by kernel_rfl) (fun _ _ _ h => h) (Or.inl ⟨by kernel_rfl, ?_⟩) (by assumption) ?_
            rotate_left
            · (intro w hSw; (try dsimp only at hSw); go_simp; try (with_reducible rfl))
            try simp only [sA, sB, sC, Act.put, sD, sE, sF]
            refine wpAnyH_take (i := 12) (v := ?_) rfl (by kernel_rfl) (by kernel_rfl) (by kernel_rfl) (fun _ _ _ h => h) (Or.inl ⟨by kernel_rfl, ?_⟩) (by assumption) ?_
            rotate_left
            · (intro w hSw; (try dsimp only at hSw); go_simp; try (with_reducible rfl))
            try simp only [sA, sB, sC, Act.put, sD, sE, sF]
            refine wpAnyH_take (i := 13) (v := ?_) rfl (by kernel_rfl) (by kernel_rfl) (by kernel_rfl) (fun _ _ _ h => h) (Or.inl ⟨by kernel_rfl, ?_⟩) (by assumption) ?_
            rotate_left
            · (intro w hSw; (try dsimp only at hSw); go_simp; try (with_reducible rfl))
            try simp only [sA, sB, sC, Act.put, sD, sE, sF]
            refine wpAnyH_ready (rs := [14]) (by kernel_rfl) (by simp) ?_
            refine (AllReadyH.cons rfl (fun K hK => ?_) AllReadyH.nil)
            go_simp
            refine (implOrder_any y x _ sy.out sx.out (HK.out.hp H HG.out)).mono ?_
            rintro e u1 ⟨rfl, f9⟩
            replace H := H.go f9
            clear f9
            rw [← HO.out]
            go_wp2_with fail
            refine hK.out _ _ ?_ (fun hHeld => ?_)
            · exact ⟨H.atM (f1 := Value.string) 0 rfl HYY.out, H.atM (f1 := Value.string) 0 rfl HX.out⟩
            clear hK K
            try simp only [sA, sB, sC, Act.put, sD, sE, sF]
            refine wpAnyH_take (i := 15) (v := ?_) rfl (by kernel_rfl) (by kernel_rfl) (by kernel_rfl) (fun _ _ _ h => h) (Or.inl ⟨by kernel_rfl, ?_⟩) (by assumption) ?_
            rotate_left
            · (intro w hSw; (try dsimp only at hSw); go_simp; try (with_reducible rfl))
            try simp only [sA, sB, sC, Act.put, sD, sE, sF]
            refine wpAnyH_take (i := 16) (v := ?_) rfl (by kernel_rfl) (by kernel_rfl) (by kernel_rfl) (fun _ _ _ h => h) (Or.inl ⟨by kernel_rfl, ?_⟩) (by assumption) ?_
            rotate_left
            · (intro w hSw; (try dsimp only at hSw); go_simp; try (with_reducible rfl))
            try simp only [sA, sB, sC, Act.put, sD, sE, sF]
            refine wpAnyH_done (by kernel_rfl) ?_ _
            clear cy cx
            have cy := H.atM (f1 := Value.string) 0 rfl HYY.out
            have cx := H.atM (f1 := Value.string) 0 rfl HX.out
            have fy := H.free 0 rfl j
            have fx := H.free 0 rfl q
            go_wp2_with fail
            go_region
            go_wp2_with fail
            have H9 := Lib.hid ((H.putM 0 rfl j x).putM 0 rfl q y).drew
            go_roundw
            case rel =>
              have e := HQ.out
              have h7 : At zs (j - 1) x := e ▸ HX.out
              have h8 := HE.out.swap h7 HYY.out hj0 hj (by unfold nle; rw [← HO.out]; omega)
              unfold swpN at h8
              rw [← e] at h8
              exact ⟨q, swL zs j q y x, rfl, by omega, by omega, HP.out.then (Mv.of_via (swL_via HYY.out HX.out (by omega)) (fun p hp => by have := swI_c j q p; omega) (fun p h1 h2 => by have := swI_c j q p; omega)), h8, H9.out⟩
            case measure => simp [intOf]; omega
          · have hd : decide (o < 0) = false := by simpa using hxy
            have HUP := Lib.hid (HE.out.stop (.inr ⟨x, y, HQ.out ▸ HX.out, HYY.out, by unfold nle; have := ordT_neg (toB x) (toB y); rw [← HO.out] at this; omega, hj0⟩))
            go_wp2_with fail
            refine wp_region_held_drew (S := fun w' => w'.cell? ⟨g, j, none⟩ = some (.string y) ∧ w'.cell? ⟨g, q, none⟩ = some (.string x)) (by kernel_rfl) ?_ (fun hHeld => ?_)
            · exact ⟨cy, cx⟩
            obtain ⟨u0, hu0⟩ : ∃ uu : World, uu = wr.drew := ⟨_, rfl⟩
            rw [← hu0] at H hHeld ⊢
            clear hu0
            refine wpAnyH_take (i := 0) (v := ?_) rfl (by kernel_rfl) (by kernel_rfl) (by kernel_rfl) (fun _ _ _ h => h) (Or.inl ⟨by kernel_rfl, ?_⟩) (by assumption) ?_
            rotate_left
            · (intro w hSw; (try dsimp only at hSw); go_simp; try (with_reducible rfl))
            try simp only [sA, sB, sC, Act.put, sD, sE, sF]
            refine wpAnyH_take (i := 1) (v := ?_) rfl (by kernel_rfl) (by kernel_rfl) (by kernel_rfl) (fun _ _ _ h => h) (Or.inl ⟨by kernel_rfl, ?_⟩) (by assumption) ?_
            rotate_left
            · (intro w hSw; (try dsimp only at hSw); go_simp; try (with_reducible rfl))
            try simp only [sA, sB, sC, Act.put, sD, sE, sF]
            refine wpAnyH_take (i := 2) (v := ?_) rfl (by kernel_rfl) (by kernel_rfl) (by kernel_rfl) (fun _ _ _ h => h) (Or.inl ⟨by kernel_rfl, ?_⟩) (by assumption) ?_
            rotate_left
            · (intro w hSw; (try dsimp only at hSw); go_simp; try (with_reducible rfl))
            try simp only [sA, sB, sC, Act.put, sD, sE, sF]
            refine wpAnyH_take (i := 3) (v := ?_) rfl (by kernel_rfl) (by kernel_rfl) (by kernel_rfl) (fun _ _ _ h => h) (Or.inl ⟨by kernel_rfl, ?_⟩) (by assumption) ?_
            rotate_left
            · (intro w hSw; (try dsimp only at hSw); go_simp; try (with_reducible rfl))
            try simp only [sA, sB, sC, Act.put, sD, sE, sF]
            refine wpAnyH_take (i := 4) (v := ?_) rfl (by kernel_rfl) (by kernel_rfl) (by kernel_rfl) (fun _ _ _ h => h) (Or.inl ⟨by kernel_rfl, ?_⟩) (by assumption) ?_
            rotate_left
            · (intro w hSw; (try dsimp only at hSw); go_simp; try (with_reducible rfl))
            try simp only [sA, sB, sC, Act.put, sD, sE, sF]
            refine wpAnyH_take (i := 5) (v := ?_) rfl (by kernel_rfl) (by kernel_rfl) (by kernel_rfl) (fun _ _ _ h => h) (Or.inl ⟨by kernel_rfl, ?_⟩) (by assumption) ?_
            rotate_left
            · (intro w hSw; (try dsimp only at hSw); go_simp; try (with_reducible rfl))
            try simp only [sA, sB, sC, Act.put, sD, sE, sF]
            refine wpAnyH_take (i := 6) (v := ?_) rfl (by kernel_rfl) (by kernel_rfl) (by kernel_rfl) (fun _ _ _ h => h) (Or.inl ⟨by kernel_rfl, ?_⟩) (by assumption) ?_
            rotate_left
            · (intro w hSw; (try dsimp only at hSw); go_simp; try (with_reducible rfl))
            try simp only [sA, sB, sC, Act.put, sD, sE, sF]
            refine wpAnyH_take (i := 7) (v := ?_) rfl (by kernel_rfl) (by kernel_rfl) (by kernel_rfl) (fun _ _ _ h => h) (Or.inl ⟨by kernel_rfl, ?_⟩) (by assumption) ?_
            rotate_left
            · (intro w hSw; (try dsimp only at hSw); go_simp; try (with_reducible rfl))
            try simp only [sA, sB, sC, Act.put, sD, sE, sF]
            refine wpAnyH_take (i := 8) (v := ?_) rfl (by kernel_rfl) (by kernel_rfl) (by kernel_rfl) (fun _ _ _ h => h) (Or.inl ⟨by kernel_rfl, ?_⟩) (by assumption) ?_
            rotate_left
            · (intro w hSw; (try dsimp only at hSw); go_simp; try (with_reducible rfl))
            try simp only [sA, sB, sC, Act.put, sD, sE, sF]
            refine wpAnyH_take (i := 9) (v := ?_) rfl (by kernel_rfl) (by kernel_rfl) (by kernel_rfl) (fun _ _ _ h => h) (Or.inl ⟨by kernel_rfl, ?_⟩) (by assumption) ?_
            rotate_left
            · (intro w hSw; (try dsimp only at hSw); go_simp; try (with_reducible rfl))
            try simp only [sA, sB, sC, Act.put, sD, sE, sF]
            refine wpAnyH_take (i := 10) (v := ?_) rfl (by kernel_rfl) (by kernel_rfl) (by kernel_rfl) (fun _ _ _ h => h) (Or.inl ⟨by kernel_rfl, ?_⟩) (by assumption) ?_
            rotate_left
            · (intro w hSw; (try dsimp only at hSw); go_simp; try (with_reducible rfl))
            try simp only [sA, sB, sC, Act.put, sD, sE, sF]
            refine wpAnyH_take (i := 11) (v := ?_) rfl (by kernel_rfl) (by kernel_rfl) (by kernel_rfl) (fun _ _ _ h => h) (Or.inl ⟨by kernel_rfl, ?_⟩) (by assumption) ?_
            rotate_left
            · (intro w hSw; (try dsimp only at hSw); go_simp; try (with_reducible rfl))
            try simp only [sA, sB, sC, Act.put, sD, sE, sF]
            refine wpAnyH_take (i := 12) (v := ?_) rfl (by kernel_rfl) (by kernel_rfl) (by kernel_rfl) (fun _ _ _ h => h) (Or.inl ⟨by kernel_rfl, ?_⟩) (by assumption) ?_
            rotate_left
            · (intro w hSw; (try dsimp only at hSw); go_simp; try (with_reducible rfl))
            try simp only [sA, sB, sC, Act.put, sD, sE, sF]
            refine wpAnyH_take (i := 13) (v := ?_) rfl (by kernel_rfl) (by kernel_rfl) (by kernel_rfl) (fun _ _ _ h => h) (Or.inl ⟨by kernel_rfl, ?_⟩) (by assumption) ?_
            rotate_left
            · (intro w hSw; (try dsimp only at hSw); go_simp; try (with_reducible rfl))
            try simp only [sA, sB, sC, Act.put, sD, sE, sF]
            refine wpAnyH_ready (rs := [14]) (by kernel_rfl) (by simp) ?_
            refine (AllReadyH.cons rfl (fun K hK => ?_) AllReadyH.nil)
            go_simp
            refine (implOrder_any y x _ sy.out sx.out (HK.out.hp H HG.out)).mono ?_
            rintro e u1 ⟨rfl, f9⟩
            replace H := H.go f9
            clear f9
            rw [← HO.out]
            go_wp2_with fail
            refine hK.out _ _ ?_ (fun hHeld => ?_)
            · exact ⟨H.atM (f1 := Value.string) 0 rfl HYY.out, H.atM (f1 := Value.string) 0 rfl HX.out⟩
            clear hK K
            try simp only [sA, sB, sC, Act.put, sD, sE, sF]
            refine wpAnyH_take (i := 15) (v := ?_) rfl (by kernel_rfl) (by kernel_rfl) (by kernel_rfl) (fun _ _ _ h => h) (Or.inl ⟨by kernel_rfl, ?_⟩) (by assumption) ?_
            rotate_left
            · (intro w hSw; (try dsimp only at hSw); go_simp; try (with_reducible rfl))
            try simp only [sA, sB, sC, Act.put, sD, sE, sF]
            refine wpAnyH_take (i := 16) (v := ?_) rfl (by kernel_rfl) (by kernel_rfl) (by kernel_rfl) (fun _ _ _ h => h) (Or.inl ⟨by kernel_rfl, ?_⟩) (by assumption) ?_
            rotate_left
            · (intro w hSw; (try dsimp only at hSw); go_simp; try (with_reducible rfl))
            try simp only [sA, sB, sC, Act.put, sD, sE, sF]
            refine wpAnyH_done (by kernel_rfl) ?_ _
            go_wp2_with fail
            go_roundw
            case rel => exact ⟨k + 1, zs, by go_num, by omega, by omega, HP.out, HUP.out, H⟩
            case measure => simp [intOf]; omega
    · have HU := Lib.hid (show UpS a b ys from by
        by_cases hb : b ≤ a + 1
        · exact .one _ _ hb
        · exact hu.sub (Nat.le_refl _) (by omega))
      have HP := Lib.hid hp
      have hlt1 : ¬ ((k : Int) < (b : Int)) := by omega
      clear hu hp
      go_wp2_with fail
      go_end0
      first | exact ⟨ys, rfl, HP.out, HU.out, H⟩ | exact ⟨rfl, ys, HP.out, HU.out, H⟩
end Go.Proofs.YtfmifaneggenoaaDoor
