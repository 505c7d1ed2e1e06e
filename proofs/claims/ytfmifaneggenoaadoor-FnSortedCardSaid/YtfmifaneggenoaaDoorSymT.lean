/-
  slices.symMergeCmpFunc at names of the call's own, by impl.Order, in general.
-/
import Derived.Test.YtfmifaneggenoaaDoorSymS
namespace Go.Proofs.YtfmifaneggenoaaDoor
open Go.RowKit

set_option linter.unusedVariables false
set_option linter.unusedSimpArgs false
/-- What symMerge does with parts of at most N names. -/
def SymN (N : Nat) : Prop := ∀ (g n c a m b base : Nat) (xs : List ByteArray) (w : World), w.ownsRow base 9 1 (.slice (some ⟨g, 0, none⟩) n c) n (xs.map Value.string) → n ≤ 1048576 → b - a ≤ N → a < m → m < b → b ≤ n →
    UpS a m xs → UpS m b xs → (∀ x ∈ xs, x.size ≤ 16777216) → KT w → g ≠ 0 →
    Calls Tryd.prog 102 #[.slice (some ⟨g, 0, none⟩) n c, .int .i64 a, .int .i64 m, .int .i64 b, .func (.func 11) #[] #[]] w fun e w' => ∃ ys : List ByteArray, e = .returned (.tuple #[]) ∧ Mv a b xs ys ∧ UpS a b ys ∧ Hp [g] w w' [.row 9 1 (.slice (some ⟨g, 0, none⟩) n c) n (ys.map Value.string)]
set_option maxRecDepth 100000 in
set_option maxHeartbeats 16000000 in
theorem sym_any : ∀ N, SymN N := by
  intro N
  induction N with
  | zero => intro g n c a m b base xs w h hn hN ham hmb; omega
  | succ N ih =>
    intro g n c a m b base xs w h hn hN ham hmb hbn h1 h2 hz hk hg
    by_cases hm1 : m = a + 1
    · subst hm1
      exact symOne_any g n c a b base xs w h hn hmb hbn h2 hz hk hg
    by_cases hm2 : b = m + 1
    · subst hm2
      exact symLast_any g n c a m base xs w h hn (by omega) hbn h1 hz hk hg
    have H : Hp [g] w w [.row 9 1 (.slice (some ⟨g, 0, none⟩) n c) n (xs.map Value.string)] := Hp.start_row h
    have HL := Lib.hid (show xs.length = n by have := h.1; simpa using this)
    have HK := Lib.hid hk
    have HZ := Lib.hid hz
    have HG := Lib.hid hg
    have HU1 := Lib.hid h1
    have HU2 := Lib.hid h2
    replace ih := Lib.hid ih
    clear h h1 h2 hz hk
    have hw0 : IntKind.i64.wrap ((m : Int) - (a : Int)) = (m : Int) - (a : Int) := IntWalk.i64_in _ (by omega)
    have hw00 : ¬ ((m : Int) - (a : Int) = 1) := by omega
    have hw1 : IntKind.i64.wrap ((b : Int) - (m : Int)) = (b : Int) - (m : Int) := IntWalk.i64_in _ (by omega)
    have hw10 : ¬ ((b : Int) - (m : Int) = 1) := by omega
    have hw01 : ((m : Int) - (a : Int) == 1) = false := by simpa using hw00
    have hw11 : ((b : Int) - (m : Int) == 1) = false := by simpa using hw10
    obtain ⟨mid, hmid⟩ : ∃ x : Nat, ((a : Int) + (b : Int)) / 2 = (x : Int) := ⟨(a + b) / 2, by omega⟩
    have hwab : IntKind.i64.wrap ((a : Int) + (b : Int)) = (a : Int) + (b : Int) := IntWalk.i64_in _ (by omega)
    obtain ⟨nn, hnn1, hnn2⟩ : ∃ x : Nat, x ≤ mid + m ∧ mid + m ≤ x := ⟨mid + m, by omega, by omega⟩
    have hwn' : (mid : Int) + (m : Int) = (nn : Int) := by omega
    have hwn : IntKind.i64.wrap ((mid : Int) + (m : Int)) = (nn : Int) := by rw [hwn']; exact IntWalk.i64_in _ (by omega)
    obtain ⟨pp, hpp1, hpp2⟩ : ∃ x : Nat, x + 1 ≤ nn ∧ nn ≤ x + 1 := ⟨nn - 1, by omega, by omega⟩
    have hwp' : (nn : Int) - 1 = (pp : Int) := by omega
    have hwp : IntKind.i64.wrap ((nn : Int) - 1) = (pp : Int) := by rw [hwp']; exact IntWalk.i64_in _ (by omega)
    go_enter Tryd.func102, Tryd.ntmps102
    by_cases hmm : mid < m
    · have hmm1 : (mid : Int) < (m : Int) := by omega
      obtain ⟨s0, hs01, hs02⟩ : ∃ x : Nat, x + b ≤ nn ∧ nn ≤ x + b := ⟨nn - b, by omega, by omega⟩
      have hws' : (nn : Int) - (b : Int) = (s0 : Int) := by omega
      have hws : IntKind.i64.wrap ((nn : Int) - (b : Int)) = (s0 : Int) := by rw [hws']; exact IntWalk.i64_in _ (by omega)
      have hsr : s0 ≤ mid := by omega
      -- the search for the place where both parts are turned, and all behind it
      go_wp2_with fail
      go_loopw [20, 21] (fun sv rv wr => ∃ s r : Nat, sv = .int .i64 s ∧ rv = .int .i64 r ∧ s0 ≤ s ∧ s ≤ r ∧ r ≤ mid ∧ (s = s0 ∨ SL nn s xs) ∧ (r = mid ∨ SR nn r xs) ∧ Hp [g] w wr [.row 9 1 (.slice (some ⟨g, 0, none⟩) n c) n (xs.map Value.string)]) (fun sv rv _ => (intOf rv - intOf sv).toNat)
      case atStart => exact ⟨s0, mid, rfl, rfl, by omega, hsr, by omega, .inl rfl, .inl rfl, H⟩
      case round =>
        clear H
        obtain ⟨s, r, rfl, rfl, hs1, hs2, hs3, hsl, hsr2, H⟩ := hrel
        have HSL := Lib.hid hsl
        have HSR := Lib.hid hsr2
        clear hsl hsr2
        by_cases hlt : s < r
        · have hlt1 : (s : Int) < (r : Int) := by omega
          have hw2 : IntKind.i64.wrap ((s : Int) + (r : Int)) = (s : Int) + (r : Int) := IntWalk.i64_in _ (by omega)
          obtain ⟨h, hh⟩ : ∃ h : Nat, ((s : Int) + (r : Int)) / 2 = (h : Int) := ⟨(s + r) / 2, by omega⟩
          have hh0 : (0 : Int) ≤ (h : Int) := by omega
          have hil : s ≤ h := by omega
          have hjh : h < r := by omega
          have hhn : (h : Int) < (n : Int) := by omega
          have hwh : IntKind.i64.wrap ((h : Int) + 1) = (h : Int) + 1 := IntWalk.i64_in _ (by omega)
          obtain ⟨q, hq1, hq2⟩ : ∃ q : Nat, q + h ≤ pp ∧ pp ≤ q + h := ⟨pp - h, by omega, by omega⟩
          have hwq' : (pp : Int) - (h : Int) = (q : Int) := by omega
          have hwq : IntKind.i64.wrap ((pp : Int) - (h : Int)) = (q : Int) := by rw [hwq']; exact IntWalk.i64_in _ (by omega)
          have hwq0 : IntKind.i64.wrap (q : Int) = (q : Int) := IntWalk.i64_in _ (by omega)
          have hwh0 : IntKind.i64.wrap (h : Int) = (h : Int) := IntWalk.i64_in _ (by omega)
          have hq0 : (0 : Int) ≤ (q : Int) := by omega
          have hqn2 : q < n := by omega
          have hqn : (q : Int) < (n : Int) := by omega
          obtain ⟨y, hy⟩ := at_some HL.out hqn2
          obtain ⟨x, hx⟩ := at_some HL.out (show h < n by omega)
          have sy := Lib.hid (HZ.out y hy.mem)
          have sx := Lib.hid (HZ.out x hx.mem)
          have HX := Lib.hid hx
          have HYY := Lib.hid hy
          clear hx hy
          obtain ⟨o, ho⟩ : ∃ o, o = ordT (toB y) (toB x) := ⟨_, rfl⟩
          have HO := Lib.hid ho
          clear ho
          replace H := H.drew
          by_cases hxy : o < 0
          · have hd : decide (o < 0) = true := by simpa using hxy
            go_wp2_with fail
            have cy := H.atM (f1 := Value.string) 0 rfl HYY.out
            have cx := H.atM (f1 := Value.string) 0 rfl HX.out
            refine wp_region_held_drew (S := fun w' => w'.cell? ⟨g, q, none⟩ = some (.string y) ∧ w'.cell? ⟨g, h, none⟩ = some (.string x)) (by kernel_rfl) ?_ (fun hHeld => ?_)
            · exact ⟨cy, cx⟩
            obtain ⟨u0, hu0⟩ : ∃ uu : World, uu = wr.drew := ⟨_, rfl⟩
            rw [← hu0] at H hHeld ⊢
            clear hu0
            refine wpAnyH_take (i := 0) (v := ?_) rfl (by kernel_rfl) (by kernel_rfl) (by kernel_rfl) (fun _ _ _ h => h) (Or.inl ⟨by kernel_rfl, ?_⟩) (by assumption) ?_
            rotate_left
            · (intro w hSw; (try dsimp only at hSw); go_simp; try (with_reducible rfl))
            try simp only [sA, sB, sC, Act.put, sD, sE, sF]
            refine wpAnyH_take (i := 1) (v := ?_) rfl (by kernel_rfl) (by kernel_rfl) (by kernel_rfl) (fun _ _ _ h => h) (Or.inl ⟨by kernel_rfl, ?_⟩) (by assumption) ?_
            rotate_left
            · (intro w hSw; (try dsimp only at hSw); go_simp; try (with_reducible rfl))
            try simp only [sA, sB, sC, Act.put, sD, sE, sF]
            refine wpAnyH_take (i := 2) (v := ?_) rfl (by kernel_rfl) (by kernel_rfl) (by kernel_rfl) (fun _ _ _ h => h) (Or.inl ⟨by kernel_rfl, ?_⟩) (by assumption) ?_
            rotate_left
            · (intro w hSw; (try dsimp only at hSw); go_simp; try (with_reducible rfl))
            try simp only [sA, sB, sC, Act.put, sD, sE, sF]
            refine wpAnyH_take (i := 3) (v := ?_) rfl (by kernel_rfl) (by kernel_rfl) (by kernel_rfl) (fun _ _ _ h => h) (Or.inl ⟨by kernel_rfl, ?_⟩) (by assumption) ?_
            rotate_left
            · (intro w hSw; (try dsimp only at hSw); go_simp; try (with_reducible rfl))
            try simp only [sA, sB, sC, Act.put, sD, sE, sF]
            refine wpAnyH_take (i := 4) (v := ?_) rfl (by kernel_rfl) (by kernel_rfl) (by kernel_rfl) (fun _ _ _ h => h) (Or.inl ⟨by kernel_rfl, ?_⟩) (by assumption) ?_
            rotate_left
            · (intro w hSw; (try dsimp only at hSw); go_simp; try (with_reducible rfl))
            try simp only [sA, sB, sC, Act.put, sD, sE, sF]
            refine wpAnyH_take (i := 5) (v := ?_) rfl (by kernel_rfl) (by kernel_rfl) (by kernel_rfl) (fun _ _ _ h => h) (Or.inl ⟨by kernel_rfl, ?_⟩) (by assumption) ?_
            rotate_left
            · (intro w hSw; (try dsimp only at hSw); go_simp; try (with_reducible rfl))
            try simp only [sA, sB, sC, Act.put, sD, sE, sF]
            refine wpAnyH_take (i := 6) (v := ?_) rfl (by kernel_rfl) (by kernel_rfl) (by kernel_rfl) (fun _ _ _ h => h) (Or.inl ⟨by kernel_rfl, ?_⟩) (by assumption) ?_
            rotate_left
            · (intro w hSw; (try dsimp only at hSw); go_simp; try (with_reducible rfl))
            try simp only [sA, sB, sC, Act.put, sD, sE, sF]
            refine wpAnyH_take (i := 7) (v := ?_) rfl (by kernel_rfl) (by kernel_rfl) (by kernel_rfl) (fun _ _ _ h => h) (Or.inl ⟨by kernel_rfl, ?_⟩) (by assumption) ?_
            rotate_left
            · (intro w hSw; (try dsimp only at hSw); go_simp; try (with_reducible rfl))
            try simp only [sA, sB, sC, Act.put, sD, sE, sF]
            refine wpAnyH_take (i := 8) (v := ?_) rfl (by kernel_rfl) (by kernel_rfl) (by kernel_rfl) (fun _ _ _ h => h) (Or.inl ⟨by kernel_rfl, ?_⟩) (by assumption) ?_
            rotate_left
            · (intro w hSw; (try dsimp only at hSw); go_simp; try (with_reducible rfl))
            try simp only [sA, sB, sC, Act.put, sD, sE, sF]
            refine wpAnyH_take (i := 9) (v := ?_) rfl (by kernel_rfl) (by kernel_rfl) (by kernel_rfl) (fun _ _ _ h => h) (Or.inl ⟨by kernel_rfl, ?_⟩) (by assumption) ?_
            rotate_left
            · (intro w hSw; (try dsimp only at hSw); go_simp; try (with_reducible rfl))
            try simp only [sA, sB, sC, Act.put, sD, sE, sF]
            refine wpAnyH_take (i := 10) (v := ?_) rfl (by kernel_rfl) (by kernel_rfl) (by kernel_rfl) (fun _ _ _ h => h) (Or.inl ⟨by kernel_rfl, ?_⟩) (by assumption) ?_
            rotate_left
            · (intro w hSw; (try dsimp only at hSw); go_simp; try (with_reducible rfl))
            try simp only [sA, sB, sC, Act.put, sD, sE, sF]
            refine wpAnyH_ready (rs := [11]) (by kernel_rfl) (by simp) ?_
            refine (AllReadyH.cons rfl (fun K hK => ?_) AllReadyH.nil)
            go_simp
            refine (implOrder_any y x _ sy.out sx.out (HK.out.hp H HG.out)).mono ?_
            rintro e u1 ⟨rfl, f9⟩
            replace H := H.go f9
            clear f9
            rw [← HO.out]
            go_wp2_with fail
            refine hK.out _ _ ?_ (fun hHeld => ?_)
            · exact ⟨H.atM (f1 := Value.string) 0 rfl HYY.out, H.atM (f1 := Value.string) 0 rfl HX.out⟩
            clear hK K
            try simp only [sA, sB, sC, Act.put, sD, sE, sF]
            refine wpAnyH_take (i := 12) (v := ?_) rfl (by kernel_rfl) (by kernel_rfl) (by kernel_rfl) (fun _ _ _ h => h) (Or.inl ⟨by kernel_rfl, ?_⟩) (by assumption) ?_
            rotate_left
            · (intro w hSw; (try dsimp only at hSw); go_simp; try (with_reducible rfl))
            try simp only [sA, sB, sC, Act.put, sD, sE, sF]
            refine wpAnyH_take (i := 13) (v := ?_) rfl (by kernel_rfl) (by kernel_rfl) (by kernel_rfl) (fun _ _ _ h => h) (Or.inl ⟨by kernel_rfl, ?_⟩) (by assumption) ?_
            rotate_left
            · (intro w hSw; (try dsimp only at hSw); go_simp; try (with_reducible rfl))
            try simp only [sA, sB, sC, Act.put, sD, sE, sF]
            refine wpAnyH_done (by kernel_rfl) ?_ _
            clear cy cx
            go_wp2_with fail
            go_roundw
            case rel =>
              have k1 := ord_lt HO.out (by omega)
              exact ⟨s, h, rfl, rfl, by omega, by omega, by omega, HSL.out, .inr fun u v hu hv => by
                rw [show nn - h - 1 = q by omega] at hu
                have e1 := HYY.out.symm.trans hu
                have e2 := HX.out.symm.trans hv
                injection e1 with e1
                injection e2 with e2
                rw [← e1, ← e2]; exact k1, H⟩
            case measure => simp [intOf]; omega
          · have hd : decide (o < 0) = false := by simpa using hxy
            go_wp2_with fail
            have cy := H.atM (f1 := Value.string) 0 rfl HYY.out
            have cx := H.atM (f1 := Value.string) 0 rfl HX.out
            refine wp_region_held_drew (S := fun w' => w'.cell? ⟨g, q, none⟩ = some (.string y) ∧ w'.cell? ⟨g, h, none⟩ = some (.string x)) (by kernel_rfl) ?_ (fun hHeld => ?_)
            · exact ⟨cy, cx⟩
            obtain ⟨u0, hu0⟩ : ∃ uu : World, uu = wr.drew := ⟨_, rfl⟩
            rw [← hu0] at H hHeld ⊢
            clear hu0
            refine wpAnyH_take (i := 0) (v := ?_) rfl (by kernel_rfl) (by kernel_rfl) (by kernel_rfl) (fun _ _ _ h => h) (Or.inl ⟨by kernel_rfl, ?_⟩) (by assumption) ?_
            rotate_left
            · (intro w hSw; (try dsimp only at hSw); go_simp; try (with_reducible rfl))
            try simp only [sA, sB, sC, Act.put, sD, sE, sF]
            refine wpAnyH_take (i := 1) (v := ?_) rfl (by kernel_rfl) (by kernel_rfl) (by kernel_rfl) (fun _ _ _ h => h) (Or.inl ⟨by kernel_rfl, ?_⟩) (by assumption) ?_
            rotate_left
            · (intro w hSw; (try dsimp only at hSw); go_simp; try (with_reducible rfl))
            try simp only [sA, sB, sC, Act.put, sD, sE, sF]
            refine wpAnyH_take (i := 2) (v := ?_) rfl (by kernel_rfl) (by kernel_rfl) (by kernel_rfl) (fun _ _ _ h => h) (Or.inl ⟨by kernel_rfl, ?_⟩) (by assumption) ?_
            rotate_left
            · (intro w hSw; (try dsimp only at hSw); go_simp; try (with_reducible rfl))
            try simp only [sA, sB, sC, Act.put, sD, sE, sF]
            refine wpAnyH_take (i := 3) (v := ?_) rfl (by kernel_rfl) (by kernel_rfl) (by kernel_rfl) (fun _ _ _ h => h) (Or.inl ⟨by kernel_rfl, ?_⟩) (by assumption) ?_
            rotate_left
            · (intro w hSw; (try dsimp only at hSw); go_simp; try (with_reducible rfl))
            try simp only [sA, sB, sC, Act.put, sD, sE, sF]
            refine wpAnyH_take (i := 4) (v := ?_) rfl (by kernel_rfl) (by kernel_rfl) (by kernel_rfl) (fun _ _ _ h => h) (Or.inl ⟨by kernel_rfl, ?_⟩) (by assumption) ?_
            rotate_left
            · (intro w hSw; (try dsimp only at hSw); go_simp; try (with_reducible rfl))
            try simp only [sA, sB, sC, Act.put, sD, sE, sF]
            refine wpAnyH_take (i := 5) (v := ?_) rfl (by kernel_rfl) (by kernel_rfl) (by kernel_rfl) (fun _ _ _ h => h) (Or.inl ⟨by kernel_rfl, ?_⟩) (by assumption) ?_
            rotate_left
            · (intro w hSw; (try dsimp only at hSw); go_simp; try (with_reducible rfl))
            try simp only [sA, sB, sC, Act.put, sD, sE, sF]
            refine wpAnyH_take (i := 6) (v := ?_) rfl (by kernel_rfl) (by kernel_rfl) (by kernel_rfl) (fun _ _ _ h => h) (Or.inl ⟨by kernel_rfl, ?_⟩) (by assumption) ?_
            rotate_left
            · (intro w hSw; (try dsimp only at hSw); go_simp; try (with_reducible rfl))
            try simp only [sA, sB, sC, Act.put, sD, sE, sF]
            refine wpAnyH_take (i := 7) (v := ?_) rfl (by kernel_rfl) (by kernel_rfl) (by kernel_rfl) (fun _ _ _ h => h) (Or.inl ⟨by kernel_rfl, ?_⟩) (by assumption) ?_
            rotate_left
            · (intro w hSw; (try dsimp only at hSw); go_simp; try (with_reducible rfl))
            try simp only [sA, sB, sC, Act.put, sD, sE, sF]
            refine wpAnyH_take (i := 8) (v := ?_) rfl (by kernel_rfl) (by kernel_rfl) (by kernel_rfl) (fun _ _ _ h => h) (Or.inl ⟨by kernel_rfl, ?_⟩) (by assumption) ?_
            rotate_left
            · (intro w hSw; (try dsimp only at hSw); go_simp; try (with_reducible rfl))
            try simp only [sA, sB, sC, Act.put, sD, sE, sF]
            refine wpAnyH_take (i := 9) (v := ?_) rfl (by kernel_rfl) (by kernel_rfl) (by kernel_rfl) (fun _ _ _ h => h) (Or.inl ⟨by kernel_rfl, ?_⟩) (by assumption) ?_
            rotate_left
            · (intro w hSw; (try dsimp only at hSw); go_simp; try (with_reducible rfl))
            try simp only [sA, sB, sC, Act.put, sD, sE, sF]
            refine wpAnyH_take (i := 10) (v := ?_) rfl (by kernel_rfl) (by kernel_rfl) (by kernel_rfl) (fun _ _ _ h => h) (Or.inl ⟨by kernel_rfl, ?_⟩) (by assumption) ?_
            rotate_left
            · (intro w hSw; (try dsimp only at hSw); go_simp; try (with_reducible rfl))
            try simp only [sA, sB, sC, Act.put, sD, sE, sF]
            refine wpAnyH_ready (rs := [11]) (by kernel_rfl) (by simp) ?_
            refine (AllReadyH.cons rfl (fun K hK => ?_) AllReadyH.nil)
            go_simp
            refine (implOrder_any y x _ sy.out sx.out (HK.out.hp H HG.out)).mono ?_
            rintro e u1 ⟨rfl, f9⟩
            replace H := H.go f9
            clear f9
            rw [← HO.out]
            go_wp2_with fail
            refine hK.out _ _ ?_ (fun hHeld => ?_)
            · exact ⟨H.atM (f1 := Value.string) 0 rfl HYY.out, H.atM (f1 := Value.string) 0 rfl HX.out⟩
            clear hK K
            try simp only [sA, sB, sC, Act.put, sD, sE, sF]
            refine wpAnyH_take (i := 12) (v := ?_) rfl (by kernel_rfl) (by kernel_rfl) (by kernel_rfl) (fun _ _ _ h => h) (Or.inl ⟨by kernel_rfl, ?_⟩) (by assumption) ?_
            rotate_left
            · (intro w hSw; (try dsimp only at hSw); go_simp; try (with_reducible rfl))
            try simp only [sA, sB, sC, Act.put, sD, sE, sF]
            refine wpAnyH_take (i := 13) (v := ?_) rfl (by kernel_rfl) (by kernel_rfl) (by kernel_rfl) (fun _ _ _ h => h) (Or.inl ⟨by kernel_rfl, ?_⟩) (by assumption) ?_
            rotate_left
            · (intro w hSw; (try dsimp only at hSw); go_simp; try (with_reducible rfl))
            try simp only [sA, sB, sC, Act.put, sD, sE, sF]
            refine wpAnyH_done (by kernel_rfl) ?_ _
            clear cy cx
            go_wp2_with fail
            go_roundw
            case rel =>
              have k1 := ord_ge HO.out (by omega)
              exact ⟨h + 1, r, by go_num, rfl, by omega, by omega, hs3, .inr fun u v hu hv => by
                rw [show h + 1 - 1 = h by omega] at hu
                rw [show nn - (h + 1) = q by omega] at hv
                have e1 := HYY.out.symm.trans hv
                have e2 := HX.out.symm.trans hu
                injection e1 with e1
                injection e2 with e2
                rw [← e1, ← e2]; exact k1, HSR.out, H⟩
            case measure => simp [intOf]; omega
        · have hlt1 : ¬ ((s : Int) < (r : Int)) := by omega
          obtain ⟨en, hen1, hen2⟩ : ∃ x : Nat, x + s ≤ nn ∧ nn ≤ x + s := ⟨nn - s, by omega, by omega⟩
          have hwe' : (nn : Int) - (s : Int) = (en : Int) := by omega
          have hwe : IntKind.i64.wrap ((nn : Int) - (s : Int)) = (en : Int) := by rw [hwe']; exact IntWalk.i64_in _ (by omega)
          have hrs : r = s := by omega
          have hb1 : a ≤ s := by omega
          have hb2 : s ≤ m := by omega
          have hb3 : m ≤ en := by omega
          have hb4 : en ≤ b := by omega
          have hb5 : s + en = mid + m := by omega
          have HSP := Lib.hid (show ∀ l', Via (rotI s m en) xs l' → UpS a s l' ∧ UpS s mid l' ∧ UpS mid en l' ∧ UpS en b l' ∧ Cr a mid b l' ∧ Mv a b xs l' from fun l' hv =>
            sym_split HU1.out HU2.out hb1 hb2 hb3 hb4 hb5 (fun k1 k2 => by
              rcases HSL.out with k | k
              · omega
              · rw [show en = nn - s by omega]; exact k) (fun k1 k2 => by
              rcases HSR.out with k | k
              · omega
              · rw [hrs] at k; rw [show en = nn - s by omega]; exact k) (by rw [HL.out]; exact hbn) hv)
          clear HSL HSR hrs
          by_cases hcm : m < en
          ·
            -- the middle is turned
            have hr1 : s < m := by omega
            have hr2 : m < en := by omega
            have hr3 : (s : Int) < (m : Int) := by omega
            have hr4 : (m : Int) < (en : Int) := by omega
            have hr5 : decide (s < m) = true := by simpa using hr1
            have hr6 : decide (m < en) = true := by simpa using hr2
            go_wp2_with fail
            refine (rotate_any g n c s m en 0 _ xs _ (H.row 0 rfl) hn hr1 hr2 (by omega)).mono ?_
            rintro e w1 ⟨zs, rfl, hv, K⟩
            replace H := H.turnRow 0 rfl K.gr (K.row 0 rfl) (.inl rfl)
            have HP := Lib.hid (HSP.out zs hv)
            clear K hv HSP hr3 hr4 hr5 hr6
            by_cases hcl : a < s
            ·
              have hl1 : a < s := by omega
              have hl2 : s < mid := by omega
              have hl3 : (a : Int) < (s : Int) := by omega
              have hl4 : (s : Int) < (mid : Int) := by omega
              have hl5 : decide (a < s) = true := by simpa using hl1
              have hl6 : decide (s < mid) = true := by simpa using hl2
              go_wp2_with fail
              refine (ih.out g n c a s mid 0 zs _ (H.row 0 rfl) hn (by omega) hl1 hl2 (by omega) HP.out.1 HP.out.2.1 (fun x hx => HZ.out x (HP.out.2.2.2.2.2.perm.mem_iff.1 hx)) (HK.out.hp H HG.out) hg).mono ?_
              rintro e w2 ⟨us, rfl, hv, hu, K⟩
              replace H := H.turnRow 0 rfl K.gr (K.row 0 rfl) (.inl rfl)
              have HP2 := Lib.hid (show UpS a mid us ∧ UpS mid en us ∧ UpS en b us ∧ Cr a mid b us ∧ Mv a b xs us from
                ⟨hu, HP.out.2.2.1.keep hv (.inr (by omega)), HP.out.2.2.2.1.keep hv (.inr (by omega)), HP.out.2.2.2.2.1.left hv, HP.out.2.2.2.2.2.then (hv.wide (Nat.le_refl _) (by omega))⟩)
              clear K hv hu HP hl3 hl4 hl5 hl6
              by_cases hcr : en < b
              ·
                have hr1 : mid < en := by omega
                have hr2 : en < b := by omega
                have hr3 : (mid : Int) < (en : Int) := by omega
                have hr4 : (en : Int) < (b : Int) := by omega
                have hr5 : decide (mid < en) = true := by simpa using hr1
                have hr6 : decide (en < b) = true := by simpa using hr2
                go_wp2_with fail
                refine (ih.out g n c mid en b 0 us _ (H.row 0 rfl) hn (by omega) hr1 hr2 hbn HP2.out.2.1 HP2.out.2.2.1 (fun x hx => HZ.out x (HP2.out.2.2.2.2.perm.mem_iff.1 hx)) (HK.out.hp H HG.out) hg).mono ?_
                rintro e w3 ⟨vs, rfl, hv, hu, K⟩
                replace H := H.turnRow 0 rfl K.gr (K.row 0 rfl) (.inl rfl)
                have HP3 := Lib.hid (show Mv a b xs vs ∧ UpS a b vs from
                  ⟨HP2.out.2.2.2.2.then (hv.wide (by omega) (Nat.le_refl _)), (HP2.out.2.2.2.1.right hv).up (HP2.out.1.keep hv (.inl (by omega))) hu⟩)
                clear K hv hu HP2 hr1 hr2 hr3 hr4 hr5 hr6
                go_wp2_with fail
                go_end0
                first | exact ⟨vs, rfl, HP3.out.1, HP3.out.2, H⟩ | exact ⟨rfl, vs, HP3.out.1, HP3.out.2, H⟩
              ·
                have r1 : mid < en := by omega
                have r2 : ¬ en < b := by omega
                have r3 : ¬ (en : Int) < (b : Int) := by omega
                have r4 : (mid : Int) < (en : Int) := by omega
                have r5 : decide (en < b) = false := by simpa using r2
                have r6 : decide (mid < en) = true := by simpa using r1
                have HP3 := Lib.hid (show Mv a b xs us ∧ UpS a b us from
                  ⟨HP2.out.2.2.2.2, HP2.out.2.2.2.1.up HP2.out.1 (by
                    obtain ⟨_, q1, q2, _⟩ := HP2.out
                    rcases Nat.lt_or_ge mid en with k | k
                    · exact q1.sub (Nat.le_refl _) (by omega)
                    · exact q2.sub k (Nat.le_refl _))⟩)
                clear HP2
                go_wp2_with fail
                go_end0
                first | exact ⟨us, rfl, HP3.out.1, HP3.out.2, H⟩ | exact ⟨rfl, us, HP3.out.1, HP3.out.2, H⟩
            ·
              have l1 : ¬ a < s := by omega
              have l4 : ¬ (a : Int) < (s : Int) := by omega
              have l6 : decide (a < s) = false := by simpa using l1
              have HP2 := Lib.hid (show UpS a mid zs ∧ UpS mid en zs ∧ UpS en b zs ∧ Cr a mid b zs ∧ Mv a b xs zs from
                ⟨by
                  obtain ⟨q1, q2, _⟩ := HP.out
                  rcases Nat.lt_or_ge s mid with k | k
                  · have e : s = a := by omega
                    rw [← e]; exact q2
                  · exact q1.sub (Nat.le_refl _) k, HP.out.2.2.1, HP.out.2.2.2.1, HP.out.2.2.2.2.1, HP.out.2.2.2.2.2⟩)
              obtain ⟨us, hus⟩ : ∃ us, us = zs := ⟨_, rfl⟩
              rw [← hus] at H HP2
              clear HP hus
              by_cases hcr : en < b
              ·
                have hr1 : mid < en := by omega
                have hr2 : en < b := by omega
                have hr3 : (mid : Int) < (en : Int) := by omega
                have hr4 : (en : Int) < (b : Int) := by omega
                have hr5 : decide (mid < en) = true := by simpa using hr1
                have hr6 : decide (en < b) = true := by simpa using hr2
                go_wp2_with fail
                refine (ih.out g n c mid en b 0 us _ (H.row 0 rfl) hn (by omega) hr1 hr2 hbn HP2.out.2.1 HP2.out.2.2.1 (fun x hx => HZ.out x (HP2.out.2.2.2.2.perm.mem_iff.1 hx)) (HK.out.hp H HG.out) hg).mono ?_
                rintro e w3 ⟨vs, rfl, hv, hu, K⟩
                replace H := H.turnRow 0 rfl K.gr (K.row 0 rfl) (.inl rfl)
                have HP3 := Lib.hid (show Mv a b xs vs ∧ UpS a b vs from
                  ⟨HP2.out.2.2.2.2.then (hv.wide (by omega) (Nat.le_refl _)), (HP2.out.2.2.2.1.right hv).up (HP2.out.1.keep hv (.inl (by omega))) hu⟩)
                clear K hv hu HP2 hr1 hr2 hr3 hr4 hr5 hr6
                go_wp2_with fail
                go_end0
                first | exact ⟨vs, rfl, HP3.out.1, HP3.out.2, H⟩ | exact ⟨rfl, vs, HP3.out.1, HP3.out.2, H⟩
              ·
                have r1 : mid < en := by omega
                have r2 : ¬ en < b := by omega
                have r3 : ¬ (en : Int) < (b : Int) := by omega
                have r4 : (mid : Int) < (en : Int) := by omega
                have r5 : decide (en < b) = false := by simpa using r2
                have r6 : decide (mid < en) = true := by simpa using r1
                have HP3 := Lib.hid (show Mv a b xs us ∧ UpS a b us from
                  ⟨HP2.out.2.2.2.2, HP2.out.2.2.2.1.up HP2.out.1 (by
                    obtain ⟨_, q1, q2, _⟩ := HP2.out
                    rcases Nat.lt_or_ge mid en with k | k
                    · exact q1.sub (Nat.le_refl _) (by omega)
                    · exact q2.sub k (Nat.le_refl _))⟩)
                clear HP2
                go_wp2_with fail
                go_end0
                first | exact ⟨us, rfl, HP3.out.1, HP3.out.2, H⟩ | exact ⟨rfl, us, HP3.out.1, HP3.out.2, H⟩
          ·
            have k1 : s < m := by omega
            have k2 : ¬ m < en := by omega
            have k3 : ¬ (m : Int) < (en : Int) := by omega
            have k4 : (s : Int) < (m : Int) := by omega
            have k5 : decide (m < en) = false := by simpa using k2
            have k6 : decide (s < m) = true := by simpa using k1
            have HP := Lib.hid (HSP.out xs (.of_id _ fun p => by have := rotI_c s m en p; omega))
            obtain ⟨zs, hzs⟩ : ∃ zs, zs = xs := ⟨_, rfl⟩
            rw [← hzs] at H
            have HP := Lib.hid (show UpS a s zs ∧ UpS s mid zs ∧ UpS mid en zs ∧ UpS en b zs ∧ Cr a mid b zs ∧ Mv a b xs zs by rw [hzs]; exact HP.out)
            clear hzs HSP
            have l1 : a < s := by omega
            have l2 : ¬ s < mid := by omega
            have l3 : ¬ (s : Int) < (mid : Int) := by omega
            have l4 : (a : Int) < (s : Int) := by omega
            have l5 : decide (s < mid) = false := by simpa using l2
            have l6 : decide (a < s) = true := by simpa using l1
            have HP2 := Lib.hid (show UpS a mid zs ∧ UpS mid en zs ∧ UpS en b zs ∧ Cr a mid b zs ∧ Mv a b xs zs from
              ⟨by
                obtain ⟨q1, q2, _⟩ := HP.out
                rcases Nat.lt_or_ge s mid with k | k
                · have e : s = a := by omega
                  rw [← e]; exact q2
                · exact q1.sub (Nat.le_refl _) k, HP.out.2.2.1, HP.out.2.2.2.1, HP.out.2.2.2.2.1, HP.out.2.2.2.2.2⟩)
            obtain ⟨us, hus⟩ : ∃ us, us = zs := ⟨_, rfl⟩
            rw [← hus] at H HP2
            clear HP hus
            by_cases hcr : en < b
            ·
              have hr1 : mid < en := by omega
              have hr2 : en < b := by omega
              have hr3 : (mid : Int) < (en : Int) := by omega
              have hr4 : (en : Int) < (b : Int) := by omega
              have hr5 : decide (mid < en) = true := by simpa using hr1
              have hr6 : decide (en < b) = true := by simpa using hr2
              go_wp2_with fail
              refine (ih.out g n c mid en b 0 us _ (H.row 0 rfl) hn (by omega) hr1 hr2 hbn HP2.out.2.1 HP2.out.2.2.1 (fun x hx => HZ.out x (HP2.out.2.2.2.2.perm.mem_iff.1 hx)) (HK.out.hp H HG.out) hg).mono ?_
              rintro e w3 ⟨vs, rfl, hv, hu, K⟩
              replace H := H.turnRow 0 rfl K.gr (K.row 0 rfl) (.inl rfl)
              have HP3 := Lib.hid (show Mv a b xs vs ∧ UpS a b vs from
                ⟨HP2.out.2.2.2.2.then (hv.wide (by omega) (Nat.le_refl _)), (HP2.out.2.2.2.1.right hv).up (HP2.out.1.keep hv (.inl (by omega))) hu⟩)
              clear K hv hu HP2 hr1 hr2 hr3 hr4 hr5 hr6
              go_wp2_with fail
              go_end0
              first | exact ⟨vs, rfl, HP3.out.1, HP3.out.2, H⟩ | exact ⟨rfl, vs, HP3.out.1, HP3.out.2, H⟩
            ·
              have r1 : mid < en := by omega
              have r2 : ¬ en < b := by omega
              have r3 : ¬ (en : Int) < (b : Int) := by omega
              have r4 : (mid : Int) < (en : Int) := by omega
              have r5 : decide (en < b) = false := by simpa using r2
              have r6 : decide (mid < en) = true := by simpa using r1
              have HP3 := Lib.hid (show Mv a b xs us ∧ UpS a b us from
                ⟨HP2.out.2.2.2.2, HP2.out.2.2.2.1.up HP2.out.1 (by
                  obtain ⟨_, q1, q2, _⟩ := HP2.out
                  rcases Nat.lt_or_ge mid en with k | k
                  · exact q1.sub (Nat.le_refl _) (by omega)
                  · exact q2.sub k (Nat.le_refl _))⟩)
              clear HP2
              go_wp2_with fail
              go_end0
              first | exact ⟨us, rfl, HP3.out.1, HP3.out.2, H⟩ | exact ⟨rfl, us, HP3.out.1, HP3.out.2, H⟩
    · have hmm1 : ¬ ((mid : Int) < (m : Int)) := by omega
      have hsr : a ≤ m := by omega
      -- the search for the place where both parts are turned, and all behind it
      go_wp2_with fail
      go_loopw [20, 21] (fun sv rv wr => ∃ s r : Nat, sv = .int .i64 s ∧ rv = .int .i64 r ∧ a ≤ s ∧ s ≤ r ∧ r ≤ m ∧ (s = a ∨ SL nn s xs) ∧ (r = m ∨ SR nn r xs) ∧ Hp [g] w wr [.row 9 1 (.slice (some ⟨g, 0, none⟩) n c) n (xs.map Value.string)]) (fun sv rv _ => (intOf rv - intOf sv).toNat)
      case atStart => exact ⟨a, m, rfl, rfl, by omega, hsr, by omega, .inl rfl, .inl rfl, H⟩
      case round =>
        clear H
        obtain ⟨s, r, rfl, rfl, hs1, hs2, hs3, hsl, hsr2, H⟩ := hrel
        have HSL := Lib.hid hsl
        have HSR := Lib.hid hsr2
        clear hsl hsr2
        by_cases hlt : s < r
        · have hlt1 : (s : Int) < (r : Int) := by omega
          have hw2 : IntKind.i64.wrap ((s : Int) + (r : Int)) = (s : Int) + (r : Int) := IntWalk.i64_in _ (by omega)
          obtain ⟨h, hh⟩ : ∃ h : Nat, ((s : Int) + (r : Int)) / 2 = (h : Int) := ⟨(s + r) / 2, by omega⟩
          have hh0 : (0 : Int) ≤ (h : Int) := by omega
          have hil : s ≤ h := by omega
          have hjh : h < r := by omega
          have hhn : (h : Int) < (n : Int) := by omega
          have hwh : IntKind.i64.wrap ((h : Int) + 1) = (h : Int) + 1 := IntWalk.i64_in _ (by omega)
          obtain ⟨q, hq1, hq2⟩ : ∃ q : Nat, q + h ≤ pp ∧ pp ≤ q + h := ⟨pp - h, by omega, by omega⟩
          have hwq' : (pp : Int) - (h : Int) = (q : Int) := by omega
          have hwq : IntKind.i64.wrap ((pp : Int) - (h : Int)) = (q : Int) := by rw [hwq']; exact IntWalk.i64_in _ (by omega)
          have hwq0 : IntKind.i64.wrap (q : Int) = (q : Int) := IntWalk.i64_in _ (by omega)
          have hwh0 : IntKind.i64.wrap (h : Int) = (h : Int) := IntWalk.i64_in _ (by omega)
          have hq0 : (0 : Int) ≤ (q : Int) := by omega
          have hqn2 : q < n := by omega
          have hqn : (q : Int) < (n : Int) := by omega
          obtain ⟨y, hy⟩ := at_some HL.out hqn2
          obtain ⟨x, hx⟩ := at_some HL.out (show h < n by omega)
          have sy := Lib.hid (HZ.out y hy.mem)
          have sx := Lib.hid (HZ.out x hx.mem)
          have HX := Lib.hid hx
          have HYY := Lib.hid hy
          clear hx hy
          obtain ⟨o, ho⟩ : ∃ o, o = ordT (toB y) (toB x) := ⟨_, rfl⟩
          have HO := Lib.hid ho
          clear ho
          replace H := H.drew
          by_cases hxy : o < 0
          · have hd : decide (o < 0) = true := by simpa using hxy
            go_wp2_with fail
            have cy := H.atM (f1 := Value.string) 0 rfl HYY.out
            have cx := H.atM (f1 := Value.string) 0 rfl HX.out
            refine wp_region_held_drew (S := fun w' => w'.cell? ⟨g, q, none⟩ = some (.string y) ∧ w'.cell? ⟨g, h, none⟩ = some (.string x)) (by kernel_rfl) ?_ (fun hHeld => ?_)
            · exact ⟨cy, cx⟩
            obtain ⟨u0, hu0⟩ : ∃ uu : World, uu = wr.drew := ⟨_, rfl⟩
            rw [← hu0] at H hHeld ⊢
            clear hu0
            refine wpAnyH_take (i := 0) (v := ?_) rfl (by kernel_rfl) (by kernel_rfl) (by kernel_rfl) (fun _ _ _ h => h) (Or.inl ⟨by kernel_rfl, ?_⟩) (by assumption) ?_
            rotate_left
            · (intro w hSw; (try dsimp only at hSw); go_simp; try (with_reducible rfl))
            try simp only [sA, sB, sC, Act.put, sD, sE, sF]
            refine wpAnyH_take (i := 1) (v := ?_) rfl (by kernel_rfl) (by kernel_rfl) (by kernel_rfl) (fun _ _ _ h => h) (Or.inl ⟨by kernel_rfl, ?_⟩) (by assumption) ?_
            rotate_left
            · (intro w hSw; (try dsimp only at hSw); go_simp; try (with_reducible rfl))
            try simp only [sA, sB, sC, Act.put, sD, sE, sF]
            refine wpAnyH_take (i := 2) (v := ?_) rfl (by kernel_rfl) (by kernel_rfl) (by kernel_rfl) (fun _ _ _ h => h) (Or.inl ⟨by kernel_rfl, ?_⟩) (by assumption) ?_
            rotate_left
            · (intro w hSw; (try dsimp only at hSw); go_simp; try (with_reducible rfl))
            try simp only [sA, sB, sC, Act.put, sD, sE, sF]
            refine wpAnyH_take (i := 3) (v := ?_) rfl (by kernel_rfl) (by kernel_rfl) (by kernel_rfl) (fun _ _ _ h => h) (Or.inl ⟨by kernel_rfl, ?_⟩) (by assumption) ?_
            rotate_left
            · (intro w hSw; (try dsimp only at hSw); go_simp; try (with_reducible rfl))
            try simp only [sA, sB, sC, Act.put, sD, sE, sF]
            refine wpAnyH_take (i := 4) (v := ?_) rfl (by kernel_rfl) (by kernel_rfl) (by kernel_rfl) (fun _ _ _ h => h) (Or.inl ⟨by kernel_rfl, ?_⟩) (by assumption) ?_
            rotate_left
            · (intro w hSw; (try dsimp only at hSw); go_simp; try (with_reducible rfl))
            try simp only [sA, sB, sC, Act.put, sD, sE, sF]
            refine wpAnyH_take (i := 5) (v := ?_) rfl (by kernel_rfl) (by kernel_rfl) (by kernel_rfl) (fun _ _ _ h => h) (Or.inl ⟨by kernel_rfl, ?_⟩) (by assumption) ?_
            rotate_left
            · (intro w hSw; (try dsimp only at hSw); go_simp; try (with_reducible rfl))
            try simp only [sA, sB, sC, Act.put, sD, sE, sF]
            refine wpAnyH_take (i := 6) (v := ?_) rfl (by kernel_rfl) (by kernel_rfl) (by kernel_rfl) (fun _ _ _ h => h) (Or.inl ⟨by kernel_rfl, ?_⟩) (by assumption) ?_
            rotate_left
            · (intro w hSw; (try dsimp only at hSw); go_simp; try (with_reducible rfl))
            try simp only [sA, sB, sC, Act.put, sD, sE, sF]
            refine wpAnyH_take (i := 7) (v := ?_) rfl (by kernel_rfl) (by kernel_rfl) (by kernel_rfl) (fun _ _ _ h => h) (Or.inl ⟨by kernel_rfl, ?_⟩) (by assumption) ?_
            rotate_left
            · (intro w hSw; (try dsimp only at hSw); go_simp; try (with_reducible rfl))
            try simp only [sA, sB, sC, Act.put, sD, sE, sF]
            refine wpAnyH_take (i := 8) (v := ?_) rfl (by kernel_rfl) (by kernel_rfl) (by kernel_rfl) (fun _ _ _ h => h) (Or.inl ⟨by kernel_rfl, ?_⟩) (by assumption) ?_
            rotate_left
            · (intro w hSw; (try dsimp only at hSw); go_simp; try (with_reducible rfl))
            try simp only [sA, sB, sC, Act.put, sD, sE, sF]
            refine wpAnyH_take (i := 9) (v := ?_) rfl (by kernel_rfl) (by kernel_rfl) (by kernel_rfl) (fun _ _ _ h => h) (Or.inl ⟨by kernel_rfl, ?_⟩) (by assumption) ?_
            rotate_left
            · (intro w hSw; (try dsimp only at hSw); go_simp; try (with_reducible rfl))
            try simp only [sA, sB, sC, Act.put, sD, sE, sF]
            refine wpAnyH_take (i := 10) (v := ?_) rfl (by kernel_rfl) (by kernel_rfl) (by kernel_rfl) (fun _ _ _ h => h) (Or.inl ⟨by kernel_rfl, ?_⟩) (by assumption) ?_
            rotate_left
            · (intro w hSw; (try dsimp only at hSw); go_simp; try (with_reducible rfl))
            try simp only [sA, sB, sC, Act.put, sD, sE, sF]
            refine wpAnyH_ready (rs := [11]) (by kernel_rfl) (by simp) ?_
            refine (AllReadyH.cons rfl (fun K hK => ?_) AllReadyH.nil)
            go_simp
            refine (implOrder_any y x _ sy.out sx.out (HK.out.hp H HG.out)).mono ?_
            rintro e u1 ⟨rfl, f9⟩
            replace H := H.go f9
            clear f9
            rw [← HO.out]
            go_wp2_with fail
            refine hK.out _ _ ?_ (fun hHeld => ?_)
            · exact ⟨H.atM (f1 := Value.string) 0 rfl HYY.out, H.atM (f1 := Value.string) 0 rfl HX.out⟩
            clear hK K
            try simp only [sA, sB, sC, Act.put, sD, sE, sF]
            refine wpAnyH_take (i := 12) (v := ?_) rfl (by kernel_rfl) (by kernel_rfl) (by kernel_rfl) (fun _ _ _ h => h) (Or.inl ⟨by kernel_rfl, ?_⟩) (by assumption) ?_
            rotate_left
            · (intro w hSw; (try dsimp only at hSw); go_simp; try (with_reducible rfl))
            try simp only [sA, sB, sC, Act.put, sD, sE, sF]
            refine wpAnyH_take (i := 13) (v := ?_) rfl (by kernel_rfl) (by kernel_rfl) (by kernel_rfl) (fun _ _ _ h => h) (Or.inl ⟨by kernel_rfl, ?_⟩) (by assumption) ?_
            rotate_left
            · (intro w hSw; (try dsimp only at hSw); go_simp; try (with_reducible rfl))
            try simp only [sA, sB, sC, Act.put, sD, sE, sF]
            refine wpAnyH_done (by kernel_rfl) ?_ _
            clear cy cx
            go_wp2_with fail
            go_roundw
            case rel =>
              have k1 := ord_lt HO.out (by omega)
              exact ⟨s, h, rfl, rfl, by omega, by omega, by omega, HSL.out, .inr fun u v hu hv => by
                rw [show nn - h - 1 = q by omega] at hu
                have e1 := HYY.out.symm.trans hu
                have e2 := HX.out.symm.trans hv
                injection e1 with e1
                injection e2 with e2
                rw [← e1, ← e2]; exact k1, H⟩
            case measure => simp [intOf]; omega
          · have hd : decide (o < 0) = false := by simpa using hxy
            go_wp2_with fail
            have cy := H.atM (f1 := Value.string) 0 rfl HYY.out
            have cx := H.atM (f1 := Value.string) 0 rfl HX.out
            refine wp_region_held_drew (S := fun w' => w'.cell? ⟨g, q, none⟩ = some (.string y) ∧ w'.cell? ⟨g, h, none⟩ = some (.string x)) (by kernel_rfl) ?_ (fun hHeld => ?_)
            · exact ⟨cy, cx⟩
            obtain ⟨u0, hu0⟩ : ∃ uu : World, uu = wr.drew := ⟨_, rfl⟩
            rw [← hu0] at H hHeld ⊢
            clear hu0
            refine wpAnyH_take (i := 0) (v := ?_) rfl (by kernel_rfl) (by kernel_rfl) (by kernel_rfl) (fun _ _ _ h => h) (Or.inl ⟨by kernel_rfl, ?_⟩) (by assumption) ?_
            rotate_left
            · (intro w hSw; (try dsimp only at hSw); go_simp; try (with_reducible rfl))
            try simp only [sA, sB, sC, Act.put, sD, sE, sF]
            refine wpAnyH_take (i := 1) (v := ?_) rfl (by kernel_rfl) (by kernel_rfl) (by kernel_rfl) (fun _ _ _ h => h) (Or.inl ⟨by kernel_rfl, ?_⟩) (by assumption) ?_
            rotate_left
            · (intro w hSw; (try dsimp only at hSw); go_simp; try (with_reducible rfl))
            try simp only [sA, sB, sC, Act.put, sD, sE, sF]
            refine wpAnyH_take (i := 2) (v := ?_) rfl (by kernel_rfl) (by kernel_rfl) (by kernel_rfl) (fun _ _ _ h => h) (Or.inl ⟨by kernel_rfl, ?_⟩) (by assumption) ?_
            rotate_left
            · (intro w hSw; (try dsimp only at hSw); go_simp; try (with_reducible rfl))
            try simp only [sA, sB, sC, Act.put, sD, sE, sF]
            refine wpAnyH_take (i := 3) (v := ?_) rfl (by kernel_rfl) (by kernel_rfl) (by kernel_rfl) (fun _ _ _ h => h) (Or.inl ⟨by kernel_rfl, ?_⟩) (by assumption) ?_
            rotate_left
            · (intro w hSw; (try dsimp only at hSw); go_simp; try (with_reducible rfl))
            try simp only [sA, sB, sC, Act.put, sD, sE, sF]
            refine wpAnyH_take (i := 4) (v := ?_) rfl (by kernel_rfl) (by kernel_rfl) (by kernel_rfl) (fun _ _ _ h => h) (Or.inl ⟨by kernel_rfl, ?_⟩) (by assumption) ?_
            rotate_left
            · (intro w hSw; (try dsimp only at hSw); go_simp; try (with_reducible rfl))
            try simp only [sA, sB, sC, Act.put, sD, sE, sF]
            refine wpAnyH_take (i := 5) (v := ?_) rfl (by kernel_rfl) (by kernel_rfl) (by kernel_rfl) (fun _ _ _ h => h) (Or.inl ⟨by kernel_rfl, ?_⟩) (by assumption) ?_
            rotate_left
            · (intro w hSw; (try dsimp only at hSw); go_simp; try (with_reducible rfl))
            try simp only [sA, sB, sC, Act.put, sD, sE, sF]
            refine wpAnyH_take (i := 6) (v := ?_) rfl (by kernel_rfl) (by kernel_rfl) (by kernel_rfl) (fun _ _ _ h => h) (Or.inl ⟨by kernel_rfl, ?_⟩) (by assumption) ?_
            rotate_left
            · (intro w hSw; (try dsimp only at hSw); go_simp; try (with_reducible rfl))
            try simp only [sA, sB, sC, Act.put, sD, sE, sF]
            refine wpAnyH_take (i := 7) (v := ?_) rfl (by kernel_rfl) (by kernel_rfl) (by kernel_rfl) (fun _ _ _ h => h) (Or.inl ⟨by kernel_rfl, ?_⟩) (by assumption) ?_
            rotate_left
            · (intro w hSw; (try dsimp only at hSw); go_simp; try (with_reducible rfl))
            try simp only [sA, sB, sC, Act.put, sD, sE, sF]
            refine wpAnyH_take (i := 8) (v := ?_) rfl (by kernel_rfl) (by kernel_rfl) (by kernel_rfl) (fun _ _ _ h => h) (Or.inl ⟨by kernel_rfl, ?_⟩) (by assumption) ?_
            rotate_left
            · (intro w hSw; (try dsimp only at hSw); go_simp; try (with_reducible rfl))
            try simp only [sA, sB, sC, Act.put, sD, sE, sF]
            refine wpAnyH_take (i := 9) (v := ?_) rfl (by kernel_rfl) (by kernel_rfl) (by kernel_rfl) (fun _ _ _ h => h) (Or.inl ⟨by kernel_rfl, ?_⟩) (by assumption) ?_
            rotate_left
            · (intro w hSw; (try dsimp only at hSw); go_simp; try (with_reducible rfl))
            try simp only [sA, sB, sC, Act.put, sD, sE, sF]
            refine wpAnyH_take (i := 10) (v := ?_) rfl (by kernel_rfl) (by kernel_rfl) (by kernel_rfl) (fun _ _ _ h => h) (Or.inl ⟨by kernel_rfl, ?_⟩) (by assumption) ?_
            rotate_left
            · (intro w hSw; (try dsimp only at hSw); go_simp; try (with_reducible rfl))
            try simp only [sA, sB, sC, Act.put, sD, sE, sF]
            refine wpAnyH_ready (rs := [11]) (by kernel_rfl) (by simp) ?_
            refine (AllReadyH.cons rfl (fun K hK => ?_) AllReadyH.nil)
            go_simp
            refine (implOrder_any y x _ sy.out sx.out (HK.out.hp H HG.out)).mono ?_
            rintro e u1 ⟨rfl, f9⟩
            replace H := H.go f9
            clear f9
            rw [← HO.out]
            go_wp2_with fail
            refine hK.out _ _ ?_ (fun hHeld => ?_)
            · exact ⟨H.atM (f1 := Value.string) 0 rfl HYY.out, H.atM (f1 := Value.string) 0 rfl HX.out⟩
            clear hK K
            try simp only [sA, sB, sC, Act.put, sD, sE, sF]
            refine wpAnyH_take (i := 12) (v := ?_) rfl (by kernel_rfl) (by kernel_rfl) (by kernel_rfl) (fun _ _ _ h => h) (Or.inl ⟨by kernel_rfl, ?_⟩) (by assumption) ?_
            rotate_left
            · (intro w hSw; (try dsimp only at hSw); go_simp; try (with_reducible rfl))
            try simp only [sA, sB, sC, Act.put, sD, sE, sF]
            refine wpAnyH_take (i := 13) (v := ?_) rfl (by kernel_rfl) (by kernel_rfl) (by kernel_rfl) (fun _ _ _ h => h) (Or.inl ⟨by kernel_rfl, ?_⟩) (by assumption) ?_
            rotate_left
            · (intro w hSw; (try dsimp only at hSw); go_simp; try (with_reducible rfl))
            try simp only [sA, sB, sC, Act.put, sD, sE, sF]
            refine wpAnyH_done (by kernel_rfl) ?_ _
            clear cy cx
            go_wp2_with fail
            go_roundw
            case rel =>
              have k1 := ord_ge HO.out (by omega)
              exact ⟨h + 1, r, by go_num, rfl, by omega, by omega, hs3, .inr fun u v hu hv => by
                rw [show h + 1 - 1 = h by omega] at hu
                rw [show nn - (h + 1) = q by omega] at hv
                have e1 := HYY.out.symm.trans hv
                have e2 := HX.out.symm.trans hu
                injection e1 with e1
                injection e2 with e2
                rw [← e1, ← e2]; exact k1, HSR.out, H⟩
            case measure => simp [intOf]; omega
        · have hlt1 : ¬ ((s : Int) < (r : Int)) := by omega
          obtain ⟨en, hen1, hen2⟩ : ∃ x : Nat, x + s ≤ nn ∧ nn ≤ x + s := ⟨nn - s, by omega, by omega⟩
          have hwe' : (nn : Int) - (s : Int) = (en : Int) := by omega
          have hwe : IntKind.i64.wrap ((nn : Int) - (s : Int)) = (en : Int) := by rw [hwe']; exact IntWalk.i64_in _ (by omega)
          have hrs : r = s := by omega
          have hb1 : a ≤ s := by omega
          have hb2 : s ≤ m := by omega
          have hb3 : m ≤ en := by omega
          have hb4 : en ≤ b := by omega
          have hb5 : s + en = mid + m := by omega
          have HSP := Lib.hid (show ∀ l', Via (rotI s m en) xs l' → UpS a s l' ∧ UpS s mid l' ∧ UpS mid en l' ∧ UpS en b l' ∧ Cr a mid b l' ∧ Mv a b xs l' from fun l' hv =>
            sym_split HU1.out HU2.out hb1 hb2 hb3 hb4 hb5 (fun k1 k2 => by
              rcases HSL.out with k | k
              · omega
              · rw [show en = nn - s by omega]; exact k) (fun k1 k2 => by
              rcases HSR.out with k | k
              · omega
              · rw [hrs] at k; rw [show en = nn - s by omega]; exact k) (by rw [HL.out]; exact hbn) hv)
          clear HSL HSR hrs
          by_cases hcm : s < m
          ·
            -- the middle is turned
            have hr1 : s < m := by omega
            have hr2 : m < en := by omega
            have hr3 : (s : Int) < (m : Int) := by omega
            have hr4 : (m : Int) < (en : Int) := by omega
            have hr5 : decide (s < m) = true := by simpa using hr1
            have hr6 : decide (m < en) = true := by simpa using hr2
            go_wp2_with fail
            refine (rotate_any g n c s m en 0 _ xs _ (H.row 0 rfl) hn hr1 hr2 (by omega)).mono ?_
            rintro e w1 ⟨zs, rfl, hv, K⟩
            replace H := H.turnRow 0 rfl K.gr (K.row 0 rfl) (.inl rfl)
            have HP := Lib.hid (HSP.out zs hv)
            clear K hv HSP hr3 hr4 hr5 hr6
            by_cases hcl : a < s
            ·
              have hl1 : a < s := by omega
              have hl2 : s < mid := by omega
              have hl3 : (a : Int) < (s : Int) := by omega
              have hl4 : (s : Int) < (mid : Int) := by omega
              have hl5 : decide (a < s) = true := by simpa using hl1
              have hl6 : decide (s < mid) = true := by simpa using hl2
              go_wp2_with fail
              refine (ih.out g n c a s mid 0 zs _ (H.row 0 rfl) hn (by omega) hl1 hl2 (by omega) HP.out.1 HP.out.2.1 (fun x hx => HZ.out x (HP.out.2.2.2.2.2.perm.mem_iff.1 hx)) (HK.out.hp H HG.out) hg).mono ?_
              rintro e w2 ⟨us, rfl, hv, hu, K⟩
              replace H := H.turnRow 0 rfl K.gr (K.row 0 rfl) (.inl rfl)
              have HP2 := Lib.hid (show UpS a mid us ∧ UpS mid en us ∧ UpS en b us ∧ Cr a mid b us ∧ Mv a b xs us from
                ⟨hu, HP.out.2.2.1.keep hv (.inr (by omega)), HP.out.2.2.2.1.keep hv (.inr (by omega)), HP.out.2.2.2.2.1.left hv, HP.out.2.2.2.2.2.then (hv.wide (Nat.le_refl _) (by omega))⟩)
              clear K hv hu HP hl3 hl4 hl5 hl6
              by_cases hcr : en < b
              ·
                have hr1 : mid < en := by omega
                have hr2 : en < b := by omega
                have hr3 : (mid : Int) < (en : Int) := by omega
                have hr4 : (en : Int) < (b : Int) := by omega
                have hr5 : decide (mid < en) = true := by simpa using hr1
                have hr6 : decide (en < b) = true := by simpa using hr2
                go_wp2_with fail
                refine (ih.out g n c mid en b 0 us _ (H.row 0 rfl) hn (by omega) hr1 hr2 hbn HP2.out.2.1 HP2.out.2.2.1 (fun x hx => HZ.out x (HP2.out.2.2.2.2.perm.mem_iff.1 hx)) (HK.out.hp H HG.out) hg).mono ?_
                rintro e w3 ⟨vs, rfl, hv, hu, K⟩
                replace H := H.turnRow 0 rfl K.gr (K.row 0 rfl) (.inl rfl)
                have HP3 := Lib.hid (show Mv a b xs vs ∧ UpS a b vs from
                  ⟨HP2.out.2.2.2.2.then (hv.wide (by omega) (Nat.le_refl _)), (HP2.out.2.2.2.1.right hv).up (HP2.out.1.keep hv (.inl (by omega))) hu⟩)
                clear K hv hu HP2 hr1 hr2 hr3 hr4 hr5 hr6
                go_wp2_with fail
                go_end0
                first | exact ⟨vs, rfl, HP3.out.1, HP3.out.2, H⟩ | exact ⟨rfl, vs, HP3.out.1, HP3.out.2, H⟩
              ·
                have r1 : mid < en := by omega
                have r2 : ¬ en < b := by omega
                have r3 : ¬ (en : Int) < (b : Int) := by omega
                have r4 : (mid : Int) < (en : Int) := by omega
                have r5 : decide (en < b) = false := by simpa using r2
                have r6 : decide (mid < en) = true := by simpa using r1
                have HP3 := Lib.hid (show Mv a b xs us ∧ UpS a b us from
                  ⟨HP2.out.2.2.2.2, HP2.out.2.2.2.1.up HP2.out.1 (by
                    obtain ⟨_, q1, q2, _⟩ := HP2.out
                    rcases Nat.lt_or_ge mid en with k | k
                    · exact q1.sub (Nat.le_refl _) (by omega)
                    · exact q2.sub k (Nat.le_refl _))⟩)
                clear HP2
                go_wp2_with fail
                go_end0
                first | exact ⟨us, rfl, HP3.out.1, HP3.out.2, H⟩ | exact ⟨rfl, us, HP3.out.1, HP3.out.2, H⟩
            ·
              have l1 : ¬ a < s := by omega
              have l4 : ¬ (a : Int) < (s : Int) := by omega
              have l6 : decide (a < s) = false := by simpa using l1
              have HP2 := Lib.hid (show UpS a mid zs ∧ UpS mid en zs ∧ UpS en b zs ∧ Cr a mid b zs ∧ Mv a b xs zs from
                ⟨by
                  obtain ⟨q1, q2, _⟩ := HP.out
                  rcases Nat.lt_or_ge s mid with k | k
                  · have e : s = a := by omega
                    rw [← e]; exact q2
                  · exact q1.sub (Nat.le_refl _) k, HP.out.2.2.1, HP.out.2.2.2.1, HP.out.2.2.2.2.1, HP.out.2.2.2.2.2⟩)
              obtain ⟨us, hus⟩ : ∃ us, us = zs := ⟨_, rfl⟩
              rw [← hus] at H HP2
              clear HP hus
              by_cases hcr : en < b
              ·
                have hr1 : mid < en := by omega
                have hr2 : en < b := by omega
                have hr3 : (mid : Int) < (en : Int) := by omega
                have hr4 : (en : Int) < (b : Int) := by omega
                have hr5 : decide (mid < en) = true := by simpa using hr1
                have hr6 : decide (en < b) = true := by simpa using hr2
                go_wp2_with fail
                refine (ih.out g n c mid en b 0 us _ (H.row 0 rfl) hn (by omega) hr1 hr2 hbn HP2.out.2.1 HP2.out.2.2.1 (fun x hx => HZ.out x (HP2.out.2.2.2.2.perm.mem_iff.1 hx)) (HK.out.hp H HG.out) hg).mono ?_
                rintro e w3 ⟨vs, rfl, hv, hu, K⟩
                replace H := H.turnRow 0 rfl K.gr (K.row 0 rfl) (.inl rfl)
                have HP3 := Lib.hid (show Mv a b xs vs ∧ UpS a b vs from
                  ⟨HP2.out.2.2.2.2.then (hv.wide (by omega) (Nat.le_refl _)), (HP2.out.2.2.2.1.right hv).up (HP2.out.1.keep hv (.inl (by omega))) hu⟩)
                clear K hv hu HP2 hr1 hr2 hr3 hr4 hr5 hr6
                go_wp2_with fail
                go_end0
                first | exact ⟨vs, rfl, HP3.out.1, HP3.out.2, H⟩ | exact ⟨rfl, vs, HP3.out.1, HP3.out.2, H⟩
              ·
                have r1 : mid < en := by omega
                have r2 : ¬ en < b := by omega
                have r3 : ¬ (en : Int) < (b : Int) := by omega
                have r4 : (mid : Int) < (en : Int) := by omega
                have r5 : decide (en < b) = false := by simpa using r2
                have r6 : decide (mid < en) = true := by simpa using r1
                have HP3 := Lib.hid (show Mv a b xs us ∧ UpS a b us from
                  ⟨HP2.out.2.2.2.2, HP2.out.2.2.2.1.up HP2.out.1 (by
                    obtain ⟨_, q1, q2, _⟩ := HP2.out
                    rcases Nat.lt_or_ge mid en with k | k
                    · exact q1.sub (Nat.le_refl _) (by omega)
                    · exact q2.sub k (Nat.le_refl _))⟩)
                clear HP2
                go_wp2_with fail
                go_end0
                first | exact ⟨us, rfl, HP3.out.1, HP3.out.2, H⟩ | exact ⟨rfl, us, HP3.out.1, HP3.out.2, H⟩
          ·
            have k1 : ¬ s < m := by omega
            have k4 : ¬ (s : Int) < (m : Int) := by omega
            have k6 : decide (s < m) = false := by simpa using k1
            have HP := Lib.hid (HSP.out xs (.of_id _ fun p => by have := rotI_c s m en p; omega))
            obtain ⟨zs, hzs⟩ : ∃ zs, zs = xs := ⟨_, rfl⟩
            rw [← hzs] at H
            have HP := Lib.hid (show UpS a s zs ∧ UpS s mid zs ∧ UpS mid en zs ∧ UpS en b zs ∧ Cr a mid b zs ∧ Mv a b xs zs by rw [hzs]; exact HP.out)
            clear hzs HSP
            by_cases hcl : s < mid
            ·
              have hl1 : a < s := by omega
              have hl2 : s < mid := by omega
              have hl3 : (a : Int) < (s : Int) := by omega
              have hl4 : (s : Int) < (mid : Int) := by omega
              have hl5 : decide (a < s) = true := by simpa using hl1
              have hl6 : decide (s < mid) = true := by simpa using hl2
              go_wp2_with fail
              refine (ih.out g n c a s mid 0 zs _ (H.row 0 rfl) hn (by omega) hl1 hl2 (by omega) HP.out.1 HP.out.2.1 (fun x hx => HZ.out x (HP.out.2.2.2.2.2.perm.mem_iff.1 hx)) (HK.out.hp H HG.out) hg).mono ?_
              rintro e w2 ⟨us, rfl, hv, hu, K⟩
              replace H := H.turnRow 0 rfl K.gr (K.row 0 rfl) (.inl rfl)
              have HP2 := Lib.hid (show UpS a mid us ∧ UpS mid en us ∧ UpS en b us ∧ Cr a mid b us ∧ Mv a b xs us from
                ⟨hu, HP.out.2.2.1.keep hv (.inr (by omega)), HP.out.2.2.2.1.keep hv (.inr (by omega)), HP.out.2.2.2.2.1.left hv, HP.out.2.2.2.2.2.then (hv.wide (Nat.le_refl _) (by omega))⟩)
              clear K hv hu HP hl3 hl4 hl5 hl6
              have r1 : ¬ mid < en := by omega
              have r4 : ¬ (mid : Int) < (en : Int) := by omega
              have r6 : decide (mid < en) = false := by simpa using r1
              have HP3 := Lib.hid (show Mv a b xs us ∧ UpS a b us from
                ⟨HP2.out.2.2.2.2, HP2.out.2.2.2.1.up HP2.out.1 (by
                  obtain ⟨_, q1, q2, _⟩ := HP2.out
                  rcases Nat.lt_or_ge mid en with k | k
                  · exact q1.sub (Nat.le_refl _) (by omega)
                  · exact q2.sub k (Nat.le_refl _))⟩)
              clear HP2
              go_wp2_with fail
              go_end0
              first | exact ⟨us, rfl, HP3.out.1, HP3.out.2, H⟩ | exact ⟨rfl, us, HP3.out.1, HP3.out.2, H⟩
            ·
              have l1 : a < s := by omega
              have l2 : ¬ s < mid := by omega
              have l3 : ¬ (s : Int) < (mid : Int) := by omega
              have l4 : (a : Int) < (s : Int) := by omega
              have l5 : decide (s < mid) = false := by simpa using l2
              have l6 : decide (a < s) = true := by simpa using l1
              have HP2 := Lib.hid (show UpS a mid zs ∧ UpS mid en zs ∧ UpS en b zs ∧ Cr a mid b zs ∧ Mv a b xs zs from
                ⟨by
                  obtain ⟨q1, q2, _⟩ := HP.out
                  rcases Nat.lt_or_ge s mid with k | k
                  · have e : s = a := by omega
                    rw [← e]; exact q2
                  · exact q1.sub (Nat.le_refl _) k, HP.out.2.2.1, HP.out.2.2.2.1, HP.out.2.2.2.2.1, HP.out.2.2.2.2.2⟩)
              obtain ⟨us, hus⟩ : ∃ us, us = zs := ⟨_, rfl⟩
              rw [← hus] at H HP2
              clear HP hus
              have r1 : ¬ mid < en := by omega
              have r4 : ¬ (mid : Int) < (en : Int) := by omega
              have r6 : decide (mid < en) = false := by simpa using r1
              have HP3 := Lib.hid (show Mv a b xs us ∧ UpS a b us from
                ⟨HP2.out.2.2.2.2, HP2.out.2.2.2.1.up HP2.out.1 (by
                  obtain ⟨_, q1, q2, _⟩ := HP2.out
                  rcases Nat.lt_or_ge mid en with k | k
                  · exact q1.sub (Nat.le_refl _) (by omega)
                  · exact q2.sub k (Nat.le_refl _))⟩)
              clear HP2
              go_wp2_with fail
              go_end0
              first | exact ⟨us, rfl, HP3.out.1, HP3.out.2, H⟩ | exact ⟨rfl, us, HP3.out.1, HP3.out.2, H⟩
end Go.Proofs.YtfmifaneggenoaaDoor
