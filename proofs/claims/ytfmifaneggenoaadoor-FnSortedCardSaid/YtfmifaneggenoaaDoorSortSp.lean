/-
  SortNames of the reference.
-/
import Derived.Test.YtfmifaneggenoaaDoorSymS
import Derived.Test.YtfmifaneggenoaaDoorMStab
import Derived.Test.YtfmifaneggenoaaDoorRowsI
namespace Go.Proofs.YtfmifaneggenoaaDoor
open Go.RowKit

set_option linter.unusedVariables false
set_option linter.unusedSimpArgs false
theorem one_strL (l : List ByteArray) : ∀ u ∈ l.map Value.string, u.oneCell' = true := by
  intro u hu
  obtain ⟨x, _, rfl⟩ := List.mem_map.1 hu
  rfl
theorem out_first {w : World} {g n k : Nat} {o : List ByteArray} (h : Rd w (some ⟨g, 0, none⟩) n 1 (o.map Value.string)) (hk : k ≤ n) : Rd w (some ⟨g, 0, none⟩) k 1 ((o.take k).map Value.string) := by
  have := Rd.cut h (Nat.zero_le k) hk
  simpa using this
theorem out_last {w : World} {g n k : Nat} {o : List ByteArray} (h : Rd w (some ⟨g, 0, none⟩) n 1 (o.map Value.string)) (hk : k ≤ n) : Rd w (some ⟨g, k, none⟩) (n - k) 1 ((o.drop k).map Value.string) := by
  have h1 := Rd.cut h hk (Nat.le_refl n)
  have h2 : o.take n = o := List.take_of_length_le (by have := h.len1; omega)
  rw [h2] at h1
  simpa using h1
theorem Rd.cell1 {α : Type} {w : World} {b o n i : Nat} {f : α → Value} {l : List α} {x : α} (h : Rd w (some ⟨b, o, none⟩) n 1 (l.map f)) (hx : l[i]? = some x) : w.cell? ⟨b, o + i, none⟩ = some (f x) := by
  obtain ⟨b1, o1, e, hc⟩ := h.get1 hx
  injection e with e
  injection e with e1 e2
  subst e1 e2
  exact hc
set_option maxRecDepth 100000 in
set_option maxHeartbeats 4000000 in
theorem specSortNames_any (A : Option Addr) (n c : Nat) (l : List ByteArray) (w : World) (h : Rd w A n 1 (l.map Value.string)) (hn : n ≤ 1048576) (hz : ∀ x ∈ l, x.size ≤ 16777216) :
    Calls Tryd.prog 35 #[.slice A n c] w (Made w 9 1 n ((sortL l).map Value.string)) := by
  have HZ := Lib.hid hz
  have HL := Lib.hid h.len1
  have HR := Lib.hid h
  clear h hz
  have H0 := (Hp.start w).lit0 9 1
  go_enter Tryd.func35, Tryd.ntmps35
  go_wp2_with fail
  go_loopw [3, 4] (fun ov iv wr => ∃ (i g d : Nat) (o : List ByteArray), ov = .slice (some ⟨g, 0, none⟩) i d ∧ iv = .int .i64 i ∧ i ≤ n ∧ o.Perm (l.take i) ∧ o.Pairwise nle ∧ Hp [] w wr [.row 9 1 (.slice (some ⟨g, 0, none⟩) i d) i (o.map Value.string)]) (fun _ iv _ => n - (intOf iv).toNat)
  case atStart => exact ⟨0, _, 0, [], rfl, rfl, by omega, .refl _, .nil, H0⟩
  case round =>
    clear H0
    obtain ⟨i, g, d, o, rfl, rfl, hi, hp, hu, H⟩ := hrel
    have HP := Lib.hid hp
    have HU := Lib.hid hu
    have HO := Lib.hid (show o.length = i by rw [hp.length_eq, List.length_take, HL.out]; omega)
    clear hp hu
    by_cases hlt : i < n
    · have hlt1 : (i : Int) < (n : Int) := by omega
      obtain ⟨x, hx⟩ := at_some HL.out hlt
      have sx := Lib.hid (HZ.out x hx.mem)
      have HX := Lib.hid hx
      clear hx
      have hi0 : (0 : Int) ≤ (i : Int) := by omega
      obtain ⟨b0, o0, rfl, _⟩ := (H.old HR.out).get1 HX.out
      go_wp2_with fail
      go_loopw [5] (fun av wr => ∃ k : Nat, av = .int .i64 k ∧ k ≤ i ∧ (∀ p y, k ≤ p → o[p]? = some y → nle x y) ∧ Hp [] w wr [.row 9 1 (.slice (some ⟨g, 0, none⟩) i d) i (o.map Value.string)]) (fun av _ => (intOf av).toNat)
      case atStart => exact ⟨i, rfl, Nat.le_refl _, fun p y h1 h2 => by have := (List.getElem?_eq_some_iff.1 h2).1; have := HO.out; omega, H⟩
      case round =>
        clear H
        obtain ⟨k, rfl, hki, hb, H⟩ := hrel
        have HB := Lib.hid hb
        clear hb
        have hk0 : (0 : Int) ≤ (k : Int) := by omega
        have hki1 : (k : Int) ≤ (i : Int) := by omega
        have hwk0 : IntKind.i64.wrap (k : Int) = (k : Int) := IntWalk.i64_in _ (by omega)
        rcases Nat.eq_zero_or_pos k with h0 | h0
        · subst h0
          have HUP := Lib.hid (ins_up (k := 0) HU.out (fun p y h1 => by omega) (fun p y h1 h2 => HB.out p y h1 h2))
          replace H := H.drew
          go_wp2_with fail
          refine wp_region_held_drew (S := fun _ => True) (by kernel_rfl) ?_ (fun hHeld => ?_)
          · exact trivial
          obtain ⟨u0, hu0⟩ : ∃ uu : World, uu = wr.drew := ⟨_, rfl⟩
          rw [← hu0] at H ⊢
          clear hu0
          refine wpAnyH_take (i := 0) (v := ?_) rfl (by kernel_rfl) (by kernel_rfl) (by kernel_rfl) (fun _ _ _ h => h) (Or.inl ⟨by kernel_rfl, ?_⟩) (by assumption) ?_
          rotate_left
          · (intro w hSw; (try dsimp only at hSw); go_simp; try (with_reducible rfl))
          try simp only [sA, sB, sC, Act.put, sD, sE, sF]
          refine wpAnyH_take (i := 1) (v := ?_) rfl (by kernel_rfl) (by kernel_rfl) (by kernel_rfl) (fun _ _ _ h => h) (Or.inl ⟨by kernel_rfl, ?_⟩) (by assumption) ?_
          rotate_left
          · (intro w hSw; (try dsimp only at hSw); go_simp; try (with_reducible rfl))
          try simp only [sA, sB, sC, Act.put, sD, sE, sF]
          refine wpAnyH_take (i := 2) (v := ?_) rfl (by kernel_rfl) (by kernel_rfl) (by kernel_rfl) (fun _ _ _ h => h) (Or.inl ⟨by kernel_rfl, ?_⟩) (by assumption) ?_
          rotate_left
          · (intro w hSw; (try dsimp only at hSw); go_simp; try (with_reducible rfl))
          try simp only [sA, sB, sC, Act.put, sD, sE, sF]
          refine wpAnyH_take (i := 3) (v := undef) rfl (by kernel_rfl) (by kernel_rfl) (by kernel_rfl) (fun _ _ _ h => h) (Or.inr ⟨by kernel_rfl, rfl⟩) (by assumption) ?_
          try simp only [sA, sB, sC, Act.put, sD, sE, sF]
          refine wpAnyH_take (i := 4) (v := undef) rfl (by kernel_rfl) (by kernel_rfl) (by kernel_rfl) (fun _ _ _ h => h) (Or.inr ⟨by kernel_rfl, rfl⟩) (by assumption) ?_
          try simp only [sA, sB, sC, Act.put, sD, sE, sF]
          refine wpAnyH_take (i := 5) (v := undef) rfl (by kernel_rfl) (by kernel_rfl) (by kernel_rfl) (fun _ _ _ h => h) (Or.inr ⟨by kernel_rfl, rfl⟩) (by assumption) ?_
          try simp only [sA, sB, sC, Act.put, sD, sE, sF]
          refine wpAnyH_take (i := 6) (v := undef) rfl (by kernel_rfl) (by kernel_rfl) (by kernel_rfl) (fun _ _ _ h => h) (Or.inr ⟨by kernel_rfl, rfl⟩) (by assumption) ?_
          try simp only [sA, sB, sC, Act.put, sD, sE, sF]
          refine wpAnyH_take (i := 7) (v := undef) rfl (by kernel_rfl) (by kernel_rfl) (by kernel_rfl) (fun _ _ _ h => h) (Or.inr ⟨by kernel_rfl, rfl⟩) (by assumption) ?_
          try simp only [sA, sB, sC, Act.put, sD, sE, sF]
          refine wpAnyH_take (i := 8) (v := undef) rfl (by kernel_rfl) (by kernel_rfl) (by kernel_rfl) (fun _ _ _ h => h) (Or.inr ⟨by kernel_rfl, rfl⟩) (by assumption) ?_
          try simp only [sA, sB, sC, Act.put, sD, sE, sF]
          refine wpAnyH_take (i := 9) (v := undef) rfl (by kernel_rfl) (by kernel_rfl) (by kernel_rfl) (fun _ _ _ h => h) (Or.inr ⟨by kernel_rfl, rfl⟩) (by assumption) ?_
          try simp only [sA, sB, sC, Act.put, sD, sE, sF]
          refine wpAnyH_take (i := 10) (v := undef) rfl (by kernel_rfl) (by kernel_rfl) (by kernel_rfl) (fun _ _ _ h => h) (Or.inr ⟨by kernel_rfl, rfl⟩) (by assumption) ?_
          try simp only [sA, sB, sC, Act.put, sD, sE, sF]
          refine wpAnyH_take (i := 11) (v := undef) rfl (by kernel_rfl) (by kernel_rfl) (by kernel_rfl) (fun _ _ _ h => h) (Or.inr ⟨by kernel_rfl, rfl⟩) (by assumption) ?_
          try simp only [sA, sB, sC, Act.put, sD, sE, sF]
          refine wpAnyH_take (i := 12) (v := undef) rfl (by kernel_rfl) (by kernel_rfl) (by kernel_rfl) (fun _ _ _ h => h) (Or.inr ⟨by kernel_rfl, rfl⟩) (by assumption) ?_
          try simp only [sA, sB, sC, Act.put, sD, sE, sF]
          refine wpAnyH_take (i := 13) (v := undef) rfl (by kernel_rfl) (by kernel_rfl) (by kernel_rfl) (fun _ _ _ h => h) (Or.inr ⟨by kernel_rfl, rfl⟩) (by assumption) ?_
          try simp only [sA, sB, sC, Act.put, sD, sE, sF]
          refine wpAnyH_take (i := 14) (v := ?_) rfl (by kernel_rfl) (by kernel_rfl) (by kernel_rfl) (fun _ _ _ h => h) (Or.inl ⟨by kernel_rfl, ?_⟩) (by assumption) ?_
          rotate_left
          · (intro w hSw; (try dsimp only at hSw); go_simp; try (with_reducible rfl))
          try simp only [sA, sB, sC, Act.put, sD, sE, sF]
          refine wpAnyH_done (by kernel_rfl) ?_ _
          have hcd : i ≤ d := by
            rcases (H.row 0 rfl).2 with ⟨e, _⟩ | ⟨g', cap, cur, e, _, _, h4, _⟩
            · cases e
            · injection e with _ _ e; omega
          rcases Nat.eq_or_lt_of_le (show 0 ≤ d by omega) with hkd | hkd
          · have hik1 : i ≤ 0 := by omega
            have hik2 : 0 ≤ i := by omega
            have hkd1 : (d = 0) = True := eq_true hkd.symm
            have hkd2 : (0 = d) = True := eq_true hkd
            have hkd3 : (d ≤ 0) = True := eq_true (by omega)
            have hkd4 : (0 ≤ d) = True := eq_true (by omega)
            clear hkd
            -- the names ahead, the new one, the names behind
            go_wp2_with (at_builtin; refine wp_appRd ((H.lit0 9 1)) rfl _ _ _ rfl Tryd.underlying38 infoString rfl (by decide) 0 _ _ _ rfl rfl _ _ _ _ rfl ((fun e => nomatch e)) (out_first ((H.lit0 9 1).rd 1 rfl) (k := 0) (by omega)) (one_strL _) (by first | (simp only [maxLen]; omega) | (simp [maxLen]; done) | (simp [maxLen]; omega)) (by first | omega | (simp; done) | (simp; omega)) ?_)
            intro v1 w1 H1
            have H1 : Hp [] w w1 [.row 9 1 v1 (o.take 0).length ((o.take 0).map Value.string), .row 9 1 (.slice (some ⟨g, 0, none⟩) i d) i (o.map Value.string)] := H1.recast (by
              have hl : (o.take 0).length = 0 := by rw [List.length_take, HO.out]; omega
              rw [hl]; simp)
            have cx := (H1.old HR.out).cell1 HX.out
            go_wp2_with (at_builtin; refine wp_appM (f := Value.string) (H1) rfl _ _ _ rfl Tryd.underlying38 infoString rfl 0 _ _ rfl rfl _ _ (x) rfl (by simp) rfl (by first | (simp only [maxLen]; omega) | (simp [maxLen]; done) | (simp [maxLen]; omega)) (by first | omega | (simp; done) | (simp; omega)) ?_)
            intro v2 w2 H2
            go_wp2_with (at_builtin; refine wp_appRd (H2) rfl _ _ _ rfl Tryd.underlying38 infoString rfl (by decide) 0 _ _ _ rfl rfl _ _ _ _ rfl ((fun e => nomatch e)) ((show Rd _ (some ⟨g, 0, none⟩) 0 1 ((o.drop 0).map Value.string) from ⟨by rw [List.drop_of_length_le (by rw [HO.out]; omega)]; rfl, fun h => absurd h (by omega)⟩)) (one_strL _) (by first | (simp only [maxLen]; omega) | (simp [maxLen]; done) | (simp [maxLen]; omega)) (by first | omega | (simp; done) | (simp; omega)) ?_)
            intro v3 w3 H3
            have H3 : Hp [] w w3 [.row 9 1 v3 (i + 1) ((o.take 0 ++ x :: o.drop 0).map Value.string), .row 9 1 (.slice (some ⟨g, 0, none⟩) i d) i (o.map Value.string)] := H3.recast (by
              have hl : (o.take 0).length = 0 := by rw [List.length_take, HO.out]; omega
              first
                | (rw [List.length_append, hl, List.length_singleton, show 0 + 1 + (i - 0) = i + 1 by omega]; simp; done)
                | (simp [Nat.add_comm]; done)
                | (simp; have := HO.out; omega)
                | (simp [List.take_of_length_le, List.drop_of_length_le]; have := HO.out; omega))
            obtain ⟨g3, d3, rfl, _⟩ := H3.form 0 rfl (by omega)
            have H4 := Lib.hid H3.drop1
            have HPP := Lib.hid (show (o.take 0 ++ x :: o.drop 0).Perm (l.take (i + 1)) by
              rw [HX.out.take]
              exact (ins_perm o x 0).trans (List.Perm.append_right [x] HP.out))
            clear H1 H2 H3 H cx
            go_wp2_with fail
            go_roundw
            case rel => exact ⟨i + 1, g3, d3, _, rfl, by go_num, by omega, HPP.out, HUP.out, H4.out⟩
            case measure => simp [intOf]; omega
          · have hdk : ¬ d = 0 := by omega
            have hdk2 : ¬ 0 = d := by omega
            -- the names ahead, the new one, the names behind
            go_wp2_with (at_builtin; refine wp_appRd ((H.lit0 9 1)) rfl _ _ _ rfl Tryd.underlying38 infoString rfl (by decide) 0 _ _ _ rfl rfl _ _ _ _ rfl ((fun e => nomatch e)) (out_first ((H.lit0 9 1).rd 1 rfl) (k := 0) (by omega)) (one_strL _) (by first | (simp only [maxLen]; omega) | (simp [maxLen]; done) | (simp [maxLen]; omega)) (by first | omega | (simp; done) | (simp; omega)) ?_)
            intro v1 w1 H1
            have H1 : Hp [] w w1 [.row 9 1 v1 (o.take 0).length ((o.take 0).map Value.string), .row 9 1 (.slice (some ⟨g, 0, none⟩) i d) i (o.map Value.string)] := H1.recast (by
              have hl : (o.take 0).length = 0 := by rw [List.length_take, HO.out]; omega
              rw [hl]; simp)
            have cx := (H1.old HR.out).cell1 HX.out
            go_wp2_with (at_builtin; refine wp_appM (f := Value.string) (H1) rfl _ _ _ rfl Tryd.underlying38 infoString rfl 0 _ _ rfl rfl _ _ (x) rfl (by simp) rfl (by first | (simp only [maxLen]; omega) | (simp [maxLen]; done) | (simp [maxLen]; omega)) (by first | omega | (simp; done) | (simp; omega)) ?_)
            intro v2 w2 H2
            go_wp2_with (at_builtin; refine wp_appRd (H2) rfl _ _ _ rfl Tryd.underlying38 infoString rfl (by decide) 0 _ _ _ rfl rfl _ _ _ _ rfl ((fun e => nomatch e)) ((out_last (H2.rd 1 rfl) (k := 0) (by omega))) (one_strL _) (by first | (simp only [maxLen]; omega) | (simp [maxLen]; done) | (simp [maxLen]; omega)) (by first | omega | (simp; done) | (simp; omega)) ?_)
            intro v3 w3 H3
            have H3 : Hp [] w w3 [.row 9 1 v3 (i + 1) ((o.take 0 ++ x :: o.drop 0).map Value.string), .row 9 1 (.slice (some ⟨g, 0, none⟩) i d) i (o.map Value.string)] := H3.recast (by
              have hl : (o.take 0).length = 0 := by rw [List.length_take, HO.out]; omega
              first
                | (rw [List.length_append, hl, List.length_singleton, show 0 + 1 + (i - 0) = i + 1 by omega]; simp; done)
                | (simp [Nat.add_comm]; done)
                | (simp; have := HO.out; omega)
                | (simp [List.take_of_length_le, List.drop_of_length_le]; have := HO.out; omega))
            obtain ⟨g3, d3, rfl, _⟩ := H3.form 0 rfl (by omega)
            have H4 := Lib.hid H3.drop1
            have HPP := Lib.hid (show (o.take 0 ++ x :: o.drop 0).Perm (l.take (i + 1)) by
              rw [HX.out.take]
              exact (ins_perm o x 0).trans (List.Perm.append_right [x] HP.out))
            clear H1 H2 H3 H cx
            go_wp2_with fail
            go_roundw
            case rel => exact ⟨i + 1, g3, d3, _, rfl, by go_num, by omega, HPP.out, HUP.out, H4.out⟩
            case measure => simp [intOf]; omega
        · obtain ⟨q, hq1, hq2⟩ : ∃ q : Nat, q + 1 ≤ k ∧ k ≤ q + 1 := ⟨k - 1, by omega, by omega⟩
          obtain ⟨y, hy⟩ := at_some HO.out (show q < i by omega)
          have sy := Lib.hid (HZ.out y (List.mem_of_mem_take (HP.out.mem_iff.1 hy.mem)))
          have HYY := Lib.hid hy
          clear hy
          have hd0 : decide ((0 : Int) < (k : Int)) = true := by simp; omega
          have hd1 : (0 : Int) < (k : Int) := by omega
          have hd2 : decide (0 < k) = true := by simp; omega
          have hwq0 : IntKind.i64.wrap (q : Int) = (q : Int) := IntWalk.i64_in _ (by omega)
          have hw3 : (k : Int) - 1 = (q : Int) := by omega
          have hw2 : IntKind.i64.wrap ((k : Int) - 1) = (q : Int) := by rw [hw3]; exact hwq0
          have hq0 : (0 : Int) ≤ (q : Int) := by omega
          have hqi : (q : Int) < (i : Int) := by omega
          obtain ⟨m, hm⟩ : ∃ o, o = ordT (toB x) (toB y) := ⟨_, rfl⟩
          have HM := Lib.hid hm
          clear hm
          replace H := H.drew
          have cy := H.atM (f1 := Value.string) 0 rfl HYY.out
          have cx := (H.old HR.out).cell1 HX.out
          by_cases hxy : m < 0
          · have hd : decide (m < 0) = true := by simpa using hxy
            go_wp2_with fail
            refine wp_region_held_drew (S := fun w' => w'.cell? ⟨b0, o0 + i, none⟩ = some (.string x) ∧ w'.cell? ⟨g, q, none⟩ = some (.string y)) (by kernel_rfl) ?_ (fun hHeld => ?_)
            · exact ⟨cx, cy⟩
            obtain ⟨u0, hu0⟩ : ∃ uu : World, uu = wr.drew := ⟨_, rfl⟩
            rw [← hu0] at H hHeld ⊢
            clear hu0
            refine wpAnyH_take (i := 0) (v := ?_) rfl (by kernel_rfl) (by kernel_rfl) (by kernel_rfl) (fun _ _ _ h => h) (Or.inl ⟨by kernel_rfl, ?_⟩) (by assumption) ?_
            rotate_left
            · (intro w hSw; (try dsimp only at hSw); go_simp; try (with_reducible rfl))
            try simp only [sA, sB, sC, Act.put, sD, sE, sF]
            refine wpAnyH_take (i := 1) (v := ?_) rfl (by kernel_rfl) (by kernel_rfl) (by kernel_rfl) (fun _ _ _ h => h) (Or.inl ⟨by kernel_rfl, ?_⟩) (by assumption) ?_
            rotate_left
            · (intro w hSw; (try dsimp only at hSw); go_simp; try (with_reducible rfl))
            try simp only [sA, sB, sC, Act.put, sD, sE, sF]
            refine wpAnyH_take (i := 2) (v := ?_) rfl (by kernel_rfl) (by kernel_rfl) (by kernel_rfl) (fun _ _ _ h => h) (Or.inl ⟨by kernel_rfl, ?_⟩) (by assumption) ?_
            rotate_left
            · (intro w hSw; (try dsimp only at hSw); go_simp; try (with_reducible rfl))
            try simp only [sA, sB, sC, Act.put, sD, sE, sF]
            refine wpAnyH_take (i := 3) (v := ?_) rfl (by kernel_rfl) (by kernel_rfl) (by kernel_rfl) (fun _ _ _ h => h) (Or.inl ⟨by kernel_rfl, ?_⟩) (by assumption) ?_
            rotate_left
            · (intro w hSw; (try dsimp only at hSw); go_simp; try (with_reducible rfl))
            try simp only [sA, sB, sC, Act.put, sD, sE, sF]
            refine wpAnyH_take (i := 4) (v := ?_) rfl (by kernel_rfl) (by kernel_rfl) (by kernel_rfl) (fun _ _ _ h => h) (Or.inl ⟨by kernel_rfl, ?_⟩) (by assumption) ?_
            rotate_left
            · (intro w hSw; (try dsimp only at hSw); go_simp; try (with_reducible rfl))
            try simp only [sA, sB, sC, Act.put, sD, sE, sF]
            refine wpAnyH_take (i := 5) (v := ?_) rfl (by kernel_rfl) (by kernel_rfl) (by kernel_rfl) (fun _ _ _ h => h) (Or.inl ⟨by kernel_rfl, ?_⟩) (by assumption) ?_
            rotate_left
            · (intro w hSw; (try dsimp only at hSw); go_simp; try (with_reducible rfl))
            try simp only [sA, sB, sC, Act.put, sD, sE, sF]
            refine wpAnyH_take (i := 6) (v := ?_) rfl (by kernel_rfl) (by kernel_rfl) (by kernel_rfl) (fun _ _ _ h => h) (Or.inl ⟨by kernel_rfl, ?_⟩) (by assumption) ?_
            rotate_left
            · (intro w hSw; (try dsimp only at hSw); go_simp; try (with_reducible rfl))
            try simp only [sA, sB, sC, Act.put, sD, sE, sF]
            refine wpAnyH_take (i := 7) (v := ?_) rfl (by kernel_rfl) (by kernel_rfl) (by kernel_rfl) (fun _ _ _ h => h) (Or.inl ⟨by kernel_rfl, ?_⟩) (by assumption) ?_
            rotate_left
            · (intro w hSw; (try dsimp only at hSw); go_simp; try (with_reducible rfl))
            try simp only [sA, sB, sC, Act.put, sD, sE, sF]
            refine wpAnyH_take (i := 8) (v := ?_) rfl (by kernel_rfl) (by kernel_rfl) (by kernel_rfl) (fun _ _ _ h => h) (Or.inl ⟨by kernel_rfl, ?_⟩) (by assumption) ?_
            rotate_left
            · (intro w hSw; (try dsimp only at hSw); go_simp; try (with_reducible rfl))
            try simp only [sA, sB, sC, Act.put, sD, sE, sF]
            refine wpAnyH_take (i := 9) (v := ?_) rfl (by kernel_rfl) (by kernel_rfl) (by kernel_rfl) (fun _ _ _ h => h) (Or.inl ⟨by kernel_rfl, ?_⟩) (by assumption) ?_
            rotate_left
            · (intro w hSw; (try dsimp only at hSw); go_simp; try (with_reducible rfl))
            try simp only [sA, sB, sC, Act.put, sD, sE, sF]
            refine wpAnyH_take (i := 10) (v := ?_) rfl (by kernel_rfl) (by kernel_rfl) (by kernel_rfl) (fun _ _ _ h => h) (Or.inl ⟨by kernel_rfl, ?_⟩) (by assumption) ?_
            rotate_left
            · (intro w hSw; (try dsimp only at hSw); go_simp; try (with_reducible rfl))
            try simp only [sA, sB, sC, Act.put, sD, sE, sF]
            refine wpAnyH_take (i := 11) (v := ?_) rfl (by kernel_rfl) (by kernel_rfl) (by kernel_rfl) (fun _ _ _ h => h) (Or.inl ⟨by kernel_rfl, ?_⟩) (by assumption) ?_
            rotate_left
            · (intro w hSw; (try dsimp only at hSw); go_simp; try (with_reducible rfl))
            try simp only [sA, sB, sC, Act.put, sD, sE, sF]
            refine wpAnyH_ready (rs := [12]) (by kernel_rfl) (by simp) ?_
            refine (AllReadyH.cons rfl (fun K hK => ?_) AllReadyH.nil)
            go_simp
            refine (specOrder_any x y _ sx.out sy.out).mono ?_
            rintro e u1 ⟨rfl, f9⟩
            replace H := H.go f9
            clear f9
            rw [← HM.out]
            go_wp2_with fail
            refine hK.out _ _ ?_ (fun hHeld => ?_)
            · exact ⟨(H.old HR.out).cell1 HX.out, H.atM (f1 := Value.string) 0 rfl HYY.out⟩
            clear hK K
            try simp only [sA, sB, sC, Act.put, sD, sE, sF]
            refine wpAnyH_take (i := 13) (v := ?_) rfl (by kernel_rfl) (by kernel_rfl) (by kernel_rfl) (fun _ _ _ h => h) (Or.inl ⟨by kernel_rfl, ?_⟩) (by assumption) ?_
            rotate_left
            · (intro w hSw; (try dsimp only at hSw); go_simp; try (with_reducible rfl))
            try simp only [sA, sB, sC, Act.put, sD, sE, sF]
            refine wpAnyH_take (i := 14) (v := ?_) rfl (by kernel_rfl) (by kernel_rfl) (by kernel_rfl) (fun _ _ _ h => h) (Or.inl ⟨by kernel_rfl, ?_⟩) (by assumption) ?_
            rotate_left
            · (intro w hSw; (try dsimp only at hSw); go_simp; try (with_reducible rfl))
            try simp only [sA, sB, sC, Act.put, sD, sE, sF]
            refine wpAnyH_done (by kernel_rfl) ?_ _
            clear cx cy
            go_wp2_with fail
            go_roundw
            case rel =>
              have k1 := ord_lt HM.out (by omega)
              exact ⟨q, rfl, by omega, fun p z h1 h2 => by
                by_cases hp : p = q
                · subst hp; have e := HYY.out.symm.trans h2; injection e with e; rw [← e]; exact k1
                · exact HB.out p z (by omega) h2, H⟩
            case measure => simp [intOf]; omega
          · have hd : decide (m < 0) = false := by simpa using hxy
            have HUP := Lib.hid (show (o.take k ++ x :: o.drop k).Pairwise nle by
              have k1 := ord_ge HM.out (by omega)
              refine ins_up HU.out (fun p z h1 h2 => ?_) HB.out
              by_cases hp : p = q
              · subst hp; have e := HYY.out.symm.trans h2; injection e with e; rw [← e]; exact k1
              · exact nle_trans (List.pairwise_iff_getElem.1 HU.out p q (List.getElem?_eq_some_iff.1 h2).1 (List.getElem?_eq_some_iff.1 HYY.out).1 (by omega) |> fun r => by
                  obtain ⟨hp1, e1⟩ := List.getElem?_eq_some_iff.1 h2
                  obtain ⟨hq1, e2⟩ := List.getElem?_eq_some_iff.1 HYY.out
                  rw [e1, e2] at r; exact r) k1)
            go_wp2_with fail
            refine wp_region_held_drew (S := fun w' => w'.cell? ⟨b0, o0 + i, none⟩ = some (.string x) ∧ w'.cell? ⟨g, q, none⟩ = some (.string y)) (by kernel_rfl) ?_ (fun hHeld => ?_)
            · exact ⟨cx, cy⟩
            obtain ⟨u0, hu0⟩ : ∃ uu : World, uu = wr.drew := ⟨_, rfl⟩
            rw [← hu0] at H hHeld ⊢
            clear hu0
            refine wpAnyH_take (i := 0) (v := ?_) rfl (by kernel_rfl) (by kernel_rfl) (by kernel_rfl) (fun _ _ _ h => h) (Or.inl ⟨by kernel_rfl, ?_⟩) (by assumption) ?_
            rotate_left
            · (intro w hSw; (try dsimp only at hSw); go_simp; try (with_reducible rfl))
            try simp only [sA, sB, sC, Act.put, sD, sE, sF]
            refine wpAnyH_take (i := 1) (v := ?_) rfl (by kernel_rfl) (by kernel_rfl) (by kernel_rfl) (fun _ _ _ h => h) (Or.inl ⟨by kernel_rfl, ?_⟩) (by assumption) ?_
            rotate_left
            · (intro w hSw; (try dsimp only at hSw); go_simp; try (with_reducible rfl))
            try simp only [sA, sB, sC, Act.put, sD, sE, sF]
            refine wpAnyH_take (i := 2) (v := ?_) rfl (by kernel_rfl) (by kernel_rfl) (by kernel_rfl) (fun _ _ _ h => h) (Or.inl ⟨by kernel_rfl, ?_⟩) (by assumption) ?_
            rotate_left
            · (intro w hSw; (try dsimp only at hSw); go_simp; try (with_reducible rfl))
            try simp only [sA, sB, sC, Act.put, sD, sE, sF]
            refine wpAnyH_take (i := 3) (v := ?_) rfl (by kernel_rfl) (by kernel_rfl) (by kernel_rfl) (fun _ _ _ h => h) (Or.inl ⟨by kernel_rfl, ?_⟩) (by assumption) ?_
            rotate_left
            · (intro w hSw; (try dsimp only at hSw); go_simp; try (with_reducible rfl))
            try simp only [sA, sB, sC, Act.put, sD, sE, sF]
            refine wpAnyH_take (i := 4) (v := ?_) rfl (by kernel_rfl) (by kernel_rfl) (by kernel_rfl) (fun _ _ _ h => h) (Or.inl ⟨by kernel_rfl, ?_⟩) (by assumption) ?_
            rotate_left
            · (intro w hSw; (try dsimp only at hSw); go_simp; try (with_reducible rfl))
            try simp only [sA, sB, sC, Act.put, sD, sE, sF]
            refine wpAnyH_take (i := 5) (v := ?_) rfl (by kernel_rfl) (by kernel_rfl) (by kernel_rfl) (fun _ _ _ h => h) (Or.inl ⟨by kernel_rfl, ?_⟩) (by assumption) ?_
            rotate_left
            · (intro w hSw; (try dsimp only at hSw); go_simp; try (with_reducible rfl))
            try simp only [sA, sB, sC, Act.put, sD, sE, sF]
            refine wpAnyH_take (i := 6) (v := ?_) rfl (by kernel_rfl) (by kernel_rfl) (by kernel_rfl) (fun _ _ _ h => h) (Or.inl ⟨by kernel_rfl, ?_⟩) (by assumption) ?_
            rotate_left
            · (intro w hSw; (try dsimp only at hSw); go_simp; try (with_reducible rfl))
            try simp only [sA, sB, sC, Act.put, sD, sE, sF]
            refine wpAnyH_take (i := 7) (v := ?_) rfl (by kernel_rfl) (by kernel_rfl) (by kernel_rfl) (fun _ _ _ h => h) (Or.inl ⟨by kernel_rfl, ?_⟩) (by assumption) ?_
            rotate_left
            · (intro w hSw; (try dsimp only at hSw); go_simp; try (with_reducible rfl))
            try simp only [sA, sB, sC, Act.put, sD, sE, sF]
            refine wpAnyH_take (i := 8) (v := ?_) rfl (by kernel_rfl) (by kernel_rfl) (by kernel_rfl) (fun _ _ _ h => h) (Or.inl ⟨by kernel_rfl, ?_⟩) (by assumption) ?_
            rotate_left
            · (intro w hSw; (try dsimp only at hSw); go_simp; try (with_reducible rfl))
            try simp only [sA, sB, sC, Act.put, sD, sE, sF]
            refine wpAnyH_take (i := 9) (v := ?_) rfl (by kernel_rfl) (by kernel_rfl) (by kernel_rfl) (fun _ _ _ h => h) (Or.inl ⟨by kernel_rfl, ?_⟩) (by assumption) ?_
            rotate_left
            · (intro w hSw; (try dsimp only at hSw); go_simp; try (with_reducible rfl))
            try simp only [sA, sB, sC, Act.put, sD, sE, sF]
            refine wpAnyH_take (i := 10) (v := ?_) rfl (by kernel_rfl) (by kernel_rfl) (by kernel_rfl) (fun _ _ _ h => h) (Or.inl ⟨by kernel_rfl, ?_⟩) (by assumption) ?_
            rotate_left
            · (intro w hSw; (try dsimp only at hSw); go_simp; try (with_reducible rfl))
            try simp only [sA, sB, sC, Act.put, sD, sE, sF]
            refine wpAnyH_take (i := 11) (v := ?_) rfl (by kernel_rfl) (by kernel_rfl) (by kernel_rfl) (fun _ _ _ h => h) (Or.inl ⟨by kernel_rfl, ?_⟩) (by assumption) ?_
            rotate_left
            · (intro w hSw; (try dsimp only at hSw); go_simp; try (with_reducible rfl))
            try simp only [sA, sB, sC, Act.put, sD, sE, sF]
            refine wpAnyH_ready (rs := [12]) (by kernel_rfl) (by simp) ?_
            refine (AllReadyH.cons rfl (fun K hK => ?_) AllReadyH.nil)
            go_simp
            refine (specOrder_any x y _ sx.out sy.out).mono ?_
            rintro e u1 ⟨rfl, f9⟩
            replace H := H.go f9
            clear f9
            rw [← HM.out]
            go_wp2_with fail
            refine hK.out _ _ ?_ (fun hHeld => ?_)
            · exact ⟨(H.old HR.out).cell1 HX.out, H.atM (f1 := Value.string) 0 rfl HYY.out⟩
            clear hK K
            try simp only [sA, sB, sC, Act.put, sD, sE, sF]
            refine wpAnyH_take (i := 13) (v := ?_) rfl (by kernel_rfl) (by kernel_rfl) (by kernel_rfl) (fun _ _ _ h => h) (Or.inl ⟨by kernel_rfl, ?_⟩) (by assumption) ?_
            rotate_left
            · (intro w hSw; (try dsimp only at hSw); go_simp; try (with_reducible rfl))
            try simp only [sA, sB, sC, Act.put, sD, sE, sF]
            refine wpAnyH_take (i := 14) (v := ?_) rfl (by kernel_rfl) (by kernel_rfl) (by kernel_rfl) (fun _ _ _ h => h) (Or.inl ⟨by kernel_rfl, ?_⟩) (by assumption) ?_
            rotate_left
            · (intro w hSw; (try dsimp only at hSw); go_simp; try (with_reducible rfl))
            try simp only [sA, sB, sC, Act.put, sD, sE, sF]
            refine wpAnyH_done (by kernel_rfl) ?_ _
            clear cx cy
            have hcd : i ≤ d := by
              rcases (H.row 0 rfl).2 with ⟨e, _⟩ | ⟨g', cap, cur, e, _, _, h4, _⟩
              · cases e
              · injection e with _ _ e; omega
            rcases Nat.eq_or_lt_of_le (show k ≤ d by omega) with hkd | hkd
            · have hik1 : i ≤ k := by omega
              have hik2 : k ≤ i := by omega
              have hkd1 : (d = k) = True := eq_true hkd.symm
              have hkd2 : (k = d) = True := eq_true hkd
              have hkd3 : (d ≤ k) = True := eq_true (by omega)
              have hkd4 : (k ≤ d) = True := eq_true (by omega)
              clear hkd
              -- the names ahead, the new one, the names behind
              go_wp2_with (at_builtin; refine wp_appRd ((H.lit0 9 1)) rfl _ _ _ rfl Tryd.underlying38 infoString rfl (by decide) 0 _ _ _ rfl rfl _ _ _ _ rfl ((fun e => nomatch e)) (out_first ((H.lit0 9 1).rd 1 rfl) (k := k) (by omega)) (one_strL _) (by first | (simp only [maxLen]; omega) | (simp [maxLen]; done) | (simp [maxLen]; omega)) (by first | omega | (simp; done) | (simp; omega)) ?_)
              intro v1 w1 H1
              have H1 : Hp [] w w1 [.row 9 1 v1 (o.take k).length ((o.take k).map Value.string), .row 9 1 (.slice (some ⟨g, 0, none⟩) i d) i (o.map Value.string)] := H1.recast (by
                have hl : (o.take k).length = k := by rw [List.length_take, HO.out]; omega
                rw [hl]; simp)
              have cx := (H1.old HR.out).cell1 HX.out
              go_wp2_with (at_builtin; refine wp_appM (f := Value.string) (H1) rfl _ _ _ rfl Tryd.underlying38 infoString rfl 0 _ _ rfl rfl _ _ (x) rfl (by simp) rfl (by first | (simp only [maxLen]; omega) | (simp [maxLen]; done) | (simp [maxLen]; omega)) (by first | omega | (simp; done) | (simp; omega)) ?_)
              intro v2 w2 H2
              go_wp2_with (at_builtin; refine wp_appRd (H2) rfl _ _ _ rfl Tryd.underlying38 infoString rfl (by decide) 0 _ _ _ rfl rfl _ _ _ _ rfl ((fun e => nomatch e)) ((show Rd _ (some ⟨g, 0, none⟩) 0 1 ((o.drop k).map Value.string) from ⟨by rw [List.drop_of_length_le (by rw [HO.out]; omega)]; rfl, fun h => absurd h (by omega)⟩)) (one_strL _) (by first | (simp only [maxLen]; omega) | (simp [maxLen]; done) | (simp [maxLen]; omega)) (by first | omega | (simp; done) | (simp; omega)) ?_)
              intro v3 w3 H3
              have H3 : Hp [] w w3 [.row 9 1 v3 (i + 1) ((o.take k ++ x :: o.drop k).map Value.string), .row 9 1 (.slice (some ⟨g, 0, none⟩) i d) i (o.map Value.string)] := H3.recast (by
                have hl : (o.take k).length = k := by rw [List.length_take, HO.out]; omega
                first
                  | (rw [List.length_append, hl, List.length_singleton, show k + 1 + (i - k) = i + 1 by omega]; simp; done)
                  | (simp [Nat.add_comm]; done)
                  | (simp; have := HO.out; omega)
                  | (simp [List.take_of_length_le, List.drop_of_length_le]; have := HO.out; omega))
              obtain ⟨g3, d3, rfl, _⟩ := H3.form 0 rfl (by omega)
              have H4 := Lib.hid H3.drop1
              have HPP := Lib.hid (show (o.take k ++ x :: o.drop k).Perm (l.take (i + 1)) by
                rw [HX.out.take]
                exact (ins_perm o x k).trans (List.Perm.append_right [x] HP.out))
              clear H1 H2 H3 H cx
              go_wp2_with fail
              go_roundw
              case rel => exact ⟨i + 1, g3, d3, _, rfl, by go_num, by omega, HPP.out, HUP.out, H4.out⟩
              case measure => simp [intOf]; omega
            · have hdk : ¬ d = k := by omega
              have hdk2 : ¬ k = d := by omega
              -- the names ahead, the new one, the names behind
              go_wp2_with (at_builtin; refine wp_appRd ((H.lit0 9 1)) rfl _ _ _ rfl Tryd.underlying38 infoString rfl (by decide) 0 _ _ _ rfl rfl _ _ _ _ rfl ((fun e => nomatch e)) (out_first ((H.lit0 9 1).rd 1 rfl) (k := k) (by omega)) (one_strL _) (by first | (simp only [maxLen]; omega) | (simp [maxLen]; done) | (simp [maxLen]; omega)) (by first | omega | (simp; done) | (simp; omega)) ?_)
              intro v1 w1 H1
              have H1 : Hp [] w w1 [.row 9 1 v1 (o.take k).length ((o.take k).map Value.string), .row 9 1 (.slice (some ⟨g, 0, none⟩) i d) i (o.map Value.string)] := H1.recast (by
                have hl : (o.take k).length = k := by rw [List.length_take, HO.out]; omega
                rw [hl]; simp)
              have cx := (H1.old HR.out).cell1 HX.out
              go_wp2_with (at_builtin; refine wp_appM (f := Value.string) (H1) rfl _ _ _ rfl Tryd.underlying38 infoString rfl 0 _ _ rfl rfl _ _ (x) rfl (by simp) rfl (by first | (simp only [maxLen]; omega) | (simp [maxLen]; done) | (simp [maxLen]; omega)) (by first | omega | (simp; done) | (simp; omega)) ?_)
              intro v2 w2 H2
              go_wp2_with (at_builtin; refine wp_appRd (H2) rfl _ _ _ rfl Tryd.underlying38 infoString rfl (by decide) 0 _ _ _ rfl rfl _ _ _ _ rfl ((fun e => nomatch e)) ((out_last (H2.rd 1 rfl) (k := k) (by omega))) (one_strL _) (by first | (simp only [maxLen]; omega) | (simp [maxLen]; done) | (simp [maxLen]; omega)) (by first | omega | (simp; done) | (simp; omega)) ?_)
              intro v3 w3 H3
              have H3 : Hp [] w w3 [.row 9 1 v3 (i + 1) ((o.take k ++ x :: o.drop k).map Value.string), .row 9 1 (.slice (some ⟨g, 0, none⟩) i d) i (o.map Value.string)] := H3.recast (by
                have hl : (o.take k).length = k := by rw [List.length_take, HO.out]; omega
                first
                  | (rw [List.length_append, hl, List.length_singleton, show k + 1 + (i - k) = i + 1 by omega]; simp; done)
                  | (simp [Nat.add_comm]; done)
                  | (simp; have := HO.out; omega)
                  | (simp [List.take_of_length_le, List.drop_of_length_le]; have := HO.out; omega))
              obtain ⟨g3, d3, rfl, _⟩ := H3.form 0 rfl (by omega)
              have H4 := Lib.hid H3.drop1
              have HPP := Lib.hid (show (o.take k ++ x :: o.drop k).Perm (l.take (i + 1)) by
                rw [HX.out.take]
                exact (ins_perm o x k).trans (List.Perm.append_right [x] HP.out))
              clear H1 H2 H3 H cx
              go_wp2_with fail
              go_roundw
              case rel => exact ⟨i + 1, g3, d3, _, rfl, by go_num, by omega, HPP.out, HUP.out, H4.out⟩
              case measure => simp [intOf]; omega
    · have hlt1 : ¬ ((i : Int) < (n : Int)) := by omega
      have hin : i = n := by omega
      have HS := Lib.hid (show o = sortL l from sortL_of (by have h9 := HP.out; rwa [List.take_of_length_le (by rw [HL.out]; omega)] at h9) HU.out)
      rw [HS.out] at H
      subst hin
      go_wp2_with fail
      go_ret
      exact H.toMade 0 rfl
end Go.Proofs.YtfmifaneggenoaaDoor
