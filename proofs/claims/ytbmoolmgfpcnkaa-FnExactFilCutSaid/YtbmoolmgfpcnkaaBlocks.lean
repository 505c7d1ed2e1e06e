/-
  BlocksOf: the program and the reference hand back the same list.
-/
import Derived.Test.YtbmoolmgfpcnkaaMBlocks
import Derived.Test.YtbmoolmgfpcnkaaCutAt
namespace Go.Proofs.Ytbmoolmgfpcnkaa
open Go.RowKit

set_option maxRecDepth 100000 in
set_option maxHeartbeats 1000000 in
theorem has_any (A : Option Addr) (n c : Nat) (m : List Int) (x : Int) (w : World) (h : Rd w A n 1 (m.map (Value.int .i64))) (hn : n ≤ 1048576) :
    Calls Try.prog 77 #[.slice A n c, .int .i64 x] w fun e w' => e = .returned (.bool (m.contains x)) ∧ w = w' := by
  have HL := Lib.hid h.len1
  have G := Lib.hid h
  clear h
  go_enter Try.func77, Try.ntmps77
  go_wp2_with fail
  go_loopw [5] (fun i wr => ∃ k : Nat, k ≤ n ∧ i = .int .i64 k ∧ (∀ y ∈ m.take k, y ≠ x) ∧ w = wr) (fun i _ => n - (intOf i).toNat)
  case atStart => exact ⟨0, by omega, rfl, by simp, rfl⟩
  case round =>
    obtain ⟨k, hk, rfl, hall, rfl⟩ := hrel
    have HA := Lib.hid hall
    clear hall
    by_cases hlt : k < n
    · obtain ⟨y, hy⟩ := at_some HL.out hlt
      obtain ⟨b0, o0, rfl, cy⟩ := G.out.get1 hy
      by_cases he : y = x
      · have hd : (y == x) = true := by simp [he]
        have HX := Lib.hid (show m.contains x = true by rw [List.contains_iff_mem, ← he]; exact hy.mem)
        clear he
        go_wp2_with fail
        go_ret
        exact ⟨ret_bool HX.out.symm, rfl⟩
      · have hd : (y == x) = false := by simpa using he
        have HE := Lib.hid he
        clear he
        go_wp2_with fail
        go_roundw
        case rel => exact ⟨k + 1, by omega, by go_num, by
          rw [hy.take]
          intro z hz
          rcases List.mem_append.1 hz with h1 | h1
          · exact HA.out z h1
          · rw [List.mem_singleton] at h1; subst h1; exact HE.out, by first | trivial | rfl⟩
        case measure => simp [intOf]; omega
    · have HX := Lib.hid (show m.contains x = false by
        rw [← Bool.not_eq_true, List.contains_iff_mem]
        intro hm
        exact HA.out x (by rw [List.take_of_length_le (by rw [HL.out]; omega)]; exact hm) rfl)
      go_wp2_with fail
      go_ret
      exact ⟨ret_bool HX.out.symm, rfl⟩

set_option maxRecDepth 100000 in
set_option maxHeartbeats 4000000 in
theorem specBlocksOf_any (A : Option Addr) (n c : Nat) (l : List (Int × Int × Int)) (w : World) (h : Rd w A n 3 (l.flatMap cExt)) (hn : n ≤ 1048576) :
    Calls Try.prog 27 #[.slice A n c] w (Made w 3 1 (blocksOfL l).length ((blocksOfL l).map (Value.int .i64))) := by
  have L0 := (Hp.start w).lit0 3 1
  by_cases hok : eOk l = true
  · have HR := Lib.hid (show blocksOfL l = blocksTo l 24 by rw [blocksOfL, if_pos hok]; rfl)
    have OK := Lib.hid (eOk_ranges hok)
    have HK := Lib.hid hok
    have G := Lib.hid h
    clear h hok
    rw [HR.out]
    go_enter Try.func27, Try.ntmps27
    go_wp2_with fail
    go_loopw [3, 4] (fun v j wr => ∃ k : Nat, k ≤ 24 ∧ j = .int .i64 k ∧ Hp [] w wr [.row 3 1 v (blocksTo l k).length ((blocksTo l k).map (Value.int .i64))]) (fun _ j _ => 24 - (intOf j).toNat)
    case atStart => exact ⟨0, by omega, rfl, L0⟩
    case round =>
      clear L0
      obtain ⟨k, hk, rfl, H⟩ := hrel
      have hbl := blocksTo_len l k
      by_cases hlt : k < 24
      · have HE := Lib.hid (blocksTo_succ l k)
        go_wp2_with fail
        refine (specExtsOk_any A n c l _ (H.old G.out) hn).mono ?_
        rintro e w1 ⟨rfl, f1⟩
        have H1 := H.go f1
        clear H f1
        rw [HK.out]
        go_wp2_with fail
        refine (specMap_any A n c l _ (H1.old G.out) OK.out hn).mono ?_
        rintro e w2 ⟨A2, c2, rfl, o2, f2⟩
        have H2 := H1.made o2 f2
        clear H1 o2 f2
        go_wp2_with fail
        refine (has_any A2 12 c2 (flatL l) k _ (H2.rd 0 rfl) (by omega)).mono ?_
        rintro e w3 ⟨rfl, rfl⟩
        replace H2 := H2.tail
        cases hc : (flatL l).contains (k : Int) with
        | true =>
          rw [hc] at HE
          have HE2 := Lib.hid (HE.out.trans (if_pos rfl))
          clear hc HE
          go_wp2_with (at_builtin; refine wp_appM (f := Value.int .i64) (H2) rfl _ _ _ rfl Try.underlying52 infoInt rfl 0 _ _ rfl rfl _ _ ((k : Int)) rfl (by simp) rfl (by first | (simp only [maxLen]; omega) | (simp [maxLen]; done) | (simp [maxLen]; omega)) (by first | omega | (simp; done) | (simp; omega)) ?_)
          intro v' w' H'
          clear H2
          go_wp2
          go_roundw
          case rel => exact ⟨k + 1, by omega, by go_num, by rw [HE2.out]; simpa using H'⟩
          case measure => simp [intOf]; omega
        | false =>
          rw [hc] at HE
          have HE2 := Lib.hid (HE.out.trans (if_neg (by simp)))
          clear hc HE
          go_wp2_with fail
          go_roundw
          case rel => exact ⟨k + 1, by omega, by go_num, by rw [HE2.out]; exact H2⟩
          case measure => simp [intOf]; omega
      · have hk24 : k = 24 := by omega
        rw [hk24] at H
        clear hk24 hbl
        obtain ⟨A5, c5, rfl⟩ := H.shape 0 rfl
        have hd : decide ((k : Int) < 24) = false := by simp; omega
        go_wp2_with fail
        go_ret
        exact H.toMade 0 rfl
  · have hok' : eOk l = false := by simpa using hok
    have HR := Lib.hid (show blocksOfL l = [] by simp [blocksOfL, hok'])
    rw [HR.out]
    go_enter Try.func27, Try.ntmps27
    go_wp2_with fail
    refine wp_loop_rounds 1 ?_
    rw [rounds_succ]
    go_wp2_with fail
    refine (specExtsOk_any A n c l _ (L0.old h) hn).mono ?_
    rintro e w1 ⟨rfl, f1⟩
    rw [hok']
    have H1 := L0.go f1
    go_wp2_with fail
    go_ret
    exact H1.toMade 0 rfl

set_option maxRecDepth 100000 in
set_option maxHeartbeats 1000000 in
theorem isort0_any (A : Option Addr) (c : Nat) (w : World) :
    Calls Try.prog 103 #[.slice A 0 c, .int .i64 0, .int .i64 0] w fun e w' => e = .returned (.tuple #[]) ∧ w = w' := by
  go_enter Try.func103, Try.ntmps103
  go_wp2_with fail
  refine wp_loop_rounds 1 ?_
  rw [rounds_succ]
  go_wp2_with fail
  go_end0
  exact ⟨rfl, rfl⟩
set_option maxRecDepth 100000 in
set_option maxHeartbeats 1000000 in
theorem pdq0_any (A : Option Addr) (c : Nat) (k : Int) (w : World) :
    Calls Try.prog 97 #[.slice A 0 c, .int .i64 0, .int .i64 0, .int .i64 k] w fun e w' => e = .returned (.tuple #[]) ∧ w = w' := by
  go_enter Try.func97, Try.ntmps97
  go_wp2_with fail
  refine wp_loop_rounds 1 ?_
  rw [rounds_succ]
  go_wp2_with fail
  refine (isort0_any A c _).mono ?_
  rintro e w1 ⟨rfl, rfl⟩
  go_wp2_with fail
  refine bodyPost_ret (results_none rfl _ _ _) rfl ?_
  exact ⟨rfl, rfl⟩
set_option maxRecDepth 100000 in
set_option maxHeartbeats 1000000 in
theorem sort0_any (A : Option Addr) (c : Nat) (w : World) :
    Calls Try.prog 79 #[.slice A 0 c] w fun e w' => e = .returned (.tuple #[]) ∧ w = w' := by
  go_enter Try.func79, Try.ntmps79
  go_wp2_with fail
  refine (blen_any 0 (by omega) _).mono ?_
  rintro e w0 ⟨k, rfl, rfl⟩
  go_wp2_with fail
  refine (pdq0_any A c k _).mono ?_
  rintro e w1 ⟨rfl, rfl⟩
  go_wp2_with fail
  go_end0
  exact ⟨rfl, rfl⟩

set_option maxRecDepth 100000 in
set_option maxHeartbeats 4000000 in
theorem implBlocksOf_any (A : Option Addr) (n c : Nat) (l : List (Int × Int × Int)) (w : World) (h : Rd w A n 3 (l.flatMap cExt)) (hn : n ≤ 1048576) :
    Calls Try.prog 26 #[.slice A n c] w (Made w 3 1 (blocksOfL l).length ((blocksOfL l).map (Value.int .i64))) := by
  by_cases hok : eOk l = true
  · have HK := Lib.hid hok
    have hl12 := cutGone_len l 0
    go_enter Try.func26, Try.ntmps26
    go_wp2_with fail
    refine (implExtsOk_any A n c l _ h hn).mono ?_
    rintro e w1 ⟨rfl, f1⟩
    rw [hok]
    clear hok
    go_wp2_with fail
    refine (implCutAt_hp A n c l 0 _ (h.fr f1) hn).mono ?_
    rintro e w2 ⟨A2, c2, A3, c3, rfl, K⟩
    have H := ((Hp.start w).go f1).join K
    clear h f1 K
    by_cases h0 : (cutGone l 0).length = 0
    · have HR := Lib.hid (show blocksOfL l = [] by
        rw [← blocks_sorted HK.out (List.Perm.refl _) (fun p q x y h1 h2 => by omega)]
        exact List.eq_nil_of_length_eq_zero h0)
      rw [h0] at H ⊢
      rw [List.eq_nil_of_length_eq_zero h0] at H
      clear h0 hl12
      go_wp2_with fail
      refine (sort0_any A3 c3 _).mono ?_
      rintro e w3 ⟨rfl, rfl⟩
      go_wp2_with fail
      go_ret
      rw [HR.out]
      exact H.toMade 1 rfl
    · obtain ⟨g, c4, e4, _⟩ := H.form 1 rfl (by omega)
      injection e4 with e5 _ e6
      subst e5 e6
      go_wp2_with fail
      refine (sort_any g (cutGone l 0).length c3 0 (cutGone l 0) _ (H.row 1 rfl) hl12).mono ?_
      rintro e w3 ⟨ys, rfl, hp, hu, K⟩
      have hys := blocks_sorted HK.out hp hu
      subst hys
      have hle := hp.length_eq
      have H2 : Hp [] w w3 [.row 92 3 (.slice A2 (cutExts l 0).length c2) (cutExts l 0).length ((cutExts l 0).flatMap cExt), .row 3 1 (.slice (some ⟨g, 0, none⟩) (cutGone l 0).length c3) (cutGone l 0).length ((blocksOfL l).map (Value.int .i64))] := H.turnRow 1 rfl K.gr (K.row 0 rfl) (.inl rfl)
      rw [← hle] at H2 ⊢
      have H3 := Lib.hid H2
      clear H H2 K hp hu hle h0 hl12
      go_wp2_with fail
      go_ret
      exact H3.out.toMade 1 rfl
  · have hok' : eOk l = false := by simpa using hok
    have HR := Lib.hid (show blocksOfL l = [] by simp [blocksOfL, hok'])
    rw [HR.out]
    go_enter Try.func26, Try.ntmps26
    go_wp2_with fail
    refine (implExtsOk_any A n c l _ h hn).mono ?_
    rintro e w1 ⟨rfl, f1⟩
    rw [hok']
    have H1 := ((Hp.start w).go f1).nil_ 3 1
    go_wp2_with fail
    go_ret
    exact H1.toMade 0 rfl
end Go.Proofs.Ytbmoolmgfpcnkaa
