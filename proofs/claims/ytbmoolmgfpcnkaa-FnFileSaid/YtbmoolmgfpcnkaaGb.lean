/-
  Many texts in one: DrawText, Blocks, MFil, Mark, NewStore, MRuns, MSetRun, BlockAt, RunS, Law, Law2.
-/
import Derived.Test.YtbmoolmgfpcnkaaDraw
import Derived.Test.YtbmoolmgfpcnkaaGa
import Derived.Test.YtbmoolmgfpcnkaaCutAt
import Derived.Deep.RegionHeld3
import Derived.Deep.RegionLaw
import Derived.Maps.AppendAt
import Derived.Test.YtbmoolmgfpcnkaaExtents
import Derived.Test.YtbmoolmgfpcnkaaExtsOk
import Derived.Test.YtbmoolmgfpcnkaaExtsOkI
import Derived.StillTailTactics
import Derived.ProofKit
import Derived.OpenVars
import Derived.Deep.Slices
import Derived.Deep.Strs
import Derived.Lib.SmallJoins
namespace Go.Proofs.Ytbmoolmgfpcnkaa
open Go.RowKit

set_option linter.unusedVariables false
theorem byte_of {y : Int} (h0 : 0 ≤ y) (h1 : y ≤ 255) : ∃ u : UInt8, y = (u.toNat : Int) := by
  refine ⟨UInt8.ofNat y.toNat, ?_⟩
  rw [UInt8.toNat_ofNat_of_lt' (by simp [UInt8.size]; omega)]
  omega
set_option maxRecDepth 100000 in
set_option maxHeartbeats 4000000 in
theorem l1Text_any (g : Nat) (A : Option Addr) (n c : Nat) (bs : List UInt8) (i h : Int) (m : Nat) (w : World) (hb : Bk w g 109 [.slice A n c, .int .i64 i, .int .i64 h])
    (hA : Rd w A n 1 (bs.map cU8)) (hne : 0 < n → ∀ ad, A = some ad → ad.block ≠ g) (h0 : 0 ≤ i) (h1 : i ≤ n) (hn : n ≤ 1048576) (hm : m ≤ 100) :
    Calls Try.prog 86 #[.pointer (some ⟨g, 0, none⟩), .int .i64 m] w fun e w' => ∃ x : ByteArray, e = .returned (.string x) ∧ x.size ≤ m ∧ CurOn g A n c w w' := by
  have hneW : 0 < n → ∀ ad, A = some ad → ad.block ∉ [g] := fun hn0 ad he => by simpa using hne hn0 ad he
  have H := (Hp.start_blk hb).lit0 5 1
  have G := Lib.hid hA
  have NE := Lib.hid hne
  have NW := Lib.hid hneW
  have hw : IntKind.i64.wrap ((m : Int) + 1) = (m : Int) + 1 := IntWalk.i64_in _ (by omega)
  clear hb hA hne hneW
  go_enter Try.func86, Try.ntmps86
  go_wp2_with fail
  refine (l1Below_any g A n c bs i h 4 _ (H.blk 1 rfl) (H.oldN G.out NW.out) NE.out h0 h1 hn (by decide)).mono ?_
  rintro e w1 ⟨sx, rfl, s0, s1, _, C⟩
  obtain ⟨i1, hh1, a1, b1, H1⟩ := H.cur 1 rfl C
  have s2 := s1 (by decide)
  clear H C s1
  go_wp2_with fail
  refine (l1Below_any g A n c bs i1 hh1 ((m : Int) + 1) _ (H1.blk 1 rfl) (H1.oldN G.out NW.out) NE.out a1 b1 hn (by omega)).mono ?_
  rintro e w2 ⟨x1, rfl, x0, xm, _, C⟩
  obtain ⟨i2, hh2, a2, b2, H2⟩ := H1.cur 1 rfl C
  have x2 := xm (by omega)
  obtain ⟨k0, rfl⟩ : ∃ q : Nat, x1 = q := ⟨x1.toNat, by omega⟩
  clear H1 C xm hw
  go_wp2_with fail
  go_loopw [5, 7] (fun v j wr => ∃ (k : Nat) (L : List UInt8) (i' h' : Int), j = .int .i64 k ∧ L.length + k ≤ m ∧ 0 ≤ i' ∧ i' ≤ n ∧
    Hp [g] w wr [.row 5 1 v L.length (L.map cU8), .blk g 109 [.slice A n c, .int .i64 i', .int .i64 h']]) (fun _ j _ => (intOf j).toNat)
  case atStart => exact ⟨k0, [], i2, hh2, rfl, by simp; omega, a2, b2, H2⟩
  case round =>
    clear H2
    obtain ⟨k, L, i3, h3, rfl, hL, a3, b3, H⟩ := hrel
    rcases Nat.eq_zero_or_pos k with hk | hk
    · subst hk
      obtain ⟨B, d, rfl⟩ := H.shape 0 rfl
      have hks := run_str (c := d) 44 9 5 Try.underlying44 Try.underlying5 Try.underlying9 (H.rd 0 rfl)
      have HH := Lib.hid H.tail
      clear H
      go_wp2_with fail
      go_ret
      exact ⟨ofB L, rfl, by rw [ofB_size]; omega, i3, h3, a3, b3, HH.out⟩
    · have hkk : (0 : Int) < (k : Int) := by omega
      go_wp2_with fail
      refine (l1Byte_any g A n c bs i3 h3 _ (H.blk 1 rfl) (H.oldN G.out NW.out) NE.out a3 b3 hn).mono ?_
      rintro e w4 ⟨y, rfl, y0, y1, C⟩
      obtain ⟨i4, h4, a4, b4, H4⟩ := H.cur 1 rfl C
      obtain ⟨u, rfl⟩ := byte_of y0 y1
      clear H C
      have hmr : ∀ q : Int, 0 < q → q ≤ 4 → IntKind.i64.wrap ((u.toNat : Int).tmod q) = (u.toNat : Int) % q := fun q q0 q4 => by
        rw [Int.tmod_eq_emod_of_nonneg y0]
        have q1 := Int.emod_nonneg (u.toNat : Int) (show q ≠ 0 by omega)
        have q2 := Int.emod_lt_of_pos (u.toNat : Int) q0
        exact IntWalk.i64_in _ (by omega)
      by_cases hs1 : sx = 1
      · have d1 : (sx == 1) = true := by simp [hs1]
        have d2 : (sx == 2) = false := by simp [hs1]
        obtain ⟨v, hv⟩ := byte_of (y := (u.toNat : Int) % 2) (by omega) (by omega)
        have hr := (hmr 2 (by decide) (by decide)).trans hv
        clear hmr hs1
        have hvv := v.toNat_lt
        have wq : IntKind.u8.wrap (v.toNat : Int) = (v.toNat : Int) := wraps_u8 _ (by omega) (by omega)
        go_wp2_with (at_builtin; refine wp_appM (f := cU8) (H4) rfl _ _ _ rfl Try.underlying44 infoU8 rfl 0 _ _ rfl rfl _ _ (v) rfl (by simp) rfl (by first | (simp only [maxLen]; omega) | (simp [maxLen]; done) | (simp [maxLen]; omega)) (by first | omega | (simp; done) | (simp; omega)) ?_)
        intro v' w5 H5
        have H6 := Lib.hid (show Hp [g] w w5 [.row 5 1 v' (L ++ [v]).length ((L ++ [v]).map cU8), .blk g 109 [.slice A n c, .int .i64 i4, .int .i64 h4]] by
          rw [List.map_append, List.length_append]; exact H5)
        clear H4 H5
        go_wp2_with fail
        go_roundw
        case rel => exact ⟨k - 1, L ++ [v], i4, h4, by go_num, by simp; omega, a4, b4, H6.out⟩
        case measure => simp [intOf]; omega
      · by_cases hs2 : sx = 2
        · have d1 : (sx == 1) = false := by simp [hs2]
          have d2 : (sx == 2) = true := by simp [hs2]
          obtain ⟨y4, hy4⟩ : ∃ y4, y4 = (u.toNat : Int) % 4 := ⟨_, rfl⟩
          obtain ⟨v, hv⟩ := byte_of (y := 97 + y4) (by omega) (by omega)
          have hr := (hmr 4 (by decide) (by decide)).trans hy4.symm
          have hr2 : IntKind.i64.wrap (97 + y4) = (v.toNat : Int) := (IntWalk.i64_in _ (by omega)).trans hv
          have hy5 : (u.toNat : Int) % 4 = y4 := hy4.symm
          clear hmr hs2 hs1 hy4
          have hvv := v.toNat_lt
          have wq : IntKind.u8.wrap (v.toNat : Int) = (v.toNat : Int) := wraps_u8 _ (by omega) (by omega)
          go_wp2_with (at_builtin; refine wp_appM (f := cU8) (H4) rfl _ _ _ rfl Try.underlying44 infoU8 rfl 0 _ _ rfl rfl _ _ (v) rfl (by simp) rfl (by first | (simp only [maxLen]; omega) | (simp [maxLen]; done) | (simp [maxLen]; omega)) (by first | omega | (simp; done) | (simp; omega)) ?_)
          intro v' w5 H5
          have H6 := Lib.hid (show Hp [g] w w5 [.row 5 1 v' (L ++ [v]).length ((L ++ [v]).map cU8), .blk g 109 [.slice A n c, .int .i64 i4, .int .i64 h4]] by
            rw [List.map_append, List.length_append]; exact H5)
          clear H4 H5
          go_wp2_with fail
          go_roundw
          case rel => exact ⟨k - 1, L ++ [v], i4, h4, by go_num, by simp; omega, a4, b4, H6.out⟩
          case measure => simp [intOf]; omega
        · have d1 : (sx == 1) = false := by simpa using hs1
          have d2 : (sx == 2) = false := by simpa using hs2
          obtain ⟨v, hv⟩ : ∃ v, v = u := ⟨_, rfl⟩
          subst hv
          clear hmr hs1 hs2
          have hvv := v.toNat_lt
          have wq : IntKind.u8.wrap (v.toNat : Int) = (v.toNat : Int) := wraps_u8 _ (by omega) (by omega)
          go_wp2_with (at_builtin; refine wp_appM (f := cU8) (H4) rfl _ _ _ rfl Try.underlying44 infoU8 rfl 0 _ _ rfl rfl _ _ (v) rfl (by simp) rfl (by first | (simp only [maxLen]; omega) | (simp [maxLen]; done) | (simp [maxLen]; omega)) (by first | omega | (simp; done) | (simp; omega)) ?_)
          intro v' w5 H5
          have H6 := Lib.hid (show Hp [g] w w5 [.row 5 1 v' (L ++ [v]).length ((L ++ [v]).map cU8), .blk g 109 [.slice A n c, .int .i64 i4, .int .i64 h4]] by
            rw [List.map_append, List.length_append]; exact H5)
          clear H4 H5
          go_wp2_with fail
          go_roundw
          case rel => exact ⟨k - 1, L ++ [v], i4, h4, by go_num, by simp; omega, a4, b4, H6.out⟩
          case measure => simp [intOf]; omega
end Go.Proofs.Ytbmoolmgfpcnkaa

namespace Go.Proofs.Ytbmoolmgfpcnkaa
open Go.RowKit

set_option maxRecDepth 100000 in
set_option maxHeartbeats 1000000 in
theorem has_any (A : Option Addr) (n c : Nat) (m : List Int) (x : Int) (w : World) (h : Rd w A n 1 (m.map (Value.int .i64))) (hn : n ≤ 1048576) :
    Calls Try.prog 77 #[.slice A n c, .int .i64 x] w fun e w' => e = .returned (.bool (m.contains x)) ∧ w = w' := by
  have HL := Lib.hid h.len1
  have G := Lib.hid h
  clear h
  go_enter Try.func77, Try.ntmps77
  go_wp2_with fail
  go_loopw [5] (fun i wr => ∃ k : Nat, k ≤ n ∧ i = .int .i64 k ∧ (∀ y ∈ m.take k, y ≠ x) ∧ w = wr) (fun i _ => n - (intOf i).toNat)
  case atStart => exact ⟨0, by omega, rfl, by simp, rfl⟩
  case round =>
    obtain ⟨k, hk, rfl, hall, rfl⟩ := hrel
    have HA := Lib.hid hall
    clear hall
    by_cases hlt : k < n
    · obtain ⟨y, hy⟩ := at_some HL.out hlt
      obtain ⟨b0, o0, rfl, cy⟩ := G.out.get1 hy
      by_cases he : y = x
      · have hd : (y == x) = true := by simp [he]
        have HX := Lib.hid (show m.contains x = true by rw [List.contains_iff_mem, ← he]; exact hy.mem)
        clear he
        go_wp2_with fail
        go_ret
        exact ⟨ret_bool HX.out.symm, rfl⟩
      · have hd : (y == x) = false := by simpa using he
        have HE := Lib.hid he
        clear he
        go_wp2_with fail
        go_roundw
        case rel => exact ⟨k + 1, by omega, by go_num, by
          rw [hy.take]
          intro z hz
          rcases List.mem_append.1 hz with h1 | h1
          · exact HA.out z h1
          · rw [List.mem_singleton] at h1; subst h1; exact HE.out, by first | trivial | rfl⟩
        case measure => simp [intOf]; omega
    · have HX := Lib.hid (show m.contains x = false by
        rw [← Bool.not_eq_true, List.contains_iff_mem]
        intro hm
        exact HA.out x (by rw [List.take_of_length_le (by rw [HL.out]; omega)]; exact hm) rfl)
      go_wp2_with fail
      go_ret
      exact ⟨ret_bool HX.out.symm, rfl⟩

set_option maxRecDepth 100000 in
set_option maxHeartbeats 4000000 in
theorem specBlocksOf_any (A : Option Addr) (n c : Nat) (l : List (Int × Int × Int)) (w : World) (h : Rd w A n 3 (l.flatMap cExt)) (hn : n ≤ 1048576) :
    Calls Try.prog 27 #[.slice A n c] w (Made w 3 1 (blocksOfL l).length ((blocksOfL l).map (Value.int .i64))) := by
  have L0 := (Hp.start w).lit0 3 1
  by_cases hok : eOk l = true
  · have HR := Lib.hid (show blocksOfL l = blocksTo l 24 by rw [blocksOfL, if_pos hok]; rfl)
    have OK := Lib.hid (eOk_ranges hok)
    have HK := Lib.hid hok
    have G := Lib.hid h
    clear h hok
    rw [HR.out]
    go_enter Try.func27, Try.ntmps27
    go_wp2_with fail
    go_loopw [3, 4] (fun v j wr => ∃ k : Nat, k ≤ 24 ∧ j = .int .i64 k ∧ Hp [] w wr [.row 3 1 v (blocksTo l k).length ((blocksTo l k).map (Value.int .i64))]) (fun _ j _ => 24 - (intOf j).toNat)
    case atStart => exact ⟨0, by omega, rfl, L0⟩
    case round =>
      clear L0
      obtain ⟨k, hk, rfl, H⟩ := hrel
      have hbl := blocksTo_len l k
      by_cases hlt : k < 24
      · have HE := Lib.hid (blocksTo_succ l k)
        go_wp2_with fail
        refine (specExtsOk_any A n c l _ (H.old G.out) hn).mono ?_
        rintro e w1 ⟨rfl, f1⟩
        have H1 := H.go f1
        clear H f1
        rw [HK.out]
        go_wp2_with fail
        refine (specMap_any A n c l _ (H1.old G.out) OK.out hn).mono ?_
        rintro e w2 ⟨A2, c2, rfl, o2, f2⟩
        have H2 := H1.made o2 f2
        clear H1 o2 f2
        go_wp2_with fail
        refine (has_any A2 12 c2 (flatL l) k _ (H2.rd 0 rfl) (by omega)).mono ?_
        rintro e w3 ⟨rfl, rfl⟩
        replace H2 := H2.tail
        cases hc : (flatL l).contains (k : Int) with
        | true =>
          rw [hc] at HE
          have HE2 := Lib.hid (HE.out.trans (if_pos rfl))
          clear hc HE
          go_wp2_with (at_builtin; refine wp_appM (f := Value.int .i64) (H2) rfl _ _ _ rfl Try.underlying52 infoInt rfl 0 _ _ rfl rfl _ _ ((k : Int)) rfl (by simp) rfl (by first | (simp only [maxLen]; omega) | (simp [maxLen]; done) | (simp [maxLen]; omega)) (by first | omega | (simp; done) | (simp; omega)) ?_)
          intro v' w' H'
          clear H2
          go_wp2
          go_roundw
          case rel => exact ⟨k + 1, by omega, by go_num, by rw [HE2.out]; simpa using H'⟩
          case measure => simp [intOf]; omega
        | false =>
          rw [hc] at HE
          have HE2 := Lib.hid (HE.out.trans (if_neg (by simp)))
          clear hc HE
          go_wp2_with fail
          go_roundw
          case rel => exact ⟨k + 1, by omega, by go_num, by rw [HE2.out]; exact H2⟩
          case measure => simp [intOf]; omega
      · have hk24 : k = 24 := by omega
        rw [hk24] at H
        clear hk24 hbl
        obtain ⟨A5, c5, rfl⟩ := H.shape 0 rfl
        have hd : decide ((k : Int) < 24) = false := by simp; omega
        go_wp2_with fail
        go_ret
        exact H.toMade 0 rfl
  · have hok' : eOk l = false := by simpa using hok
    have HR := Lib.hid (show blocksOfL l = [] by simp [blocksOfL, hok'])
    rw [HR.out]
    go_enter Try.func27, Try.ntmps27
    go_wp2_with fail
    refine wp_loop_rounds 1 ?_
    rw [rounds_succ]
    go_wp2_with fail
    refine (specExtsOk_any A n c l _ (L0.old h) hn).mono ?_
    rintro e w1 ⟨rfl, f1⟩
    rw [hok']
    have H1 := L0.go f1
    go_wp2_with fail
    go_ret
    exact H1.toMade 0 rfl

set_option maxRecDepth 100000 in
set_option maxHeartbeats 1000000 in
theorem isort0_any (A : Option Addr) (c : Nat) (w : World) :
    Calls Try.prog 103 #[.slice A 0 c, .int .i64 0, .int .i64 0] w fun e w' => e = .returned (.tuple #[]) ∧ w = w' := by
  go_enter Try.func103, Try.ntmps103
  go_wp2_with fail
  refine wp_loop_rounds 1 ?_
  rw [rounds_succ]
  go_wp2_with fail
  go_end0
  exact ⟨rfl, rfl⟩
set_option maxRecDepth 100000 in
set_option maxHeartbeats 1000000 in
theorem pdq0_any (A : Option Addr) (c : Nat) (k : Int) (w : World) :
    Calls Try.prog 97 #[.slice A 0 c, .int .i64 0, .int .i64 0, .int .i64 k] w fun e w' => e = .returned (.tuple #[]) ∧ w = w' := by
  go_enter Try.func97, Try.ntmps97
  go_wp2_with fail
  refine wp_loop_rounds 1 ?_
  rw [rounds_succ]
  go_wp2_with fail
  refine (isort0_any A c _).mono ?_
  rintro e w1 ⟨rfl, rfl⟩
  go_wp2_with fail
  refine bodyPost_ret (results_none rfl _ _ _) rfl ?_
  exact ⟨rfl, rfl⟩
set_option maxRecDepth 100000 in
set_option maxHeartbeats 1000000 in
theorem sort0_any (A : Option Addr) (c : Nat) (w : World) :
    Calls Try.prog 79 #[.slice A 0 c] w fun e w' => e = .returned (.tuple #[]) ∧ w = w' := by
  go_enter Try.func79, Try.ntmps79
  go_wp2_with fail
  refine (blen_any 0 (by omega) _).mono ?_
  rintro e w0 ⟨k, rfl, rfl⟩
  go_wp2_with fail
  refine (pdq0_any A c k _).mono ?_
  rintro e w1 ⟨rfl, rfl⟩
  go_wp2_with fail
  go_end0
  exact ⟨rfl, rfl⟩

set_option maxRecDepth 100000 in
set_option maxHeartbeats 4000000 in
theorem implBlocksOf_any (A : Option Addr) (n c : Nat) (l : List (Int × Int × Int)) (w : World) (h : Rd w A n 3 (l.flatMap cExt)) (hn : n ≤ 1048576) :
    Calls Try.prog 26 #[.slice A n c] w (Made w 3 1 (blocksOfL l).length ((blocksOfL l).map (Value.int .i64))) := by
  by_cases hok : eOk l = true
  · have HK := Lib.hid hok
    have hl12 := cutGone_len l 0
    go_enter Try.func26, Try.ntmps26
    go_wp2_with fail
    refine (implExtsOk_any A n c l _ h hn).mono ?_
    rintro e w1 ⟨rfl, f1⟩
    rw [hok]
    clear hok
    go_wp2_with fail
    refine (implCutAt_hp A n c l 0 _ (h.fr f1) hn).mono ?_
    rintro e w2 ⟨A2, c2, A3, c3, rfl, K⟩
    have H := ((Hp.start w).go f1).join K
    clear h f1 K
    by_cases h0 : (cutGone l 0).length = 0
    · have HR := Lib.hid (show blocksOfL l = [] by
        rw [← blocks_sorted HK.out (List.Perm.refl _) (fun p q x y h1 h2 => by omega)]
        exact List.eq_nil_of_length_eq_zero h0)
      rw [h0] at H ⊢
      rw [List.eq_nil_of_length_eq_zero h0] at H
      clear h0 hl12
      go_wp2_with fail
      refine (sort0_any A3 c3 _).mono ?_
      rintro e w3 ⟨rfl, rfl⟩
      go_wp2_with fail
      go_ret
      rw [HR.out]
      exact H.toMade 1 rfl
    · obtain ⟨g, c4, e4, _⟩ := H.form 1 rfl (by omega)
      injection e4 with e5 _ e6
      subst e5 e6
      go_wp2_with fail
      refine (sort_any g (cutGone l 0).length c3 0 (cutGone l 0) _ (H.row 1 rfl) hl12).mono ?_
      rintro e w3 ⟨ys, rfl, hp, hu, K⟩
      have hys := blocks_sorted HK.out hp hu
      subst hys
      have hle := hp.length_eq
      have H2 : Hp [] w w3 [.row 92 3 (.slice A2 (cutExts l 0).length c2) (cutExts l 0).length ((cutExts l 0).flatMap cExt), .row 3 1 (.slice (some ⟨g, 0, none⟩) (cutGone l 0).length c3) (cutGone l 0).length ((blocksOfL l).map (Value.int .i64))] := H.turnRow 1 rfl K.gr (K.row 0 rfl) (.inl rfl)
      rw [← hle] at H2 ⊢
      have H3 := Lib.hid H2
      clear H H2 K hp hu hle h0 hl12
      go_wp2_with fail
      go_ret
      exact H3.out.toMade 1 rfl
  · have hok' : eOk l = false := by simpa using hok
    have HR := Lib.hid (show blocksOfL l = [] by simp [blocksOfL, hok'])
    rw [HR.out]
    go_enter Try.func26, Try.ntmps26
    go_wp2_with fail
    refine (implExtsOk_any A n c l _ h hn).mono ?_
    rintro e w1 ⟨rfl, f1⟩
    rw [hok']
    have H1 := ((Hp.start w).go f1).nil_ 3 1
    go_wp2_with fail
    go_ret
    exact H1.toMade 0 rfl
end Go.Proofs.Ytbmoolmgfpcnkaa

namespace Go.Proofs.Ytbmoolmgfpcnkaa
open Go.RowKit

def endsI (z : Int) : Int := (z + 3) / 4
/-- Nothing but noughts from byte k on. -/
def zeroFrom (s : ByteArray) (k : Nat) : Bool := decide ((toB s).drop k = zB (4 - k))
def blkOkAt (bits : List Bool) (data : List ByteArray) (z : Int) (i : Nat) (x : Int) : Bool :=
  decide (x < 0) || (decide ((i : Int) < endsI z) && bits.getD x.toNat false && zeroFrom (data.getD x.toNat default) (min 4 (z - 4 * i)).toNat)
def filRest (bits : List Bool) (data : List ByteArray) (z : Int) (m : List Int) : Bool := (List.range 12).all fun i => blkOkAt bits data z i (m.getD i (-1))
def filOk (bits : List Bool) (data : List ByteArray) (z : Int) (l : List (Int × Int × Int)) : Bool :=
  stOk bits data && inB z 0 48 && eOk l && filRest bits data z (flatL l)
theorem stOk_iff {bits : List Bool} {data : List ByteArray} : stOk bits data = true ↔ bits.length = 24 ∧ data.length = 24 ∧ ∀ s ∈ data, s.size = 4 := by
  simp [stOk, and_assoc]
theorem filRest_no {bits : List Bool} {data : List ByteArray} {z : Int} {m : List Int} {i : Nat} {x : Int} (hi : i < 12) (hx : m[i]? = some x) (h : blkOkAt bits data z i x = false) : filRest bits data z m = false := by
  rw [filRest, List.all_eq_false]
  exact ⟨i, List.mem_range.2 hi, by simp [List.getD_eq_getElem?_getD, hx, h]⟩
theorem filRest_yes {bits : List Bool} {data : List ByteArray} {z : Int} {m : List Int} {k : Nat} (hk : 12 ≤ k) (h : ∀ i, i < k → blkOkAt bits data z i (m.getD i (-1)) = true) : filRest bits data z m = true := by
  rw [filRest, List.all_eq_true]
  intro i hi
  exact h i (by have := List.mem_range.1 hi; omega)
theorem zeroFrom_cmp {s : ByteArray} (h : s.size = 4) (k : Nat) : ((s.extract k s.size).toList == (ofB (zB (4 - k))).toList) = zeroFrom s k := by
  rw [cmpB, toB_extract, toB_ofB, zeroFrom, List.take_of_length_le (by rw [List.length_drop, toB_len, h]; omega)]
theorem zeroFrom_four {s : ByteArray} (h : s.size = 4) {k : Nat} (hk : 4 ≤ k) : zeroFrom s k = true := by
  rw [zeroFrom, List.drop_of_length_le (by rw [toB_len]; omega), show 4 - k = 0 from by omega]; simp [zB]
/-- What the reference asks of the last block alone. -/
theorem filRest_spec {bits : List Bool} {data : List ByteArray} {z : Int} {m : List Int} (hd : ∀ s ∈ data, s.size = 4) (hl : data.length = 24) (hz : 0 ≤ z) (hm : BlkOk m) (hml : m.length = 12)
    (h : ∀ i, i < 12 → m.getD i (-1) < 0 ∨ ((i : Int) < endsI z ∧ bits.getD (m.getD i (-1)).toNat false = true)) :
    filRest bits data z m = (decide (z % 4 = 0) || decide (m.getD (endsI z - 1).toNat (-1) < 0) || zeroFrom (data.getD (m.getD (endsI z - 1).toNat (-1)).toNat default) (z % 4).toNat) := by
  have key : ∀ i, i < 12 → blkOkAt bits data z i (m.getD i (-1)) = (decide (z % 4 = 0) || decide ((i : Int) ≠ endsI z - 1) || decide (m.getD i (-1) < 0) || zeroFrom (data.getD (m.getD i (-1)).toNat default) (z % 4).toNat) := by
    intro i hi
    have hx : m.getD i (-1) ≤ 23 := by
      rw [List.getD_eq_getElem?_getD, List.getElem?_eq_getElem (by omega), Option.getD_some]
      exact (hm _ (List.getElem_mem _)).2
    rcases h i hi with h1 | ⟨h1, h2⟩
    · simp only [blkOkAt, h1, decide_true, Bool.true_or, Bool.or_true]
    · by_cases hn : m.getD i (-1) < 0
      · simp only [blkOkAt, hn, decide_true, Bool.true_or, Bool.or_true]
      · have hs : (data.getD (m.getD i (-1)).toNat default).size = 4 := by
          rw [List.getD_eq_getElem?_getD, List.getElem?_eq_getElem (l := data) (by omega), Option.getD_some]
          exact hd _ (List.getElem_mem _)
        simp only [blkOkAt, hn, h1, h2, decide_true, decide_false, Bool.true_and, Bool.false_or, Bool.or_false]
        unfold endsI at h1 ⊢
        by_cases h4 : z % 4 = 0
        · rw [zeroFrom_four hs (by omega)]; simp [h4]
        · by_cases he : (i : Int) = (z + 3) / 4 - 1
          · rw [show (min 4 (z - 4 * (i : Int))).toNat = (z % 4).toNat from by omega]
            simp [h4, he]
          · rw [zeroFrom_four hs (by omega)]; simp [he]
  unfold filRest
  by_cases h4 : z % 4 = 0
  · simp only [h4, decide_true, Bool.true_or]
    rw [List.all_eq_true]
    intro i hi
    rw [key i (List.mem_range.1 hi)]
    simp [h4]
  · obtain ⟨e, he⟩ : ∃ e : Nat, (e : Int) = endsI z - 1 := ⟨(endsI z - 1).toNat, by unfold endsI; omega⟩
    have hte : (endsI z - 1).toNat = e := by omega
    rw [hte]
    by_cases he12 : e < 12
    · rw [Bool.eq_iff_iff, List.all_eq_true]
      constructor
      · intro ha
        have := ha e (List.mem_range.2 he12)
        rw [key e he12] at this
        simpa [h4, he] using this
      · intro hr i hi
        rw [key i (List.mem_range.1 hi)]
        by_cases hie : (i : Int) = endsI z - 1
        · have : i = e := by omega
          subst this
          simpa [h4, he] using hr
        · simp [hie]
    · have hn : m.getD e (-1) = -1 := by rw [List.getD_eq_getElem?_getD, List.getElem?_eq_none (by omega)]; rfl
      rw [hn]
      simp only [show decide ((-1 : Int) < 0) = true from rfl, Bool.or_true, Bool.true_or]
      rw [List.all_eq_true]
      intro i hi
      rw [key i (List.mem_range.1 hi)]
      have hi' := List.mem_range.1 hi
      have : (i : Int) ≠ endsI z - 1 := by omega
      simp [this]

/-- The bytes of a block of a file; all bytes. -/
def blkB (data : List ByteArray) (x : Int) : List UInt8 := if x < 0 then zB 4 else toB (data.getD x.toNat default)
def bytesTo (data : List ByteArray) (m : List Int) (k : Nat) : List UInt8 := ((m.take k).map (blkB data)).flatten
def wholeL (data : List ByteArray) (m : List Int) (z : Int) : List UInt8 := (bytesTo data m 12).take z.toNat
theorem bytesTo_succ {data : List ByteArray} {m : List Int} {k : Nat} {x : Int} (h : m[k]? = some x) : bytesTo data m (k + 1) = bytesTo data m k ++ blkB data x := by
  simp [bytesTo, List.take_add_one, h]
theorem blkB_len {data : List ByteArray} {x : Int} (hd : ∀ s ∈ data, s.size = 4) (hl : data.length = 24) (hx : x ≤ 23) : (blkB data x).length = 4 := by
  unfold blkB
  split
  · simp [zB]
  · rw [toB_len, List.getD_eq_getElem?_getD, List.getElem?_eq_getElem (by omega), Option.getD_some]
    exact hd _ (List.getElem_mem _)
theorem bytesTo_len {data : List ByteArray} {m : List Int} (hd : ∀ s ∈ data, s.size = 4) (hl : data.length = 24) (hm : BlkOk m) (hml : m.length = 12) : ∀ k, k ≤ 12 → (bytesTo data m k).length = 4 * k
  | 0, _ => by simp [bytesTo]
  | k + 1, hk => by
    obtain ⟨x, hx⟩ := some_at hml (show k < 12 by omega)
    rw [bytesTo_succ hx, List.length_append, bytesTo_len hd hl hm hml k (by omega), blkB_len hd hl (hm x (List.mem_of_getElem? hx)).2]
    omega
end Go.Proofs.Ytbmoolmgfpcnkaa

namespace Go.Proofs.Ytbmoolmgfpcnkaa
open Go.RowKit

/-- The digits of a number. -/
def dg (k : Nat) : List UInt8 := if _h : k = 0 then [] else dg (k / 10) ++ [UInt8.ofNat (48 + k % 10)]
termination_by k
decreasing_by omega
theorem dg_zero : dg 0 = [] := by rw [dg]; simp
theorem dg_pos {k : Nat} (h : 0 < k) : dg k = dg (k / 10) ++ [UInt8.ofNat (48 + k % 10)] := by rw [dg, dif_neg (by omega)]
theorem dg_len : ∀ k : Nat, (dg k).length ≤ k := by
  intro k
  induction k using Nat.strongRecOn with
  | _ k ih =>
    by_cases h : 0 < k
    · have := ih (k / 10) (by omega)
      rw [dg_pos h, List.length_append, List.length_singleton]
      omega
    · rw [show k = 0 from by omega, dg_zero]; simp
def markB (k : Nat) : List UInt8 := if k = 0 then [109, 48] else 109 :: dg k
def markS (k : Nat) : ByteArray := ofB (markB k)
theorem markS_size (k : Nat) : (markS k).size ≤ k + 2 := by
  unfold markS markB
  rw [ofB_size]
  split
  · simp
  · have := dg_len k; simp; omega

set_option maxRecDepth 100000 in
set_option maxHeartbeats 2000000 in
theorem markText_any (k : Nat) (w : World) (hk : k ≤ 1099511627776) :
    Calls Try.prog 92 #[.int .i64 k] w fun e w' => e = .returned (.string (markS k)) ∧ Fr w w' := by
  by_cases h0 : k = 0
  · subst h0
    go_enter Try.func92, Try.ntmps92
    go_wp2
    go_ret
    exact ⟨rfl, Below.refl _ _⟩
  have H := Hp.start w
  go_enter Try.func92, Try.ntmps92
  go_wp2_with fail
  go_loopw [0, 3] (fun x v wr => ∃ (j : Nat) (t : List UInt8), x = .int .i64 j ∧ j ≤ k ∧ v = .string (ofB t) ∧ dg j ++ t = dg k ∧ Fr w wr) (fun x _ _ => (intOf x).toNat)
  case atStart => exact ⟨k, [], rfl, Nat.le_refl _, rfl, by simp, Below.refl _ _⟩
  case round =>
    obtain ⟨j, t, rfl, hj, rfl, hd, hfr⟩ := hrel
    have HD := Lib.hid hd
    have hsz : (ofB t).size ≤ 1099511627776 := by
      rw [ofB_size]
      have h1 := dg_len k
      have h2 := congrArg List.length hd
      rw [List.length_append] at h2
      omega
    clear hd
    by_cases hp : 0 < j
    · have hm : (j : Int).tmod 10 = ((j % 10 : Nat) : Int) := by rw [Int.tmod_eq_emod_of_nonneg (by omega)]; omega
      have hq : (j : Int).tdiv 10 = ((j / 10 : Nat) : Int) := by rw [Int.tdiv_eq_ediv_of_nonneg (by omega)]; omega
      have hb : j % 10 < 10 := Nat.mod_lt _ (by decide)
      obtain ⟨r, hr⟩ : ∃ r, r = j % 10 := ⟨_, rfl⟩
      obtain ⟨q, hq2⟩ : ∃ q, q = j / 10 := ⟨_, rfl⟩
      rw [← hr] at hm hb
      rw [← hq2] at hq
      have HR := Lib.hid hr
      have hqb : q ≤ 1099511627776 := by omega
      have HQ := Lib.hid hq2
      clear hr hq2
      obtain ⟨d, hd⟩ : ∃ d, d = UInt8.ofNat (48 + r) := ⟨_, rfl⟩
      have hcd : cU8 d = .int .u8 (48 + (r : Int)) := by
        subst hd
        simp only [cU8]
        congr 1
        rw [UInt8.toNat_ofNat_of_lt' (by simp [UInt8.size]; omega)]
        omega
      have HS := Lib.hid (show dg j ++ t = dg q ++ (d :: t) by rw [dg_pos hp, ← HR.out, ← HQ.out, ← hd, List.append_assoc]; rfl)
      have hr1 : Rd (wr.alloc (.cells #[.int .u8 (48 + (r : Int))] 5)) (some ⟨wr.heap.size, 0, none⟩) 1 1 ([d].map cU8) := by
        rw [List.map_singleton, hcd]
        exact ((Hp.start wr).lit 5 1 1 [.int .u8 (48 + (r : Int))] rfl (by simp [maxLen])).rd 0 rfl
      have hc := run_str (c := 1) 44 9 5 Try.underlying44 Try.underlying5 Try.underlying9 hr1
      have hs1 : (ofB [d]).size = 1 := rfl
      have HA := Lib.hid (ofB_append [d] t)
      have HF := Lib.hid hfr
      clear hr1 hd hcd hfr
      go_wp2
      go_roundw
      case rel => exact ⟨q, d :: t, rfl, by have := HQ.out; omega, congrArg Value.string HA.out, by rw [← HS.out]; exact HD.out, Fr.al HF.out _⟩
      case measure => have := HQ.out; simp [intOf]; omega
    · have hj0 : j = 0 := by omega
      subst hj0
      have HA := Lib.hid (show ofB [109] ++ ofB t = markS k by rw [ofB_append, markS, markB, if_neg h0, ← HD.out, dg_zero]; rfl)
      have hs1 : (ofB [109]).size = 1 := rfl
      clear HD
      go_wp2
      go_ret
      exact ⟨congrArg (fun s => Ending.returned (.string s)) HA.out, hfr⟩

/-- The marks of n texts, from the number k on. -/
def marksString (n k : Nat) : List ByteArray := (List.range n).map fun (i : Nat) => markS (k + i)
theorem marksString_at {n k i : Nat} (h : i < n) : (marksString n k)[i]? = some (markS (k + i)) := by simp [marksString, h]
theorem marksString_take (n k i : Nat) (h : i ≤ n) : (marksString n k).take i = marksString i k := by
  rw [marksString, marksString, ← List.map_take, List.take_range, Nat.min_eq_left h]

set_option maxRecDepth 100000 in
set_option maxHeartbeats 2000000 in
theorem markStringS_any (A : Option Addr) (n c k base : Nat) (xs : List Value) (w : World) (h : w.ownsRow base 9 1 (.slice A n c) n xs) (hn : n ≤ 16777216) (hk : k ≤ 1073741824) :
    Calls Try.prog 64 #[.slice A n c, .int .i64 k] w fun e w' => e = .returned (.int .i64 ((k + n : Nat) : Int)) ∧ w'.ownsRow base 9 1 (.slice A n c) n ((marksString n k).map Value.string) ∧ w.grownBy w' (Value.slice A n c).ownBlock := by
  have hxl := h.1
  have HX := Lib.hid hxl
  have H := Lib.hid h
  clear hxl h
  go_enter Try.func64, Try.ntmps64
  go_wp2_with fail
  go_loopw [1, 5] (fun v i wr => ∃ j : Nat, j ≤ n ∧ i = .int .i64 j ∧ v = .int .i64 ((k + j : Nat) : Int) ∧ wr.ownsRow base 9 1 (.slice A n c) n ((marksString j k).map Value.string ++ xs.drop j) ∧ w.grownBy wr (Value.slice A n c).ownBlock)
    (fun _ i _ => n - (intOf i).toNat)
  case atStart => exact ⟨0, Nat.zero_le _, rfl, by simp, by simpa [marksString] using H.out, World.grownBy.refl _ _⟩
  case round =>
    obtain ⟨i, hi, rfl, rfl, hown, hgr⟩ := hrel
    by_cases hlt : i < n
    · obtain ⟨g, rfl, _, _⟩ := own_form hown (by omega)
      have HO := Lib.hid hown
      have HG := Lib.hid hgr
      obtain ⟨p, hp⟩ : ∃ p, p = k + i := ⟨_, rfl⟩
      rw [← hp]
      have HP := Lib.hid hp
      have hpb : p ≤ 1099511627776 := by omega
      clear hp hown hgr
      go_wp2_with fail
      refine (markText_any p _ hpb).mono ?_
      rintro e w2 ⟨rfl, f2⟩
      have hown := own_fr HO.out f2
      have hgr := World.grownBy.trans HG.out (f2.grown _)
      have hst := (hown.stored i (Value.string (markS p))).1
      have hse := sets_elem (f := fun x => [Value.string x]) (K := 1) (l := marksString n k) (x := markS (k + i)) (fun _ => rfl) (marksString_at hlt) HX.out hlt
      rw [marksString_take _ _ _ (by omega), marksString_take _ _ _ (by omega), ← List.map_eq_flatMap, ← List.map_eq_flatMap, Nat.mul_one, Nat.mul_one, ← HP.out] at hse
      have HST := Lib.hid hst
      have HSE := Lib.hid hse
      have HG2 := Lib.hid hgr
      have hf0 := hown.frozenAt i
      have ⟨d0, hd0⟩ : ∃ d, w2.cell? ⟨g, i, none⟩ = some d := by rw [hown.cellAt _ (by omega)]; exact ⟨_, List.getElem?_eq_getElem (by have := hown.1; omega)⟩
      clear hst hse hown hgr
      go_wp2
      go_roundw
      case rel => exact ⟨i + 1, by omega, by go_num, by rw [← Nat.add_assoc, ← HP.out]; go_num, by rw [← HSE.out]; simpa [sets] using HST.out, grown_set HG2.out⟩
      case measure => simp [intOf]; omega
    · obtain rfl : i = n := by omega
      rw [List.drop_of_length_le (by have := HX.out; omega), List.append_nil] at hown
      go_wp2
      go_ret
      exact ⟨rfl, hown, hgr⟩

set_option maxRecDepth 100000 in
set_option maxHeartbeats 2000000 in
theorem heldStringS_any (A : Option Addr) (n c k : Nat) (w : World) (h : Rd w A n 1 ((marksString n k).map Value.string)) (hn : n ≤ 16777216) (hk : k ≤ 1073741824) :
    Calls Try.prog 67 #[.slice A n c, .int .i64 k] w fun e w' => e = .returned (.int .i64 ((k + n : Nat) : Int)) ∧ Fr w w' := by
  go_enter Try.func67, Try.ntmps67
  go_wp2_with fail
  go_loopw [1, 5] (fun v i wr => ∃ j : Nat, j ≤ n ∧ i = .int .i64 j ∧ v = .int .i64 ((k + j : Nat) : Int) ∧ Fr w wr) (fun _ i _ => n - (intOf i).toNat)
  case atStart => exact ⟨0, Nat.zero_le _, rfl, by simp, Below.refl _ _⟩
  case round =>
    obtain ⟨i, hi, rfl, rfl, hfr⟩ := hrel
    by_cases hlt : i < n
    · have hrd := h.fr hfr
      obtain ⟨bk, of, rfl, hc⟩ := hrd.get1 (marksString_at hlt)
      obtain ⟨p, hp⟩ : ∃ p, p = k + i := ⟨_, rfl⟩
      rw [← hp] at hc ⊢
      have HP := Lib.hid hp
      have hpb : p ≤ 1099511627776 := by omega
      have hcd : wr.drew.cell? ⟨bk, of + i, none⟩ = some (.string (markS p)) := by simpa using hc
      have HF := Lib.hid hfr
      clear h hrd hp hfr
      go_wp2_with fail
      go_region_held3 (fun w' => w'.cell? ⟨bk, of + i, none⟩ = some (.string (markS p)))
        (first | exact hcd | exact hc2)
        ((first
          | (go_at_call 92
             refine (markText_any p _ hpb).mono ?_
             rintro e w2 ⟨rfl, f2⟩
             have hc2 := cell_later f2 hcd
             have F2 := f2)))
      go_wp2_with fail
      go_roundw
      case rel => exact ⟨i + 1, by omega, by go_num, by rw [← Nat.add_assoc, ← HP.out]; go_num, HF.out.then (Fr.then (Fr.drew_ _) F2)⟩
      case measure => simp [intOf]; omega
    · obtain rfl : i = n := by omega
      go_wp2
      go_ret
      exact ⟨rfl, hfr⟩

end Go.Proofs.Ytbmoolmgfpcnkaa

namespace Go.Proofs.Ytbmoolmgfpcnkaa
open Go.RowKit

section
variable {P : Program} {ops : Array Oper} {o : Oper} {a : Act} {Q : Exit → Act → World → Prop} {E : TypeId} {z : Value} {bytes : Nat} {W : List Nat} {w0 w : World} {l : List Ob}
/-- 'append(s, x)' as a step of a region that draws its order. -/
theorem step_appM {α : Type} {f : α → Value} {K : Act → World → Prop} {E0 : Prop} (H : Hp W w0 w l) (hgd : o.guard = none) (s x : Operand) (t : TypeId) (ho : o.op = .call { callee := .builtin .append, args := #[s, x], argTypes := #[t, t] })
    (ht : P.underlying t = some (.slice E)) (hI : (P.info? E).map (fun i => (i.zero, i.size, i.bytes)) = some (some z, 1, bytes)) (hzs : z.cells.size = 1)
    (i : Nat) (v : Value) (L : List α) (hrow : l[i]? = some (.row E 1 v L.length (L.map f))) (hs : a.eval s = v) (g : Nat) (T : TypeId) (y : α) (hx : a.eval x = .slice (some ⟨g, 0, none⟩) 1 1) (hg : g = w.heap.size)
    (h1 : (f y).oneCell' = true) (h63 : L.length + 1 ≤ maxLen) (hbytes : (L.length + 1) * bytes ≤ 140737488355328)
    (h : ∀ v' w', Hp W w0 w' (l.set i (.row E 1 v' (L ++ [y]).length ((L ++ [y]).map f))) → K (a.put o.dst v') w') :
    if Region.wanted o (yielded ops a.tmps) = true then Oper.wp P o a (w.alloc (.cells #[f y] T)) K Q else E0 := by
  subst hg
  rw [if_pos (by simp [Region.wanted, hgd])]
  obtain ⟨inf, hi, hz, hsize, hby⟩ := info_parts hI
  have HA := H.al (.cells #[f y] T)
  obtain ⟨v', w', hr, h2, h3, _, h5⟩ := run_append_own_at (P := P) (w.alloc (.cells #[f y] T)) 0 t o.type E inf z 1 bytes ht hi hz hsize hby hzs Nat.one_pos v L.length (L.map f) (HA.row i hrow) ⟨w.heap.size, 0, none⟩ 1 1 [f y] (by simp) (by simpa using news_at w #[f y] T) (by simpa using h1) h63 hbytes (Nat.zero_le _)
  have hres := h v' w' (by
    have h6 := HA.grow i hrow h3 h2 (h5.imp id fun e g hg => by rw [e] at hg; injection hg with hg; omega)
    rwa [show L.map f ++ [f y] = (L ++ [y]).map f from by simp, show L.length + 1 = (L ++ [y]).length from by simp] at h6)
  unfold Oper.wp execOp
  simp only [ho, resolve, invoke, builtin, Sem.run_bind, Sem.run_pure, Result.andThen_ok, List.map_toArray, List.map_cons, List.map_nil, hs, hx, hr]
  exact hres
end

def nilSt : List Value := [.slice none 0 0, .slice none 0 0]
def newBits : List Bool := List.replicate 24 false
def newData (n : Nat) : List ByteArray := List.replicate n (ofB (zB 4))
theorem newData_succ (n : Nat) : newData n ++ [ofB (zB 4)] = newData (n + 1) := by simp [newData, List.replicate_succ']
theorem newData_len (n : Nat) : (newData n).length = n := by simp [newData]

def NewS (w : World) (e : Ending) (w' : World) : Prop := ∃ A c B d, e = .returned (.agg #[.slice A 24 c, .slice B 24 d]) ∧ Hp [] w w' [.row 9 1 (.slice B 24 d) 24 ((newData 24).map Value.string), .row 4 1 (.slice A 24 c) 24 (newBits.map Value.bool)]

set_option maxRecDepth 100000 in
set_option maxHeartbeats 4000000 in
theorem specNewStore_any (w : World) : Calls Try.prog 30 #[] w fun e w' => NewS w e w' := by
  have H0 := (Hp.start w).lay_ 31 nilSt rfl
  go_enter Try.func30, Try.ntmps30
  go_wp2_with (at_make; refine wp_mk (H0) rfl _ _ _ rfl Try.underlying22 infoBool rfl rfl (24) _ _ _ _ rfl rfl rfl rfl (by first | omega | (simp; done) | (simp; omega)) (by first | (simp only [maxLen]; omega) | (simp [maxLen]; done) | (simp [maxLen]; omega)) ?_)
  intro w1 H1_
  have H1 : Hp [] w w1 [.row 4 1 (.slice (some ⟨w.heap.size + 1, 0, none⟩) 24 24) 24 (newBits.map Value.bool), .blk w.heap.size 31 nilSt] := H1_
  clear H1_
  have H2 := (H1.lay_ 31 [.slice (some ⟨w.heap.size + 1, 0, none⟩) 24 24, .slice none 0 0] rfl)
  have H3 : Hp [] w (w1.alloc (.cells #[.slice (some ⟨w.heap.size + 1, 0, none⟩) 24 24, .slice none 0 0] 31)) [.row 9 1 (.slice none 0 0) 0 ((newData 0).map Value.string), .blk w1.heap.size 31 [.slice (some ⟨w.heap.size + 1, 0, none⟩) 24 24, .slice none 0 0], .row 4 1 (.slice (some ⟨w.heap.size + 1, 0, none⟩) 24 24) 24 (newBits.map Value.bool), .blk w.heap.size 31 nilSt] := H2.nil_ 9 1
  clear H1 H2 H0
  obtain ⟨gs, hgs⟩ : ∃ q, q = w1.heap.size := ⟨_, rfl⟩
  rw [← hgs] at H3
  have HG := Lib.hid hgs
  go_wp2_with fail
  rw [← HG.out]
  clear hgs
  go_loopw [2] (fun j wr => ∃ (k : Nat) (v : Value), k ≤ 24 ∧ j = .int .i64 k ∧ Hp [] w wr [.row 9 1 v k ((newData k).map Value.string), .blk gs 31 [.slice (some ⟨w.heap.size + 1, 0, none⟩) 24 24, v], .row 4 1 (.slice (some ⟨w.heap.size + 1, 0, none⟩) 24 24) 24 (newBits.map Value.bool), .blk w.heap.size 31 nilSt]) (fun j _ => 24 - (intOf j).toNat)
  case atStart => exact ⟨0, _, by omega, rfl, H3⟩
  case round =>
    clear H3
    obtain ⟨k, v, hk, rfl, H⟩ := hrel
    obtain ⟨B, d, rfl⟩ := H.shape 0 rfl
    by_cases hlt : k < 24
    · have s1 := H.drew.bat 1 rfl (j := 1) rfl
      have HN := Lib.hid (newData_succ k)
      have HL := Lib.hid (newData_len k)
      have HH := Lib.hid H
      go_wp2_with fail
      go_region_law (first
        | (refine step_appM (f := Value.string) H5 rfl _ _ _ rfl Try.underlying23 infoString rfl 0 (.slice B k d) (newData k) (by rw [HL.out]; rfl) (by simp [Act.eval]) _ 9 (ofB (zB 4)) (by simp [Act.eval]) rfl rfl (by rw [HL.out]; simp only [maxLen]; omega) (by rw [HL.out]; omega) ?_
           intro v' w6 H6_
           rw [HN.out, newData_len] at H6_
           obtain ⟨B6, d6, rfl⟩ := Hp.shape H6_ 0 rfl
           have c6 := H6_.bat 1 rfl (j := 1) rfl
           have e6 := H6_.bfree 1 rfl 1
           have H7 := Lib.hid (H6_.bput 1 rfl 1 (.slice B6 (k + 1) d6))
           clear H6_)
        | (go_simp
           go_wp2_with (go_at_call 49
                        refine (specZeros_any 4 (by decide) (by decide) _).mono ?_
                        rintro e w5 ⟨rfl, f5⟩
                        have H5 := HH.out.drew.go f5
                        have s5 := H5.bat 1 rfl (j := 1) rfl
                        have s6 := (H5.al (.cells #[.string (ofB (zB 4))] 9)).bat 1 rfl (j := 1) rfl)))
      all_goals go_wp2_with fail
      all_goals go_roundw
      all_goals first
        | exact ⟨k + 1, _, by omega, by go_num, H7.out⟩
        | (simp [intOf]; omega)
    · have hk24 : k = 24 := by omega
      rw [hk24] at H
      have a0 := H.bat 1 rfl (j := 0) rfl
      have a1 := H.bat 1 rfl (j := 1) rfl
      have b0 := H.bat 3 rfl (j := 0) rfl
      have b1 := H.bat 3 rfl (j := 1) rfl
      have e0 := H.bfree 3 rfl 0
      have e1 := H.bfree 3 rfl 1
      have H8 := ((H.bput 3 rfl 0 (.slice (some ⟨w.heap.size + 1, 0, none⟩) 24 24)).bput 3 rfl 1 (.slice B 24 d))
      have c3 := H8.bat 3 rfl (j := 0) rfl
      have c4 := H8.bat 3 rfl (j := 1) rfl
      have H7 := Lib.hid (H8.sub (l' := [.row 9 1 (.slice B 24 d) 24 ((newData 24).map Value.string), .row 4 1 (.slice (some ⟨w.heap.size + 1, 0, none⟩) 24 24) 24 (newBits.map Value.bool)]) (.cons_cons _ (.cons _ (.cons_cons _ (.cons _ .slnil)))))
      clear H H8
      go_wp2_with fail
      exact bodyPost_ret (v := .agg #[.slice (some ⟨w.heap.size + 1, 0, none⟩) 24 24, .slice B 24 d]) (by simp [results, Try.results30, go_sem, c3, c4]) rfl ⟨_, _, _, _, rfl, H7.out⟩

set_option maxRecDepth 100000 in
set_option maxHeartbeats 2000000 in
theorem markStore_any {w0 w : World} (A : Option Addr) (n c : Nat) (B : Option Addr) (m d k : Nat) (xs ys : List Value) {l : List Ob} (i j : Nat) (H : Hp [] w0 w l) (hi : l[i]? = some (.row 4 1 (.slice A n c) n xs)) (hj : l[j]? = some (.row 9 1 (.slice B m d) m ys)) (hij : i ≠ j)
    (hn : n ≤ 16777216) (hm : m ≤ 16777216) (hk : k ≤ 536870912) :
    Calls Try.prog 15 #[.agg #[.slice A n c, .slice B m d], .int .i64 k] w fun e w' => e = .returned (.int .i64 ((k + n + m : Nat) : Int)) ∧
      Hp [] w0 w' ((l.set i (.row 4 1 (.slice A n c) n ((marksBool n k).map Value.bool))).set j (.row 9 1 (.slice B m d) m ((marksString m (k + n)).map Value.string))) := by
  have H1 := H.lay_ 31 [.slice A n c, .slice B m d] rfl
  have hi1 : (Ob.blk w.heap.size 31 [.slice A n c, .slice B m d] :: l)[i + 1]? = _ := hi
  have hj1 : (l.set i (.row 4 1 (.slice A n c) n ((marksBool n k).map Value.bool)))[j]? = some (.row 9 1 (.slice B m d) m ys) := by rw [List.getElem?_set_ne hij]; exact hj
  have HI := Lib.hid hi
  have HJ := Lib.hid hj1
  clear hi hj hj1 H
  go_enter Try.func15, Try.ntmps15
  go_wp2_with fail
  refine (markBoolS_any _ _ _ k _ _ _ (H1.row (i + 1) hi1) hn (by omega)).mono ?_
  rintro e w1 ⟨rfl, o1, g1⟩
  have H2 := H1.grow (i + 1) hi1 g1 o1 (.inl rfl)
  rw [List.set_cons_succ] at H2
  have c1 := H2.bat 0 rfl (j := 1) rfl
  obtain ⟨p, hp⟩ : ∃ p, p = k + n := ⟨_, rfl⟩
  have hp2 : p ≤ 1073741824 := by omega
  have HP := Lib.hid hp
  rw [← hp]
  clear hp H1 hi1
  go_wp2_with fail
  refine (markStringS_any _ _ _ p _ _ _ (H2.row (j + 1) HJ.out) hm (by omega)).mono ?_
  rintro e w2 ⟨rfl, o2, g2⟩
  have H3 := H2.grow (j + 1) HJ.out g2 o2 (.inl rfl)
  rw [List.set_cons_succ] at H3
  go_wp2
  go_ret
  exact ⟨ret_int (by have := HP.out; omega), by rw [← HP.out]; exact H3.tail⟩

set_option maxRecDepth 100000 in
set_option maxHeartbeats 2000000 in
theorem heldStore_any (A : Option Addr) (n c : Nat) (B : Option Addr) (m d k : Nat) (w : World) (h1 : Rd w A n 1 ((marksBool n k).map Value.bool)) (h2 : Rd w B m 1 ((marksString m (k + n)).map Value.string))
    (hn : n ≤ 16777216) (hm : m ≤ 16777216) (hk : k ≤ 536870912) :
    Calls Try.prog 17 #[.agg #[.slice A n c, .slice B m d], .int .i64 k] w fun e w' => e = .returned (.int .i64 ((k + n + m : Nat) : Int)) ∧ Fr w w' := by
  have H1 := (Hp.start w).lay_ 31 [.slice A n c, .slice B m d] rfl
  have G2 := Lib.hid h2
  have hr1 := H1.old h1
  clear h1 h2
  go_enter Try.func17, Try.ntmps17
  go_wp2_with fail
  refine (heldBoolS_any _ _ _ k _ hr1 hn (by omega)).mono ?_
  rintro e w1 ⟨rfl, f1⟩
  have H2 := H1.go f1
  have c1 := H2.bat 0 rfl (j := 1) rfl
  obtain ⟨p, hp⟩ : ∃ p, p = k + n := ⟨_, rfl⟩
  have hp2 : p ≤ 1073741824 := by omega
  have HP := Lib.hid hp
  have hr2 : Rd w1 B m 1 ((marksString m p).map Value.string) := by rw [hp]; exact H2.old G2.out
  rw [← hp]
  clear hp H1 hr1
  go_wp2_with fail
  refine (heldStringS_any _ _ _ p _ hr2 hm (by omega)).mono ?_
  rintro e w2 ⟨rfl, f2⟩
  have H3 := H2.go f2
  clear hr2
  go_wp2
  go_ret
  exact ⟨ret_int (by have := HP.out; omega), H3.fr⟩

end Go.Proofs.Ytbmoolmgfpcnkaa

namespace Go.Proofs.Ytbmoolmgfpcnkaa

def bump (o : List (Int × Int)) : List (Int × Int) := o.dropLast ++ [((o.getLastD (0, 0)).1, (o.getLastD (0, 0)).2 + 1)]
/-- The runs among the first k flags, as the program goes. -/
def runsTo (bs : List Bool) : Nat → List (Int × Int)
  | 0 => []
  | k + 1 => if bs.getD k true = true then runsTo bs k else if 0 < k ∧ bs.getD (k - 1) true = false then bump (runsTo bs k) else runsTo bs k ++ [((k : Int), 1)]
/-- The run that is open at k. -/
def opn (f k : Nat) : List (Int × Int) := if f < k then [((f : Int), (k : Int) - f)] else []
/-- The runs that are closed at k, and where the open one began, as the reference goes. -/
def stR (bs : List Bool) : Nat → List (Int × Int) × Nat
  | 0 => ([], 0)
  | k + 1 => if bs.getD k true = true then ((stR bs k).1 ++ opn (stR bs k).2 k, k + 1) else stR bs k

theorem bump_snoc (o : List (Int × Int)) (r : Int × Int) : bump (o ++ [r]) = o ++ [(r.1, r.2 + 1)] := by simp [bump]

theorem runs_inv (bs : List Bool) : ∀ k, runsTo bs k = (stR bs k).1 ++ opn (stR bs k).2 k ∧ (stR bs k).2 ≤ k ∧ ((stR bs k).2 < k ↔ 0 < k ∧ bs.getD (k - 1) true = false)
  | 0 => by simp [runsTo, stR, opn]
  | k + 1 => by
    obtain ⟨h1, h2, h3⟩ := runs_inv bs k
    by_cases hb : bs.getD k true = true
    · have e : stR bs (k + 1) = ((stR bs k).1 ++ opn (stR bs k).2 k, k + 1) := by rw [stR, if_pos hb]
      refine ⟨?_, ?_, ?_⟩
      · rw [runsTo, if_pos hb, e, h1]; simp [opn]
      · rw [e]; exact Nat.le_refl _
      · rw [e, show k + 1 - 1 = k from by omega, hb]; simp
    · have e : stR bs (k + 1) = stR bs k := by rw [stR, if_neg hb]
      have hb' : bs.getD k true = false := by simpa using hb
      refine ⟨?_, by rw [e]; omega, ?_⟩
      · rw [runsTo, if_neg hb, e]
        by_cases hp : 0 < k ∧ bs.getD (k - 1) true = false
        · have hlt := h3.2 hp
          rw [if_pos hp, h1]
          simp only [opn, if_pos hlt, if_pos (show (stR bs k).2 < k + 1 by omega)]
          rw [bump_snoc]
          congr 3
          omega
        · have hlt : ¬ (stR bs k).2 < k := fun h => hp (h3.1 h)
          have hk : (stR bs k).2 = k := by omega
          rw [if_neg hp, h1, hk]
          simp [opn]
          omega
      · rw [e, show k + 1 - 1 = k from by omega]
        simp only [hb', and_true]
        omega

/-- All free runs of 24 flags; none of another number. -/
def runs (bs : List Bool) : List (Int × Int) := if bs.length = 24 then runsTo bs 24 else []

theorem stR_last {bs : List Bool} {n : Nat} (h : bs.length = n) : (stR bs (n + 1)).1 = runsTo bs n := by
  have : bs.getD n true = true := by simp [List.getD, ← h]
  rw [stR, if_pos this, (runs_inv bs n).1]

theorem stR_false {bs : List Bool} {k : Nat} (h : bs[k]? = some false) : stR bs (k + 1) = stR bs k := by rw [stR, if_neg (by simp [List.getD, h])]
theorem stR_true {bs : List Bool} {k : Nat} {o : List (Int × Int)} {f : Nat} (h : bs[k]? = some true ∨ bs.length = k) (hst : stR bs k = (o, f)) : stR bs (k + 1) = (o ++ opn f k, k + 1) := by
  rw [stR, if_pos (by rcases h with h | h <;> simp [List.getD, h]), hst]

theorem runsTo_bounds (bs : List Bool) : ∀ k, (runsTo bs k).length ≤ k ∧ ∀ r ∈ runsTo bs k, 0 ≤ r.1 ∧ r.1 ≤ k ∧ 1 ≤ r.2 ∧ r.2 ≤ k
  | 0 => by simp [runsTo]
  | k + 1 => by
    obtain ⟨h1, h2⟩ := runsTo_bounds bs k
    rw [runsTo]
    split
    · exact ⟨by omega, fun r hr => by have := h2 r hr; omega⟩
    · split
      · rename_i hp
        have hne : runsTo bs k ≠ [] := by
          intro e
          have h3 := runs_inv bs k
          rw [e] at h3
          have h4 := h3.2.2.2 hp
          have h5 := h3.1
          simp [opn, h4] at h5
        have hlast := h2 _ (List.getLast_mem hne)
        have hg : (runsTo bs k).getLastD (0, 0) = (runsTo bs k).getLast hne := by rw [List.getLastD_eq_getLast?, List.getLast?_eq_some_getLast hne]; rfl
        refine ⟨by simp [bump]; have := List.length_pos_iff.2 hne; omega, fun r hr => ?_⟩
        simp only [bump, List.mem_append, List.mem_singleton] at hr
        rcases hr with hr | hr
        · have := h2 r (List.dropLast_subset _ hr); omega
        · subst hr
          rw [hg]
          simp only
          omega
      · refine ⟨by simp; omega, fun r hr => ?_⟩
        simp only [List.mem_append, List.mem_singleton] at hr
        rcases hr with hr | hr
        · have := h2 r hr; omega
        · subst hr; simp only; omega

theorem runsTo_set {bs : List Bool} {k : Nat} (h : bs[k]? = some true) : runsTo bs (k + 1) = runsTo bs k := by rw [runsTo, if_pos (by simp [List.getD, h])]
theorem runsTo_first {bs : List Bool} (h : bs[0]? = some false) : runsTo bs (0 + 1) = runsTo bs 0 ++ [(0, 1)] := by
  simp [runsTo, List.getD, h]
theorem stR_len (bs : List Bool) (k : Nat) : (stR bs k).1.length ≤ k := by
  have h := (runsTo_bounds bs k).1
  rw [(runs_inv bs k).1, List.length_append] at h
  omega
theorem runs_bounds (bs : List Bool) : (runs bs).length ≤ 24 ∧ ∀ r ∈ runs bs, 0 ≤ r.1 ∧ r.1 ≤ 24 ∧ 1 ≤ r.2 ∧ r.2 ≤ 24 := by
  unfold runs
  split
  · exact runsTo_bounds bs 24
  · simp

/-- The lengths of runs, one by one. -/
def sumLen (l : List (Int × Int)) : Int := (l.map (·.2)).sum
theorem sumLen_snoc (l : List (Int × Int)) (r : Int × Int) : sumLen (l ++ [r]) = sumLen l + r.2 := by simp [sumLen]
theorem sumLen_bound : ∀ (l : List (Int × Int)), (∀ r ∈ l, 1 ≤ r.2 ∧ r.2 ≤ 24) → 0 ≤ sumLen l ∧ sumLen l ≤ 24 * l.length
  | [], _ => by simp [sumLen]
  | r :: l, h => by
    have h1 := sumLen_bound l fun x hx => h x (by simp [hx])
    have h2 := h r (by simp)
    simp only [sumLen, List.map_cons, List.sum_cons, List.length_cons] at h1 ⊢
    omega
/-- Where the first run of at least m begins. -/
def findR (l : List (Int × Int)) (m : Int) : Int := if 1 ≤ m then ((l.find? fun r => decide (m ≤ r.2)).map (·.1)).getD (-1) else -1

end Go.Proofs.Ytbmoolmgfpcnkaa

namespace Go.Proofs.Ytbmoolmgfpcnkaa

/-- The flags a .. a + j - 1 set to v. -/
def setN (b : List Bool) (a : Nat) (v : Bool) : Nat → List Bool
  | 0 => b
  | j + 1 => (setN b a v j).set (a + j) v
theorem setN_len (b : List Bool) (a : Nat) (v : Bool) : ∀ j, (setN b a v j).length = b.length
  | 0 => rfl
  | j + 1 => by rw [setN, List.length_set, setN_len b a v j]
theorem setN_get (b : List Bool) (a : Nat) (v : Bool) (i : Nat) : ∀ j, a + j ≤ b.length → (setN b a v j)[i]? = if a ≤ i ∧ i < a + j then some v else b[i]?
  | 0, _ => by rw [if_neg (by omega)]; rfl
  | j + 1, h => by
    rw [setN]
    by_cases hi : a + j = i
    · subst hi
      rw [List.getElem?_set_self (by rw [setN_len]; omega), if_pos (by omega)]
    · rw [List.getElem?_set_ne hi, setN_get b a v i j (by omega)]
      by_cases hc : a ≤ i ∧ i < a + j
      · rw [if_pos hc, if_pos (by omega)]
      · rw [if_neg hc, if_neg (by omega)]
/-- No flag of the first j from a on is v. -/
def noneV (b : List Bool) (a : Nat) (v : Bool) (j : Nat) : Bool := decide (∀ i, i < j → b[a + i]? = some (!v))
theorem noneV_iff {b : List Bool} {a j : Nat} {v : Bool} : noneV b a v j = true ↔ ∀ i, i < j → b[a + i]? = some (!v) := by simp [noneV]
theorem noneV_zero (b : List Bool) (a : Nat) (v : Bool) : noneV b a v 0 = true := noneV_iff.2 fun i h => absurd h (by omega)
theorem noneV_succ {b : List Bool} {a j : Nat} {v : Bool} (h : noneV b a v j = true) (hx : b[a + j]? = some (!v)) : noneV b a v (j + 1) = true := noneV_iff.2 fun i hi => by
  by_cases e : i = j
  · subst e; exact hx
  · exact noneV_iff.1 h i (by omega)
theorem noneV_stop {b : List Bool} {a j m : Nat} {v : Bool} (hj : j < m) (hx : b[a + j]? = some v) : noneV b a v m = false := by
  cases e : noneV b a v m with
  | false => rfl
  | true =>
    have h := noneV_iff.1 e j hj
    rw [hx] at h
    cases v <;> simp at h
theorem setN_back {b : List Bool} {a j : Nat} {v : Bool} (ha : a + j ≤ b.length) (h : noneV b a v j = true) : setN (setN b a v j) a (!v) j = b := by
  apply List.ext_getElem?
  intro i
  rw [setN_get _ _ _ _ _ (by rw [setN_len]; exact ha), setN_get _ _ _ _ _ ha]
  by_cases hc : a ≤ i ∧ i < a + j
  · have h1 := noneV_iff.1 h (i - a) (by omega)
    rw [show a + (i - a) = i from by omega] at h1
    rw [if_pos hc, h1]
  · rw [if_neg hc, if_neg hc]
theorem noneV_back {b : List Bool} {a j : Nat} {v : Bool} (ha : a + j ≤ b.length) : noneV (setN b a v j) a (!v) j = true := noneV_iff.2 fun i hi => by
  rw [setN_get _ _ _ _ _ ha, if_pos (by omega)]
  simp
theorem setN_at {b : List Bool} {a j : Nat} {v : Bool} (ha : a + j < b.length) : (setN b a v j)[a + j]? = b[a + j]? := by
  rw [setN_get _ _ _ _ _ (by omega), if_neg (by omega)]

/-- May the run be set? -/
def setOk (b : List Bool) (a n : Int) (v : Bool) : Bool := decide (b.length = 24) && inB a 0 23 && inB n 1 (24 - a) && noneV b a.toNat v n.toNat
def setRes (b : List Bool) (a n : Int) (v : Bool) : List Bool := if b.length = 24 then (if setOk b a n v = true then setN b a.toNat v n.toNat else b) else []
theorem setOk_iff {b : List Bool} {a n : Int} {v : Bool} : setOk b a n v = true ↔ b.length = 24 ∧ (0 ≤ a ∧ a ≤ 23) ∧ (1 ≤ n ∧ n ≤ 24 - a) ∧ noneV b a.toNat v n.toNat = true := by
  simp [setOk, inB_iff, and_assoc]
theorem setRes_len (b : List Bool) (a n : Int) (v : Bool) : (setRes b a n v).length = if b.length = 24 then 24 else 0 := by
  unfold setRes
  by_cases h : b.length = 24
  · rw [if_pos h, if_pos h]
    split
    · rw [setN_len, h]
    · exact h
  · rw [if_neg h, if_neg h]; rfl
theorem setRes_back {b : List Bool} {a n : Int} {v : Bool} (h : setOk b a n v = true) : setOk (setRes b a n v) a n (!v) = true ∧ setRes (setRes b a n v) a n (!v) = b := by
  obtain ⟨h1, h2, h3, h4⟩ := setOk_iff.1 h
  have e : setRes b a n v = setN b a.toNat v n.toNat := by rw [setRes, if_pos h1, if_pos h]
  have hl : a.toNat + n.toNat ≤ b.length := by omega
  have hok : setOk (setRes b a n v) a n (!v) = true := setOk_iff.2 ⟨by rw [setRes_len, if_pos h1], h2, h3, by rw [e]; exact noneV_back hl⟩
  refine ⟨hok, ?_⟩
  rw [setRes, if_pos (by rw [setRes_len, if_pos h1]), if_pos hok, e, setN_back hl h4]

/-- What is known of the closed runs at k. -/
structure RunsAt (bs : List Bool) (k : Nat) (o : List (Int × Int)) (f : Nat) : Prop where
  le : f ≤ k
  free : ∀ j, f ≤ j → j < k → bs.getD j true = false
  sep : o.Pairwise fun r s => r.1 + r.2 < s.1
  low : ∀ r ∈ o, 0 ≤ r.1 ∧ r.1 + r.2 < f ∧ 1 ≤ r.2
  all : ∀ r ∈ o, ∀ j : Nat, r.1 ≤ j → (j : Int) < r.1 + r.2 → bs.getD j true = false
theorem runsAt_closed {bs : List Bool} {k : Nat} {o : List (Int × Int)} {f : Nat} (h : RunsAt bs k o f) :
    (o ++ opn f k).Pairwise (fun r s => r.1 + r.2 < s.1) ∧ (∀ r ∈ o ++ opn f k, 0 ≤ r.1 ∧ r.1 + r.2 < (k : Int) + 1 ∧ 1 ≤ r.2) ∧ (∀ r ∈ o ++ opn f k, ∀ j : Nat, r.1 ≤ j → (j : Int) < r.1 + r.2 → bs.getD j true = false) := by
  have hle := h.le
  unfold opn
  split
  · rename_i hlt
    refine ⟨List.pairwise_append.2 ⟨h.sep, by simp, ?_⟩, ?_, ?_⟩
    · intro r hr s hs
      simp only [List.mem_singleton] at hs
      subst hs
      exact (h.low r hr).2.1
    · intro r hr
      rcases List.mem_append.1 hr with hr | hr
      · have := h.low r hr; omega
      · simp only [List.mem_singleton] at hr
        subst hr
        refine ⟨by omega, ?_, ?_⟩
        · show (f : Int) + ((k : Int) - f) < k + 1; omega
        · show 1 ≤ (k : Int) - f; omega
    · intro r hr j h1 h2
      rcases List.mem_append.1 hr with hr | hr
      · exact h.all r hr j h1 h2
      · simp only [List.mem_singleton] at hr
        subst hr
        simp only at h1 h2
        exact h.free j (by omega) (by omega)
  · rw [List.append_nil]
    exact ⟨h.sep, fun r hr => by have := h.low r hr; omega, h.all⟩
theorem runsAt (bs : List Bool) : ∀ k, RunsAt bs k (stR bs k).1 (stR bs k).2
  | 0 => ⟨by simp [stR], by intro j _ h; omega, by simp [stR], by simp [stR], by simp [stR]⟩
  | k + 1 => by
    have ih := runsAt bs k
    rw [stR]
    split
    · obtain ⟨c1, c2, c3⟩ := runsAt_closed ih
      exact ⟨Nat.le_refl _, by intro j h1 h2; simp only at h1; omega, c1, fun r hr => by have := c2 r hr; simp only; omega, c3⟩
    · rename_i hb
      refine ⟨by have := ih.le; omega, ?_, ih.sep, ih.low, ih.all⟩
      intro j h1 h2
      by_cases e : j = k
      · subst e; simpa using hb
      · exact ih.free j h1 (by omega)
/-- Free runs: none beside another one; each flag of theirs is free. -/
theorem runs_apart (bs : List Bool) : (runs bs).Pairwise fun r s => r.1 + r.2 < s.1 := by
  unfold runs
  split
  · rw [(runs_inv bs 24).1]; exact (runsAt_closed (runsAt bs 24)).1
  · simp
theorem runs_in (bs : List Bool) : ∀ r ∈ runs bs, 0 ≤ r.1 ∧ r.1 + r.2 ≤ 24 ∧ 1 ≤ r.2 := by
  unfold runs
  split
  · rw [(runs_inv bs 24).1]
    intro r hr
    have := (runsAt_closed (runsAt bs 24)).2.1 r hr
    omega
  · simp
theorem runs_free {bs : List Bool} {r : Int × Int} (hr : r ∈ runs bs) {j : Nat} (h1 : r.1 ≤ j) (h2 : (j : Int) < r.1 + r.2) : bs[j]? = some false := by
  have hin := runs_in bs r hr
  unfold runs at hr
  split at hr
  · rename_i hl
    rw [(runs_inv bs 24).1] at hr
    have h := (runsAt_closed (runsAt bs 24)).2.2 r hr j h1 h2
    have hj : j < bs.length := by omega
    rw [List.getElem?_eq_getElem hj]
    rw [List.getD_eq_getElem?_getD, List.getElem?_eq_getElem hj] at h
    simpa using h
  · simp at hr
theorem runs_next {bs : List Bool} {i : Nat} {r s : Int × Int} (h1 : (runs bs)[i]? = some r) (h2 : (runs bs)[i + 1]? = some s) : r.1 + r.2 < s.1 := by
  obtain ⟨a1, rfl⟩ := List.getElem?_eq_some_iff.1 h1
  obtain ⟨a2, rfl⟩ := List.getElem?_eq_some_iff.1 h2
  exact (List.pairwise_iff_getElem.1 (runs_apart bs)) i (i + 1) a1 a2 (by omega)

end Go.Proofs.Ytbmoolmgfpcnkaa

namespace Go.Proofs.Ytbmoolmgfpcnkaa
open Go.RowKit

set_option maxRecDepth 100000 in
set_option maxHeartbeats 4000000 in
theorem implBlockAt_any (A : Option Addr) (n c : Nat) (l : List (Int × Int × Int)) (i : Int) (w : World) (h : Rd w A n 3 (l.flatMap cExt)) (hn : n ≤ 1048576) :
    Calls Try.prog 24 #[.slice A n c, .int .i64 i] w fun e w' => e = .returned (.int .i64 (blockAtL l i)) ∧ Fr w w' := by
  by_cases hok : eOk l = true
  · have OK := eOk_ranges hok
    by_cases hi : inB i 0 11 = true
    · have hi2 := inB_iff.1 hi
      obtain ⟨k, rfl⟩ : ∃ q : Nat, i = q := ⟨i.toNat, by omega⟩
      have hk : k < 12 := by omega
      obtain ⟨x, hx⟩ := at_some (flatL_len l) hk
      have HX := Lib.hid (show blockAtL l k = x by simp [blockAtL, hok, hi, List.getD_eq_getElem?_getD, show (flatL l)[k]? = some x from hx])
      go_enter Try.func24, Try.ntmps24
      go_wp2_with fail
      refine (implExtsOk_any A n c l _ h hn).mono ?_
      rintro e w1 ⟨rfl, f1⟩
      rw [hok]
      go_wp2_with fail
      refine (within_any _ _ _ _).mono ?_
      rintro e w2 ⟨rfl, rfl⟩
      rw [hi]
      go_wp2_with fail
      refine (implFlat_any A n c l _ (h.fr f1) OK hn).mono ?_
      rintro e w3 ⟨A3, c3, rfl, o3, f3⟩
      have H3 := Hp.one_row o3 f3
      obtain ⟨g, c4, e, hg⟩ := H3.form 0 rfl (by omega)
      injection e with e1 _ e2
      subst e1 e2
      have cx := H3.atM 0 rfl hx
      clear hx o3 H3
      go_wp2
      go_ret
      exact ⟨ret_int HX.out.symm, f1.then f3⟩
    · have hi' : inB i 0 11 = false := by simpa using hi
      have HX := Lib.hid (show blockAtL l i = -1 by simp [blockAtL, hi'])
      go_enter Try.func24, Try.ntmps24
      go_wp2_with fail
      refine (implExtsOk_any A n c l _ h hn).mono ?_
      rintro e w1 ⟨rfl, f1⟩
      rw [hok]
      go_wp2_with fail
      refine (within_any _ _ _ _).mono ?_
      rintro e w2 ⟨rfl, rfl⟩
      rw [hi']
      go_wp2_with fail
      go_ret
      exact ⟨ret_int HX.out.symm, f1⟩
  · have hok' : eOk l = false := by simpa using hok
    have HX := Lib.hid (show blockAtL l i = -1 by simp [blockAtL, hok'])
    go_enter Try.func24, Try.ntmps24
    go_wp2_with fail
    refine (implExtsOk_any A n c l _ h hn).mono ?_
    rintro e w1 ⟨rfl, f1⟩
    rw [hok']
    go_wp2_with fail
    go_ret
    exact ⟨ret_int HX.out.symm, f1⟩

set_option maxRecDepth 100000 in
set_option maxHeartbeats 4000000 in
theorem specBlockAt_any (A : Option Addr) (n c : Nat) (l : List (Int × Int × Int)) (i : Int) (w : World) (h : Rd w A n 3 (l.flatMap cExt)) (hn : n ≤ 1048576) :
    Calls Try.prog 25 #[.slice A n c, .int .i64 i] w fun e w' => e = .returned (.int .i64 (blockAtL l i)) ∧ Fr w w' := by
  by_cases hok : eOk l = true
  · have OK := eOk_ranges hok
    by_cases hi : inB i 0 11 = true
    · have hi2 := inB_iff.1 hi
      obtain ⟨k, rfl⟩ : ∃ q : Nat, i = q := ⟨i.toNat, by omega⟩
      have hk : k < 12 := by omega
      obtain ⟨x, hx⟩ := at_some (flatL_len l) hk
      have HX := Lib.hid (show blockAtL l k = x by simp [blockAtL, hok, hi, List.getD_eq_getElem?_getD, show (flatL l)[k]? = some x from hx])
      go_enter Try.func25, Try.ntmps25
      go_wp2_with fail
      refine (specExtsOk_any A n c l _ h hn).mono ?_
      rintro e w1 ⟨rfl, f1⟩
      rw [hok]
      go_wp2_with fail

      refine (specMap_any A n c l _ (h.fr f1) OK hn).mono ?_
      rintro e w3 ⟨A3, c3, rfl, o3, f3⟩
      have H3 := Hp.one_row o3 f3
      obtain ⟨g, c4, e, hg⟩ := H3.form 0 rfl (by omega)
      injection e with e1 _ e2
      subst e1 e2
      have cx := H3.atM 0 rfl hx
      clear hx o3 H3
      go_wp2
      go_ret
      exact ⟨ret_int HX.out.symm, f1.then f3⟩
    · have hi' : inB i 0 11 = false := by simpa using hi
      have HX := Lib.hid (show blockAtL l i = -1 by simp [blockAtL, hi'])
      by_cases h0 : i < 0
      · go_enter Try.func25, Try.ntmps25
        go_wp2_with fail
        refine (specExtsOk_any A n c l _ h hn).mono ?_
        rintro e w1 ⟨rfl, f1⟩
        rw [hok]
        go_wp2_with fail
        go_ret
        exact ⟨ret_int HX.out.symm, f1⟩
      · have h1 : 12 ≤ i := by
          simp only [inB, Bool.and_eq_false_iff, decide_eq_false_iff_not] at hi'
          omega
        go_enter Try.func25, Try.ntmps25
        go_wp2_with fail
        refine (specExtsOk_any A n c l _ h hn).mono ?_
        rintro e w1 ⟨rfl, f1⟩
        rw [hok]
        go_wp2_with fail
        go_ret
        exact ⟨ret_int HX.out.symm, f1⟩
  · have hok' : eOk l = false := by simpa using hok
    have HX := Lib.hid (show blockAtL l i = -1 by simp [blockAtL, hok'])
    go_enter Try.func25, Try.ntmps25
    go_wp2_with fail
    refine (specExtsOk_any A n c l _ h hn).mono ?_
    rintro e w1 ⟨rfl, f1⟩
    rw [hok']
    go_wp2_with fail
    go_ret
    exact ⟨ret_int HX.out.symm, f1⟩

end Go.Proofs.Ytbmoolmgfpcnkaa

namespace Go.Proofs.Ytbmoolmgfpcnkaa
open Go.RowKit

def cRun (r : Int × Int) : List Value := [.int .i64 r.1, .int .i64 r.2]
theorem cRun_len (r : Int × Int) : (cRun r).length = 2 := rfl
theorem infoRun : (Try.prog.info? 99).map (fun i => (i.zero, i.size, i.bytes)) = some (some (.agg #[.int .i64 0, .int .i64 0]), 2, 16) := by kernel_rfl

/-- The marks of an element, from the number k on. -/
def mkRun (k : Nat) : Int × Int := (k, (k + 1))
def marksRun (n k : Nat) : List (Int × Int) := (List.range n).map fun i => mkRun (k + i * 2)
theorem marksRun_at {n k i : Nat} (h : i < n) : (marksRun n k)[i]? = some (mkRun (k + i * 2)) := by simp [marksRun, h]
theorem marksRun_len (n k : Nat) : (marksRun n k).length = n := by simp [marksRun]
theorem marksRun_take (n k i : Nat) (h : i ≤ n) : (marksRun n k).take i = marksRun i k := by
  rw [marksRun, marksRun, ← List.map_take, List.take_range, Nat.min_eq_left h]

end Go.Proofs.Ytbmoolmgfpcnkaa


namespace Go.Proofs.Ytbmoolmgfpcnkaa
open Go.ChangeShapes Go.WideShapes Go.ChangeAt Go.RowKit Go.Deep

theorem own : ownKnob Try.prog.godebug = none := by kernel_rfl
theorem laidOut : laidOutB Try.prog = true := by kernel_rfl

section
variable {H : Type} {enc : TypeId × Value → H} {P : Program}

/-- The arguments read behind the call as before. -/
theorem trodAll_below (hl : laidOutB P = true) {W W' : World} (hb : Below W.heap.size W W') :
    ∀ {ts : List TypeId} {vs : List Value} {ds : List (DataW H)} {ps : List MemPlace}, (∀ t ∈ ts, P.readableRec t = true ∧ t < P.types.size) → (∀ x ∈ ps, x.block < W.heap.size) →
      DataW.TrodAll enc P W 0 (fun _ => true) true ts vs ds ps → DataW.TrodAll enc P W' 0 (fun b => decide (b < W.heap.size)) true ts vs ds ps
  | [], [], [], _, _, _, h => h
  | t :: ts, v :: vs, d :: ds, ps, hr, hlt, h => by
    obtain ⟨p, q, h1, h2, rfl⟩ := h
    have ht := hr t (by simp)
    exact ⟨p, q, Below.trod hl ht.1 ht.2 h1 hb (fun x hx => hlt x (by simp [hx])), trodAll_below hl hb (fun t' ht' => hr t' (by simp [ht'])) (fun x hx => hlt x (by simp [hx])) h2, rfl⟩
  | [], [], _ :: _, _, _, _, h => h.elim
  | [], _ :: _, [], _, _, _, h => h.elim
  | [], _ :: _, _ :: _, _, _, _, h => h.elim
  | _ :: _, [], [], _, _, _, h => h.elim
  | _ :: _, [], _ :: _, _, _, _, h => h.elim
  | _ :: _, _ :: _, [], _, _, _, h => h.elim

/-- The end of every law: it answers true, and all that was there is as it was. -/
theorem law_post {f : Func} {s : ChangeSpec} {W W' : World} {args : Array Value} {ds gs : List (DataW H)} {before : List MemPlace} {tb : TypeId}
    (hW : DataW.Whole enc P f.params.toList s.vars false W args.toList ds gs before) (hfn : s.fn H (ds ++ gs) = { results := [.lit (.bool true)], args := ds, vars := gs })
    (hrt : f.resultTypes = #[tb]) (htb : P.underlying tb = some .bool) (hl : laidOutB P = true) (hr : (f.params.toList.all fun t => P.readableRec t && decide (t < P.types.size)) = true) (hv : varsRowed P s.vars = true)
    (hfr : Below W.heap.size W W') : s.post enc P f false true false false W args (.bool true) W' := by
  have hlt : ∀ x ∈ before, x.block < W.heap.size := fun x hx => hW.lt x hx
  have hW' := hW
  obtain ⟨p, q, hA, hV, rfl, _, _⟩ := hW'
  have hr' : ∀ t ∈ f.params.toList, P.readableRec t = true ∧ t < P.types.size := fun t ht => by simpa using List.all_eq_true.1 hr t ht
  refine ⟨ds, gs, _, [], p, q, hW, ?_, ?_, ?_, hfr.frame _, fun h => by cases h⟩
  · rw [hfn, hrt]
    exact trodAll_mk1 (shut_bool htb true)
  · rw [hfn]
    exact trodAll_below hl hfr hr' (fun x hx => hlt x (by simp [hx])) hA
  · rw [hfn]
    exact Below.trodVars hl hfr hv hV

/-- A slice that came in reads as a list, k cells an element. -/
theorem rd_of_cells {α : Type} [Inhabited α] (f : α → List Value) (ok : α → Prop) {W : World} {t e : TypeId} {k : Nat} (hk0 : 0 < k) (hk : ∀ x, (f x).length = k) (ht : P.underlying t = some (.slice e)) (hc : P.cellsOf e = k)
    (hel : ∀ n cs y, cs.length = k → DataW.trod enc P W 0 (fun _ => true) true n e cs = some y → ∃ x, cs = f x ∧ ok x)
    {fuel : Nat} {cs0 : List Value} {x0 : DataW H × List MemPlace} (hf : DataW.trod enc P W 0 (fun _ => true) true fuel t cs0 = some x0) :
    ∃ (A : Option Addr) (n c : Nat) (l : List α), cs0 = [.slice A n c] ∧ Rd W A n k (l.flatMap f) ∧ l.length = n ∧ (∀ x ∈ l, ok x) ∧ n ≤ c ∧ c ≤ maxLen := by
  rcases open_slice ht hf with ⟨hcs, _⟩ | ⟨a, n, cap, m, n', D, Pl, hcs, _, hlc, hcm, hm, _, hx⟩
  · subst hcs
    exact ⟨none, 0, 0, [], rfl, ⟨by simp, fun h => absurd h (by omega)⟩, rfl, by simp, Nat.le_refl _, by simp [maxLen]⟩
  · subst hcs
    simp only [if_true] at hm
    rw [hc] at hx
    obtain ⟨F, hF⟩ := choose_lt (α := α) (n := n) (p := fun i x => ok x ∧ ∀ j u, (f x)[j]? = some u → W.cell? (a.add (i * k + j)) = some u) (fun i hi => by
      obtain ⟨cs, h1, h2⟩ := hx i (by omega)
      obtain ⟨_, hlen, hcell⟩ := World.cells?_some h1
      obtain ⟨x, rfl, hok⟩ := hel _ _ _ hlen h2
      refine ⟨x, hok, fun j u hu => ?_⟩
      have hj : j < k := by rw [← hk x]; exact (List.getElem?_eq_some_iff.1 hu).1
      have := hcell j hj
      rw [Go.Deep.add_add] at this
      rw [this, hu])
    subst hm
    have hspot : 0 < n → ∃ b o, a = ⟨b, o, none⟩ := fun hn => by
      have h1 := (hF 0 hn).2 0 _ (List.getElem?_eq_getElem (by rw [hk]; exact hk0))
      obtain ⟨b, o, s⟩ := a
      have := World.cell?_spot h1
      simp [Addr.add] at this
      subst this
      exact ⟨b, o, rfl⟩
    refine ⟨some a, n, m, (List.range n).map F, rfl, ⟨?_, fun hn0 => ?_⟩, by simp, fun x hx => ?_, hlc, hcm⟩
    · rw [flat_len hk]
      simp
    · obtain ⟨b, o, rfl⟩ := hspot hn0
      refine ⟨b, o, rfl, ?_⟩
      intro j u hu
      obtain ⟨i, r, x, rfl, _, hx', hr⟩ := flat_at hk hu
      rw [List.getElem?_map] at hx'
      obtain ⟨i', hi', rfl⟩ := Option.map_eq_some_iff.1 hx'
      obtain ⟨hi, rfl⟩ : i < n ∧ i = i' := by
        rw [List.getElem?_eq_some_iff] at hi'
        obtain ⟨h1, h2⟩ := hi'
        simp at h1 h2
        exact ⟨h1, h2⟩
      have := (hF i hi).2 r u hr
      rwa [Addr.add_lit] at this
    · simp only [List.mem_map, List.mem_range] at hx
      obtain ⟨i, hi, rfl⟩ := hx
      exact (hF i hi).1
/-- .. of a value. -/
theorem rd_of_trod {α : Type} [Inhabited α] (f : α → List Value) (ok : α → Prop) {W : World} {t e : TypeId} {k : Nat} (hk0 : 0 < k) (hk : ∀ x, (f x).length = k) (ht : P.underlying t = some (.slice e)) (hc : P.cellsOf e = k)
    (hel : ∀ n cs y, cs.length = k → DataW.trod enc P W 0 (fun _ => true) true n e cs = some y → ∃ x, cs = f x ∧ ok x)
    {v : Value} {d : DataW H} {p : List MemPlace} (hv : Value.okWide P W .any 0 t v) (h : DataW.Trod enc P W 0 (fun _ => true) true t v d p) :
    ∃ (A : Option Addr) (n c : Nat) (l : List α), v = .slice A n c ∧ Rd W A n k (l.flatMap f) ∧ l.length = n ∧ (∀ x ∈ l, ok x) ∧ n ≤ c ∧ c ≤ maxLen := by
  obtain ⟨A, n, c, rfl⟩ := okWide_slice ht hv
  obtain ⟨fuel, hf⟩ := h
  obtain ⟨A', n', c', l, hcs, r⟩ := rd_of_cells f ok hk0 hk ht hc hel hf
  simp [Value.cells] at hcs
  obtain ⟨rfl, rfl, rfl⟩ := hcs
  exact ⟨_, _, _, l, rfl, r⟩

/-- A slice of flags. -/
theorem rd_bools {W : World} {t e : TypeId} (ht : P.underlying t = some (.slice e)) (he : P.underlying e = some .bool) (hc : P.cellsOf e = 1)
    {v : Value} {d : DataW H} {p : List MemPlace} (hv : Value.okWide P W .any 0 t v) (h : DataW.Trod enc P W 0 (fun _ => true) true t v d p) :
    ∃ (A : Option Addr) (n c : Nat) (l : List Bool), v = .slice A n c ∧ Rd W A n 1 (l.map .bool) ∧ n ≤ c ∧ c ≤ maxLen := by
  obtain ⟨A, n, c, l, rfl, h1, _, _, h2, h3⟩ := rd_of_trod (fun b : Bool => [.bool b]) (fun _ => True) Nat.one_pos (fun _ => rfl) ht hc (fun n cs y _ h => by
    obtain ⟨b, hb, _⟩ := DataW.trod_bool he h
    exact ⟨b, hb, trivial⟩) hv h
  exact ⟨A, n, c, l, rfl, by rwa [← List.map_eq_flatMap] at h1, h2, h3⟩

/-- A number that an int can hold. -/
def I64 (x : Int) : Prop := -9223372036854775808 ≤ x ∧ x ≤ 9223372036854775807
theorem i64_of_wf {x : Int} (h : (Lit.int .i64 x).wf = true) : I64 x := by
  simpa [I64, Lit.wf, IntKind.min, IntKind.max, IntKind.signed, IntKind.bits] using h

/-- A slice of structs of two ints. -/
theorem rd_pairs {W : World} {t e ti : TypeId} {f0 f1 : Field} (ht : P.underlying t = some (.slice e)) (he : P.underlying e = some (.struct #[f0, f1])) (hc : P.cellsOf e = 2)
    (hf0 : f0.type = ti ∧ f0.offset = 0) (hf1 : f1.type = ti ∧ f1.offset = 1) (hti : P.underlying ti = some (.int .i64)) (hci : P.cellsOf ti = 1)
    {v : Value} {d : DataW H} {p : List MemPlace} (hv : Value.okWide P W .any 0 t v) (h : DataW.Trod enc P W 0 (fun _ => true) true t v d p) :
    ∃ (A : Option Addr) (n c : Nat) (l : List (Int × Int)), v = .slice A n c ∧ Rd W A n 2 (l.flatMap fun r => [.int .i64 r.1, .int .i64 r.2]) ∧ (∀ r ∈ l, I64 r.1 ∧ I64 r.2) ∧ n ≤ c ∧ c ≤ maxLen := by
  obtain ⟨A, n, c, l, rfl, h1, _, hok, h2, h3⟩ := rd_of_trod (fun r : Int × Int => [.int .i64 r.1, .int .i64 r.2]) (fun r => I64 r.1 ∧ I64 r.2) (by omega) (fun _ => rfl) ht hc (fun n cs y hl h => by
    obtain ⟨y0, y1, m, _, _, t0, t1⟩ := trod_struct2 he h
    rw [hf0.1, hf0.2, hci] at t0
    rw [hf1.1, hf1.2, hci] at t1
    match cs, hl with
    | [u0, u1], _ =>
      obtain ⟨a, ha, _, wa⟩ := DataW.trod_int hti t0
      obtain ⟨b, hb, _, wb⟩ := DataW.trod_int hti t1
      simp at ha hb
      subst ha hb
      exact ⟨(a, b), rfl, i64_of_wf wa, i64_of_wf wb⟩) hv h
  exact ⟨A, n, c, l, rfl, h1, hok, h2, h3⟩

/-- A slice of structs of three ints. -/
theorem rd_triples {W : World} {t e ti : TypeId} {f0 f1 f2 : Field} (ht : P.underlying t = some (.slice e)) (he : P.underlying e = some (.struct #[f0, f1, f2])) (hc : P.cellsOf e = 3)
    (hf0 : f0.type = ti ∧ f0.offset = 0) (hf1 : f1.type = ti ∧ f1.offset = 1) (hf2 : f2.type = ti ∧ f2.offset = 2) (hti : P.underlying ti = some (.int .i64)) (hci : P.cellsOf ti = 1)
    {v : Value} {d : DataW H} {p : List MemPlace} (hv : Value.okWide P W .any 0 t v) (h : DataW.Trod enc P W 0 (fun _ => true) true t v d p) :
    ∃ (A : Option Addr) (n c : Nat) (l : List (Int × Int × Int)), v = .slice A n c ∧ Rd W A n 3 (l.flatMap fun r => [.int .i64 r.1, .int .i64 r.2.1, .int .i64 r.2.2]) ∧ (∀ r ∈ l, I64 r.1 ∧ I64 r.2.1 ∧ I64 r.2.2) ∧ n ≤ c ∧ c ≤ maxLen := by
  obtain ⟨A, n, c, l, rfl, h1, _, hok, h2, h3⟩ := rd_of_trod (fun r : Int × Int × Int => [.int .i64 r.1, .int .i64 r.2.1, .int .i64 r.2.2]) (fun r => I64 r.1 ∧ I64 r.2.1 ∧ I64 r.2.2) (by omega) (fun _ => rfl) ht hc (fun n cs y hl h => by
    obtain ⟨y0, y1, y2, m, _, _, t0, t1, t2⟩ := trod_struct3 he h
    rw [hf0.1, hf0.2, hci] at t0
    rw [hf1.1, hf1.2, hci] at t1
    rw [hf2.1, hf2.2, hci] at t2
    match cs, hl with
    | [u0, u1, u2], _ =>
      obtain ⟨a, ha, _, wa⟩ := DataW.trod_int hti t0
      obtain ⟨b, hb, _, wb⟩ := DataW.trod_int hti t1
      obtain ⟨c, hc, _, wc⟩ := DataW.trod_int hti t2
      simp at ha hb hc
      subst ha hb hc
      exact ⟨(a, b, c), rfl, i64_of_wf wa, i64_of_wf wb, i64_of_wf wc⟩) hv h
  exact ⟨A, n, c, l, rfl, h1, hok, h2, h3⟩
/-- Slices of flags, of texts, of ints, as cells. -/
theorem rd_bools_of {W : World} {t e : TypeId} (ht : P.underlying t = some (.slice e)) (he : P.underlying e = some .bool) (hc : P.cellsOf e = 1) {fuel : Nat} {v : Value} {x : DataW H × List MemPlace} (hf : DataW.trod enc P W 0 (fun _ => true) true fuel t [v] = some x) :
    ∃ (A : Option Addr) (n c : Nat) (l : List Bool), v = .slice A n c ∧ Rd W A n 1 (l.map .bool) ∧ n ≤ c ∧ c ≤ maxLen := by
  obtain ⟨A, n, c, l, hv, h1, _, _, h2, h3⟩ := rd_of_cells (fun b : Bool => [.bool b]) (fun _ => True) Nat.one_pos (fun _ => rfl) ht hc (fun n cs y _ h => by
    obtain ⟨b, hb, _⟩ := DataW.trod_bool he h
    exact ⟨b, hb, trivial⟩) hf
  exact ⟨A, n, c, l, by simpa using hv, by rwa [← List.map_eq_flatMap] at h1, h2, h3⟩
theorem rd_strings_of {W : World} {t e : TypeId} (ht : P.underlying t = some (.slice e)) (he : P.underlying e = some .string) (hc : P.cellsOf e = 1) {fuel : Nat} {v : Value} {x : DataW H × List MemPlace} (hf : DataW.trod enc P W 0 (fun _ => true) true fuel t [v] = some x) :
    ∃ (A : Option Addr) (n c : Nat) (l : List ByteArray), v = .slice A n c ∧ Rd W A n 1 (l.map .string) ∧ (∀ s ∈ l, s.size ≤ 9223372036854775807) ∧ n ≤ c ∧ c ≤ maxLen := by
  obtain ⟨A, n, c, l, hv, h1, _, hok, h2, h3⟩ := rd_of_cells (fun s : ByteArray => [.string s]) (fun s => s.size ≤ 9223372036854775807) Nat.one_pos (fun _ => rfl) ht hc (fun n cs y _ h => by
    obtain ⟨b, hb, _, hz⟩ := DataW.trod_string he h
    exact ⟨b, hb, by simpa [maxLen] using hz⟩) hf
  exact ⟨A, n, c, l, by simpa using hv, by rwa [← List.map_eq_flatMap] at h1, hok, h2, h3⟩
theorem rd_ints_of {W : World} {t e : TypeId} (ht : P.underlying t = some (.slice e)) (he : P.underlying e = some (.int .i64)) (hc : P.cellsOf e = 1) {fuel : Nat} {v : Value} {x : DataW H × List MemPlace} (hf : DataW.trod enc P W 0 (fun _ => true) true fuel t [v] = some x) :
    ∃ (A : Option Addr) (n c : Nat) (l : List Int), v = .slice A n c ∧ Rd W A n 1 (l.map (Value.int .i64)) ∧ (∀ x ∈ l, I64 x) ∧ n ≤ c ∧ c ≤ maxLen := by
  obtain ⟨A, n, c, l, hv, h1, _, hok, h2, h3⟩ := rd_of_cells (fun x : Int => [.int .i64 x]) I64 Nat.one_pos (fun _ => rfl) ht hc (fun n cs y _ h => by
    obtain ⟨b, hb, _, hw⟩ := DataW.trod_int he h
    exact ⟨b, hb, i64_of_wf hw⟩) hf
  exact ⟨A, n, c, l, by simpa using hv, by rwa [← List.map_eq_flatMap] at h1, hok, h2, h3⟩
theorem rd_ints {W : World} {t e : TypeId} (ht : P.underlying t = some (.slice e)) (he : P.underlying e = some (.int .i64)) (hc : P.cellsOf e = 1)
    {v : Value} {d : DataW H} {p : List MemPlace} (hv : Value.okWide P W .any 0 t v) (h : DataW.Trod enc P W 0 (fun _ => true) true t v d p) :
    ∃ (A : Option Addr) (n c : Nat) (l : List Int), v = .slice A n c ∧ Rd W A n 1 (l.map (Value.int .i64)) ∧ (∀ x ∈ l, I64 x) ∧ n ≤ c ∧ c ≤ maxLen := by
  obtain ⟨A, n, c, rfl⟩ := okWide_slice ht hv
  obtain ⟨fuel, hf⟩ := h
  exact rd_ints_of ht he hc hf
end
end Go.Proofs.Ytbmoolmgfpcnkaa

namespace Go.Proofs.Ytbmoolmgfpcnkaa
open Go.ChangeShapes Go.WideShapes Go.ChangeAt Go.RowKit Go.Deep
section
variable {H : Type} {enc : TypeId × Value → H} {P : Program}
theorem rd_triples_of {W : World} {t e ti : TypeId} {f0 f1 f2 : Field} (ht : P.underlying t = some (.slice e)) (he : P.underlying e = some (.struct #[f0, f1, f2])) (hc : P.cellsOf e = 3)
    (hf0 : f0.type = ti ∧ f0.offset = 0) (hf1 : f1.type = ti ∧ f1.offset = 1) (hf2 : f2.type = ti ∧ f2.offset = 2) (hti : P.underlying ti = some (.int .i64)) (hci : P.cellsOf ti = 1)
    {fuel : Nat} {v : Value} {x : DataW H × List MemPlace} (hf : DataW.trod enc P W 0 (fun _ => true) true fuel t [v] = some x) :
    ∃ (A : Option Addr) (n c : Nat) (l : List (Int × Int × Int)), v = .slice A n c ∧ Rd W A n 3 (l.flatMap fun r => [.int .i64 r.1, .int .i64 r.2.1, .int .i64 r.2.2]) ∧ (∀ r ∈ l, I64 r.1 ∧ I64 r.2.1 ∧ I64 r.2.2) ∧ n ≤ c ∧ c ≤ maxLen := by
  obtain ⟨A, n, c, l, hv, h1, _, hok, h2, h3⟩ := rd_of_cells (fun r : Int × Int × Int => [.int .i64 r.1, .int .i64 r.2.1, .int .i64 r.2.2]) (fun r => I64 r.1 ∧ I64 r.2.1 ∧ I64 r.2.2) (by omega) (fun _ => rfl) ht hc (fun n cs y hl h => by
    obtain ⟨y0, y1, y2, m, _, _, t0, t1, t2⟩ := trod_struct3 he h
    rw [hf0.1, hf0.2, hci] at t0
    rw [hf1.1, hf1.2, hci] at t1
    rw [hf2.1, hf2.2, hci] at t2
    match cs, hl with
    | [u0, u1, u2], _ =>
      obtain ⟨a, ha, _, wa⟩ := DataW.trod_int hti t0
      obtain ⟨b, hb, _, wb⟩ := DataW.trod_int hti t1
      obtain ⟨c, hc, _, wc⟩ := DataW.trod_int hti t2
      simp at ha hb hc
      subst ha hb hc
      exact ⟨(a, b, c), rfl, i64_of_wf wa, i64_of_wf wb, i64_of_wf wc⟩) hf
  exact ⟨A, n, c, l, by simpa using hv, h1, hok, h2, h3⟩
theorem rd_bytes {W : World} {t e : TypeId} (ht : P.underlying t = some (.slice e)) (he : P.underlying e = some (.int .u8)) (hc : P.cellsOf e = 1)
    {v : Value} {d : DataW H} {p : List MemPlace} (hv : Value.okWide P W .any 0 t v) (h : DataW.Trod enc P W 0 (fun _ => true) true t v d p) :
    ∃ (A : Option Addr) (n c : Nat) (l : List UInt8), v = .slice A n c ∧ Rd W A n 1 (l.map cU8) ∧ n ≤ c ∧ c ≤ maxLen := by
  obtain ⟨A, n, c, l, rfl, h1, _, _, h2, h3⟩ := rd_of_trod (fun b : UInt8 => [cU8 b]) (fun _ => True) Nat.one_pos (fun _ => rfl) ht hc (fun n cs y _ h => by
    obtain ⟨a, ha, _, hw⟩ := DataW.trod_int he h
    have hb : 0 ≤ a ∧ a ≤ 255 := by simpa [Lit.wf, IntKind.min, IntKind.max, IntKind.signed, IntKind.bits] using hw
    refine ⟨UInt8.ofNat a.toNat, ?_, trivial⟩
    rw [ha, cU8, UInt8.toNat_ofNat_of_lt' (by simp [UInt8.size]; omega)]
    congr 2
    omega) hv h
  exact ⟨A, n, c, l, rfl, by rwa [← List.map_eq_flatMap] at h1, h2, h3⟩
end
end Go.Proofs.Ytbmoolmgfpcnkaa
