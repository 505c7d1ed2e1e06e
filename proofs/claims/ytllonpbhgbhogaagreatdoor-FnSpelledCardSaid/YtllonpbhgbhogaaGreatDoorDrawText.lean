/-
The reference draws bytes.
-/
import Derived.Test.YtllonpbhgbhogaaGreatDoorDraw
import Derived.Test.YtllonpbhgbhogaaGreatDoorGa
namespace Go.Proofs.YtllonpbhgbhogaaGreatDoor
open Go.RowKit
set_option linter.unusedVariables false
theorem byte_of {y : Int} (h0 : 0 ≤ y) (h1 : y ≤ 255) : ∃ u : UInt8, y = (u.toNat : Int) := by
 refine ⟨UInt8.ofNat y.toNat, ?_⟩;rw [UInt8.toNat_ofNat_of_lt' (by simp [UInt8.size]; omega)];omega
set_option maxRecDepth 100000 in
set_option maxHeartbeats 4000000 in
theorem l1Text_any (g : Nat) (A : Option Addr) (n c : Nat) (bs : List UInt8) (i h : Int) (m : Nat) (w : World) (hb : Bk w g 115 [.slice A n c, .int .i64 i, .int .i64 h])
 (hA : Rd w A n 1 (bs.map cU8)) (hne : 0 < n → ∀ ad, A = some ad → ad.block ≠ g) (h0 : 0 ≤ i) (h1 : i ≤ n) (hn : n ≤ 1048576) (hm : m ≤ 100) :
 Calls Tryz.prog 92 #[.pointer (some ⟨g, 0, none⟩), .int .i64 m] w fun e w' => ∃ x : ByteArray, e = .returned (.string x) ∧ x.size ≤ m ∧ CurOn g A n c w w' := by
 have hneW : 0 < n → ∀ ad, A = some ad → ad.block ∉ [g] := fun hn0 ad he => by simpa using hne hn0 ad he
 have H := (Hp.start_blk hb).lit0 5 1;have G := Lib.hid hA;have NE := Lib.hid hne;have NW := Lib.hid hneW;have hw : IntKind.i64.wrap ((m : Int) + 1) = (m : Int) + 1 := IntWalk.i64_in _ (by omega);clear hb hA hne hneW;go_enter Tryz.func92, Tryz.ntmps92;go_wp2_with fail;refine (l1Below_any g A n c bs i h 4 _ (H.blk 1 rfl) (H.oldN G.out NW.out) NE.out h0 h1 hn (by decide)).mono ?_;rintro e w1 ⟨sx, rfl, s0, s1, _, C⟩;obtain ⟨i1, hh1, a1, b1, H1⟩ := H.cur 1 rfl C;have s2 := s1 (by decide);clear H C s1;go_wp2_with fail;refine (l1Below_any g A n c bs i1 hh1 ((m : Int) + 1) _ (H1.blk 1 rfl) (H1.oldN G.out NW.out) NE.out a1 b1 hn (by omega)).mono ?_;rintro e w2 ⟨x1, rfl, x0, xm, _, C⟩;obtain ⟨i2, hh2, a2, b2, H2⟩ := H1.cur 1 rfl C;have x2 := xm (by omega);obtain ⟨k0, rfl⟩ : ∃ q : Nat, x1 = q := ⟨x1.toNat, by omega⟩;clear H1 C xm hw;go_wp2_with fail
 go_loopw [5, 7] (fun v j wr => ∃ (k : Nat) (L : List UInt8) (i' h' : Int), j = .int .i64 k ∧ L.length + k ≤ m ∧ 0 ≤ i' ∧ i' ≤ n ∧
  Hp [g] w wr [.row 5 1 v L.length (L.map cU8), .blk g 115 [.slice A n c, .int .i64 i', .int .i64 h']]) (fun _ j _ => (intOf j).toNat)
 case atStart => exact ⟨k0, [], i2, hh2, rfl, by simp; omega, a2, b2, H2⟩
 case round =>
  clear H2;obtain ⟨k, L, i3, h3, rfl, hL, a3, b3, H⟩ := hrel
  rcases Nat.eq_zero_or_pos k with hk | hk
  ·subst hk
   obtain ⟨B, d, rfl⟩ := H.shape 0 rfl;have hks := run_str (c := d) 43 9 5 Tryz.underlying43 Tryz.underlying5 Tryz.underlying9 (H.rd 0 rfl);have HH := Lib.hid H.tail;clear H;go_wp2_with fail;go_ret;exact ⟨ofB L, rfl, by rw [ofB_size]; omega, i3, h3, a3, b3, HH.out⟩
  ·have hkk : (0 : Int) < (k : Int) := by omega
   go_wp2_with fail;refine (l1Byte_any g A n c bs i3 h3 _ (H.blk 1 rfl) (H.oldN G.out NW.out) NE.out a3 b3 hn).mono ?_;rintro e w4 ⟨y, rfl, y0, y1, C⟩;obtain ⟨i4, h4, a4, b4, H4⟩ := H.cur 1 rfl C;obtain ⟨u, rfl⟩ := byte_of y0 y1;clear H C;have hmr : ∀ q : Int, 0 < q → q ≤ 4 → IntKind.i64.wrap ((u.toNat : Int).tmod q) = (u.toNat : Int) % q := fun q q0 q4 => by
    rw [Int.tmod_eq_emod_of_nonneg y0];have q1 := Int.emod_nonneg (u.toNat : Int) (show q ≠ 0 by omega);have q2 := Int.emod_lt_of_pos (u.toNat : Int) q0;exact IntWalk.i64_in _ (by omega)
   by_cases hs1 : sx = 1
   ·have d1 : (sx == 1) = true := by simp [hs1]
    have d2 : (sx == 2) = false := by simp [hs1]
    obtain ⟨v, hv⟩ := byte_of (y := (u.toNat : Int) % 2) (by omega) (by omega);have hr := (hmr 2 (by decide) (by decide)).trans hv;clear hmr hs1;have hvv := v.toNat_lt;have wq : IntKind.u8.wrap (v.toNat : Int) = (v.toNat : Int) := wraps_u8 _ (by omega) (by omega);go_wp2_with (at_builtin; refine wp_appM (f := cU8) (H4) rfl _ _ _ rfl Tryz.underlying43 infoU8 rfl 0 _ _ rfl rfl _ _ (v) rfl (by simp) rfl (by first | (simp only [maxLen]; omega) | (simp [maxLen]; done) | (simp [maxLen]; omega)) (by first | omega | (simp; done) | (simp; omega)) ?_)
    intro v' w5 H5;have H6 := Lib.hid (show Hp [g] w w5 [.row 5 1 v' (L ++ [v]).length ((L ++ [v]).map cU8), .blk g 115 [.slice A n c, .int .i64 i4, .int .i64 h4]] by
     rw [List.map_append, List.length_append]; exact H5)
    clear H4 H5;go_wp2_with fail;go_roundw
    case rel => exact ⟨k - 1, L ++ [v], i4, h4, by go_num, by simp; omega, a4, b4, H6.out⟩
    case measure => simp [intOf]; omega
   ·by_cases hs2 : sx = 2
    ·have d1 : (sx == 1) = false := by simp [hs2]
     have d2 : (sx == 2) = true := by simp [hs2]
     obtain ⟨y4, hy4⟩ : ∃ y4, y4 = (u.toNat : Int) % 4 := ⟨_, rfl⟩;obtain ⟨v, hv⟩ := byte_of (y := 97 + y4) (by omega) (by omega);have hr := (hmr 4 (by decide) (by decide)).trans hy4.symm;have hr2 : IntKind.i64.wrap (97 + y4) = (v.toNat : Int) := (IntWalk.i64_in _ (by omega)).trans hv;have hy5 : (u.toNat : Int) % 4 = y4 := hy4.symm;clear hmr hs2 hs1 hy4;have hvv := v.toNat_lt;have wq : IntKind.u8.wrap (v.toNat : Int) = (v.toNat : Int) := wraps_u8 _ (by omega) (by omega);go_wp2_with (at_builtin; refine wp_appM (f := cU8) (H4) rfl _ _ _ rfl Tryz.underlying43 infoU8 rfl 0 _ _ rfl rfl _ _ (v) rfl (by simp) rfl (by first | (simp only [maxLen]; omega) | (simp [maxLen]; done) | (simp [maxLen]; omega)) (by first | omega | (simp; done) | (simp; omega)) ?_)
     intro v' w5 H5;have H6 := Lib.hid (show Hp [g] w w5 [.row 5 1 v' (L ++ [v]).length ((L ++ [v]).map cU8), .blk g 115 [.slice A n c, .int .i64 i4, .int .i64 h4]] by
      rw [List.map_append, List.length_append]; exact H5)
     clear H4 H5;go_wp2_with fail;go_roundw
     case rel => exact ⟨k - 1, L ++ [v], i4, h4, by go_num, by simp; omega, a4, b4, H6.out⟩
     case measure => simp [intOf]; omega
    ·have d1 : (sx == 1) = false := by simpa using hs1
     have d2 : (sx == 2) = false := by simpa using hs2
     obtain ⟨v, hv⟩ : ∃ v, v = u := ⟨_, rfl⟩;subst hv;clear hmr hs1 hs2;have hvv := v.toNat_lt;have wq : IntKind.u8.wrap (v.toNat : Int) = (v.toNat : Int) := wraps_u8 _ (by omega) (by omega);go_wp2_with (at_builtin; refine wp_appM (f := cU8) (H4) rfl _ _ _ rfl Tryz.underlying43 infoU8 rfl 0 _ _ rfl rfl _ _ (v) rfl (by simp) rfl (by first | (simp only [maxLen]; omega) | (simp [maxLen]; done) | (simp [maxLen]; omega)) (by first | omega | (simp; done) | (simp; omega)) ?_)
     intro v' w5 H5;have H6 := Lib.hid (show Hp [g] w w5 [.row 5 1 v' (L ++ [v]).length ((L ++ [v]).map cU8), .blk g 115 [.slice A n c, .int .i64 i4, .int .i64 h4]] by
      rw [List.map_append, List.length_append]; exact H5)
     clear H4 H5;go_wp2_with fail;go_roundw
     case rel => exact ⟨k - 1, L ++ [v], i4, h4, by go_num, by simp; omega, a4, b4, H6.out⟩
     case measure => simp [intOf]; omega
end Go.Proofs.YtllonpbhgbhogaaGreatDoor
