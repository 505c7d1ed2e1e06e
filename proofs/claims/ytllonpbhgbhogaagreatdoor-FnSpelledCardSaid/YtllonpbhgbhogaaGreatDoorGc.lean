/-
  Many texts in one: Encode, Decode, Parts, VolE.
-/
import Derived.Test.YtllonpbhgbhogaaGreatDoorGb
import Derived.Test.YtllonpbhgbhogaaGreatDoorGa
import Derived.StillTailTactics
set_option linter.unusedVariables false
set_option linter.unusedSimpArgs false
namespace Go.Proofs.YtllonpbhgbhogaaGreatDoor
open Go.RowKit
theorem take_flat {l : List Int} {i : Nat} {c : Int} (h : l[i]? = some c) : (l.take (i + 1)).flatMap enc1 = (l.take i).flatMap enc1 ++ enc1 c := by
 rw [List.take_add_one, h, Option.toList_some, List.flatMap_append, List.flatMap_singleton]
theorem enc_ones {c : Int} (h0 : 0 ≤ c) (h : c < 128) : (enc1 c).map cU8 = [.int .u8 c] := by
 rw [enc1, if_pos h]; simp [cU8, u8_val h0 (show c < 256 by omega)]
theorem enc_twos {c : Int} (h0 : 128 ≤ c) (h : c < 2048) : (enc1 c).map cU8 = [.int .u8 (192 + c / 64), .int .u8 (128 + c % 64)] := by
 rw [enc1, if_neg (by omega), if_pos h];simp [cU8, u8_val (show 0 ≤ 192 + c / 64 by omega) (by omega), u8_val (show 0 ≤ 128 + c % 64 by omega) (by omega)]
theorem enc_threes {c : Int} (h0 : 2048 ≤ c) (h : c < 65536) : (enc1 c).map cU8 = [.int .u8 (224 + c / 4096), .int .u8 (128 + c / 64 % 64), .int .u8 (128 + c % 64)] := by
 rw [enc1, if_neg (by omega), if_neg (by omega), if_pos h];simp [cU8, u8_val (show 0 ≤ 224 + c / 4096 by omega) (by omega), u8_val (show 0 ≤ 128 + c / 64 % 64 by omega) (by omega), u8_val (show 0 ≤ 128 + c % 64 by omega) (by omega)]
theorem enc_fours {c : Int} (h0 : 65536 ≤ c) (h : c < 2097152) : (enc1 c).map cU8 = [.int .u8 (240 + c / 262144), .int .u8 (128 + c / 4096 % 64), .int .u8 (128 + c / 64 % 64), .int .u8 (128 + c % 64)] := by
 rw [enc1, if_neg (by omega), if_neg (by omega), if_neg (by omega)];simp [cU8, u8_val (show 0 ≤ 240 + c / 262144 by omega) (by omega), u8_val (show 0 ≤ 128 + c / 4096 % 64 by omega) (by omega), u8_val (show 0 ≤ 128 + c / 64 % 64 by omega) (by omega), u8_val (show 0 ≤ 128 + c % 64 by omega) (by omega)]
theorem u8_wrap {x : Int} (h0 : 0 ≤ x) (h1 : x < 256) : IntKind.u8.wrap x = x := wraps_u8 x h0 (by omega)
set_option maxRecDepth 100000 in
set_option maxHeartbeats 8000000 in
theorem implEncode_any (A : Option Addr) (n c : Nat) (l : List Int) (w : World) (h : Rd w A n 1 (l.map (Value.int .i64))) (hn : n ≤ 16777216) :
 Calls Tryz.prog 154 #[.slice A n c] w fun e w' => e = .returned (.string (ofB (encL l))) ∧ Fr w w' := by
 have HL := Lib.hid h.len1;have G := Lib.hid h;have H0 := (Hp.start w).lit0 5 1;have HEN := Lib.hid (fun (hg : ∀ x ∈ l, sgnB x = true) => encL_good hg);have HEB := Lib.hid (fun (i : Nat) (c : Int) (hx : l[i]? = some c) (hs : sgnB c = false) => encL_bad hx hs)
 generalize encL l = out at HEN HEB ⊢
 clear h;go_enter Tryz.func154, Tryz.ntmps154;go_wp2_with fail
 go_loopw [3, 9] (fun v iv wr => ∃ i : Nat, iv = .int .i64 i ∧ i ≤ n ∧ (∀ x ∈ l.take i, sgnB x = true) ∧ Hp [] w wr [.row 5 1 v ((l.take i).flatMap enc1).length (((l.take i).flatMap enc1).map cU8)]) (fun _ iv _ => n - (intOf iv).toNat)
 case atStart => exact ⟨0, rfl, by omega, by simp, H0⟩
 case round =>
  clear H0;obtain ⟨i, rfl, hi, hg, H⟩ := hrel;have HG := Lib.hid hg;clear hg;obtain ⟨B, d, rfl⟩ := H.shape 0 rfl
  by_cases hlt : i < n
  ·obtain ⟨c0, hx⟩ := at_some HL.out hlt
   obtain ⟨bk, of, rfl, hc⟩ := (H.old G.out).get1 hx;have hi0 : (0 : Int) ≤ (i : Int) := by omega
   have hi1 : (i : Int) < (n : Int) := by omega
   have HX := Lib.hid hx;have HFL := Lib.hid (take_flat hx);have hol : ((l.take i).flatMap enc1).length ≤ 100000000 := by
    have := flat1_le (l.take i);rw [List.length_take] at this;omega
   clear hx
   generalize (l.take i).flatMap enc1 = o at H HFL hol
   go_wp2_with fail;refine (implSign_any _ _).mono ?_;rintro e wq ⟨rfl, hwq⟩;rw [← hwq] at H;clear hwq hc
   rcases (show sgnB c0 = true ∨ sgnB c0 = false by cases sgnB c0 <;> simp) with hsg | hsg
   ·
    have hsb := sgn_bounds hsg;have HSG := Lib.hid hsg;rw [hsg];clear hsg
    by_cases h1 : c0 < 128
    ·have d1 : decide (c0 < 128) = true := by simpa using h1
     have HE := Lib.hid (enc_ones (by omega) h1);have wq : IntKind.u8.wrap c0 = c0 := u8_wrap (by omega) (by omega);have HZ := Lib.hid (show szC c0 = 1 by unfold szC; rw [if_pos h1]);go_wp2_with (at_builtin; refine wp_app1 H rfl _ _ _ rfl Tryz.underlying43 infoU8 rfl (by decide) 0 _ _ _ rfl rfl _ 1 1 _ [.int .u8 c0] rfl (by simp) rfl (by simp [Value.oneCell']) (by simp only [maxLen]; omega) (by omega) ?_);intro v' w' H';have H2 : Hp [] w w' [.row 5 1 v' (o ++ enc1 c0).length ((o ++ enc1 c0).map cU8)] := by
      rw [List.length_append, List.map_append, HE.out, enc1_len, HZ.out];simpa using H'
     have H3 := Lib.hid H2;clear H' H2 H;go_wp2_with fail;go_roundw
     case rel => exact ⟨i + 1, by go_num, by omega, fun x hx => by
      rw [HX.out.take, List.mem_append] at hx
      rcases hx with hx | hx
      ·exact HG.out x hx
      ·rw [List.mem_singleton.1 hx]; exact HSG.out, by rw [HFL.out]; exact H3.out⟩
     case measure => simp [intOf]; omega
    ·have d1 : decide (c0 < 128) = false := by simpa using h1
     by_cases h2 : c0 < 2048
     ·have d2 : decide (c0 < 2048) = true := by simpa using h2
      obtain ⟨y1, hy1⟩ : ∃ y : Int, y = 192 + c0 / 64 := ⟨_, rfl⟩;obtain ⟨z2, hz2⟩ : ∃ y : Int, y = c0 % 64 := ⟨_, rfl⟩;obtain ⟨y2, hy2⟩ : ∃ y : Int, y = 128 + z2 := ⟨_, rfl⟩;have o1 : bits .or .i64 192 (c0 / 64) = y1 := by rw [hy1]; exact or_join 6 (by omega) (by omega) (by omega) (by omega) (by omega) (by omega)
      have p1 : IntKind.i64.wrap (192 + c0 / 64) = y1 := by rw [hy1]; exact IntWalk.i64_in _ (by omega)
      have a2 : bits .and .i64 c0 63 = z2 := by rw [hz2]; exact and_63 (by omega) (by omega)
      have o2 : bits .or .i64 128 z2 = y2 := by rw [hy2]; exact or_join 6 (by omega) (by omega) (by omega) (by omega) (by omega) (by omega)
      have p2 : IntKind.i64.wrap (128 + z2) = y2 := by rw [hy2]; exact IntWalk.i64_in _ (by omega)
      have w1 : IntKind.u8.wrap y1 = y1 := u8_wrap (by omega) (by omega);have w2 : IntKind.u8.wrap y2 = y2 := u8_wrap (by omega) (by omega);have HE := Lib.hid ((enc_twos (c := c0) (by omega) (by omega)).trans (by rw [← hy1, ← hz2, ← hy2]));clear hy1 hz2 hy2;have HZ := Lib.hid (show szC c0 = 2 by unfold szC; rw [if_neg h1, if_pos h2]);go_wp2_with (at_builtin; refine wp_app1 H rfl _ _ _ rfl Tryz.underlying43 infoU8 rfl (by decide) 0 _ _ _ rfl rfl _ 2 2 _ [.int .u8 y1, .int .u8 y2] rfl (by simp) rfl (by simp [Value.oneCell']) (by simp only [maxLen]; omega) (by omega) ?_);intro v' w' H';have H2 : Hp [] w w' [.row 5 1 v' (o ++ enc1 c0).length ((o ++ enc1 c0).map cU8)] := by
       rw [List.length_append, List.map_append, HE.out, enc1_len, HZ.out];simpa using H'
      have H3 := Lib.hid H2;clear H' H2 H;go_wp2_with fail;go_roundw
      case rel => exact ⟨i + 1, by go_num, by omega, fun x hx => by
       rw [HX.out.take, List.mem_append] at hx
       rcases hx with hx | hx
       ·exact HG.out x hx
       ·rw [List.mem_singleton.1 hx]; exact HSG.out, by rw [HFL.out]; exact H3.out⟩
      case measure => simp [intOf]; omega
     ·have d2 : decide (c0 < 2048) = false := by simpa using h2
      by_cases h3 : c0 < 65536
      ·have d3 : decide (c0 < 65536) = true := by simpa using h3
       obtain ⟨y1, hy1⟩ : ∃ y : Int, y = 224 + c0 / 4096 := ⟨_, rfl⟩;obtain ⟨z2, hz2⟩ : ∃ y : Int, y = c0 / 64 % 64 := ⟨_, rfl⟩;obtain ⟨y2, hy2⟩ : ∃ y : Int, y = 128 + z2 := ⟨_, rfl⟩;obtain ⟨z3, hz3⟩ : ∃ y : Int, y = c0 % 64 := ⟨_, rfl⟩;obtain ⟨y3, hy3⟩ : ∃ y : Int, y = 128 + z3 := ⟨_, rfl⟩;have o1 : bits .or .i64 224 (c0 / 4096) = y1 := by rw [hy1]; exact or_join 5 (by omega) (by omega) (by omega) (by omega) (by omega) (by omega)
       have p1 : IntKind.i64.wrap (224 + c0 / 4096) = y1 := by rw [hy1]; exact IntWalk.i64_in _ (by omega)
       have a2 : bits .and .i64 (c0 / 64) 63 = z2 := by rw [hz2]; exact and_63 (by omega) (by omega)
       have o2 : bits .or .i64 128 z2 = y2 := by rw [hy2]; exact or_join 6 (by omega) (by omega) (by omega) (by omega) (by omega) (by omega)
       have p2 : IntKind.i64.wrap (128 + z2) = y2 := by rw [hy2]; exact IntWalk.i64_in _ (by omega)
       have a3 : bits .and .i64 c0 63 = z3 := by rw [hz3]; exact and_63 (by omega) (by omega)
       have o3 : bits .or .i64 128 z3 = y3 := by rw [hy3]; exact or_join 6 (by omega) (by omega) (by omega) (by omega) (by omega) (by omega)
       have p3 : IntKind.i64.wrap (128 + z3) = y3 := by rw [hy3]; exact IntWalk.i64_in _ (by omega)
       have w1 : IntKind.u8.wrap y1 = y1 := u8_wrap (by omega) (by omega);have w2 : IntKind.u8.wrap y2 = y2 := u8_wrap (by omega) (by omega);have w3 : IntKind.u8.wrap y3 = y3 := u8_wrap (by omega) (by omega);have HE := Lib.hid ((enc_threes (c := c0) (by omega) (by omega)).trans (by rw [← hy1, ← hz2, ← hy2, ← hz3, ← hy3]));clear hy1 hz2 hy2 hz3 hy3;have HZ := Lib.hid (show szC c0 = 3 by unfold szC; rw [if_neg h1, if_neg h2, if_pos h3]);go_wp2_with (at_builtin; refine wp_app1 H rfl _ _ _ rfl Tryz.underlying43 infoU8 rfl (by decide) 0 _ _ _ rfl rfl _ 3 3 _ [.int .u8 y1, .int .u8 y2, .int .u8 y3] rfl (by simp) rfl (by simp [Value.oneCell']) (by simp only [maxLen]; omega) (by omega) ?_);intro v' w' H';have H2 : Hp [] w w' [.row 5 1 v' (o ++ enc1 c0).length ((o ++ enc1 c0).map cU8)] := by
        rw [List.length_append, List.map_append, HE.out, enc1_len, HZ.out];simpa using H'
       have H3 := Lib.hid H2;clear H' H2 H;go_wp2_with fail;go_roundw
       case rel => exact ⟨i + 1, by go_num, by omega, fun x hx => by
        rw [HX.out.take, List.mem_append] at hx
        rcases hx with hx | hx
        ·exact HG.out x hx
        ·rw [List.mem_singleton.1 hx]; exact HSG.out, by rw [HFL.out]; exact H3.out⟩
       case measure => simp [intOf]; omega
      ·have d3 : decide (c0 < 65536) = false := by simpa using h3
       obtain ⟨y1, hy1⟩ : ∃ y : Int, y = 240 + c0 / 262144 := ⟨_, rfl⟩;obtain ⟨z2, hz2⟩ : ∃ y : Int, y = c0 / 4096 % 64 := ⟨_, rfl⟩;obtain ⟨y2, hy2⟩ : ∃ y : Int, y = 128 + z2 := ⟨_, rfl⟩;obtain ⟨z3, hz3⟩ : ∃ y : Int, y = c0 / 64 % 64 := ⟨_, rfl⟩;obtain ⟨y3, hy3⟩ : ∃ y : Int, y = 128 + z3 := ⟨_, rfl⟩;obtain ⟨z4, hz4⟩ : ∃ y : Int, y = c0 % 64 := ⟨_, rfl⟩;obtain ⟨y4, hy4⟩ : ∃ y : Int, y = 128 + z4 := ⟨_, rfl⟩;have o1 : bits .or .i64 240 (c0 / 262144) = y1 := by rw [hy1]; exact or_join 4 (by omega) (by omega) (by omega) (by omega) (by omega) (by omega)
       have p1 : IntKind.i64.wrap (240 + c0 / 262144) = y1 := by rw [hy1]; exact IntWalk.i64_in _ (by omega)
       have a2 : bits .and .i64 (c0 / 4096) 63 = z2 := by rw [hz2]; exact and_63 (by omega) (by omega)
       have o2 : bits .or .i64 128 z2 = y2 := by rw [hy2]; exact or_join 6 (by omega) (by omega) (by omega) (by omega) (by omega) (by omega)
       have p2 : IntKind.i64.wrap (128 + z2) = y2 := by rw [hy2]; exact IntWalk.i64_in _ (by omega)
       have a3 : bits .and .i64 (c0 / 64) 63 = z3 := by rw [hz3]; exact and_63 (by omega) (by omega)
       have o3 : bits .or .i64 128 z3 = y3 := by rw [hy3]; exact or_join 6 (by omega) (by omega) (by omega) (by omega) (by omega) (by omega)
       have p3 : IntKind.i64.wrap (128 + z3) = y3 := by rw [hy3]; exact IntWalk.i64_in _ (by omega)
       have a4 : bits .and .i64 c0 63 = z4 := by rw [hz4]; exact and_63 (by omega) (by omega)
       have o4 : bits .or .i64 128 z4 = y4 := by rw [hy4]; exact or_join 6 (by omega) (by omega) (by omega) (by omega) (by omega) (by omega)
       have p4 : IntKind.i64.wrap (128 + z4) = y4 := by rw [hy4]; exact IntWalk.i64_in _ (by omega)
       have w1 : IntKind.u8.wrap y1 = y1 := u8_wrap (by omega) (by omega);have w2 : IntKind.u8.wrap y2 = y2 := u8_wrap (by omega) (by omega);have w3 : IntKind.u8.wrap y3 = y3 := u8_wrap (by omega) (by omega);have w4 : IntKind.u8.wrap y4 = y4 := u8_wrap (by omega) (by omega);have HE := Lib.hid ((enc_fours (c := c0) (by omega) (by omega)).trans (by rw [← hy1, ← hz2, ← hy2, ← hz3, ← hy3, ← hz4, ← hy4]));clear hy1 hz2 hy2 hz3 hy3 hz4 hy4;have HZ := Lib.hid (show szC c0 = 4 by unfold szC; rw [if_neg h1, if_neg h2, if_neg h3]);go_wp2_with (at_builtin; refine wp_app1 H rfl _ _ _ rfl Tryz.underlying43 infoU8 rfl (by decide) 0 _ _ _ rfl rfl _ 4 4 _ [.int .u8 y1, .int .u8 y2, .int .u8 y3, .int .u8 y4] rfl (by simp) rfl (by simp [Value.oneCell']) (by simp only [maxLen]; omega) (by omega) ?_);intro v' w' H';have H2 : Hp [] w w' [.row 5 1 v' (o ++ enc1 c0).length ((o ++ enc1 c0).map cU8)] := by
        rw [List.length_append, List.map_append, HE.out, enc1_len, HZ.out];simpa using H'
       have H3 := Lib.hid H2;clear H' H2 H;go_wp2_with fail;go_roundw
       case rel => exact ⟨i + 1, by go_num, by omega, fun x hx => by
        rw [HX.out.take, List.mem_append] at hx
        rcases hx with hx | hx
        ·exact HG.out x hx
        ·rw [List.mem_singleton.1 hx]; exact HSG.out, by rw [HFL.out]; exact H3.out⟩
       case measure => simp [intOf]; omega
   ·have HE := Lib.hid (HEB.out i c0 HX.out hsg)
    rw [hsg];go_wp2_with fail;go_ret;rw [HE.out];exact ⟨rfl, H.fr⟩
  ·have ht : l.take i = l := List.take_of_length_le (by rw [HL.out]; omega)
   have hge : ¬ ((i : Int) < (n : Int)) := by omega
   have HE := Lib.hid (HEN.out (by have := HG.out; rwa [ht] at this));rw [ht] at H ⊢;clear ht
   generalize l.flatMap enc1 = o at H HE ⊢
   have hk := run_str (c := d) 43 9 5 Tryz.underlying43 Tryz.underlying5 Tryz.underlying9 (H.rd 0 rfl);have F := Lib.hid H.fr;clear H
   go_wp2
   go_ret;rw [HE.out];exact ⟨rfl, F.out⟩
set_option maxRecDepth 100000 in
set_option maxHeartbeats 8000000 in
theorem specEncode_any (A : Option Addr) (n c : Nat) (l : List Int) (w : World) (h : Rd w A n 1 (l.map (Value.int .i64))) (hn : n ≤ 16777216) :
 Calls Tryz.prog 102 #[.slice A n c] w fun e w' => e = .returned (.string (ofB (encL l))) ∧ Fr w w' := by
 have HL := Lib.hid h.len1;have G := Lib.hid h;have H0 := (Hp.start w).lit0 5 1;have HEN := Lib.hid (fun (hg : ∀ x ∈ l, sgnB x = true) => encL_good hg);have HEB := Lib.hid (fun (i : Nat) (c : Int) (hx : l[i]? = some c) (hs : sgnB c = false) => encL_bad hx hs)
 generalize encL l = out at HEN HEB ⊢
 clear h;go_enter Tryz.func102, Tryz.ntmps102;go_wp2_with fail
 go_loopw [3, 4] (fun v iv wr => ∃ i : Nat, iv = .int .i64 i ∧ i ≤ n ∧ (∀ x ∈ l.take i, sgnB x = true) ∧ Hp [] w wr [.row 5 1 v ((l.take i).flatMap enc1).length (((l.take i).flatMap enc1).map cU8)]) (fun _ iv _ => n - (intOf iv).toNat)
 case atStart => exact ⟨0, rfl, by omega, by simp, H0⟩
 case round =>
  clear H0;obtain ⟨i, rfl, hi, hg, H⟩ := hrel;have HG := Lib.hid hg;clear hg;obtain ⟨B, d, rfl⟩ := H.shape 0 rfl
  by_cases hlt : i < n
  ·obtain ⟨c0, hx⟩ := at_some HL.out hlt
   obtain ⟨bk, of, rfl, hc⟩ := (H.old G.out).get1 hx;have hi0 : (0 : Int) ≤ (i : Int) := by omega
   have hi1 : (i : Int) < (n : Int) := by omega
   have HX := Lib.hid hx;have HFL := Lib.hid (take_flat hx);have hol : ((l.take i).flatMap enc1).length ≤ 100000000 := by
    have := flat1_le (l.take i);rw [List.length_take] at this;omega
   clear hx
   generalize (l.take i).flatMap enc1 = o at H HFL hol
   go_wp2_with fail;refine (specSign_any _ _).mono ?_;rintro e wq ⟨rfl, hwq⟩;rw [← hwq] at H;clear hwq hc
   rcases (show sgnB c0 = true ∨ sgnB c0 = false by cases sgnB c0 <;> simp) with hsg | hsg
   ·
    have hsb := sgn_bounds hsg;have HSG := Lib.hid hsg;rw [hsg];clear hsg
    by_cases h1 : c0 < 128
    ·have d1 : decide (c0 < 128) = true := by simpa using h1
     have HE := Lib.hid (enc_ones (by omega) h1);have wq : IntKind.u8.wrap c0 = c0 := u8_wrap (by omega) (by omega);have HZ := Lib.hid (show szC c0 = 1 by unfold szC; rw [if_pos h1]);go_wp2_with (at_builtin; refine wp_app1 H rfl _ _ _ rfl Tryz.underlying43 infoU8 rfl (by decide) 0 _ _ _ rfl rfl _ 1 1 _ [.int .u8 c0] rfl (by simp) rfl (by simp [Value.oneCell']) (by simp only [maxLen]; omega) (by omega) ?_);intro v' w' H';have H2 : Hp [] w w' [.row 5 1 v' (o ++ enc1 c0).length ((o ++ enc1 c0).map cU8)] := by
      rw [List.length_append, List.map_append, HE.out, enc1_len, HZ.out];simpa using H'
     have H3 := Lib.hid H2;clear H' H2 H;go_wp2_with fail;go_roundw
     case rel => exact ⟨i + 1, by go_num, by omega, fun x hx => by
      rw [HX.out.take, List.mem_append] at hx
      rcases hx with hx | hx
      ·exact HG.out x hx
      ·rw [List.mem_singleton.1 hx]; exact HSG.out, by rw [HFL.out]; exact H3.out⟩
     case measure => simp [intOf]; omega
    ·have d1 : decide (c0 < 128) = false := by simpa using h1
     by_cases h2 : c0 < 2048
     ·have d2 : decide (c0 < 2048) = true := by simpa using h2
      obtain ⟨y1, hy1⟩ : ∃ y : Int, y = 192 + c0 / 64 := ⟨_, rfl⟩;obtain ⟨z2, hz2⟩ : ∃ y : Int, y = c0 % 64 := ⟨_, rfl⟩;obtain ⟨y2, hy2⟩ : ∃ y : Int, y = 128 + z2 := ⟨_, rfl⟩;have o1 : bits .or .i64 192 (c0 / 64) = y1 := by rw [hy1]; exact or_join 6 (by omega) (by omega) (by omega) (by omega) (by omega) (by omega)
      have p1 : IntKind.i64.wrap (192 + c0 / 64) = y1 := by rw [hy1]; exact IntWalk.i64_in _ (by omega)
      have a2 : bits .and .i64 c0 63 = z2 := by rw [hz2]; exact and_63 (by omega) (by omega)
      have o2 : bits .or .i64 128 z2 = y2 := by rw [hy2]; exact or_join 6 (by omega) (by omega) (by omega) (by omega) (by omega) (by omega)
      have p2 : IntKind.i64.wrap (128 + z2) = y2 := by rw [hy2]; exact IntWalk.i64_in _ (by omega)
      have w1 : IntKind.u8.wrap y1 = y1 := u8_wrap (by omega) (by omega);have w2 : IntKind.u8.wrap y2 = y2 := u8_wrap (by omega) (by omega);have HE := Lib.hid ((enc_twos (c := c0) (by omega) (by omega)).trans (by rw [← hy1, ← hz2, ← hy2]));clear hy1 hz2 hy2;have HZ := Lib.hid (show szC c0 = 2 by unfold szC; rw [if_neg h1, if_pos h2]);go_wp2_with (at_builtin; refine wp_app1 H rfl _ _ _ rfl Tryz.underlying43 infoU8 rfl (by decide) 0 _ _ _ rfl rfl _ 2 2 _ [.int .u8 y1, .int .u8 y2] rfl (by simp) rfl (by simp [Value.oneCell']) (by simp only [maxLen]; omega) (by omega) ?_);intro v' w' H';have H2 : Hp [] w w' [.row 5 1 v' (o ++ enc1 c0).length ((o ++ enc1 c0).map cU8)] := by
       rw [List.length_append, List.map_append, HE.out, enc1_len, HZ.out];simpa using H'
      have H3 := Lib.hid H2;clear H' H2 H;go_wp2_with fail;go_roundw
      case rel => exact ⟨i + 1, by go_num, by omega, fun x hx => by
       rw [HX.out.take, List.mem_append] at hx
       rcases hx with hx | hx
       ·exact HG.out x hx
       ·rw [List.mem_singleton.1 hx]; exact HSG.out, by rw [HFL.out]; exact H3.out⟩
      case measure => simp [intOf]; omega
     ·have d2 : decide (c0 < 2048) = false := by simpa using h2
      by_cases h3 : c0 < 65536
      ·have d3 : decide (c0 < 65536) = true := by simpa using h3
       obtain ⟨y1, hy1⟩ : ∃ y : Int, y = 224 + c0 / 4096 := ⟨_, rfl⟩;obtain ⟨z2, hz2⟩ : ∃ y : Int, y = c0 / 64 % 64 := ⟨_, rfl⟩;obtain ⟨y2, hy2⟩ : ∃ y : Int, y = 128 + z2 := ⟨_, rfl⟩;obtain ⟨z3, hz3⟩ : ∃ y : Int, y = c0 % 64 := ⟨_, rfl⟩;obtain ⟨y3, hy3⟩ : ∃ y : Int, y = 128 + z3 := ⟨_, rfl⟩;have o1 : bits .or .i64 224 (c0 / 4096) = y1 := by rw [hy1]; exact or_join 5 (by omega) (by omega) (by omega) (by omega) (by omega) (by omega)
       have p1 : IntKind.i64.wrap (224 + c0 / 4096) = y1 := by rw [hy1]; exact IntWalk.i64_in _ (by omega)
       have a2 : bits .and .i64 (c0 / 64) 63 = z2 := by rw [hz2]; exact and_63 (by omega) (by omega)
       have o2 : bits .or .i64 128 z2 = y2 := by rw [hy2]; exact or_join 6 (by omega) (by omega) (by omega) (by omega) (by omega) (by omega)
       have p2 : IntKind.i64.wrap (128 + z2) = y2 := by rw [hy2]; exact IntWalk.i64_in _ (by omega)
       have a3 : bits .and .i64 c0 63 = z3 := by rw [hz3]; exact and_63 (by omega) (by omega)
       have o3 : bits .or .i64 128 z3 = y3 := by rw [hy3]; exact or_join 6 (by omega) (by omega) (by omega) (by omega) (by omega) (by omega)
       have p3 : IntKind.i64.wrap (128 + z3) = y3 := by rw [hy3]; exact IntWalk.i64_in _ (by omega)
       have w1 : IntKind.u8.wrap y1 = y1 := u8_wrap (by omega) (by omega);have w2 : IntKind.u8.wrap y2 = y2 := u8_wrap (by omega) (by omega);have w3 : IntKind.u8.wrap y3 = y3 := u8_wrap (by omega) (by omega);have HE := Lib.hid ((enc_threes (c := c0) (by omega) (by omega)).trans (by rw [← hy1, ← hz2, ← hy2, ← hz3, ← hy3]));clear hy1 hz2 hy2 hz3 hy3;have HZ := Lib.hid (show szC c0 = 3 by unfold szC; rw [if_neg h1, if_neg h2, if_pos h3]);go_wp2_with (at_builtin; refine wp_app1 H rfl _ _ _ rfl Tryz.underlying43 infoU8 rfl (by decide) 0 _ _ _ rfl rfl _ 3 3 _ [.int .u8 y1, .int .u8 y2, .int .u8 y3] rfl (by simp) rfl (by simp [Value.oneCell']) (by simp only [maxLen]; omega) (by omega) ?_);intro v' w' H';have H2 : Hp [] w w' [.row 5 1 v' (o ++ enc1 c0).length ((o ++ enc1 c0).map cU8)] := by
        rw [List.length_append, List.map_append, HE.out, enc1_len, HZ.out];simpa using H'
       have H3 := Lib.hid H2;clear H' H2 H;go_wp2_with fail;go_roundw
       case rel => exact ⟨i + 1, by go_num, by omega, fun x hx => by
        rw [HX.out.take, List.mem_append] at hx
        rcases hx with hx | hx
        ·exact HG.out x hx
        ·rw [List.mem_singleton.1 hx]; exact HSG.out, by rw [HFL.out]; exact H3.out⟩
       case measure => simp [intOf]; omega
      ·have d3 : decide (c0 < 65536) = false := by simpa using h3
       obtain ⟨y1, hy1⟩ : ∃ y : Int, y = 240 + c0 / 262144 := ⟨_, rfl⟩;obtain ⟨z2, hz2⟩ : ∃ y : Int, y = c0 / 4096 % 64 := ⟨_, rfl⟩;obtain ⟨y2, hy2⟩ : ∃ y : Int, y = 128 + z2 := ⟨_, rfl⟩;obtain ⟨z3, hz3⟩ : ∃ y : Int, y = c0 / 64 % 64 := ⟨_, rfl⟩;obtain ⟨y3, hy3⟩ : ∃ y : Int, y = 128 + z3 := ⟨_, rfl⟩;obtain ⟨z4, hz4⟩ : ∃ y : Int, y = c0 % 64 := ⟨_, rfl⟩;obtain ⟨y4, hy4⟩ : ∃ y : Int, y = 128 + z4 := ⟨_, rfl⟩;have o1 : bits .or .i64 240 (c0 / 262144) = y1 := by rw [hy1]; exact or_join 4 (by omega) (by omega) (by omega) (by omega) (by omega) (by omega)
       have p1 : IntKind.i64.wrap (240 + c0 / 262144) = y1 := by rw [hy1]; exact IntWalk.i64_in _ (by omega)
       have a2 : bits .and .i64 (c0 / 4096) 63 = z2 := by rw [hz2]; exact and_63 (by omega) (by omega)
       have o2 : bits .or .i64 128 z2 = y2 := by rw [hy2]; exact or_join 6 (by omega) (by omega) (by omega) (by omega) (by omega) (by omega)
       have p2 : IntKind.i64.wrap (128 + z2) = y2 := by rw [hy2]; exact IntWalk.i64_in _ (by omega)
       have a3 : bits .and .i64 (c0 / 64) 63 = z3 := by rw [hz3]; exact and_63 (by omega) (by omega)
       have o3 : bits .or .i64 128 z3 = y3 := by rw [hy3]; exact or_join 6 (by omega) (by omega) (by omega) (by omega) (by omega) (by omega)
       have p3 : IntKind.i64.wrap (128 + z3) = y3 := by rw [hy3]; exact IntWalk.i64_in _ (by omega)
       have a4 : bits .and .i64 c0 63 = z4 := by rw [hz4]; exact and_63 (by omega) (by omega)
       have o4 : bits .or .i64 128 z4 = y4 := by rw [hy4]; exact or_join 6 (by omega) (by omega) (by omega) (by omega) (by omega) (by omega)
       have p4 : IntKind.i64.wrap (128 + z4) = y4 := by rw [hy4]; exact IntWalk.i64_in _ (by omega)
       have w1 : IntKind.u8.wrap y1 = y1 := u8_wrap (by omega) (by omega);have w2 : IntKind.u8.wrap y2 = y2 := u8_wrap (by omega) (by omega);have w3 : IntKind.u8.wrap y3 = y3 := u8_wrap (by omega) (by omega);have w4 : IntKind.u8.wrap y4 = y4 := u8_wrap (by omega) (by omega);have HE := Lib.hid ((enc_fours (c := c0) (by omega) (by omega)).trans (by rw [← hy1, ← hz2, ← hy2, ← hz3, ← hy3, ← hz4, ← hy4]));clear hy1 hz2 hy2 hz3 hy3 hz4 hy4;have HZ := Lib.hid (show szC c0 = 4 by unfold szC; rw [if_neg h1, if_neg h2, if_neg h3]);go_wp2_with (at_builtin; refine wp_app1 H rfl _ _ _ rfl Tryz.underlying43 infoU8 rfl (by decide) 0 _ _ _ rfl rfl _ 4 4 _ [.int .u8 y1, .int .u8 y2, .int .u8 y3, .int .u8 y4] rfl (by simp) rfl (by simp [Value.oneCell']) (by simp only [maxLen]; omega) (by omega) ?_);intro v' w' H';have H2 : Hp [] w w' [.row 5 1 v' (o ++ enc1 c0).length ((o ++ enc1 c0).map cU8)] := by
        rw [List.length_append, List.map_append, HE.out, enc1_len, HZ.out];simpa using H'
       have H3 := Lib.hid H2;clear H' H2 H;go_wp2_with fail;go_roundw
       case rel => exact ⟨i + 1, by go_num, by omega, fun x hx => by
        rw [HX.out.take, List.mem_append] at hx
        rcases hx with hx | hx
        ·exact HG.out x hx
        ·rw [List.mem_singleton.1 hx]; exact HSG.out, by rw [HFL.out]; exact H3.out⟩
       case measure => simp [intOf]; omega
   ·have HE := Lib.hid (HEB.out i c0 HX.out hsg)
    rw [hsg];go_wp2_with fail;go_ret;rw [HE.out];exact ⟨rfl, H.fr⟩
  ·have ht : l.take i = l := List.take_of_length_le (by rw [HL.out]; omega)
   have hge : ¬ ((i : Int) < (n : Int)) := by omega
   have HE := Lib.hid (HEN.out (by have := HG.out; rwa [ht] at this));rw [ht] at H ⊢;clear ht
   generalize l.flatMap enc1 = o at H HE ⊢
   have hk := run_str (c := d) 43 9 5 Tryz.underlying43 Tryz.underlying5 Tryz.underlying9 (H.rd 0 rfl);have F := Lib.hid H.fr;clear H
   go_wp2
   go_ret;rw [HE.out];exact ⟨rfl, F.out⟩
end Go.Proofs.YtllonpbhgbhogaaGreatDoor
namespace Go.Proofs.YtllonpbhgbhogaaGreatDoor
open Go.RowKit
def DecM (s : List UInt8) (w : World) (e : Ending) (w' : World) : Prop :=
 ∃ (A : Option Addr) (n c : Nat), e = .returned (.tuple #[.slice A n c, .bool (decR s).2]) ∧ n = (decR s).1.length ∧ w'.ownsRow w.heap.size 3 1 (.slice A n c) n ((decR s).1.map (Value.int .i64)) ∧ Fr w w'
theorem drop_cons {s : List UInt8} {a : Nat} {b : UInt8} (h : s[a]? = some b) : s.drop a = b :: s.drop (a + 1) := by
 obtain ⟨hi, e⟩ := List.getElem?_eq_some_iff.1 h;rw [List.drop_eq_getElem_cons hi, e]
set_option maxRecDepth 100000 in
set_option maxHeartbeats 4000000 in
theorem implDecode_any (s : ByteArray) (w : World) (hz : s.size ≤ 16777216) :
 Calls Tryz.prog 147 #[.string s] w (DecM (toB s) w) := by
 have H0 := (Hp.start w).lit0 3 1;obtain ⟨N, hN⟩ : ∃ N, N = s.size := ⟨_, rfl⟩;have HN := Lib.hid hN;have HTL := Lib.hid (show (toB s).length = N by rw [toB_len, hN]);have hNb : N ≤ 16777216 := by omega
 rw [← hN] at hz;go_enter Tryz.func147, Tryz.ntmps147;go_wp2_with fail
 go_loopw [4, 5] (fun v av wr => ∃ (a : Nat) (o : List Int), av = .int .i64 a ∧ DSt (toB s) a o ∧ Hp [] w wr [.row 3 1 v o.length (o.map (Value.int .i64))]) (fun _ av _ => N - (intOf av).toNat)
 case atStart => exact ⟨0, [], rfl, DSt.start _, H0⟩
 case round =>
  clear H0;obtain ⟨a, o, rfl, hst, H⟩ := hrel;obtain ⟨B, d, rfl⟩ := H.shape 0 rfl;have HST := Lib.hid hst;have hal := hst.le;have hol := hst.len;rw [HTL.out] at hal;clear hst;have hsN : s.size = N := hN.symm
  by_cases hlt : a < N
  ·obtain ⟨b, hb⟩ := some_at HTL.out hlt
   have HD := Lib.hid (drop_cons hb);have hlt2 : (a : Int) < (N : Int) := by omega
   have ha0 : (0 : Int) ≤ (a : Int) := by omega
   have hle2 : (a : Int) ≤ (N : Int) := by omega
   clear hb hN;go_wp2_with fail;refine (implSignAt_any _ b ((toB s).drop (a + 1)) _ (by rw [toB_extract, HD.out]; exact List.take_of_length_le (by rw [← HD.out, List.length_drop, HTL.out]; omega)) (by rw [← toB_len, toB_extract, List.length_take, List.length_drop, HTL.out]; omega)).mono ?_;rintro e w1 ⟨rfl, f1⟩;replace H := H.go f1;have HO := Lib.hid (show oneF ((toB s).drop a) = oneT b ((toB s).drop (a + 1)) by rw [HD.out]; rfl)
   generalize oneT b ((toB s).drop (a + 1)) = p at HO ⊢
   obtain ⟨c0, k⟩ := p;clear f1
   by_cases hk : k = 0
   ·subst hk
    have HE := Lib.hid (HST.out.stop (by rw [HTL.out]; exact hlt) HO.out);go_wp2_with fail;go_ret2;refine ⟨none, 0, 0, by rw [HE.out]; rfl, by rw [HE.out]; rfl, by rw [HE.out]; exact own_nil _ _ _ _, H.fr⟩
   ·have hk' : ((k : Int) == 0) = false := by simp; omega
    have HNX := Lib.hid (HST.out.next (by rw [HTL.out]; exact hlt) HO.out hk);have hnl := HNX.out.le;rw [HTL.out] at hnl;go_wp2_with (at_builtin; refine wp_appM (f := Value.int .i64) (H) rfl _ _ _ rfl Tryz.underlying81 infoInt rfl 0 _ _ rfl rfl _ _ (c0) rfl (by simp) rfl (by first | (simp only [maxLen]; omega) | (simp [maxLen]; done) | (simp [maxLen]; omega)) (by first | omega | (simp; done) | (simp; omega)) ?_)
    intro v' w' H';have H2 := Lib.hid (show Hp [] w w' [.row 3 1 v' (o ++ [c0]).length ((o ++ [c0]).map (Value.int .i64))] by
     rw [List.map_append, List.length_append]; exact H')
    clear H' H;go_wp2_with fail;go_roundw
    case rel => exact ⟨a + k, o ++ [c0], by go_num, HNX.out, H2.out⟩
    case measure => simp [intOf]; omega
  ·have hge : ¬ ((a : Int) < (N : Int)) := by omega
   have HE := Lib.hid (HST.out.done (by rw [HTL.out]; omega));clear hN;go_wp2_with fail;go_ret2;exact ⟨B, o.length, d, by rw [HE.out]; rfl, by rw [HE.out], by rw [HE.out]; exact H.out 0 rfl, H.fr⟩
set_option maxRecDepth 100000 in
set_option maxHeartbeats 8000000 in
theorem l3One_any (s : ByteArray) (a : Nat) (b : UInt8) (r : List UInt8) (w : World) (hb : (toB s)[a]? = some b) (hr : r = (toB s).drop (a + 1)) (hz : s.size ≤ 16777216) :
 Calls Tryz.prog 139 #[.string s, .int .i64 a] w fun e w' => e = .returned (.tuple #[.int .i64 (oneT b r).1, .int .i64 ((oneT b r).2 : Nat)]) ∧ Fr w w' := by
 obtain ⟨p, hp⟩ : ∃ p, p = oneT b r := ⟨_, rfl⟩;have HP := Lib.hid hp;rw [← hp];clear hp;obtain ⟨N, hN⟩ : ∃ N, N = s.size := ⟨_, rfl⟩;have HN := Lib.hid hN;have HTL := Lib.hid (show (toB s).length = N by rw [toB_len, hN]);have hNb : N ≤ 16777216 := by omega
 have haN : a < N := by rw [← HTL.out]; exact (List.getElem?_eq_some_iff.1 hb).1
 have hrl : r.length + (a + 1) = N := by rw [hr, List.length_drop, HTL.out]; omega
 have hks : a < s.size := by rw [← hN]; exact haN
 have e1 : s[a] = b := toB_get hb hks;have hb0 : ((s[a]).toNat : Int) ≤ 255 := by have := (s[a]).toNat_lt; omega
 have hb1 : (0 : Int) ≤ ((s[a]).toNat : Int) := by omega
 have hlt2 : (a : Int) < (N : Int) := by omega
 have ha0 : (0 : Int) ≤ (a : Int) := by omega
 have HB := Lib.hid (show (s[a]).toNat = b.toNat by rw [e1]);have LB := Lib.hid (show 0 ≤ leadF b ∧ leadF b < 256 by have := (lead_bounds b).1; have h2 := b.toNat_lt; refine ⟨this, ?_⟩; unfold leadF; repeat' split; all_goals omega);have hsN : s.size = N := hN.symm;clear hb e1 hz hN;go_enter Tryz.func139, Tryz.ntmps139
 rcases sizeF_cases b with ⟨hb, hbb⟩ | ⟨hb, hbb⟩ | ⟨hb, hbb⟩ | ⟨hb, hbb⟩ | ⟨hb, hbb⟩
 ·have hd0 : decide (((s[a]).toNat : Int) < 128) = true := by rw [HB.out]; simp; omega
  obtain ⟨c0, hc0⟩ : ∃ q, q = leadF b := ⟨_, rfl⟩;have ha : ((s[a]).toNat : Int) = c0 := by rw [HB.out, hc0, leadF, if_pos hbb]
  have HC0 := Lib.hid hc0;rw [ha] at hb0 hb1 hd0;clear hc0;have HSZ := Lib.hid hb
  by_cases hlen : N < a + 1
  ·have HE := Lib.hid (HP.out.trans (oneT_none (.inr (by rw [HSZ.out]; omega))))
   have hw : IntKind.i64.wrap ((a : Int) + 1) = (a : Int) + 1 := IntWalk.i64_in _ (by omega);have hd : decide ((N : Int) < (a : Int) + 1) = true := by simp; omega
   go_wp2_with fail;go_ret2;rw [HE.out];exact ⟨rfl, Below.refl _ _⟩
  ·have hw : IntKind.i64.wrap ((a : Int) + 1) = (a : Int) + 1 := IntWalk.i64_in _ (by omega)
   have hd : decide ((N : Int) < (a : Int) + 1) = false := by simp; omega
   go_wp2_with fail
   go_loopw [8, 9] (fun cv iv wr => ∃ (i : Nat) (c : Int), iv = .int .i64 ((i + 1 : Nat) : Int) ∧ cv = .int .i64 c ∧ i + 1 ≤ 1 ∧ accC (leadF b) (r.take i) = some c ∧ 0 ≤ c ∧ c < 8388608 ∧ wr = w) (fun _ iv _ => 1 - (intOf iv).toNat)
   case atStart => exact ⟨0, c0, rfl, rfl, by omega, by rw [HC0.out]; rfl, by rw [HC0.out]; exact LB.out.1, by have := LB.out.2; rw [HC0.out]; omega, rfl⟩
   case round =>
    obtain ⟨i, c, rfl, rfl, hi, hacc, hc0, hc1, rfl⟩ := hrel;have HA := Lib.hid hacc;clear hacc hw hd
    by_cases hlt : i + 1 < 1
    ·obtain ⟨q, hq⟩ : ∃ q, q = a + (i + 1) := ⟨_, rfl⟩
     have hqN : q < N := by omega
     obtain ⟨x, hx⟩ := some_at (l := toB s) HTL.out hqN;have hkq : q < s.size := by rw [← HN.out]; omega
     have e1 : s[q] = x := toB_get hx hkq;have hx' : r[i]? = some x := by rw [hr, List.getElem?_drop]; rw [show a + 1 + i = q by omega]; exact hx
     have HX := Lib.hid hx';have hv2 : ((s[q]).toNat : Int) = (x.toNat : Int) := by rw [e1]
     have HV2 := Lib.hid hv2;have hxb := x.toNat_lt;have hwq : IntKind.i64.wrap ((a : Int) + ((i : Int) + 1)) = (q : Int) := by rw [IntWalk.i64_in _ (by omega)]; omega
     have hi2 : (0 : Int) ≤ (q : Int) := by omega
     have hi3 : ((i : Int) + 1) < 1 := by omega
     have hi4 : (q : Int) < (N : Int) := by omega
     have hv0 : (0 : Int) ≤ ((s[q]).toNat : Int) := by omega
     have hv3 : ((s[q]).toNat : Int) ≤ 255 := by omega
     clear hx hx' e1 hv2 hq
     by_cases hc : 128 ≤ x.toNat ∧ x.toNat ≤ 191
     ·have hcf : contF c x = some (c * 64 + (x.toNat : Int) % 64) := by rw [contF, if_pos hc]
      have hd1 : decide (((s[q]).toNat : Int) < 128) = false := by rw [HV2.out]; simp; omega
      have hd2 : decide (191 < ((s[q]).toNat : Int)) = false := by rw [HV2.out]; simp; omega
      have hsh : IntKind.i64.wrap (c * 64) = c * 64 := IntWalk.i64_in _ (by omega);obtain ⟨y, hyy⟩ : ∃ y : Int, y = (x.toNat : Int) % 64 := ⟨_, rfl⟩;have hy1 : bits .and .i64 ((s[q]).toNat : Int) 63 = y := by rw [HV2.out, hyy]; exact and_63 (by omega) (by omega)
      obtain ⟨d, hdd⟩ : ∃ d : Int, d = c * 64 + y := ⟨_, rfl⟩;have hor : IntKind.i64.wrap (c * 64 + y) = d := by rw [hdd]; exact IntWalk.i64_in _ (by omega)
      have HCF := Lib.hid (accC_take_some HA.out HX.out (hcf.trans (by rw [← hyy, ← hdd])));have hdb := acc_bound (by rw [HSZ.out]; omega) (by rw [HSZ.out]; omega) (by omega) HCF.out;clear hcf hyy hdd;go_wp2_with fail;go_roundw
      case rel => exact ⟨i + 1, d, by go_num, rfl, by omega, HCF.out, hdb.1, hdb.2, by first | rfl | trivial⟩
      case measure => simp [intOf]; omega
     ·have hcf : contF c x = none := by rw [contF, if_neg hc]
      have HE := Lib.hid (HP.out.trans (oneT_broken (by rw [HSZ.out]; exact accC_take_none HA.out HX.out hcf (by omega))));clear hcf
      by_cases hlo : x.toNat < 128
      ·have hd1 : decide (((s[q]).toNat : Int) < 128) = true := by rw [HV2.out]; simp; omega
       go_wp2_with fail;go_ret2;rw [HE.out];exact ⟨rfl, Below.refl _ _⟩
      ·have hd1 : decide (((s[q]).toNat : Int) < 128) = false := by rw [HV2.out]; simp; omega
       have hd2 : decide (191 < ((s[q]).toNat : Int)) = true := by rw [HV2.out]; simp; omega
       go_wp2_with fail;go_ret2;rw [HE.out];exact ⟨rfl, Below.refl _ _⟩
    ·have hge : ¬ (((i : Int) + 1) < 1) := by omega
     have hi2 : i = 1 - 1 := by omega
     subst hi2;have HE := Lib.hid (HP.out.trans (oneT_some (by rw [HSZ.out]; omega) (by rw [HSZ.out]; omega) (by rw [HSZ.out]; exact HA.out)));have HSL := Lib.hid (fun (hs : sgnB c = true) => size_least (by rw [HSZ.out]; omega) (by rw [HSZ.out]; omega) (show accC (leadF b) (r.take (sizeF b - 1)) = some c by rw [HSZ.out]; exact HA.out) hs);go_wp2_with fail;refine (specSign_any _ _).mono ?_;rintro e w1 ⟨rfl, rfl⟩
     rcases (show sgnB c = true ∨ sgnB c = false by cases sgnB c <;> simp) with hsg | hsg
     ·have hiff := HSL.out hsg
      rw [HSZ.out] at hiff;have HIF := Lib.hid hiff;clear hiff;have HEN := Lib.hid (show encL [c] = enc1 c by rw [encL_good (by simpa using hsg)]; simp);rw [hsg];have K := (Hp.start w1).lit 3 1 1 ([c].map (Value.int .i64)) rfl (by simp [maxLen]);go_wp2_with fail;refine (specEncode_any _ 1 1 [c] _ (K.rd 0 rfl) (by decide)).mono ?_;rintro e w2 ⟨rfl, f2⟩;have F2 := Lib.hid (K.go f2).fr;rw [HEN.out];obtain ⟨tx, htx⟩ : ∃ q, q = ofB (enc1 c) := ⟨_, rfl⟩;have HT := Lib.hid (show tx.size = szC c by rw [htx, ofB_size, enc1_len]);rw [← htx];clear htx K f2
      by_cases hszc : szC c = 1
      ·have hd1 : ((tx.size : Int) == 1) = true := by rw [HT.out]; simp; omega
       go_wp2_with fail;go_ret2;rw [HE.out, HSZ.out, if_neg (by
        rintro (h | h)
        ·exact (HIF.out.1 h) hszc
        ·rw [hsg] at h; cases h)]
       exact ⟨rfl, F2.out⟩
      ·have hd1 : ((tx.size : Int) == 1) = false := by rw [HT.out]; simp; omega
       go_wp2_with fail;go_ret2;rw [HE.out, HSZ.out, if_pos (.inl (HIF.out.2 hszc))];exact ⟨rfl, F2.out⟩
     ·rw [hsg]
      go_wp2_with fail;go_ret2;rw [HE.out, HSZ.out, if_pos (.inr hsg)];exact ⟨rfl, Below.refl _ _⟩
 ·have hd0 : decide (((s[a]).toNat : Int) < 128) = false := by rw [HB.out]; simp; omega
  have HE := Lib.hid (HP.out.trans (oneT_none (.inl hb)))
  by_cases hlo : b.toNat < 192
  ·have d1 : decide (192 ≤ ((s[a]).toNat : Int)) = false := by rw [HB.out]; simp; omega
   have d2 : decide (224 ≤ ((s[a]).toNat : Int)) = false := by rw [HB.out]; simp; omega
   have d3 : decide (240 ≤ ((s[a]).toNat : Int)) = false := by rw [HB.out]; simp; omega
   go_wp2_with fail;go_ret2;rw [HE.out];exact ⟨rfl, Below.refl _ _⟩
  ·have d1 : decide (192 ≤ ((s[a]).toNat : Int)) = true := by rw [HB.out]; simp; omega
   have d2 : decide (224 ≤ ((s[a]).toNat : Int)) = true := by rw [HB.out]; simp; omega
   have d3 : decide (240 ≤ ((s[a]).toNat : Int)) = true := by rw [HB.out]; simp; omega
   have d4 : decide (((s[a]).toNat : Int) < 224) = false := by rw [HB.out]; simp; omega
   have d5 : decide (((s[a]).toNat : Int) < 240) = false := by rw [HB.out]; simp; omega
   have d6 : decide (((s[a]).toNat : Int) < 248) = false := by rw [HB.out]; simp; omega
   go_wp2_with fail;go_ret2;rw [HE.out];exact ⟨rfl, Below.refl _ _⟩
 ·have hd0 : decide (((s[a]).toNat : Int) < 128) = false := by rw [HB.out]; simp; omega
  have d1 : decide (192 ≤ ((s[a]).toNat : Int)) = true := by rw [HB.out]; simp; omega
  have d2 : decide (((s[a]).toNat : Int) < 224) = true := by rw [HB.out]; simp; omega
  obtain ⟨c0, hc0⟩ : ∃ q, q = leadF b := ⟨_, rfl⟩;have ha : bits .and .i64 ((s[a]).toNat : Int) 31 = c0 := by
   rw [and_31 (by omega) (by omega), HB.out, hc0, leadF, if_neg (by omega), if_pos (by omega)]
  have HC0 := Lib.hid hc0;clear hc0;have HSZ := Lib.hid hb
  by_cases hlen : N < a + 2
  ·have HE := Lib.hid (HP.out.trans (oneT_none (.inr (by rw [HSZ.out]; omega))))
   have hw : IntKind.i64.wrap ((a : Int) + 2) = (a : Int) + 2 := IntWalk.i64_in _ (by omega);have hd : decide ((N : Int) < (a : Int) + 2) = true := by simp; omega
   go_wp2_with fail;go_ret2;rw [HE.out];exact ⟨rfl, Below.refl _ _⟩
  ·have hw : IntKind.i64.wrap ((a : Int) + 2) = (a : Int) + 2 := IntWalk.i64_in _ (by omega)
   have hd : decide ((N : Int) < (a : Int) + 2) = false := by simp; omega
   go_wp2_with fail
   go_loopw [8, 9] (fun cv iv wr => ∃ (i : Nat) (c : Int), iv = .int .i64 ((i + 1 : Nat) : Int) ∧ cv = .int .i64 c ∧ i + 1 ≤ 2 ∧ accC (leadF b) (r.take i) = some c ∧ 0 ≤ c ∧ c < 8388608 ∧ wr = w) (fun _ iv _ => 2 - (intOf iv).toNat)
   case atStart => exact ⟨0, c0, rfl, rfl, by omega, by rw [HC0.out]; rfl, by rw [HC0.out]; exact LB.out.1, by have := LB.out.2; rw [HC0.out]; omega, rfl⟩
   case round =>
    obtain ⟨i, c, rfl, rfl, hi, hacc, hc0, hc1, rfl⟩ := hrel;have HA := Lib.hid hacc;clear hacc hw hd
    by_cases hlt : i + 1 < 2
    ·obtain ⟨q, hq⟩ : ∃ q, q = a + (i + 1) := ⟨_, rfl⟩
     have hqN : q < N := by omega
     obtain ⟨x, hx⟩ := some_at (l := toB s) HTL.out hqN;have hkq : q < s.size := by rw [← HN.out]; omega
     have e1 : s[q] = x := toB_get hx hkq;have hx' : r[i]? = some x := by rw [hr, List.getElem?_drop]; rw [show a + 1 + i = q by omega]; exact hx
     have HX := Lib.hid hx';have hv2 : ((s[q]).toNat : Int) = (x.toNat : Int) := by rw [e1]
     have HV2 := Lib.hid hv2;have hxb := x.toNat_lt;have hwq : IntKind.i64.wrap ((a : Int) + ((i : Int) + 1)) = (q : Int) := by rw [IntWalk.i64_in _ (by omega)]; omega
     have hi2 : (0 : Int) ≤ (q : Int) := by omega
     have hi3 : ((i : Int) + 1) < 2 := by omega
     have hi4 : (q : Int) < (N : Int) := by omega
     have hv0 : (0 : Int) ≤ ((s[q]).toNat : Int) := by omega
     have hv3 : ((s[q]).toNat : Int) ≤ 255 := by omega
     clear hx hx' e1 hv2 hq
     by_cases hc : 128 ≤ x.toNat ∧ x.toNat ≤ 191
     ·have hcf : contF c x = some (c * 64 + (x.toNat : Int) % 64) := by rw [contF, if_pos hc]
      have hd1 : decide (((s[q]).toNat : Int) < 128) = false := by rw [HV2.out]; simp; omega
      have hd2 : decide (191 < ((s[q]).toNat : Int)) = false := by rw [HV2.out]; simp; omega
      have hsh : IntKind.i64.wrap (c * 64) = c * 64 := IntWalk.i64_in _ (by omega);obtain ⟨y, hyy⟩ : ∃ y : Int, y = (x.toNat : Int) % 64 := ⟨_, rfl⟩;have hy1 : bits .and .i64 ((s[q]).toNat : Int) 63 = y := by rw [HV2.out, hyy]; exact and_63 (by omega) (by omega)
      obtain ⟨d, hdd⟩ : ∃ d : Int, d = c * 64 + y := ⟨_, rfl⟩;have hor : IntKind.i64.wrap (c * 64 + y) = d := by rw [hdd]; exact IntWalk.i64_in _ (by omega)
      have HCF := Lib.hid (accC_take_some HA.out HX.out (hcf.trans (by rw [← hyy, ← hdd])));have hdb := acc_bound (by rw [HSZ.out]; omega) (by rw [HSZ.out]; omega) (by omega) HCF.out;clear hcf hyy hdd;go_wp2_with fail;go_roundw
      case rel => exact ⟨i + 1, d, by go_num, rfl, by omega, HCF.out, hdb.1, hdb.2, by first | rfl | trivial⟩
      case measure => simp [intOf]; omega
     ·have hcf : contF c x = none := by rw [contF, if_neg hc]
      have HE := Lib.hid (HP.out.trans (oneT_broken (by rw [HSZ.out]; exact accC_take_none HA.out HX.out hcf (by omega))));clear hcf
      by_cases hlo : x.toNat < 128
      ·have hd1 : decide (((s[q]).toNat : Int) < 128) = true := by rw [HV2.out]; simp; omega
       go_wp2_with fail;go_ret2;rw [HE.out];exact ⟨rfl, Below.refl _ _⟩
      ·have hd1 : decide (((s[q]).toNat : Int) < 128) = false := by rw [HV2.out]; simp; omega
       have hd2 : decide (191 < ((s[q]).toNat : Int)) = true := by rw [HV2.out]; simp; omega
       go_wp2_with fail;go_ret2;rw [HE.out];exact ⟨rfl, Below.refl _ _⟩
    ·have hge : ¬ (((i : Int) + 1) < 2) := by omega
     have hi2 : i = 2 - 1 := by omega
     subst hi2;have HE := Lib.hid (HP.out.trans (oneT_some (by rw [HSZ.out]; omega) (by rw [HSZ.out]; omega) (by rw [HSZ.out]; exact HA.out)));have HSL := Lib.hid (fun (hs : sgnB c = true) => size_least (by rw [HSZ.out]; omega) (by rw [HSZ.out]; omega) (show accC (leadF b) (r.take (sizeF b - 1)) = some c by rw [HSZ.out]; exact HA.out) hs);go_wp2_with fail;refine (specSign_any _ _).mono ?_;rintro e w1 ⟨rfl, rfl⟩
     rcases (show sgnB c = true ∨ sgnB c = false by cases sgnB c <;> simp) with hsg | hsg
     ·have hiff := HSL.out hsg
      rw [HSZ.out] at hiff;have HIF := Lib.hid hiff;clear hiff;have HEN := Lib.hid (show encL [c] = enc1 c by rw [encL_good (by simpa using hsg)]; simp);rw [hsg];have K := (Hp.start w1).lit 3 1 1 ([c].map (Value.int .i64)) rfl (by simp [maxLen]);go_wp2_with fail;refine (specEncode_any _ 1 1 [c] _ (K.rd 0 rfl) (by decide)).mono ?_;rintro e w2 ⟨rfl, f2⟩;have F2 := Lib.hid (K.go f2).fr;rw [HEN.out];obtain ⟨tx, htx⟩ : ∃ q, q = ofB (enc1 c) := ⟨_, rfl⟩;have HT := Lib.hid (show tx.size = szC c by rw [htx, ofB_size, enc1_len]);rw [← htx];clear htx K f2
      by_cases hszc : szC c = 2
      ·have hd1 : ((tx.size : Int) == 2) = true := by rw [HT.out]; simp; omega
       go_wp2_with fail;go_ret2;rw [HE.out, HSZ.out, if_neg (by
        rintro (h | h)
        ·exact (HIF.out.1 h) hszc
        ·rw [hsg] at h; cases h)]
       exact ⟨rfl, F2.out⟩
      ·have hd1 : ((tx.size : Int) == 2) = false := by rw [HT.out]; simp; omega
       go_wp2_with fail;go_ret2;rw [HE.out, HSZ.out, if_pos (.inl (HIF.out.2 hszc))];exact ⟨rfl, F2.out⟩
     ·rw [hsg]
      go_wp2_with fail;go_ret2;rw [HE.out, HSZ.out, if_pos (.inr hsg)];exact ⟨rfl, Below.refl _ _⟩
 ·have hd0 : decide (((s[a]).toNat : Int) < 128) = false := by rw [HB.out]; simp; omega
  have d1 : decide (192 ≤ ((s[a]).toNat : Int)) = true := by rw [HB.out]; simp; omega
  have d2 : decide (((s[a]).toNat : Int) < 224) = false := by rw [HB.out]; simp; omega
  have d3 : decide (224 ≤ ((s[a]).toNat : Int)) = true := by rw [HB.out]; simp; omega
  have d4 : decide (((s[a]).toNat : Int) < 240) = true := by rw [HB.out]; simp; omega
  obtain ⟨c0, hc0⟩ : ∃ q, q = leadF b := ⟨_, rfl⟩;have ha : bits .and .i64 ((s[a]).toNat : Int) 15 = c0 := by
   rw [and_15 (by omega) (by omega), HB.out, hc0, leadF, if_neg (by omega), if_neg (by omega), if_pos (by omega)]
  have HC0 := Lib.hid hc0;clear hc0;have HSZ := Lib.hid hb
  by_cases hlen : N < a + 3
  ·have HE := Lib.hid (HP.out.trans (oneT_none (.inr (by rw [HSZ.out]; omega))))
   have hw : IntKind.i64.wrap ((a : Int) + 3) = (a : Int) + 3 := IntWalk.i64_in _ (by omega);have hd : decide ((N : Int) < (a : Int) + 3) = true := by simp; omega
   go_wp2_with fail;go_ret2;rw [HE.out];exact ⟨rfl, Below.refl _ _⟩
  ·have hw : IntKind.i64.wrap ((a : Int) + 3) = (a : Int) + 3 := IntWalk.i64_in _ (by omega)
   have hd : decide ((N : Int) < (a : Int) + 3) = false := by simp; omega
   go_wp2_with fail
   go_loopw [8, 9] (fun cv iv wr => ∃ (i : Nat) (c : Int), iv = .int .i64 ((i + 1 : Nat) : Int) ∧ cv = .int .i64 c ∧ i + 1 ≤ 3 ∧ accC (leadF b) (r.take i) = some c ∧ 0 ≤ c ∧ c < 8388608 ∧ wr = w) (fun _ iv _ => 3 - (intOf iv).toNat)
   case atStart => exact ⟨0, c0, rfl, rfl, by omega, by rw [HC0.out]; rfl, by rw [HC0.out]; exact LB.out.1, by have := LB.out.2; rw [HC0.out]; omega, rfl⟩
   case round =>
    obtain ⟨i, c, rfl, rfl, hi, hacc, hc0, hc1, rfl⟩ := hrel;have HA := Lib.hid hacc;clear hacc hw hd
    by_cases hlt : i + 1 < 3
    ·obtain ⟨q, hq⟩ : ∃ q, q = a + (i + 1) := ⟨_, rfl⟩
     have hqN : q < N := by omega
     obtain ⟨x, hx⟩ := some_at (l := toB s) HTL.out hqN;have hkq : q < s.size := by rw [← HN.out]; omega
     have e1 : s[q] = x := toB_get hx hkq;have hx' : r[i]? = some x := by rw [hr, List.getElem?_drop]; rw [show a + 1 + i = q by omega]; exact hx
     have HX := Lib.hid hx';have hv2 : ((s[q]).toNat : Int) = (x.toNat : Int) := by rw [e1]
     have HV2 := Lib.hid hv2;have hxb := x.toNat_lt;have hwq : IntKind.i64.wrap ((a : Int) + ((i : Int) + 1)) = (q : Int) := by rw [IntWalk.i64_in _ (by omega)]; omega
     have hi2 : (0 : Int) ≤ (q : Int) := by omega
     have hi3 : ((i : Int) + 1) < 3 := by omega
     have hi4 : (q : Int) < (N : Int) := by omega
     have hv0 : (0 : Int) ≤ ((s[q]).toNat : Int) := by omega
     have hv3 : ((s[q]).toNat : Int) ≤ 255 := by omega
     clear hx hx' e1 hv2 hq
     by_cases hc : 128 ≤ x.toNat ∧ x.toNat ≤ 191
     ·have hcf : contF c x = some (c * 64 + (x.toNat : Int) % 64) := by rw [contF, if_pos hc]
      have hd1 : decide (((s[q]).toNat : Int) < 128) = false := by rw [HV2.out]; simp; omega
      have hd2 : decide (191 < ((s[q]).toNat : Int)) = false := by rw [HV2.out]; simp; omega
      have hsh : IntKind.i64.wrap (c * 64) = c * 64 := IntWalk.i64_in _ (by omega);obtain ⟨y, hyy⟩ : ∃ y : Int, y = (x.toNat : Int) % 64 := ⟨_, rfl⟩;have hy1 : bits .and .i64 ((s[q]).toNat : Int) 63 = y := by rw [HV2.out, hyy]; exact and_63 (by omega) (by omega)
      obtain ⟨d, hdd⟩ : ∃ d : Int, d = c * 64 + y := ⟨_, rfl⟩;have hor : IntKind.i64.wrap (c * 64 + y) = d := by rw [hdd]; exact IntWalk.i64_in _ (by omega)
      have HCF := Lib.hid (accC_take_some HA.out HX.out (hcf.trans (by rw [← hyy, ← hdd])));have hdb := acc_bound (by rw [HSZ.out]; omega) (by rw [HSZ.out]; omega) (by omega) HCF.out;clear hcf hyy hdd;go_wp2_with fail;go_roundw
      case rel => exact ⟨i + 1, d, by go_num, rfl, by omega, HCF.out, hdb.1, hdb.2, by first | rfl | trivial⟩
      case measure => simp [intOf]; omega
     ·have hcf : contF c x = none := by rw [contF, if_neg hc]
      have HE := Lib.hid (HP.out.trans (oneT_broken (by rw [HSZ.out]; exact accC_take_none HA.out HX.out hcf (by omega))));clear hcf
      by_cases hlo : x.toNat < 128
      ·have hd1 : decide (((s[q]).toNat : Int) < 128) = true := by rw [HV2.out]; simp; omega
       go_wp2_with fail;go_ret2;rw [HE.out];exact ⟨rfl, Below.refl _ _⟩
      ·have hd1 : decide (((s[q]).toNat : Int) < 128) = false := by rw [HV2.out]; simp; omega
       have hd2 : decide (191 < ((s[q]).toNat : Int)) = true := by rw [HV2.out]; simp; omega
       go_wp2_with fail;go_ret2;rw [HE.out];exact ⟨rfl, Below.refl _ _⟩
    ·have hge : ¬ (((i : Int) + 1) < 3) := by omega
     have hi2 : i = 3 - 1 := by omega
     subst hi2;have HE := Lib.hid (HP.out.trans (oneT_some (by rw [HSZ.out]; omega) (by rw [HSZ.out]; omega) (by rw [HSZ.out]; exact HA.out)));have HSL := Lib.hid (fun (hs : sgnB c = true) => size_least (by rw [HSZ.out]; omega) (by rw [HSZ.out]; omega) (show accC (leadF b) (r.take (sizeF b - 1)) = some c by rw [HSZ.out]; exact HA.out) hs);go_wp2_with fail;refine (specSign_any _ _).mono ?_;rintro e w1 ⟨rfl, rfl⟩
     rcases (show sgnB c = true ∨ sgnB c = false by cases sgnB c <;> simp) with hsg | hsg
     ·have hiff := HSL.out hsg
      rw [HSZ.out] at hiff;have HIF := Lib.hid hiff;clear hiff;have HEN := Lib.hid (show encL [c] = enc1 c by rw [encL_good (by simpa using hsg)]; simp);rw [hsg];have K := (Hp.start w1).lit 3 1 1 ([c].map (Value.int .i64)) rfl (by simp [maxLen]);go_wp2_with fail;refine (specEncode_any _ 1 1 [c] _ (K.rd 0 rfl) (by decide)).mono ?_;rintro e w2 ⟨rfl, f2⟩;have F2 := Lib.hid (K.go f2).fr;rw [HEN.out];obtain ⟨tx, htx⟩ : ∃ q, q = ofB (enc1 c) := ⟨_, rfl⟩;have HT := Lib.hid (show tx.size = szC c by rw [htx, ofB_size, enc1_len]);rw [← htx];clear htx K f2
      by_cases hszc : szC c = 3
      ·have hd1 : ((tx.size : Int) == 3) = true := by rw [HT.out]; simp; omega
       go_wp2_with fail;go_ret2;rw [HE.out, HSZ.out, if_neg (by
        rintro (h | h)
        ·exact (HIF.out.1 h) hszc
        ·rw [hsg] at h; cases h)]
       exact ⟨rfl, F2.out⟩
      ·have hd1 : ((tx.size : Int) == 3) = false := by rw [HT.out]; simp; omega
       go_wp2_with fail;go_ret2;rw [HE.out, HSZ.out, if_pos (.inl (HIF.out.2 hszc))];exact ⟨rfl, F2.out⟩
     ·rw [hsg]
      go_wp2_with fail;go_ret2;rw [HE.out, HSZ.out, if_pos (.inr hsg)];exact ⟨rfl, Below.refl _ _⟩
 ·have hd0 : decide (((s[a]).toNat : Int) < 128) = false := by rw [HB.out]; simp; omega
  have d1 : decide (192 ≤ ((s[a]).toNat : Int)) = true := by rw [HB.out]; simp; omega
  have d2 : decide (((s[a]).toNat : Int) < 224) = false := by rw [HB.out]; simp; omega
  have d3 : decide (224 ≤ ((s[a]).toNat : Int)) = true := by rw [HB.out]; simp; omega
  have d4 : decide (((s[a]).toNat : Int) < 240) = false := by rw [HB.out]; simp; omega
  have d5 : decide (240 ≤ ((s[a]).toNat : Int)) = true := by rw [HB.out]; simp; omega
  have d6 : decide (((s[a]).toNat : Int) < 248) = true := by rw [HB.out]; simp; omega
  obtain ⟨c0, hc0⟩ : ∃ q, q = leadF b := ⟨_, rfl⟩;have ha : bits .and .i64 ((s[a]).toNat : Int) 7 = c0 := by
   rw [and_7 (by omega) (by omega), HB.out, hc0, leadF, if_neg (by omega), if_neg (by omega), if_neg (by omega)]
  have HC0 := Lib.hid hc0;clear hc0;have HSZ := Lib.hid hb
  by_cases hlen : N < a + 4
  ·have HE := Lib.hid (HP.out.trans (oneT_none (.inr (by rw [HSZ.out]; omega))))
   have hw : IntKind.i64.wrap ((a : Int) + 4) = (a : Int) + 4 := IntWalk.i64_in _ (by omega);have hd : decide ((N : Int) < (a : Int) + 4) = true := by simp; omega
   go_wp2_with fail;go_ret2;rw [HE.out];exact ⟨rfl, Below.refl _ _⟩
  ·have hw : IntKind.i64.wrap ((a : Int) + 4) = (a : Int) + 4 := IntWalk.i64_in _ (by omega)
   have hd : decide ((N : Int) < (a : Int) + 4) = false := by simp; omega
   go_wp2_with fail
   go_loopw [8, 9] (fun cv iv wr => ∃ (i : Nat) (c : Int), iv = .int .i64 ((i + 1 : Nat) : Int) ∧ cv = .int .i64 c ∧ i + 1 ≤ 4 ∧ accC (leadF b) (r.take i) = some c ∧ 0 ≤ c ∧ c < 8388608 ∧ wr = w) (fun _ iv _ => 4 - (intOf iv).toNat)
   case atStart => exact ⟨0, c0, rfl, rfl, by omega, by rw [HC0.out]; rfl, by rw [HC0.out]; exact LB.out.1, by have := LB.out.2; rw [HC0.out]; omega, rfl⟩
   case round =>
    obtain ⟨i, c, rfl, rfl, hi, hacc, hc0, hc1, rfl⟩ := hrel;have HA := Lib.hid hacc;clear hacc hw hd
    by_cases hlt : i + 1 < 4
    ·obtain ⟨q, hq⟩ : ∃ q, q = a + (i + 1) := ⟨_, rfl⟩
     have hqN : q < N := by omega
     obtain ⟨x, hx⟩ := some_at (l := toB s) HTL.out hqN;have hkq : q < s.size := by rw [← HN.out]; omega
     have e1 : s[q] = x := toB_get hx hkq;have hx' : r[i]? = some x := by rw [hr, List.getElem?_drop]; rw [show a + 1 + i = q by omega]; exact hx
     have HX := Lib.hid hx';have hv2 : ((s[q]).toNat : Int) = (x.toNat : Int) := by rw [e1]
     have HV2 := Lib.hid hv2;have hxb := x.toNat_lt;have hwq : IntKind.i64.wrap ((a : Int) + ((i : Int) + 1)) = (q : Int) := by rw [IntWalk.i64_in _ (by omega)]; omega
     have hi2 : (0 : Int) ≤ (q : Int) := by omega
     have hi3 : ((i : Int) + 1) < 4 := by omega
     have hi4 : (q : Int) < (N : Int) := by omega
     have hv0 : (0 : Int) ≤ ((s[q]).toNat : Int) := by omega
     have hv3 : ((s[q]).toNat : Int) ≤ 255 := by omega
     clear hx hx' e1 hv2 hq
     by_cases hc : 128 ≤ x.toNat ∧ x.toNat ≤ 191
     ·have hcf : contF c x = some (c * 64 + (x.toNat : Int) % 64) := by rw [contF, if_pos hc]
      have hd1 : decide (((s[q]).toNat : Int) < 128) = false := by rw [HV2.out]; simp; omega
      have hd2 : decide (191 < ((s[q]).toNat : Int)) = false := by rw [HV2.out]; simp; omega
      have hsh : IntKind.i64.wrap (c * 64) = c * 64 := IntWalk.i64_in _ (by omega);obtain ⟨y, hyy⟩ : ∃ y : Int, y = (x.toNat : Int) % 64 := ⟨_, rfl⟩;have hy1 : bits .and .i64 ((s[q]).toNat : Int) 63 = y := by rw [HV2.out, hyy]; exact and_63 (by omega) (by omega)
      obtain ⟨d, hdd⟩ : ∃ d : Int, d = c * 64 + y := ⟨_, rfl⟩;have hor : IntKind.i64.wrap (c * 64 + y) = d := by rw [hdd]; exact IntWalk.i64_in _ (by omega)
      have HCF := Lib.hid (accC_take_some HA.out HX.out (hcf.trans (by rw [← hyy, ← hdd])));have hdb := acc_bound (by rw [HSZ.out]; omega) (by rw [HSZ.out]; omega) (by omega) HCF.out;clear hcf hyy hdd;go_wp2_with fail;go_roundw
      case rel => exact ⟨i + 1, d, by go_num, rfl, by omega, HCF.out, hdb.1, hdb.2, by first | rfl | trivial⟩
      case measure => simp [intOf]; omega
     ·have hcf : contF c x = none := by rw [contF, if_neg hc]
      have HE := Lib.hid (HP.out.trans (oneT_broken (by rw [HSZ.out]; exact accC_take_none HA.out HX.out hcf (by omega))));clear hcf
      by_cases hlo : x.toNat < 128
      ·have hd1 : decide (((s[q]).toNat : Int) < 128) = true := by rw [HV2.out]; simp; omega
       go_wp2_with fail;go_ret2;rw [HE.out];exact ⟨rfl, Below.refl _ _⟩
      ·have hd1 : decide (((s[q]).toNat : Int) < 128) = false := by rw [HV2.out]; simp; omega
       have hd2 : decide (191 < ((s[q]).toNat : Int)) = true := by rw [HV2.out]; simp; omega
       go_wp2_with fail;go_ret2;rw [HE.out];exact ⟨rfl, Below.refl _ _⟩
    ·have hge : ¬ (((i : Int) + 1) < 4) := by omega
     have hi2 : i = 4 - 1 := by omega
     subst hi2;have HE := Lib.hid (HP.out.trans (oneT_some (by rw [HSZ.out]; omega) (by rw [HSZ.out]; omega) (by rw [HSZ.out]; exact HA.out)));have HSL := Lib.hid (fun (hs : sgnB c = true) => size_least (by rw [HSZ.out]; omega) (by rw [HSZ.out]; omega) (show accC (leadF b) (r.take (sizeF b - 1)) = some c by rw [HSZ.out]; exact HA.out) hs);go_wp2_with fail;refine (specSign_any _ _).mono ?_;rintro e w1 ⟨rfl, rfl⟩
     rcases (show sgnB c = true ∨ sgnB c = false by cases sgnB c <;> simp) with hsg | hsg
     ·have hiff := HSL.out hsg
      rw [HSZ.out] at hiff;have HIF := Lib.hid hiff;clear hiff;have HEN := Lib.hid (show encL [c] = enc1 c by rw [encL_good (by simpa using hsg)]; simp);rw [hsg];have K := (Hp.start w1).lit 3 1 1 ([c].map (Value.int .i64)) rfl (by simp [maxLen]);go_wp2_with fail;refine (specEncode_any _ 1 1 [c] _ (K.rd 0 rfl) (by decide)).mono ?_;rintro e w2 ⟨rfl, f2⟩;have F2 := Lib.hid (K.go f2).fr;rw [HEN.out];obtain ⟨tx, htx⟩ : ∃ q, q = ofB (enc1 c) := ⟨_, rfl⟩;have HT := Lib.hid (show tx.size = szC c by rw [htx, ofB_size, enc1_len]);rw [← htx];clear htx K f2
      by_cases hszc : szC c = 4
      ·have hd1 : ((tx.size : Int) == 4) = true := by rw [HT.out]; simp; omega
       go_wp2_with fail;go_ret2;rw [HE.out, HSZ.out, if_neg (by
        rintro (h | h)
        ·exact (HIF.out.1 h) hszc
        ·rw [hsg] at h; cases h)]
       exact ⟨rfl, F2.out⟩
      ·have hd1 : ((tx.size : Int) == 4) = false := by rw [HT.out]; simp; omega
       go_wp2_with fail;go_ret2;rw [HE.out, HSZ.out, if_pos (.inl (HIF.out.2 hszc))];exact ⟨rfl, F2.out⟩
     ·rw [hsg]
      go_wp2_with fail;go_ret2;rw [HE.out, HSZ.out, if_pos (.inr hsg)];exact ⟨rfl, Below.refl _ _⟩
set_option maxRecDepth 100000 in
set_option maxHeartbeats 4000000 in
theorem specDecode_any (s : ByteArray) (w : World) (hz : s.size ≤ 16777216) :
 Calls Tryz.prog 104 #[.string s] w (DecM (toB s) w) := by
 have H0 := (Hp.start w).lit0 3 1;obtain ⟨N, hN⟩ : ∃ N, N = s.size := ⟨_, rfl⟩;have HN := Lib.hid hN;have HTL := Lib.hid (show (toB s).length = N by rw [toB_len, hN]);have HZ := Lib.hid hz;have hNb : N ≤ 16777216 := by omega
 go_enter Tryz.func104, Tryz.ntmps104;go_wp2_with fail
 go_loopw [4, 5] (fun v av wr => ∃ (a : Nat) (o : List Int), av = .int .i64 a ∧ DSt (toB s) a o ∧ Hp [] w wr [.row 3 1 v o.length (o.map (Value.int .i64))]) (fun _ av _ => N - (intOf av).toNat)
 case atStart => exact ⟨0, [], rfl, DSt.start _, H0⟩
 case round =>
  clear H0;obtain ⟨a, o, rfl, hst, H⟩ := hrel;obtain ⟨B, d, rfl⟩ := H.shape 0 rfl;have HST := Lib.hid hst;have hal := hst.le;have hol := hst.len;rw [HTL.out] at hal;clear hst;have hsN : s.size = N := hN.symm
  by_cases hlt : a < N
  ·obtain ⟨b, hb⟩ := some_at HTL.out hlt
   have HD := Lib.hid (drop_cons hb);have HB := Lib.hid hb;have hlt2 : (a : Int) < (N : Int) := by omega
   have ha0 : (0 : Int) ≤ (a : Int) := by omega
   clear hb hN;go_wp2_with fail;refine (l3One_any _ a b ((toB s).drop (a + 1)) _ HB.out rfl HZ.out).mono ?_;rintro e w1 ⟨rfl, f1⟩;replace H := H.go f1;have HO := Lib.hid (show oneF ((toB s).drop a) = oneT b ((toB s).drop (a + 1)) by rw [HD.out]; rfl)
   generalize oneT b ((toB s).drop (a + 1)) = p at HO ⊢
   obtain ⟨c0, k⟩ := p;clear f1
   by_cases hk : k = 0
   ·subst hk
    have HE := Lib.hid (HST.out.stop (by rw [HTL.out]; exact hlt) HO.out);have K := H.lit0 3 1;go_wp2_with fail;go_ret2;exact ⟨_, 0, 0, by rw [HE.out]; rfl, by rw [HE.out]; rfl, by rw [HE.out]; exact K.out 0 rfl, K.fr⟩
   ·have hk' : ((k : Int) == 0) = false := by simp; omega
    have HNX := Lib.hid (HST.out.next (by rw [HTL.out]; exact hlt) HO.out hk);have hnl := HNX.out.le;rw [HTL.out] at hnl;go_wp2_with (at_builtin; refine wp_appM (f := Value.int .i64) (H) rfl _ _ _ rfl Tryz.underlying81 infoInt rfl 0 _ _ rfl rfl _ _ (c0) rfl (by simp) rfl (by first | (simp only [maxLen]; omega) | (simp [maxLen]; done) | (simp [maxLen]; omega)) (by first | omega | (simp; done) | (simp; omega)) ?_)
    intro v' w' H';have H2 := Lib.hid (show Hp [] w w' [.row 3 1 v' (o ++ [c0]).length ((o ++ [c0]).map (Value.int .i64))] by
     rw [List.map_append, List.length_append]; exact H')
    clear H' H;go_wp2_with fail;go_roundw
    case rel => exact ⟨a + k, o ++ [c0], by go_num, HNX.out, H2.out⟩
    case measure => simp [intOf]; omega
  ·have hge : ¬ ((a : Int) < (N : Int)) := by omega
   have HE := Lib.hid (HST.out.done (by rw [HTL.out]; omega));clear hN;go_wp2_with fail;go_ret2;exact ⟨B, o.length, d, by rw [HE.out]; rfl, by rw [HE.out], by rw [HE.out]; exact H.out 0 rfl, H.fr⟩
end Go.Proofs.YtllonpbhgbhogaaGreatDoor
namespace Go.Proofs.YtllonpbhgbhogaaGreatDoor
open Go.RowKit
theorem toB_at' {s : ByteArray} {j : Nat} {b : UInt8} (h : (toB s)[j]? = some b) (hj : j < s.size) : s[j] = b := by
 have h1 : (toB s)[j]? = some (s.data[j]'hj) := by
  rw [toB, Array.getElem?_toList]; exact Array.getElem?_eq_getElem hj
 rw [h] at h1;injection h1 with h1;exact h1.symm
def bI (b : UInt8) : Int := (b.toNat : Int)
def sigL (s : ByteArray) : List Int := (toB s).map bI
theorem sigL_len (s : ByteArray) : (sigL s).length = s.size := by rw [sigL, List.length_map, toB_len]
theorem alloc_size (w : World) (cs : Array Value) (t : TypeId) : (w.alloc (.cells cs t)).heap.size = w.heap.size + 1 := Array.size_push _
set_option maxRecDepth 100000 in
set_option maxHeartbeats 2000000 in
theorem signs_any (s : ByteArray) (w : World) (hs : s.size ≤ 1000) :
 Calls Tryz.prog 176 #[.string s] w (Made w 3 1 s.size ((sigL s).map (Value.int .i64))) := by
 obtain ⟨n, hn⟩ : ∃ n, n = s.size := ⟨_, rfl⟩;have HN := Lib.hid hn;have H0 := (Hp.start w).lit0 3 1;have hn1 : n ≤ 1000 := by omega
 rw [← hn];clear hn;go_enter Tryz.func176, Tryz.ntmps176;go_wp2_with fail
 go_loopw [3, 4] (fun v iv wr => ∃ k : Nat, k ≤ n ∧ iv = .int .i64 k ∧ Hp [] w wr [.row 3 1 v k (((sigL s).take k).map (Value.int .i64))]) (fun _ iv _ => n - (intOf iv).toNat)
 case atStart => exact ⟨0, by omega, rfl, H0⟩
 case round =>
  clear H0;obtain ⟨k, hk, rfl, H⟩ := hrel;obtain ⟨B, d, rfl⟩ := H.shape 0 rfl
  by_cases hlt : k < n
  ·have hks : k < s.size := by rw [← HN.out]; exact hlt
   obtain ⟨b, hb⟩ := some_at (l := toB s) (n := n) (by rw [toB_len, ← HN.out]) hlt;have e1 : s[k] = b := toB_at' hb hks;have hb0 : ((s[k]).toNat : Int) ≤ 255 := by have := (s[k]).toNat_lt; omega
   have hb1 : (0 : Int) ≤ ((s[k]).toNat : Int) := by omega
   have HX := Lib.hid (At.take (l := sigL s) (k := k) (x := bI b) (by rw [At, sigL, List.getElem?_map, hb]; rfl));have HE := Lib.hid (show ((s[k]).toNat : Int) = bI b by rw [e1]; rfl);have hlen : ((sigL s).take k).length = k := by rw [List.length_take, sigL_len, ← HN.out]; omega
   have hx0 : (0 : Int) ≤ (k : Int) := by omega
   have hlt2 : (k : Int) < (s.size : Int) := by omega
   clear hb e1
   generalize (sigL s).take k = o at H HX hlen
   subst hlen;go_wp2_with (at_builtin; refine wp_appM (f := Value.int .i64) (H) rfl _ _ _ rfl Tryz.underlying81 infoInt rfl 0 _ _ rfl rfl _ _ (((s[o.length]'hks).toNat : Int)) rfl (by simp) rfl (by first | (simp only [maxLen]; omega) | (simp [maxLen]; done) | (simp [maxLen]; omega)) (by first | omega | (simp; done) | (simp; omega)) ?_)
   intro v' w' H';rw [HE.out] at H';have H2 : Hp [] w w' [.row 3 1 v' (o.length + 1) (((sigL s).take (o.length + 1)).map (Value.int .i64))] := by
    rw [HX.out, List.map_append];simpa using H'
   clear H';go_wp2_with fail;go_roundw
   case rel => exact ⟨o.length + 1, by omega, by go_num, H2⟩
   case measure => simp [intOf]; omega
  ·have ht : (sigL s).take k = sigL s := List.take_of_length_le (by rw [sigL_len, ← HN.out]; omega)
   have hk2 : k = n := by omega
   subst hk2;rw [ht] at H;have hge : ¬ ((k : Int) < (s.size : Int)) := by rw [← HN.out]; omega
   go_wp2_with fail;go_ret;exact H.toMade 0 rfl
def RowD (w : World) (fs ls : List Int) (m : Int) (e : Ending) (w' : World) : Prop :=
 ∃ A c B d, e = .returned (.tuple #[.slice A fs.length c, .slice B ls.length d, .int .i64 m]) ∧ Hp [] w w' [.row 3 1 (.slice B ls.length d) ls.length (ls.map (Value.int .i64)), .row 3 1 (.slice A fs.length c) fs.length (fs.map (Value.int .i64))]
set_option maxRecDepth 100000 in
set_option maxHeartbeats 1000000 in
theorem row_0 (w : World) : Calls Tryz.prog 174 #[.int .i64 0] w (RowD w [192, 200, 204, 210, 217, 224, 232, 236, 242, 249] [65, 69, 73, 79, 85, 97, 101, 105, 111, 117] 768) := by
 have H1 := (Hp.start w).lit 3 1 10 ([192, 200, 204, 210, 217, 224, 232, 236, 242, 249].map (Value.int .i64)) rfl (by simp [maxLen]);go_enter Tryz.func174, Tryz.ntmps174;go_wp2_with fail;refine (signs_any _ _ (by decide)).mono ?_;rintro e w1 ⟨B, d, rfl, o1, f1⟩;have H2 := H1.made o1 f1;clear H1 o1 f1;go_wp2_with fail;go_ret3;exact ⟨_, _, B, d, rfl, H2⟩
set_option maxRecDepth 100000 in
set_option maxHeartbeats 1000000 in
theorem row_1 (w : World) : Calls Tryz.prog 174 #[.int .i64 1] w (RowD w [193, 201, 205, 211, 218, 221, 225, 233, 237, 243, 250, 253] [65, 69, 73, 79, 85, 89, 97, 101, 105, 111, 117, 121] 769) := by
 have H1 := (Hp.start w).lit 3 1 12 ([193, 201, 205, 211, 218, 221, 225, 233, 237, 243, 250, 253].map (Value.int .i64)) rfl (by simp [maxLen]);go_enter Tryz.func174, Tryz.ntmps174;go_wp2_with fail;refine (signs_any _ _ (by decide)).mono ?_;rintro e w1 ⟨B, d, rfl, o1, f1⟩;have H2 := H1.made o1 f1;clear H1 o1 f1;go_wp2_with fail;go_ret3;exact ⟨_, _, B, d, rfl, H2⟩
set_option maxRecDepth 100000 in
set_option maxHeartbeats 1000000 in
theorem row_2 (w : World) : Calls Tryz.prog 174 #[.int .i64 2] w (RowD w [194, 202, 206, 212, 219, 226, 234, 238, 244, 251] [65, 69, 73, 79, 85, 97, 101, 105, 111, 117] 770) := by
 have H1 := (Hp.start w).lit 3 1 10 ([194, 202, 206, 212, 219, 226, 234, 238, 244, 251].map (Value.int .i64)) rfl (by simp [maxLen]);go_enter Tryz.func174, Tryz.ntmps174;go_wp2_with fail;refine (signs_any _ _ (by decide)).mono ?_;rintro e w1 ⟨B, d, rfl, o1, f1⟩;have H2 := H1.made o1 f1;clear H1 o1 f1;go_wp2_with fail;go_ret3;exact ⟨_, _, B, d, rfl, H2⟩
set_option maxRecDepth 100000 in
set_option maxHeartbeats 1000000 in
theorem row_3 (w : World) : Calls Tryz.prog 174 #[.int .i64 3] w (RowD w [195, 209, 213, 227, 241, 245] [65, 78, 79, 97, 110, 111] 771) := by
 have H1 := (Hp.start w).lit 3 1 6 ([195, 209, 213, 227, 241, 245].map (Value.int .i64)) rfl (by simp [maxLen]);go_enter Tryz.func174, Tryz.ntmps174;go_wp2_with fail;refine (signs_any _ _ (by decide)).mono ?_;rintro e w1 ⟨B, d, rfl, o1, f1⟩;have H2 := H1.made o1 f1;clear H1 o1 f1;go_wp2_with fail;go_ret3;exact ⟨_, _, B, d, rfl, H2⟩
set_option maxRecDepth 100000 in
set_option maxHeartbeats 1000000 in
theorem row_4 (w : World) : Calls Tryz.prog 174 #[.int .i64 4] w (RowD w [196, 203, 207, 214, 220, 228, 235, 239, 246, 252, 255] [65, 69, 73, 79, 85, 97, 101, 105, 111, 117, 121] 776) := by
 have H1 := (Hp.start w).lit 3 1 11 ([196, 203, 207, 214, 220, 228, 235, 239, 246, 252, 255].map (Value.int .i64)) rfl (by simp [maxLen]);go_enter Tryz.func174, Tryz.ntmps174;go_wp2_with fail;refine (signs_any _ _ (by decide)).mono ?_;rintro e w1 ⟨B, d, rfl, o1, f1⟩;have H2 := H1.made o1 f1;clear H1 o1 f1;go_wp2_with fail;go_ret3;exact ⟨_, _, B, d, rfl, H2⟩
set_option maxRecDepth 100000 in
set_option maxHeartbeats 1000000 in
theorem row_5 (w : World) : Calls Tryz.prog 174 #[.int .i64 5] w (RowD w [197, 229] [65, 97] 778) := by
 have H1 := (Hp.start w).lit 3 1 2 ([197, 229].map (Value.int .i64)) rfl (by simp [maxLen]);go_enter Tryz.func174, Tryz.ntmps174;go_wp2_with fail;refine (signs_any _ _ (by decide)).mono ?_;rintro e w1 ⟨B, d, rfl, o1, f1⟩;have H2 := H1.made o1 f1;clear H1 o1 f1;go_wp2_with fail;go_ret3;exact ⟨_, _, B, d, rfl, H2⟩
set_option maxRecDepth 100000 in
set_option maxHeartbeats 1000000 in
theorem row_6 (w : World) : Calls Tryz.prog 174 #[.int .i64 6] w (RowD w [199, 231] [67, 99] 807) := by
 have H1 := (Hp.start w).lit 3 1 2 ([199, 231].map (Value.int .i64)) rfl (by simp [maxLen]);go_enter Tryz.func174, Tryz.ntmps174;go_wp2_with fail;refine (signs_any _ _ (by decide)).mono ?_;rintro e w1 ⟨B, d, rfl, o1, f1⟩;have H2 := H1.made o1 f1;clear H1 o1 f1;go_wp2_with fail;go_ret3;exact ⟨_, _, B, d, rfl, H2⟩
set_option maxRecDepth 100000 in
set_option maxHeartbeats 1000000 in
theorem row_7 (w : World) : Calls Tryz.prog 174 #[.int .i64 7] w (RowD w [902, 904, 905, 906, 908, 910, 911] [913, 917, 919, 921, 927, 933, 937] 769) := by
 have H1 := (Hp.start w).lit 3 1 7 ([902, 904, 905, 906, 908, 910, 911].map (Value.int .i64)) rfl (by simp [maxLen]);have H2 := H1.lit 3 1 7 ([913, 917, 919, 921, 927, 933, 937].map (Value.int .i64)) rfl (by simp [maxLen]);rw [alloc_size] at H2;clear H1;go_enter Tryz.func174, Tryz.ntmps174;go_wp2_with fail;go_ret3;exact ⟨_, _, _, _, rfl, H2⟩
set_option maxRecDepth 100000 in
set_option maxHeartbeats 1000000 in
theorem row_8 (w : World) : Calls Tryz.prog 174 #[.int .i64 8] w (RowD w [940, 941, 942, 943, 972, 973, 974] [945, 949, 951, 953, 959, 965, 969] 769) := by
 have H1 := (Hp.start w).lit 3 1 7 ([940, 941, 942, 943, 972, 973, 974].map (Value.int .i64)) rfl (by simp [maxLen]);have H2 := H1.lit 3 1 7 ([945, 949, 951, 953, 959, 965, 969].map (Value.int .i64)) rfl (by simp [maxLen]);rw [alloc_size] at H2;clear H1;go_enter Tryz.func174, Tryz.ntmps174;go_wp2_with fail;go_ret3;exact ⟨_, _, _, _, rfl, H2⟩
set_option maxRecDepth 100000 in
set_option maxHeartbeats 1000000 in
theorem row_9 (w : World) : Calls Tryz.prog 174 #[.int .i64 9] w (RowD w [469, 470] [220, 252] 772) := by
 have H1 := (Hp.start w).lit 3 1 2 ([469, 470].map (Value.int .i64)) rfl (by simp [maxLen]);have H2 := H1.lit 3 1 2 ([220, 252].map (Value.int .i64)) rfl (by simp [maxLen]);rw [alloc_size] at H2;clear H1;go_enter Tryz.func174, Tryz.ntmps174;go_wp2_with fail;go_ret3;exact ⟨_, _, _, _, rfl, H2⟩
set_option maxRecDepth 100000 in
set_option maxHeartbeats 1000000 in
theorem row_10 (w : World) : Calls Tryz.prog 174 #[.int .i64 10] w (RowD w [7840, 7841] [65, 97] 803) := by
 have H1 := (Hp.start w).lit 3 1 2 ([7840, 7841].map (Value.int .i64)) rfl (by simp [maxLen]);go_enter Tryz.func174, Tryz.ntmps174;go_wp2_with fail;refine (signs_any _ _ (by decide)).mono ?_;rintro e w1 ⟨B, d, rfl, o1, f1⟩;have H2 := H1.made o1 f1;clear H1 o1 f1;go_wp2_with fail;go_ret3;exact ⟨_, _, B, d, rfl, H2⟩
set_option maxRecDepth 100000 in
set_option maxHeartbeats 1000000 in
theorem row_11 (w : World) : Calls Tryz.prog 174 #[.int .i64 11] w (RowD w [7852, 7853] [7840, 7841] 770) := by
 have H1 := (Hp.start w).lit 3 1 2 ([7852, 7853].map (Value.int .i64)) rfl (by simp [maxLen]);have H2 := H1.lit 3 1 2 ([7840, 7841].map (Value.int .i64)) rfl (by simp [maxLen]);rw [alloc_size] at H2;clear H1;go_enter Tryz.func174, Tryz.ntmps174;go_wp2_with fail;go_ret3;exact ⟨_, _, _, _, rfl, H2⟩
set_option maxRecDepth 100000 in
set_option maxHeartbeats 1000000 in
theorem row_12 (w : World) : Calls Tryz.prog 174 #[.int .i64 12] w (RowD w [8486, 8491] [937, 197] 0) := by
 have H1 := (Hp.start w).lit 3 1 2 ([8486, 8491].map (Value.int .i64)) rfl (by simp [maxLen]);have H2 := H1.lit 3 1 2 ([937, 197].map (Value.int .i64)) rfl (by simp [maxLen]);rw [alloc_size] at H2;clear H1;go_enter Tryz.func174, Tryz.ntmps174;go_wp2_with fail;go_ret3;exact ⟨_, _, _, _, rfl, H2⟩
theorem implRow_any (i : Nat) (hi : i < 13) (w : World) : ∃ r, rowTbl[i]? = some r ∧ Calls Tryz.prog 174 #[.int .i64 i] w (RowD w r.1 r.2.1 r.2.2) := by
 match i, hi with
 | 0, _ => exact ⟨_, rfl, row_0 w⟩
 | 1, _ => exact ⟨_, rfl, row_1 w⟩
 | 2, _ => exact ⟨_, rfl, row_2 w⟩
 | 3, _ => exact ⟨_, rfl, row_3 w⟩
 | 4, _ => exact ⟨_, rfl, row_4 w⟩
 | 5, _ => exact ⟨_, rfl, row_5 w⟩
 | 6, _ => exact ⟨_, rfl, row_6 w⟩
 | 7, _ => exact ⟨_, rfl, row_7 w⟩
 | 8, _ => exact ⟨_, rfl, row_8 w⟩
 | 9, _ => exact ⟨_, rfl, row_9 w⟩
 | 10, _ => exact ⟨_, rfl, row_10 w⟩
 | 11, _ => exact ⟨_, rfl, row_11 w⟩
 | 12, _ => exact ⟨_, rfl, row_12 w⟩
set_option maxRecDepth 100000 in
set_option maxHeartbeats 2000000 in
theorem index_any (A : Option Addr) (n c : Nat) (l : List Int) (x : Int) (w : World) (h : Rd w A n 1 (l.map (Value.int .i64))) (hn : n ≤ 1048576) :
 Calls Tryz.prog 100 #[.slice A n c, .int .i64 x] w fun e w' => ∃ r : Int, e = .returned (.int .i64 r) ∧ ((r = -1 ∧ x ∉ l) ∨ ∃ k : Nat, r = k ∧ k < n ∧ l[k]? = some x) ∧ w = w' := by
 have HL := Lib.hid h.len1;have G := Lib.hid h;clear h;go_enter Tryz.func100, Tryz.ntmps100;go_wp2_with fail
 go_loopw [5, 8] (fun jv iv wr => ∃ i : Nat, iv = .int .i64 i ∧ i ≤ n ∧ x ∉ l.take i ∧ wr = w) (fun _ iv _ => n - (intOf iv).toNat)
 case atStart => exact ⟨0, rfl, by omega, by simp, rfl⟩
 case round =>
  obtain ⟨i, rfl, hi, hno, rfl⟩ := hrel
  by_cases hlt : i < n
  ·obtain ⟨y, hy⟩ := some_at HL.out hlt
   obtain ⟨bk, of, rfl, hc⟩ := G.out.get1 hy;have hi0 : (0 : Int) ≤ (i : Int) := by omega
   have hi1 : (i : Int) < (n : Int) := by omega
   have HY := Lib.hid hy;have HO := Lib.hid hno;clear hy hno
   by_cases hxy : x = y
   ·subst hxy
    go_wp2_with fail;go_ret;exact ⟨_, rfl, Or.inr ⟨i, rfl, hlt, HY.out⟩, rfl⟩
   ·go_wp2_with fail
    go_roundw
    case rel => exact ⟨i + 1, by go_num, by omega, by rw [At.take HY.out, List.mem_append, not_or]; exact ⟨HO.out, by simpa using hxy⟩, trivial⟩
    case measure => simp [intOf]; omega
  ·have HO := Lib.hid hno
   clear hno;go_wp2_with fail;go_ret;refine ⟨_, rfl, Or.inl ⟨rfl, ?_⟩, rfl⟩;have := HO.out
   rwa [List.take_of_length_le (by rw [HL.out]; omega)] at this
set_option maxRecDepth 100000 in
set_option maxHeartbeats 2000000 in
theorem l3Row_any (c : Int) (A : Option Addr) (n cc : Nat) (l : List Int) (bs : List UInt8) (s : ByteArray) (m : Int) (w : World) (h : Rd w A n 1 (l.map (Value.int .i64))) (hn : n ≤ 1000) (hs : toB s = bs) (hb : bs.length = n) :
 Calls Tryz.prog 168 #[.int .i64 c, .slice A n cc, .string s, .int .i64 m] w (Made w 3 1 (rowHit c l bs m).length ((rowHit c l bs m).map (Value.int .i64))) := by
 have HL := Lib.hid h.len1;have G := Lib.hid h;have hsz : s.size = n := by rw [← toB_len, hs, hb]
 have HS := Lib.hid hs;have HB := Lib.hid hb;clear h hs hb;go_enter Tryz.func168, Tryz.ntmps168;go_wp2_with fail
 go_loopw [9] (fun iv wr => ∃ i : Nat, iv = .int .i64 i ∧ i ≤ n ∧ (∀ (j : Nat) (x : Int), j < i → l[j]? = some x → x ≠ c) ∧ wr = w) (fun iv _ => n - (intOf iv).toNat)
 case atStart => exact ⟨0, rfl, by omega, fun j x hj => by omega, rfl⟩
 case round =>
  obtain ⟨i, rfl, hi, hno, rfl⟩ := hrel
  by_cases hlt : i < n
  ·obtain ⟨y, hy⟩ := some_at HL.out hlt
   obtain ⟨b, hb⟩ := some_at HB.out hlt;obtain ⟨bk, of, rfl, hc⟩ := G.out.get1 hy;have hi0 : (0 : Int) ≤ (i : Int) := by omega
   have hi1 : (i : Int) < (n : Int) := by omega
   have hks : i < s.size := by omega
   have hi2 : (i : Int) < (s.size : Int) := by omega
   have e1 : s[i] = b := toB_at' (by rw [HS.out]; exact hb) hks;have hb0 : ((s[i]).toNat : Int) ≤ 255 := by have := (s[i]).toNat_lt; omega
   have hb1 : (0 : Int) ≤ ((s[i]).toNat : Int) := by omega
   have HE := Lib.hid (show ((s[i]).toNat : Int) = (b.toNat : Int) by rw [e1]);have HY := Lib.hid hy;have HO := Lib.hid hno;have HBY := Lib.hid hb;clear hy hno hb e1
   by_cases hxy : y = c
   ·subst hxy
    have HR := Lib.hid (rowHit_at (m := m) HY.out HBY.out HO.out);have H2 := (Hp.start wr).lit 3 1 2 [.int .i64 (b.toNat : Int), .int .i64 m] rfl (by simp [maxLen]);go_wp2_with fail;rw [HE.out];go_ret;rw [HR.out];exact H2.toMade 0 rfl
   ·have HR := Lib.hid hxy
    go_wp2_with fail;go_roundw
    case rel =>
     refine ⟨i + 1, by go_num, by omega, fun j x hj hx => ?_, trivial⟩
     by_cases hji : j = i
     ·subst hji
      rw [HY.out] at hx;injection hx with hx;rw [← hx];exact HR.out
     ·exact HO.out j x (by omega) hx
    case measure => simp [intOf]; omega
  ·have HR := Lib.hid (show rowHit c l bs m = [] from rowHit_no fun x hx => by
    obtain ⟨j, hj⟩ := List.mem_iff_getElem?.1 hx;have := (List.getElem?_eq_some_iff.1 hj).1;exact hno j x (by rw [HL.out] at this; omega) hj)
   have H2 := (Hp.start wr).lit0 3 1;clear hno;go_wp2_with fail;go_ret;rw [HR.out];exact H2.toMade 0 rfl
end Go.Proofs.YtllonpbhgbhogaaGreatDoor
namespace Go.Proofs.YtllonpbhgbhogaaGreatDoor
open Go.RowKit
end Go.Proofs.YtllonpbhgbhogaaGreatDoor