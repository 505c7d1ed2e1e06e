/-
  Many texts in one: Encode, AppS, MCrc.
-/
import Derived.Test.YtaogikhpglcmjaaGreatDoorGd
import Derived.Test.YtaogikhpglcmjaaGreatDoorGb
import Derived.Test.YtaogikhpglcmjaaGreatDoorGc
import Derived.Laws.BitsLemmas
namespace Go.Proofs.YtaogikhpglcmjaaGreatDoor
open Go.RowKit

theorem take_flat {l : List Int} {i : Nat} {c : Int} (h : l[i]? = some c) : (l.take (i + 1)).flatMap enc1 = (l.take i).flatMap enc1 ++ enc1 c := by
  rw [List.take_add_one, h, Option.toList_some, List.flatMap_append, List.flatMap_singleton]
theorem enc_ones {c : Int} (h0 : 0 ≤ c) (h : c < 128) : (enc1 c).map cU8 = [.int .u8 c] := by
  rw [enc1, if_pos h]; simp [cU8, u8_val h0 (show c < 256 by omega)]
theorem enc_twos {c : Int} (h0 : 128 ≤ c) (h : c < 2048) : (enc1 c).map cU8 = [.int .u8 (192 + c / 64), .int .u8 (128 + c % 64)] := by
  rw [enc1, if_neg (by omega), if_pos h]
  simp [cU8, u8_val (show 0 ≤ 192 + c / 64 by omega) (by omega), u8_val (show 0 ≤ 128 + c % 64 by omega) (by omega)]
theorem enc_threes {c : Int} (h0 : 2048 ≤ c) (h : c < 65536) : (enc1 c).map cU8 = [.int .u8 (224 + c / 4096), .int .u8 (128 + c / 64 % 64), .int .u8 (128 + c % 64)] := by
  rw [enc1, if_neg (by omega), if_neg (by omega), if_pos h]
  simp [cU8, u8_val (show 0 ≤ 224 + c / 4096 by omega) (by omega), u8_val (show 0 ≤ 128 + c / 64 % 64 by omega) (by omega), u8_val (show 0 ≤ 128 + c % 64 by omega) (by omega)]
theorem enc_fours {c : Int} (h0 : 65536 ≤ c) (h : c < 2097152) : (enc1 c).map cU8 = [.int .u8 (240 + c / 262144), .int .u8 (128 + c / 4096 % 64), .int .u8 (128 + c / 64 % 64), .int .u8 (128 + c % 64)] := by
  rw [enc1, if_neg (by omega), if_neg (by omega), if_neg (by omega)]
  simp [cU8, u8_val (show 0 ≤ 240 + c / 262144 by omega) (by omega), u8_val (show 0 ≤ 128 + c / 4096 % 64 by omega) (by omega), u8_val (show 0 ≤ 128 + c / 64 % 64 by omega) (by omega), u8_val (show 0 ≤ 128 + c % 64 by omega) (by omega)]
theorem u8_wrap {x : Int} (h0 : 0 ≤ x) (h1 : x < 256) : IntKind.u8.wrap x = x := wraps_u8 x h0 (by omega)

set_option linter.unusedVariables false
set_option linter.unusedSimpArgs false
set_option maxRecDepth 100000 in
set_option maxHeartbeats 8000000 in
theorem implEncode_any (A : Option Addr) (n c : Nat) (l : List Int) (w : World) (h : Rd w A n 1 (l.map (Value.int .i64))) (hn : n ≤ 16777216) :
    Calls Tryz.prog 135 #[.slice A n c] w fun e w' => e = .returned (.string (ofB (encL l))) ∧ Fr w w' := by
  have HL := Lib.hid h.len1
  have G := Lib.hid h
  have H0 := (Hp.start w).lit0 5 1
  have HEN := Lib.hid (fun (hg : ∀ x ∈ l, sgnB x = true) => encL_good hg)
  have HEB := Lib.hid (fun (i : Nat) (c : Int) (hx : l[i]? = some c) (hs : sgnB c = false) => encL_bad hx hs)
  generalize encL l = out at HEN HEB ⊢
  clear h
  go_enter Tryz.func135, Tryz.ntmps135
  go_wp2_with fail
  go_loopw [3, 9] (fun v iv wr => ∃ i : Nat, iv = .int .i64 i ∧ i ≤ n ∧ (∀ x ∈ l.take i, sgnB x = true) ∧ Hp [] w wr [.row 5 1 v ((l.take i).flatMap enc1).length (((l.take i).flatMap enc1).map cU8)]) (fun _ iv _ => n - (intOf iv).toNat)
  case atStart => exact ⟨0, rfl, by omega, by simp, H0⟩
  case round =>
    clear H0
    obtain ⟨i, rfl, hi, hg, H⟩ := hrel
    have HG := Lib.hid hg
    clear hg
    obtain ⟨B, d, rfl⟩ := H.shape 0 rfl
    by_cases hlt : i < n
    · obtain ⟨c0, hx⟩ := at_some HL.out hlt
      obtain ⟨bk, of, rfl, hc⟩ := (H.old G.out).get1 hx
      have hi0 : (0 : Int) ≤ (i : Int) := by omega
      have hi1 : (i : Int) < (n : Int) := by omega
      have HX := Lib.hid hx
      have HFL := Lib.hid (take_flat hx)
      have hol : ((l.take i).flatMap enc1).length ≤ 100000000 := by
        have := flat1_le (l.take i)
        rw [List.length_take] at this
        omega
      clear hx
      generalize (l.take i).flatMap enc1 = o at H HFL hol
      go_wp2_with fail
      refine (implSign_any _ _).mono ?_
      rintro e wq ⟨rfl, hwq⟩
      rw [← hwq] at H
      clear hwq hc
      rcases (show sgnB c0 = true ∨ sgnB c0 = false by cases sgnB c0 <;> simp) with hsg | hsg
      ·
        have hsb := sgn_bounds hsg
        have HSG := Lib.hid hsg
        rw [hsg]
        clear hsg
        by_cases h1 : c0 < 128
        · have d1 : decide (c0 < 128) = true := by simpa using h1
          have HE := Lib.hid (enc_ones (by omega) h1)
          have wq : IntKind.u8.wrap c0 = c0 := u8_wrap (by omega) (by omega)
          have HZ := Lib.hid (show szC c0 = 1 by unfold szC; rw [if_pos h1])
          go_wp2_with (at_builtin; refine wp_app1 H rfl _ _ _ rfl Tryz.underlying101 infoU8 rfl (by decide) 0 _ _ _ rfl rfl _ 1 1 _ [.int .u8 c0] rfl (by simp) rfl (by simp [Value.oneCell']) (by simp only [maxLen]; omega) (by omega) ?_)
          intro v' w' H'
          have H2 : Hp [] w w' [.row 5 1 v' (o ++ enc1 c0).length ((o ++ enc1 c0).map cU8)] := by
            rw [List.length_append, List.map_append, HE.out, enc1_len, HZ.out]
            simpa using H'
          have H3 := Lib.hid H2
          clear H' H2 H
          go_wp2_with fail
          go_roundw
          case rel => exact ⟨i + 1, by go_num, by omega, fun x hx => by
            rw [HX.out.take, List.mem_append] at hx
            rcases hx with hx | hx
            · exact HG.out x hx
            · rw [List.mem_singleton.1 hx]; exact HSG.out, by rw [HFL.out]; exact H3.out⟩
          case measure => simp [intOf]; omega
        · have d1 : decide (c0 < 128) = false := by simpa using h1
          by_cases h2 : c0 < 2048
          · have d2 : decide (c0 < 2048) = true := by simpa using h2
            obtain ⟨y1, hy1⟩ : ∃ y : Int, y = 192 + c0 / 64 := ⟨_, rfl⟩
            obtain ⟨z2, hz2⟩ : ∃ y : Int, y = c0 % 64 := ⟨_, rfl⟩
            obtain ⟨y2, hy2⟩ : ∃ y : Int, y = 128 + z2 := ⟨_, rfl⟩
            have o1 : bits .or .i64 192 (c0 / 64) = y1 := by rw [hy1]; exact or_join 6 (by omega) (by omega) (by omega) (by omega) (by omega) (by omega)
            have p1 : IntKind.i64.wrap (192 + c0 / 64) = y1 := by rw [hy1]; exact IntWalk.i64_in _ (by omega)
            have a2 : bits .and .i64 c0 63 = z2 := by rw [hz2]; exact and_63 (by omega) (by omega)
            have o2 : bits .or .i64 128 z2 = y2 := by rw [hy2]; exact or_join 6 (by omega) (by omega) (by omega) (by omega) (by omega) (by omega)
            have p2 : IntKind.i64.wrap (128 + z2) = y2 := by rw [hy2]; exact IntWalk.i64_in _ (by omega)
            have w1 : IntKind.u8.wrap y1 = y1 := u8_wrap (by omega) (by omega)
            have w2 : IntKind.u8.wrap y2 = y2 := u8_wrap (by omega) (by omega)
            have HE := Lib.hid ((enc_twos (c := c0) (by omega) (by omega)).trans (by rw [← hy1, ← hz2, ← hy2]))
            clear hy1 hz2 hy2
            have HZ := Lib.hid (show szC c0 = 2 by unfold szC; rw [if_neg h1, if_pos h2])
            go_wp2_with (at_builtin; refine wp_app1 H rfl _ _ _ rfl Tryz.underlying101 infoU8 rfl (by decide) 0 _ _ _ rfl rfl _ 2 2 _ [.int .u8 y1, .int .u8 y2] rfl (by simp) rfl (by simp [Value.oneCell']) (by simp only [maxLen]; omega) (by omega) ?_)
            intro v' w' H'
            have H2 : Hp [] w w' [.row 5 1 v' (o ++ enc1 c0).length ((o ++ enc1 c0).map cU8)] := by
              rw [List.length_append, List.map_append, HE.out, enc1_len, HZ.out]
              simpa using H'
            have H3 := Lib.hid H2
            clear H' H2 H
            go_wp2_with fail
            go_roundw
            case rel => exact ⟨i + 1, by go_num, by omega, fun x hx => by
              rw [HX.out.take, List.mem_append] at hx
              rcases hx with hx | hx
              · exact HG.out x hx
              · rw [List.mem_singleton.1 hx]; exact HSG.out, by rw [HFL.out]; exact H3.out⟩
            case measure => simp [intOf]; omega
          · have d2 : decide (c0 < 2048) = false := by simpa using h2
            by_cases h3 : c0 < 65536
            · have d3 : decide (c0 < 65536) = true := by simpa using h3
              obtain ⟨y1, hy1⟩ : ∃ y : Int, y = 224 + c0 / 4096 := ⟨_, rfl⟩
              obtain ⟨z2, hz2⟩ : ∃ y : Int, y = c0 / 64 % 64 := ⟨_, rfl⟩
              obtain ⟨y2, hy2⟩ : ∃ y : Int, y = 128 + z2 := ⟨_, rfl⟩
              obtain ⟨z3, hz3⟩ : ∃ y : Int, y = c0 % 64 := ⟨_, rfl⟩
              obtain ⟨y3, hy3⟩ : ∃ y : Int, y = 128 + z3 := ⟨_, rfl⟩
              have o1 : bits .or .i64 224 (c0 / 4096) = y1 := by rw [hy1]; exact or_join 5 (by omega) (by omega) (by omega) (by omega) (by omega) (by omega)
              have p1 : IntKind.i64.wrap (224 + c0 / 4096) = y1 := by rw [hy1]; exact IntWalk.i64_in _ (by omega)
              have a2 : bits .and .i64 (c0 / 64) 63 = z2 := by rw [hz2]; exact and_63 (by omega) (by omega)
              have o2 : bits .or .i64 128 z2 = y2 := by rw [hy2]; exact or_join 6 (by omega) (by omega) (by omega) (by omega) (by omega) (by omega)
              have p2 : IntKind.i64.wrap (128 + z2) = y2 := by rw [hy2]; exact IntWalk.i64_in _ (by omega)
              have a3 : bits .and .i64 c0 63 = z3 := by rw [hz3]; exact and_63 (by omega) (by omega)
              have o3 : bits .or .i64 128 z3 = y3 := by rw [hy3]; exact or_join 6 (by omega) (by omega) (by omega) (by omega) (by omega) (by omega)
              have p3 : IntKind.i64.wrap (128 + z3) = y3 := by rw [hy3]; exact IntWalk.i64_in _ (by omega)
              have w1 : IntKind.u8.wrap y1 = y1 := u8_wrap (by omega) (by omega)
              have w2 : IntKind.u8.wrap y2 = y2 := u8_wrap (by omega) (by omega)
              have w3 : IntKind.u8.wrap y3 = y3 := u8_wrap (by omega) (by omega)
              have HE := Lib.hid ((enc_threes (c := c0) (by omega) (by omega)).trans (by rw [← hy1, ← hz2, ← hy2, ← hz3, ← hy3]))
              clear hy1 hz2 hy2 hz3 hy3
              have HZ := Lib.hid (show szC c0 = 3 by unfold szC; rw [if_neg h1, if_neg h2, if_pos h3])
              go_wp2_with (at_builtin; refine wp_app1 H rfl _ _ _ rfl Tryz.underlying101 infoU8 rfl (by decide) 0 _ _ _ rfl rfl _ 3 3 _ [.int .u8 y1, .int .u8 y2, .int .u8 y3] rfl (by simp) rfl (by simp [Value.oneCell']) (by simp only [maxLen]; omega) (by omega) ?_)
              intro v' w' H'
              have H2 : Hp [] w w' [.row 5 1 v' (o ++ enc1 c0).length ((o ++ enc1 c0).map cU8)] := by
                rw [List.length_append, List.map_append, HE.out, enc1_len, HZ.out]
                simpa using H'
              have H3 := Lib.hid H2
              clear H' H2 H
              go_wp2_with fail
              go_roundw
              case rel => exact ⟨i + 1, by go_num, by omega, fun x hx => by
                rw [HX.out.take, List.mem_append] at hx
                rcases hx with hx | hx
                · exact HG.out x hx
                · rw [List.mem_singleton.1 hx]; exact HSG.out, by rw [HFL.out]; exact H3.out⟩
              case measure => simp [intOf]; omega
            · have d3 : decide (c0 < 65536) = false := by simpa using h3
              obtain ⟨y1, hy1⟩ : ∃ y : Int, y = 240 + c0 / 262144 := ⟨_, rfl⟩
              obtain ⟨z2, hz2⟩ : ∃ y : Int, y = c0 / 4096 % 64 := ⟨_, rfl⟩
              obtain ⟨y2, hy2⟩ : ∃ y : Int, y = 128 + z2 := ⟨_, rfl⟩
              obtain ⟨z3, hz3⟩ : ∃ y : Int, y = c0 / 64 % 64 := ⟨_, rfl⟩
              obtain ⟨y3, hy3⟩ : ∃ y : Int, y = 128 + z3 := ⟨_, rfl⟩
              obtain ⟨z4, hz4⟩ : ∃ y : Int, y = c0 % 64 := ⟨_, rfl⟩
              obtain ⟨y4, hy4⟩ : ∃ y : Int, y = 128 + z4 := ⟨_, rfl⟩
              have o1 : bits .or .i64 240 (c0 / 262144) = y1 := by rw [hy1]; exact or_join 4 (by omega) (by omega) (by omega) (by omega) (by omega) (by omega)
              have p1 : IntKind.i64.wrap (240 + c0 / 262144) = y1 := by rw [hy1]; exact IntWalk.i64_in _ (by omega)
              have a2 : bits .and .i64 (c0 / 4096) 63 = z2 := by rw [hz2]; exact and_63 (by omega) (by omega)
              have o2 : bits .or .i64 128 z2 = y2 := by rw [hy2]; exact or_join 6 (by omega) (by omega) (by omega) (by omega) (by omega) (by omega)
              have p2 : IntKind.i64.wrap (128 + z2) = y2 := by rw [hy2]; exact IntWalk.i64_in _ (by omega)
              have a3 : bits .and .i64 (c0 / 64) 63 = z3 := by rw [hz3]; exact and_63 (by omega) (by omega)
              have o3 : bits .or .i64 128 z3 = y3 := by rw [hy3]; exact or_join 6 (by omega) (by omega) (by omega) (by omega) (by omega) (by omega)
              have p3 : IntKind.i64.wrap (128 + z3) = y3 := by rw [hy3]; exact IntWalk.i64_in _ (by omega)
              have a4 : bits .and .i64 c0 63 = z4 := by rw [hz4]; exact and_63 (by omega) (by omega)
              have o4 : bits .or .i64 128 z4 = y4 := by rw [hy4]; exact or_join 6 (by omega) (by omega) (by omega) (by omega) (by omega) (by omega)
              have p4 : IntKind.i64.wrap (128 + z4) = y4 := by rw [hy4]; exact IntWalk.i64_in _ (by omega)
              have w1 : IntKind.u8.wrap y1 = y1 := u8_wrap (by omega) (by omega)
              have w2 : IntKind.u8.wrap y2 = y2 := u8_wrap (by omega) (by omega)
              have w3 : IntKind.u8.wrap y3 = y3 := u8_wrap (by omega) (by omega)
              have w4 : IntKind.u8.wrap y4 = y4 := u8_wrap (by omega) (by omega)
              have HE := Lib.hid ((enc_fours (c := c0) (by omega) (by omega)).trans (by rw [← hy1, ← hz2, ← hy2, ← hz3, ← hy3, ← hz4, ← hy4]))
              clear hy1 hz2 hy2 hz3 hy3 hz4 hy4
              have HZ := Lib.hid (show szC c0 = 4 by unfold szC; rw [if_neg h1, if_neg h2, if_neg h3])
              go_wp2_with (at_builtin; refine wp_app1 H rfl _ _ _ rfl Tryz.underlying101 infoU8 rfl (by decide) 0 _ _ _ rfl rfl _ 4 4 _ [.int .u8 y1, .int .u8 y2, .int .u8 y3, .int .u8 y4] rfl (by simp) rfl (by simp [Value.oneCell']) (by simp only [maxLen]; omega) (by omega) ?_)
              intro v' w' H'
              have H2 : Hp [] w w' [.row 5 1 v' (o ++ enc1 c0).length ((o ++ enc1 c0).map cU8)] := by
                rw [List.length_append, List.map_append, HE.out, enc1_len, HZ.out]
                simpa using H'
              have H3 := Lib.hid H2
              clear H' H2 H
              go_wp2_with fail
              go_roundw
              case rel => exact ⟨i + 1, by go_num, by omega, fun x hx => by
                rw [HX.out.take, List.mem_append] at hx
                rcases hx with hx | hx
                · exact HG.out x hx
                · rw [List.mem_singleton.1 hx]; exact HSG.out, by rw [HFL.out]; exact H3.out⟩
              case measure => simp [intOf]; omega
      · have HE := Lib.hid (HEB.out i c0 HX.out hsg)
        rw [hsg]
        go_wp2_with fail
        go_ret
        rw [HE.out]
        exact ⟨rfl, H.fr⟩
    · have ht : l.take i = l := List.take_of_length_le (by rw [HL.out]; omega)
      have hge : ¬ ((i : Int) < (n : Int)) := by omega
      have HE := Lib.hid (HEN.out (by have := HG.out; rwa [ht] at this))
      rw [ht] at H ⊢
      clear ht
      generalize l.flatMap enc1 = o at H HE ⊢
      have hk := run_str (c := d) 101 9 5 Tryz.underlying101 Tryz.underlying5 Tryz.underlying9 (H.rd 0 rfl)
      have F := Lib.hid H.fr
      clear H
      go_wp2
      go_ret
      rw [HE.out]
      exact ⟨rfl, F.out⟩
set_option maxRecDepth 100000 in
set_option maxHeartbeats 8000000 in
theorem specEncode_any (A : Option Addr) (n c : Nat) (l : List Int) (w : World) (h : Rd w A n 1 (l.map (Value.int .i64))) (hn : n ≤ 16777216) :
    Calls Tryz.prog 130 #[.slice A n c] w fun e w' => e = .returned (.string (ofB (encL l))) ∧ Fr w w' := by
  have HL := Lib.hid h.len1
  have G := Lib.hid h
  have H0 := (Hp.start w).lit0 5 1
  have HEN := Lib.hid (fun (hg : ∀ x ∈ l, sgnB x = true) => encL_good hg)
  have HEB := Lib.hid (fun (i : Nat) (c : Int) (hx : l[i]? = some c) (hs : sgnB c = false) => encL_bad hx hs)
  generalize encL l = out at HEN HEB ⊢
  clear h
  go_enter Tryz.func130, Tryz.ntmps130
  go_wp2_with fail
  go_loopw [3, 4] (fun v iv wr => ∃ i : Nat, iv = .int .i64 i ∧ i ≤ n ∧ (∀ x ∈ l.take i, sgnB x = true) ∧ Hp [] w wr [.row 5 1 v ((l.take i).flatMap enc1).length (((l.take i).flatMap enc1).map cU8)]) (fun _ iv _ => n - (intOf iv).toNat)
  case atStart => exact ⟨0, rfl, by omega, by simp, H0⟩
  case round =>
    clear H0
    obtain ⟨i, rfl, hi, hg, H⟩ := hrel
    have HG := Lib.hid hg
    clear hg
    obtain ⟨B, d, rfl⟩ := H.shape 0 rfl
    by_cases hlt : i < n
    · obtain ⟨c0, hx⟩ := at_some HL.out hlt
      obtain ⟨bk, of, rfl, hc⟩ := (H.old G.out).get1 hx
      have hi0 : (0 : Int) ≤ (i : Int) := by omega
      have hi1 : (i : Int) < (n : Int) := by omega
      have HX := Lib.hid hx
      have HFL := Lib.hid (take_flat hx)
      have hol : ((l.take i).flatMap enc1).length ≤ 100000000 := by
        have := flat1_le (l.take i)
        rw [List.length_take] at this
        omega
      clear hx
      generalize (l.take i).flatMap enc1 = o at H HFL hol
      go_wp2_with fail
      refine (specSign_any _ _).mono ?_
      rintro e wq ⟨rfl, hwq⟩
      rw [← hwq] at H
      clear hwq hc
      rcases (show sgnB c0 = true ∨ sgnB c0 = false by cases sgnB c0 <;> simp) with hsg | hsg
      ·
        have hsb := sgn_bounds hsg
        have HSG := Lib.hid hsg
        rw [hsg]
        clear hsg
        by_cases h1 : c0 < 128
        · have d1 : decide (c0 < 128) = true := by simpa using h1
          have HE := Lib.hid (enc_ones (by omega) h1)
          have wq : IntKind.u8.wrap c0 = c0 := u8_wrap (by omega) (by omega)
          have HZ := Lib.hid (show szC c0 = 1 by unfold szC; rw [if_pos h1])
          go_wp2_with (at_builtin; refine wp_app1 H rfl _ _ _ rfl Tryz.underlying101 infoU8 rfl (by decide) 0 _ _ _ rfl rfl _ 1 1 _ [.int .u8 c0] rfl (by simp) rfl (by simp [Value.oneCell']) (by simp only [maxLen]; omega) (by omega) ?_)
          intro v' w' H'
          have H2 : Hp [] w w' [.row 5 1 v' (o ++ enc1 c0).length ((o ++ enc1 c0).map cU8)] := by
            rw [List.length_append, List.map_append, HE.out, enc1_len, HZ.out]
            simpa using H'
          have H3 := Lib.hid H2
          clear H' H2 H
          go_wp2_with fail
          go_roundw
          case rel => exact ⟨i + 1, by go_num, by omega, fun x hx => by
            rw [HX.out.take, List.mem_append] at hx
            rcases hx with hx | hx
            · exact HG.out x hx
            · rw [List.mem_singleton.1 hx]; exact HSG.out, by rw [HFL.out]; exact H3.out⟩
          case measure => simp [intOf]; omega
        · have d1 : decide (c0 < 128) = false := by simpa using h1
          by_cases h2 : c0 < 2048
          · have d2 : decide (c0 < 2048) = true := by simpa using h2
            obtain ⟨y1, hy1⟩ : ∃ y : Int, y = 192 + c0 / 64 := ⟨_, rfl⟩
            obtain ⟨z2, hz2⟩ : ∃ y : Int, y = c0 % 64 := ⟨_, rfl⟩
            obtain ⟨y2, hy2⟩ : ∃ y : Int, y = 128 + z2 := ⟨_, rfl⟩
            have o1 : bits .or .i64 192 (c0 / 64) = y1 := by rw [hy1]; exact or_join 6 (by omega) (by omega) (by omega) (by omega) (by omega) (by omega)
            have p1 : IntKind.i64.wrap (192 + c0 / 64) = y1 := by rw [hy1]; exact IntWalk.i64_in _ (by omega)
            have a2 : bits .and .i64 c0 63 = z2 := by rw [hz2]; exact and_63 (by omega) (by omega)
            have o2 : bits .or .i64 128 z2 = y2 := by rw [hy2]; exact or_join 6 (by omega) (by omega) (by omega) (by omega) (by omega) (by omega)
            have p2 : IntKind.i64.wrap (128 + z2) = y2 := by rw [hy2]; exact IntWalk.i64_in _ (by omega)
            have w1 : IntKind.u8.wrap y1 = y1 := u8_wrap (by omega) (by omega)
            have w2 : IntKind.u8.wrap y2 = y2 := u8_wrap (by omega) (by omega)
            have HE := Lib.hid ((enc_twos (c := c0) (by omega) (by omega)).trans (by rw [← hy1, ← hz2, ← hy2]))
            clear hy1 hz2 hy2
            have HZ := Lib.hid (show szC c0 = 2 by unfold szC; rw [if_neg h1, if_pos h2])
            go_wp2_with (at_builtin; refine wp_app1 H rfl _ _ _ rfl Tryz.underlying101 infoU8 rfl (by decide) 0 _ _ _ rfl rfl _ 2 2 _ [.int .u8 y1, .int .u8 y2] rfl (by simp) rfl (by simp [Value.oneCell']) (by simp only [maxLen]; omega) (by omega) ?_)
            intro v' w' H'
            have H2 : Hp [] w w' [.row 5 1 v' (o ++ enc1 c0).length ((o ++ enc1 c0).map cU8)] := by
              rw [List.length_append, List.map_append, HE.out, enc1_len, HZ.out]
              simpa using H'
            have H3 := Lib.hid H2
            clear H' H2 H
            go_wp2_with fail
            go_roundw
            case rel => exact ⟨i + 1, by go_num, by omega, fun x hx => by
              rw [HX.out.take, List.mem_append] at hx
              rcases hx with hx | hx
              · exact HG.out x hx
              · rw [List.mem_singleton.1 hx]; exact HSG.out, by rw [HFL.out]; exact H3.out⟩
            case measure => simp [intOf]; omega
          · have d2 : decide (c0 < 2048) = false := by simpa using h2
            by_cases h3 : c0 < 65536
            · have d3 : decide (c0 < 65536) = true := by simpa using h3
              obtain ⟨y1, hy1⟩ : ∃ y : Int, y = 224 + c0 / 4096 := ⟨_, rfl⟩
              obtain ⟨z2, hz2⟩ : ∃ y : Int, y = c0 / 64 % 64 := ⟨_, rfl⟩
              obtain ⟨y2, hy2⟩ : ∃ y : Int, y = 128 + z2 := ⟨_, rfl⟩
              obtain ⟨z3, hz3⟩ : ∃ y : Int, y = c0 % 64 := ⟨_, rfl⟩
              obtain ⟨y3, hy3⟩ : ∃ y : Int, y = 128 + z3 := ⟨_, rfl⟩
              have o1 : bits .or .i64 224 (c0 / 4096) = y1 := by rw [hy1]; exact or_join 5 (by omega) (by omega) (by omega) (by omega) (by omega) (by omega)
              have p1 : IntKind.i64.wrap (224 + c0 / 4096) = y1 := by rw [hy1]; exact IntWalk.i64_in _ (by omega)
              have a2 : bits .and .i64 (c0 / 64) 63 = z2 := by rw [hz2]; exact and_63 (by omega) (by omega)
              have o2 : bits .or .i64 128 z2 = y2 := by rw [hy2]; exact or_join 6 (by omega) (by omega) (by omega) (by omega) (by omega) (by omega)
              have p2 : IntKind.i64.wrap (128 + z2) = y2 := by rw [hy2]; exact IntWalk.i64_in _ (by omega)
              have a3 : bits .and .i64 c0 63 = z3 := by rw [hz3]; exact and_63 (by omega) (by omega)
              have o3 : bits .or .i64 128 z3 = y3 := by rw [hy3]; exact or_join 6 (by omega) (by omega) (by omega) (by omega) (by omega) (by omega)
              have p3 : IntKind.i64.wrap (128 + z3) = y3 := by rw [hy3]; exact IntWalk.i64_in _ (by omega)
              have w1 : IntKind.u8.wrap y1 = y1 := u8_wrap (by omega) (by omega)
              have w2 : IntKind.u8.wrap y2 = y2 := u8_wrap (by omega) (by omega)
              have w3 : IntKind.u8.wrap y3 = y3 := u8_wrap (by omega) (by omega)
              have HE := Lib.hid ((enc_threes (c := c0) (by omega) (by omega)).trans (by rw [← hy1, ← hz2, ← hy2, ← hz3, ← hy3]))
              clear hy1 hz2 hy2 hz3 hy3
              have HZ := Lib.hid (show szC c0 = 3 by unfold szC; rw [if_neg h1, if_neg h2, if_pos h3])
              go_wp2_with (at_builtin; refine wp_app1 H rfl _ _ _ rfl Tryz.underlying101 infoU8 rfl (by decide) 0 _ _ _ rfl rfl _ 3 3 _ [.int .u8 y1, .int .u8 y2, .int .u8 y3] rfl (by simp) rfl (by simp [Value.oneCell']) (by simp only [maxLen]; omega) (by omega) ?_)
              intro v' w' H'
              have H2 : Hp [] w w' [.row 5 1 v' (o ++ enc1 c0).length ((o ++ enc1 c0).map cU8)] := by
                rw [List.length_append, List.map_append, HE.out, enc1_len, HZ.out]
                simpa using H'
              have H3 := Lib.hid H2
              clear H' H2 H
              go_wp2_with fail
              go_roundw
              case rel => exact ⟨i + 1, by go_num, by omega, fun x hx => by
                rw [HX.out.take, List.mem_append] at hx
                rcases hx with hx | hx
                · exact HG.out x hx
                · rw [List.mem_singleton.1 hx]; exact HSG.out, by rw [HFL.out]; exact H3.out⟩
              case measure => simp [intOf]; omega
            · have d3 : decide (c0 < 65536) = false := by simpa using h3
              obtain ⟨y1, hy1⟩ : ∃ y : Int, y = 240 + c0 / 262144 := ⟨_, rfl⟩
              obtain ⟨z2, hz2⟩ : ∃ y : Int, y = c0 / 4096 % 64 := ⟨_, rfl⟩
              obtain ⟨y2, hy2⟩ : ∃ y : Int, y = 128 + z2 := ⟨_, rfl⟩
              obtain ⟨z3, hz3⟩ : ∃ y : Int, y = c0 / 64 % 64 := ⟨_, rfl⟩
              obtain ⟨y3, hy3⟩ : ∃ y : Int, y = 128 + z3 := ⟨_, rfl⟩
              obtain ⟨z4, hz4⟩ : ∃ y : Int, y = c0 % 64 := ⟨_, rfl⟩
              obtain ⟨y4, hy4⟩ : ∃ y : Int, y = 128 + z4 := ⟨_, rfl⟩
              have o1 : bits .or .i64 240 (c0 / 262144) = y1 := by rw [hy1]; exact or_join 4 (by omega) (by omega) (by omega) (by omega) (by omega) (by omega)
              have p1 : IntKind.i64.wrap (240 + c0 / 262144) = y1 := by rw [hy1]; exact IntWalk.i64_in _ (by omega)
              have a2 : bits .and .i64 (c0 / 4096) 63 = z2 := by rw [hz2]; exact and_63 (by omega) (by omega)
              have o2 : bits .or .i64 128 z2 = y2 := by rw [hy2]; exact or_join 6 (by omega) (by omega) (by omega) (by omega) (by omega) (by omega)
              have p2 : IntKind.i64.wrap (128 + z2) = y2 := by rw [hy2]; exact IntWalk.i64_in _ (by omega)
              have a3 : bits .and .i64 (c0 / 64) 63 = z3 := by rw [hz3]; exact and_63 (by omega) (by omega)
              have o3 : bits .or .i64 128 z3 = y3 := by rw [hy3]; exact or_join 6 (by omega) (by omega) (by omega) (by omega) (by omega) (by omega)
              have p3 : IntKind.i64.wrap (128 + z3) = y3 := by rw [hy3]; exact IntWalk.i64_in _ (by omega)
              have a4 : bits .and .i64 c0 63 = z4 := by rw [hz4]; exact and_63 (by omega) (by omega)
              have o4 : bits .or .i64 128 z4 = y4 := by rw [hy4]; exact or_join 6 (by omega) (by omega) (by omega) (by omega) (by omega) (by omega)
              have p4 : IntKind.i64.wrap (128 + z4) = y4 := by rw [hy4]; exact IntWalk.i64_in _ (by omega)
              have w1 : IntKind.u8.wrap y1 = y1 := u8_wrap (by omega) (by omega)
              have w2 : IntKind.u8.wrap y2 = y2 := u8_wrap (by omega) (by omega)
              have w3 : IntKind.u8.wrap y3 = y3 := u8_wrap (by omega) (by omega)
              have w4 : IntKind.u8.wrap y4 = y4 := u8_wrap (by omega) (by omega)
              have HE := Lib.hid ((enc_fours (c := c0) (by omega) (by omega)).trans (by rw [← hy1, ← hz2, ← hy2, ← hz3, ← hy3, ← hz4, ← hy4]))
              clear hy1 hz2 hy2 hz3 hy3 hz4 hy4
              have HZ := Lib.hid (show szC c0 = 4 by unfold szC; rw [if_neg h1, if_neg h2, if_neg h3])
              go_wp2_with (at_builtin; refine wp_app1 H rfl _ _ _ rfl Tryz.underlying101 infoU8 rfl (by decide) 0 _ _ _ rfl rfl _ 4 4 _ [.int .u8 y1, .int .u8 y2, .int .u8 y3, .int .u8 y4] rfl (by simp) rfl (by simp [Value.oneCell']) (by simp only [maxLen]; omega) (by omega) ?_)
              intro v' w' H'
              have H2 : Hp [] w w' [.row 5 1 v' (o ++ enc1 c0).length ((o ++ enc1 c0).map cU8)] := by
                rw [List.length_append, List.map_append, HE.out, enc1_len, HZ.out]
                simpa using H'
              have H3 := Lib.hid H2
              clear H' H2 H
              go_wp2_with fail
              go_roundw
              case rel => exact ⟨i + 1, by go_num, by omega, fun x hx => by
                rw [HX.out.take, List.mem_append] at hx
                rcases hx with hx | hx
                · exact HG.out x hx
                · rw [List.mem_singleton.1 hx]; exact HSG.out, by rw [HFL.out]; exact H3.out⟩
              case measure => simp [intOf]; omega
      · have HE := Lib.hid (HEB.out i c0 HX.out hsg)
        rw [hsg]
        go_wp2_with fail
        go_ret
        rw [HE.out]
        exact ⟨rfl, H.fr⟩
    · have ht : l.take i = l := List.take_of_length_le (by rw [HL.out]; omega)
      have hge : ¬ ((i : Int) < (n : Int)) := by omega
      have HE := Lib.hid (HEN.out (by have := HG.out; rwa [ht] at this))
      rw [ht] at H ⊢
      clear ht
      generalize l.flatMap enc1 = o at H HE ⊢
      have hk := run_str (c := d) 101 9 5 Tryz.underlying101 Tryz.underlying5 Tryz.underlying9 (H.rd 0 rfl)
      have F := Lib.hid H.fr
      clear H
      go_wp2
      go_ret
      rw [HE.out]
      exact ⟨rfl, F.out⟩
end Go.Proofs.YtaogikhpglcmjaaGreatDoor

namespace Go.Proofs.YtaogikhpglcmjaaGreatDoor
open Go.RowKit

section
variable {W : List Nat} {w0 w w' : World} {l : List Ob} {P : Program} {ops : Array Oper} {rest : List Oper} {o : Oper} {a : Act} {Q : Exit → Act → World → Prop} {E : TypeId} {z : Value} {bytes : Nat}
/-- 'append(s, t...)' in words of lists, elements of one cell. -/
theorem wp_appS {α : Type} {f : α → Value} (H : Hp W w0 w l) (hgd : o.guard = none) (s x : Operand) (t : TypeId) (ho : o.op = .call { callee := .builtin .append, args := #[s, x], argTypes := #[t, t] })
    (ht : P.underlying t = some (.slice E)) (hI : (P.info? E).map (fun i => (i.zero, i.size, i.bytes)) = some (some z, 1, bytes)) (hzs : z.cells.size = 1)
    (i : Nat) (v : Value) (L : List α) (hrow : l[i]? = some (.row E 1 v L.length (L.map f))) (hs : a.eval s = v) (A : Option Addr) (c : Nat) (M : List α) (hx : a.eval x = .slice A M.length c) (hc : A = none → c = 0)
    (hrd : Rd w A M.length 1 (M.map f)) (h1 : ∀ u ∈ M, (f u).oneCell' = true) (h63 : L.length + M.length ≤ maxLen) (hbytes : (L.length + M.length) * bytes ≤ 140737488355328)
    (h : ∀ v' w', Hp W w0 w' (l.set i (.row E 1 v' (L ++ M).length ((L ++ M).map f))) → wpList P ops Q rest (a.put o.dst v') w') : wpList P ops Q (o :: rest) a w := by
  refine wp_appRd H hgd s x t ho ht hI hzs Nat.one_pos i v L.length (L.map f) hrow hs A M.length c (M.map f) hx hc hrd (by intro u hu; obtain ⟨y, hy, rfl⟩ := List.mem_map.1 hu; exact h1 y hy) h63 hbytes fun v' w' h' => h v' w' ?_
  rwa [List.length_append, List.map_append]
end
theorem own_cap' {w : World} {b : Nat} {E : TypeId} {k n : Nat} {A : Option Addr} {m c : Nat} {xs : List Value} (h : w.ownsRow b E k (.slice A m c) n xs) : A = none → c = 0 := by
  intro hA
  rcases h.2 with ⟨hv, _⟩ | ⟨g, cap, cur, hv, _⟩
  · injection hv
  · injection hv with h1 _ _; rw [hA] at h1; cases h1
theorem own_cap_le {w : World} {b : Nat} {E : TypeId} {k n : Nat} {A : Option Addr} {m c : Nat} {xs : List Value} (h : w.ownsRow b E k (.slice A m c) n xs) : m ≤ c := by
  rcases h.2 with ⟨hv, _⟩ | ⟨g, cap, cur, hv, _, _, hc, _⟩
  · injection hv with _ h2 h3; omega
  · injection hv with _ h2 h3; omega
end Go.Proofs.YtaogikhpglcmjaaGreatDoor

namespace Go.Proofs.YtaogikhpglcmjaaGreatDoor
open Go.RowKit
set_option linter.unusedVariables false

/-! ### The sum of a text -/
def crcBit (c : Nat) : Nat := if c % 2 = 1 then (c / 2) ^^^ 2197175160 else c / 2
def crcBits : Nat → Nat → Nat
  | 0, c => c
  | k + 1, c => crcBit (crcBits k c)
def crcByte (c : Nat) (b : UInt8) : Nat := crcBits 8 (c ^^^ b.toNat)
def crcL (s : List UInt8) : Nat := s.foldl crcByte 4294967295
theorem xor32 {a b : Nat} (h1 : a < 4294967296) (h2 : b < 4294967296) : a ^^^ b < 4294967296 := Nat.xor_lt_two_pow (n := 32) h1 h2
theorem crcBit_lt {c : Nat} (h : c < 4294967296) : crcBit c < 4294967296 := by
  rw [crcBit]
  split
  · exact xor32 (by omega) (by decide)
  · omega
theorem crcBits_lt {c : Nat} (h : c < 4294967296) : ∀ k, crcBits k c < 4294967296
  | 0 => h
  | k + 1 => crcBit_lt (crcBits_lt h k)
theorem crcByte_lt {c : Nat} (h : c < 4294967296) (b : UInt8) : crcByte c b < 4294967296 := crcBits_lt (xor32 h (by have := b.toNat_lt; omega)) 8
theorem crc_fold_lt : ∀ (s : List UInt8) (c : Nat), c < 4294967296 → s.foldl crcByte c < 4294967296
  | [], c, h => h
  | b :: s, c, h => crc_fold_lt s _ (crcByte_lt h b)
theorem crcL_lt (s : List UInt8) : crcL s < 4294967296 := crc_fold_lt s _ (by decide)
def crcZ (s : List UInt8) : Int := 4294967295 - (crcL s : Int)
theorem crcZ_in (s : List UInt8) : 0 ≤ crcZ s ∧ crcZ s ≤ 4294967295 := by
  have := crcL_lt s
  rw [crcZ]; omega
theorem bits_xor {a b : Nat} (h1 : a < 4294967296) (h2 : b < 4294967296) : bits .xor .i64 (a : Int) (b : Int) = ((a ^^^ b : Nat) : Int) := by
  have k1 := xor32 h1 h2
  have key : (BitVec.ofInt 64 (a : Int) ^^^ BitVec.ofInt 64 (b : Int)).toNat = a ^^^ b := by
    rw [BitVec.toNat_xor, BitVec.toNat_ofInt, BitVec.toNat_ofInt]
    congr 1 <;> omega
  show IntKind.i64.wrap ((BitVec.ofInt 64 (a : Int) ^^^ BitVec.ofInt 64 (b : Int)).toNat : Nat) = _
  rw [key]
  exact IntWalk.i64_in _ (by omega)
theorem and_1c {c : Int} (h0 : 0 ≤ c) (h1 : c < 9223372036854775808) : bits .and .i64 c 1 = c % 2 := bits_mask .i64 63 (by decide) (fun n h₀ h₁ => IntWalk.i64_in _ (by omega)) 1 (by decide) c h0 (by omega)
theorem crc_take {s : List UInt8} {i : Nat} {b : UInt8} (h : s[i]? = some b) : (s.take (i + 1)).foldl crcByte 4294967295 = crcByte ((s.take i).foldl crcByte 4294967295) b := by
  rw [List.take_add_one, h, Option.toList_some, List.foldl_append]; rfl
theorem toB_getC {s : ByteArray} {i : Nat} {b : UInt8} (h : (toB s)[i]? = some b) (hs : i < s.size) : s[i] = b := by
  have h2 : (toB s)[i]? = some s[i] := by
    rw [List.getElem?_eq_getElem (by rw [toB_len]; exact hs)]
    rfl
  rw [h2] at h
  exact Option.some.inj h
end Go.Proofs.YtaogikhpglcmjaaGreatDoor
