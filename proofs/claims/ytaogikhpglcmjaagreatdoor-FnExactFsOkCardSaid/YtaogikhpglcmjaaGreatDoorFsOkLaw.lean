/-
  The law FnExactFsOk, walked.
-/
import Derived.Test.YtaogikhpglcmjaaGreatDoorFsOk
import Derived.Test.YtaogikhpglcmjaaGreatDoorGZc
import Derived.Test.YtaogikhpglcmjaaGreatDoorGZa
import Derived.Test.YtaogikhpglcmjaaGreatDoorGm
namespace Go.Proofs.YtaogikhpglcmjaaGreatDoor
open Go.RowKit

set_option linter.unusedVariables false
set_option linter.unusedSimpArgs false
theorem nodes_all {P : Nod → Prop} {L M : List (Value × Nod)} (h : nodes M = nodes L) (hl : ∀ p ∈ L, P p.2) : ∀ p ∈ M, P p.2 := by
  intro p hp
  have h1 : p.2 ∈ nodes M := List.mem_map_of_mem hp
  rw [h] at h1
  obtain ⟨q, hq, e⟩ := List.mem_map.1 h1
  rw [← e]; exact hl q hq
theorem wNod_fits {L : List (Value × Nod)} (h : totF wNod L ≤ 1048576) : L.length ≤ 1048576 ∧ (∀ p ∈ L, p.2.2.2.2.2.length ≤ 1048576) ∧ (∀ p ∈ L, ∀ e ∈ p.2.2.2.2.2, e.2.2.1.size ≤ 16777216) ∧ ∀ p ∈ L, p.2.2.2.2.1.size ≤ 16777216 := by
  refine ⟨by have := totF_len wNod L; omega, fun p hp => ?_, fun p hp e he => ?_, fun p hp => ?_⟩
  · have h1 := totF_mem (f := wNod) hp
    have h2 := totF_len wEnt p.2.2.2.2.2
    have h3 : wNod p = p.2.2.2.2.1.size + totF wEnt p.2.2.2.2.2 := rfl
    omega
  · have h1 := totF_mem (f := wNod) hp
    have h2 := totF_mem (f := wEnt) he
    have h3 : wNod p = p.2.2.2.2.1.size + totF wEnt p.2.2.2.2.2 := rfl
    show wEnt e ≤ _
    omega
  · have h1 := totF_mem (f := wNod) hp
    have h3 : wNod p = p.2.2.2.2.1.size + totF wEnt p.2.2.2.2.2 := rfl
    omega

set_option maxRecDepth 100000 in
set_option maxHeartbeats 16000000 in
theorem lawFnExactFsOk_walk (up : Bool) (m1 m2 sq st sv tr : Int) (A1 A2 A3 A6 A7 A8 : Option Addr) (n1 n2 n3 n6 n7 n8 c1 c2 c3 c6 c7 c8 : Nat) (L1 L2 : List (Value × Nod)) (base bl : List ByteArray) (pd : List (Int × ByteArray)) (calls : List (Int × Int × ByteArray × Int × ByteArray × ByteArray)) (w : World)
    (h1 : RdN w A1 n1 L1) (ok1 : OkN L1) (hn1 : n1 ≤ 9223372036854775807) (h2 : RdN w A2 n2 L2) (ok2 : OkN L2) (hn2 : n2 ≤ 9223372036854775807) (h3 : Rd w A3 n3 1 (base.map Value.string)) (ok3 : ∀ s ∈ base, s.size ≤ 9223372036854775807) (hn3 : n3 ≤ 9223372036854775807) (h6 : Rd w A6 n6 1 (bl.map Value.string)) (ok6 : ∀ s ∈ bl, s.size ≤ 9223372036854775807) (hn6 : n6 ≤ 9223372036854775807)
    (h7 : Rd w A7 n7 2 (pd.flatMap cWrite)) (ok7 : ∀ s ∈ pd, s.2.size ≤ 9223372036854775807) (hn7 : n7 ≤ 9223372036854775807) (h8 : Rd w A8 n8 6 (calls.flatMap cCall)) (ok8 : ∀ s ∈ calls, s.2.2.1.size ≤ 9223372036854775807 ∧ s.2.2.2.2.1.size ≤ 9223372036854775807 ∧ s.2.2.2.2.2.size ≤ 9223372036854775807) (hn8 : n8 ≤ 9223372036854775807) (hk : KT w) :
    Calls Tryz.prog 4 #[.agg #[.bool up, .int .i64 m1, .slice A1 n1 c1, .int .i64 m2, .slice A2 n2 c2, .slice A3 n3 c3, .int .i64 sq, .int .i64 st, .slice A6 n6 c6, .slice A7 n7 c7, .slice A8 n8 c8, .int .i64 sv, .int .i64 tr]] w fun e w' => e = .returned (.bool true) ∧ Fr w w' := by
  obtain ⟨tot, htot⟩ : ∃ t : Nat, t = totF wNod L1 + totF wNod L2 + strTot base + (strTot bl + totF wWrite pd) + totF wCall calls := ⟨_, rfl⟩
  have HT := Lib.hid htot
  have H := (Hp.start w).lay_ 45 [.bool up, .int .i64 m1, .slice A1 n1 c1, .int .i64 m2, .slice A2 n2 c2, .slice A3 n3 c3, .int .i64 sq, .int .i64 st, .slice A6 n6 c6, .slice A7 n7 c7, .slice A8 n8 c8, .int .i64 sv, .int .i64 tr] rfl
  by_cases hbig : (1048576 : Int) < (tot : Int)
  ·
    clear htot
    go_enter Tryz.func4, Tryz.ntmps4
    have y0 := H.bat 0 rfl (j := 0) rfl
    have y1 := H.bat 0 rfl (j := 1) rfl
    have y2 := H.bat 0 rfl (j := 2) rfl
    have y3 := H.bat 0 rfl (j := 3) rfl
    have y4 := H.bat 0 rfl (j := 4) rfl
    have y5 := H.bat 0 rfl (j := 5) rfl
    have y6 := H.bat 0 rfl (j := 6) rfl
    have y7 := H.bat 0 rfl (j := 7) rfl
    have y8 := H.bat 0 rfl (j := 8) rfl
    have y9 := H.bat 0 rfl (j := 9) rfl
    have y10 := H.bat 0 rfl (j := 10) rfl
    have y11 := H.bat 0 rfl (j := 11) rfl
    have y12 := H.bat 0 rfl (j := 12) rfl
    go_wp2_with fail
    refine (szFs_any up m1 m2 sq st sv tr A1 A2 A3 A6 A7 A8 n1 n2 n3 n6 n7 n8 c1 c2 c3 c6 c7 c8 L1 L2 base bl pd calls 1048576 _ (h1.fr H.fr) ok1 hn1 (h2.fr H.fr) ok2 hn2 (H.old h3) ok3 hn3 (H.old h6) ok6 hn6 (H.old h7) ok7 hn7 (H.old h8) ok8 hn8 (by omega) (by omega)).mono ?_
    rintro e w1 ⟨rfl, f1⟩
    replace H := H.go f1
    clear f1 y0 y1 y2 y3 y4 y5 y6 y7 y8 y9 y10 y11 y12
    rw [← HT.out]
    rw [szOf_no (by omega)]
    go_wp2_with fail
    go_ret
    exact ⟨rfl, H.fr⟩
  have hf1 := wNod_fits (L := L1) (by omega)
  have hf2 := wNod_fits (L := L2) (by omega)
  have hE1 := hf1.2.1
  have hE2 := hf2.2.1
  have hZ1 := hf1.2.2.1
  have hZ2 := hf2.2.2.1
  have hs1 : n1 ≤ 1048576 := by have := hf1.1; have := h1.len; omega
  have hs2 : n2 ≤ 1048576 := by have := hf2.1; have := h2.len; omega
  have hs3 : n3 ≤ 1048576 := by have := strTot_len base; have := h3.len1; omega
  have hs6 : n6 ≤ 1048576 := by have := strTot_len bl; have := h6.len1; omega
  have hs7 : n7 ≤ 1048576 := by have := totF_len wWrite pd; have := h7.lenk cWrite_len (by omega); omega
  have hs8 : n8 ≤ 1048576 := by have := totF_len wCall calls; have := h8.lenk cCall_len (by omega); omega
  have hz3 : ∀ t ∈ base, t.size ≤ 16777216 := fun t ht => by have := strTot_mem ht; omega
  clear hf1 hf2
  obtain ⟨q, hq⟩ : ∃ q, fsOkB up m1 m2 sq st sv tr (nodes L1) (nodes L2) base bl pd calls = q := ⟨_, rfl⟩
  have HQ := Lib.hid hq
  clear hq htot
  have hqq : (q != q) = false := bne_self_eq_false _
  have hqe : (q == q) = true := beq_self_eq_true _
  go_enter Tryz.func4, Tryz.ntmps4
  have y0 := H.bat 0 rfl (j := 0) rfl
  have y1 := H.bat 0 rfl (j := 1) rfl
  have y2 := H.bat 0 rfl (j := 2) rfl
  have y3 := H.bat 0 rfl (j := 3) rfl
  have y4 := H.bat 0 rfl (j := 4) rfl
  have y5 := H.bat 0 rfl (j := 5) rfl
  have y6 := H.bat 0 rfl (j := 6) rfl
  have y7 := H.bat 0 rfl (j := 7) rfl
  have y8 := H.bat 0 rfl (j := 8) rfl
  have y9 := H.bat 0 rfl (j := 9) rfl
  have y10 := H.bat 0 rfl (j := 10) rfl
  have y11 := H.bat 0 rfl (j := 11) rfl
  have y12 := H.bat 0 rfl (j := 12) rfl
  go_wp2_with fail
  refine (szFs_any up m1 m2 sq st sv tr A1 A2 A3 A6 A7 A8 n1 n2 n3 n6 n7 n8 c1 c2 c3 c6 c7 c8 L1 L2 base bl pd calls 1048576 _ (h1.fr H.fr) ok1 hn1 (h2.fr H.fr) ok2 hn2 (H.old h3) ok3 hn3 (H.old h6) ok6 hn6 (H.old h7) ok7 hn7 (H.old h8) ok8 hn8 (by omega) (by omega)).mono ?_
  rintro e w1 ⟨rfl, f1⟩
  replace H := H.go f1
  clear f1 y0 y1 y2 y3 y4 y5 y6 y7 y8 y9 y10 y11 y12
  rw [← HT.out]
  rw [szOf_yes (by omega)]
  obtain ⟨lf, hlf⟩ : ∃ x : Int, x = 1048576 - (tot : Int) := ⟨_, rfl⟩
  have hlf0 : ¬ lf < 0 := by omega
  rw [← hlf]
  clear hlf
  have y0 := H.bat 0 rfl (j := 0) rfl
  have y1 := H.bat 0 rfl (j := 1) rfl
  have y2 := H.bat 0 rfl (j := 2) rfl
  have y3 := H.bat 0 rfl (j := 3) rfl
  have y4 := H.bat 0 rfl (j := 4) rfl
  have y5 := H.bat 0 rfl (j := 5) rfl
  have y6 := H.bat 0 rfl (j := 6) rfl
  have y7 := H.bat 0 rfl (j := 7) rfl
  have y8 := H.bat 0 rfl (j := 8) rfl
  have y9 := H.bat 0 rfl (j := 9) rfl
  have y10 := H.bat 0 rfl (j := 10) rfl
  have y11 := H.bat 0 rfl (j := 11) rfl
  have y12 := H.bat 0 rfl (j := 12) rfl
  go_wp2_with fail
  refine (toFs_any up m1 m2 sq st sv tr A1 A2 A3 A6 A7 A8 n1 n2 n3 n6 n7 n8 c1 c2 c3 c6 c7 c8 L1 L2 base bl pd calls _ (h1.fr H.fr) hs1 hE1 (h2.fr H.fr) hs2 hE2 (H.old h3) hs3 (H.old h6) hs6 (H.old h7) hs7 (H.old h8) hs8).mono ?_
  rintro e ws ⟨gas, gbs, gcs, gds, ges, gfs, Las, Lbs, rfl, hLas, hLbs, K⟩
  replace H := H.join K
  clear K
  have HLas := Lib.hid hLas
  have HLbs := Lib.hid hLbs
  have few1s := nodes_all (P := fun x => x.2.2.2.2.length ≤ 1048576) hLas hE1
  have few2s := nodes_all (P := fun x => x.2.2.2.2.length ≤ 1048576) hLbs hE2
  have sz1s := nodes_all (P := fun x => ∀ e ∈ x.2.2.2.2, e.2.2.1.size ≤ 16777216) hLas hZ1
  have sz2s := nodes_all (P := fun x => ∀ e ∈ x.2.2.2.2, e.2.2.1.size ≤ 16777216) hLbs hZ2
  clear hLas hLbs
  clear y0 y1 y2 y3 y4 y5 y6 y7 y8 y9 y10 y11 y12
  go_wp2_with fail
  refine (specFsOk_any up m1 m2 sq st sv tr (some ⟨gas, 0, none⟩) (some ⟨gbs, 0, none⟩) (some ⟨gcs, 0, none⟩) (some ⟨gds, 0, none⟩) (some ⟨ges, 0, none⟩) (some ⟨gfs, 0, none⟩) n1 n2 n3 n6 n7 n8 n1 n2 n3 n6 n7 n8 Las Lbs base bl pd calls _ (H.rdN 5 rfl) hs1 (Nat.le_refl _) few1s sz1s (H.rdN 4 rfl) hs2 (Nat.le_refl _) few2s sz2s (H.rd 3 rfl) hs3 hz3 (H.rd 2 rfl) hs6 (H.rd 1 rfl) hs7 (H.rd 0 rfl) hs8).mono ?_
  rintro e wz ⟨rfl, fz⟩
  replace H := H.go fz
  clear fz
  rw [HLas.out, HLbs.out, HQ.out]
  have y0 := H.bat 6 rfl (j := 0) rfl
  have y1 := H.bat 6 rfl (j := 1) rfl
  have y2 := H.bat 6 rfl (j := 2) rfl
  have y3 := H.bat 6 rfl (j := 3) rfl
  have y4 := H.bat 6 rfl (j := 4) rfl
  have y5 := H.bat 6 rfl (j := 5) rfl
  have y6 := H.bat 6 rfl (j := 6) rfl
  have y7 := H.bat 6 rfl (j := 7) rfl
  have y8 := H.bat 6 rfl (j := 8) rfl
  have y9 := H.bat 6 rfl (j := 9) rfl
  have y10 := H.bat 6 rfl (j := 10) rfl
  have y11 := H.bat 6 rfl (j := 11) rfl
  have y12 := H.bat 6 rfl (j := 12) rfl
  go_wp2_with fail
  refine (toFs_any up m1 m2 sq st sv tr A1 A2 A3 A6 A7 A8 n1 n2 n3 n6 n7 n8 c1 c2 c3 c6 c7 c8 L1 L2 base bl pd calls _ (h1.fr H.fr) hs1 hE1 (h2.fr H.fr) hs2 hE2 (H.old h3) hs3 (H.old h6) hs6 (H.old h7) hs7 (H.old h8) hs8).mono ?_
  rintro e wx ⟨gax, gbx, gcx, gdx, gex, gfx, Lax, Lbx, rfl, hLax, hLbx, K⟩
  replace H := H.join K
  clear K
  have HLax := Lib.hid hLax
  have HLbx := Lib.hid hLbx
  have few1x := nodes_all (P := fun x => x.2.2.2.2.length ≤ 1048576) hLax hE1
  have few2x := nodes_all (P := fun x => x.2.2.2.2.length ≤ 1048576) hLbx hE2
  have sz1x := nodes_all (P := fun x => ∀ e ∈ x.2.2.2.2, e.2.2.1.size ≤ 16777216) hLax hZ1
  have sz2x := nodes_all (P := fun x => ∀ e ∈ x.2.2.2.2, e.2.2.1.size ≤ 16777216) hLbx hZ2
  clear hLax hLbx
  obtain ⟨bx, hbx⟩ : ∃ b, b = wx.heap.size := ⟨_, rfl⟩
  replace H := H.lay_ (g := bx) 52 [.bool up, .int .i64 m1, .slice (some ⟨gax, 0, none⟩) n1 n1, .int .i64 m2, .slice (some ⟨gbx, 0, none⟩) n2 n2, .slice (some ⟨gcx, 0, none⟩) n3 n3, .int .i64 sq, .int .i64 st, .slice (some ⟨gdx, 0, none⟩) n6 n6, .slice (some ⟨gex, 0, none⟩) n7 n7, .slice (some ⟨gfx, 0, none⟩) n8 n8, .int .i64 sv, .int .i64 tr] hbx
  clear y0 y1 y2 y3 y4 y5 y6 y7 y8 y9 y10 y11 y12
  have y0 := H.bat 0 rfl (j := 0) rfl
  have y1 := H.bat 0 rfl (j := 1) rfl
  have y2 := H.bat 0 rfl (j := 2) rfl
  have y3 := H.bat 0 rfl (j := 3) rfl
  have y4 := H.bat 0 rfl (j := 4) rfl
  have y5 := H.bat 0 rfl (j := 5) rfl
  have y6 := H.bat 0 rfl (j := 6) rfl
  have y7 := H.bat 0 rfl (j := 7) rfl
  have y8 := H.bat 0 rfl (j := 8) rfl
  have y9 := H.bat 0 rfl (j := 9) rfl
  have y10 := H.bat 0 rfl (j := 10) rfl
  have y11 := H.bat 0 rfl (j := 11) rfl
  have y12 := H.bat 0 rfl (j := 12) rfl
  have HBX := Lib.hid hbx
  clear hbx
  go_wp2_with fail
  rw [← HBX.out]
  refine (implFsOk_any up m1 m2 sq st sv tr (some ⟨gax, 0, none⟩) (some ⟨gbx, 0, none⟩) (some ⟨gcx, 0, none⟩) (some ⟨gdx, 0, none⟩) (some ⟨gex, 0, none⟩) (some ⟨gfx, 0, none⟩) n1 n2 n3 n6 n7 n8 n1 n2 n3 n6 n7 n8 Lax Lbx base bl pd calls _ (H.rdN 6 rfl) hs1 (Nat.le_refl _) few1x sz1x (H.rdN 5 rfl) hs2 (Nat.le_refl _) few2x sz2x (H.rd 4 rfl) hs3 hz3 (H.rd 3 rfl) hs6 (H.rd 2 rfl) hs7 (H.rd 1 rfl) hs8 (hk.fr H.fr)).mono ?_
  rintro e wz ⟨rfl, fz⟩
  replace H := H.go fz
  clear fz
  rw [HLax.out, HLbx.out, HQ.out]
  clear y0 y1 y2 y3 y4 y5 y6 y7 y8 y9 y10 y11 y12
  have y0 := H.bat 0 rfl (j := 0) rfl
  have y1 := H.bat 0 rfl (j := 1) rfl
  have y2 := H.bat 0 rfl (j := 2) rfl
  have y3 := H.bat 0 rfl (j := 3) rfl
  have y4 := H.bat 0 rfl (j := 4) rfl
  have y5 := H.bat 0 rfl (j := 5) rfl
  have y6 := H.bat 0 rfl (j := 6) rfl
  have y7 := H.bat 0 rfl (j := 7) rfl
  have y8 := H.bat 0 rfl (j := 8) rfl
  have y9 := H.bat 0 rfl (j := 9) rfl
  have y10 := H.bat 0 rfl (j := 10) rfl
  have y11 := H.bat 0 rfl (j := 11) rfl
  have y12 := H.bat 0 rfl (j := 12) rfl
  have z0 := H.bat 13 rfl (j := 0) rfl
  have z1 := H.bat 13 rfl (j := 1) rfl
  have z2 := H.bat 13 rfl (j := 2) rfl
  have z3 := H.bat 13 rfl (j := 3) rfl
  have z4 := H.bat 13 rfl (j := 4) rfl
  have z5 := H.bat 13 rfl (j := 5) rfl
  have z6 := H.bat 13 rfl (j := 6) rfl
  have z7 := H.bat 13 rfl (j := 7) rfl
  have z8 := H.bat 13 rfl (j := 8) rfl
  have z9 := H.bat 13 rfl (j := 9) rfl
  have z10 := H.bat 13 rfl (j := 10) rfl
  have z11 := H.bat 13 rfl (j := 11) rfl
  have z12 := H.bat 13 rfl (j := 12) rfl
  go_wp2_with fail
  replace H := H.drew
  clear y0 z0 y1 z1 y2 z2 y3 z3 y4 z4 y5 z5 y6 z6 y7 z7 y8 z8 y9 z9 y10 z10 y11 z11 y12 z12
  have y0 := H.bat 0 rfl (j := 0) rfl
  have y1 := H.bat 0 rfl (j := 1) rfl
  have y2 := H.bat 0 rfl (j := 2) rfl
  have y3 := H.bat 0 rfl (j := 3) rfl
  have y4 := H.bat 0 rfl (j := 4) rfl
  have y5 := H.bat 0 rfl (j := 5) rfl
  have y6 := H.bat 0 rfl (j := 6) rfl
  have y7 := H.bat 0 rfl (j := 7) rfl
  have y8 := H.bat 0 rfl (j := 8) rfl
  have y9 := H.bat 0 rfl (j := 9) rfl
  have y10 := H.bat 0 rfl (j := 10) rfl
  have y11 := H.bat 0 rfl (j := 11) rfl
  have y12 := H.bat 0 rfl (j := 12) rfl
  have z0 := H.bat 13 rfl (j := 0) rfl
  have z1 := H.bat 13 rfl (j := 1) rfl
  have z2 := H.bat 13 rfl (j := 2) rfl
  have z3 := H.bat 13 rfl (j := 3) rfl
  have z4 := H.bat 13 rfl (j := 4) rfl
  have z5 := H.bat 13 rfl (j := 5) rfl
  have z6 := H.bat 13 rfl (j := 6) rfl
  have z7 := H.bat 13 rfl (j := 7) rfl
  have z8 := H.bat 13 rfl (j := 8) rfl
  have z9 := H.bat 13 rfl (j := 9) rfl
  have z10 := H.bat 13 rfl (j := 10) rfl
  have z11 := H.bat 13 rfl (j := 11) rfl
  have z12 := H.bat 13 rfl (j := 12) rfl
  refine wp_region_held_drew (S := fun w' => w'.cell? ⟨bx, 0, none⟩ = some (.bool up) ∧ w'.cell? ⟨bx, 1, none⟩ = some (.int .i64 m1) ∧ w'.cell? ⟨bx, 2, none⟩ = some (.slice (some ⟨gax, 0, none⟩) n1 n1) ∧ w'.cell? ⟨bx, 3, none⟩ = some (.int .i64 m2) ∧ w'.cell? ⟨bx, 4, none⟩ = some (.slice (some ⟨gbx, 0, none⟩) n2 n2) ∧ w'.cell? ⟨bx, 5, none⟩ = some (.slice (some ⟨gcx, 0, none⟩) n3 n3) ∧ w'.cell? ⟨bx, 6, none⟩ = some (.int .i64 sq) ∧ w'.cell? ⟨bx, 7, none⟩ = some (.int .i64 st) ∧ w'.cell? ⟨bx, 8, none⟩ = some (.slice (some ⟨gdx, 0, none⟩) n6 n6) ∧ w'.cell? ⟨bx, 9, none⟩ = some (.slice (some ⟨gex, 0, none⟩) n7 n7) ∧ w'.cell? ⟨bx, 10, none⟩ = some (.slice (some ⟨gfx, 0, none⟩) n8 n8) ∧ w'.cell? ⟨bx, 11, none⟩ = some (.int .i64 sv) ∧ w'.cell? ⟨bx, 12, none⟩ = some (.int .i64 tr) ∧ w'.cell? ⟨w.heap.size, 0, none⟩ = some (.bool up) ∧ w'.cell? ⟨w.heap.size, 1, none⟩ = some (.int .i64 m1) ∧ w'.cell? ⟨w.heap.size, 2, none⟩ = some (.slice A1 n1 c1) ∧ w'.cell? ⟨w.heap.size, 3, none⟩ = some (.int .i64 m2) ∧ w'.cell? ⟨w.heap.size, 4, none⟩ = some (.slice A2 n2 c2) ∧ w'.cell? ⟨w.heap.size, 5, none⟩ = some (.slice A3 n3 c3) ∧ w'.cell? ⟨w.heap.size, 6, none⟩ = some (.int .i64 sq) ∧ w'.cell? ⟨w.heap.size, 7, none⟩ = some (.int .i64 st) ∧ w'.cell? ⟨w.heap.size, 8, none⟩ = some (.slice A6 n6 c6) ∧ w'.cell? ⟨w.heap.size, 9, none⟩ = some (.slice A7 n7 c7) ∧ w'.cell? ⟨w.heap.size, 10, none⟩ = some (.slice A8 n8 c8) ∧ w'.cell? ⟨w.heap.size, 11, none⟩ = some (.int .i64 sv) ∧ w'.cell? ⟨w.heap.size, 12, none⟩ = some (.int .i64 tr)) (by kernel_rfl) ?_ (fun hHeld => ?_)
  · exact ⟨H.bat 0 rfl (j := 0) rfl, H.bat 0 rfl (j := 1) rfl, H.bat 0 rfl (j := 2) rfl, H.bat 0 rfl (j := 3) rfl, H.bat 0 rfl (j := 4) rfl, H.bat 0 rfl (j := 5) rfl, H.bat 0 rfl (j := 6) rfl, H.bat 0 rfl (j := 7) rfl, H.bat 0 rfl (j := 8) rfl, H.bat 0 rfl (j := 9) rfl, H.bat 0 rfl (j := 10) rfl, H.bat 0 rfl (j := 11) rfl, H.bat 0 rfl (j := 12) rfl, H.bat 13 rfl (j := 0) rfl, H.bat 13 rfl (j := 1) rfl, H.bat 13 rfl (j := 2) rfl, H.bat 13 rfl (j := 3) rfl, H.bat 13 rfl (j := 4) rfl, H.bat 13 rfl (j := 5) rfl, H.bat 13 rfl (j := 6) rfl, H.bat 13 rfl (j := 7) rfl, H.bat 13 rfl (j := 8) rfl, H.bat 13 rfl (j := 9) rfl, H.bat 13 rfl (j := 10) rfl, H.bat 13 rfl (j := 11) rfl, H.bat 13 rfl (j := 12) rfl⟩
  refine wpT 0 ?_
  refine wpT 1 ?_
  refine wpC 2 fun K hK => ?_
  go_simp
  refine (toFs_any up m1 m2 sq st sv tr A1 A2 A3 A6 A7 A8 n1 n2 n3 n6 n7 n8 c1 c2 c3 c6 c7 c8 L1 L2 base bl pd calls _ (h1.fr H.fr) hs1 hE1 (h2.fr H.fr) hs2 hE2 (H.old h3) hs3 (H.old h6) hs6 (H.old h7) hs7 (H.old h8) hs8).mono ?_
  rintro e wy ⟨gay, gby, gcy, gdy, gey, gfy, Lay, Lby, rfl, hLay, hLby, K⟩
  replace H := H.join K
  clear K
  have HLay := Lib.hid hLay
  have HLby := Lib.hid hLby
  have few1y := nodes_all (P := fun x => x.2.2.2.2.length ≤ 1048576) hLay hE1
  have few2y := nodes_all (P := fun x => x.2.2.2.2.length ≤ 1048576) hLby hE2
  have sz1y := nodes_all (P := fun x => ∀ e ∈ x.2.2.2.2, e.2.2.1.size ≤ 16777216) hLay hZ1
  have sz2y := nodes_all (P := fun x => ∀ e ∈ x.2.2.2.2, e.2.2.1.size ≤ 16777216) hLby hZ2
  clear hLay hLby
  go_wp2_with fail
  refine hK.out _ _ ?_ (fun hHeld => ?_)
  · exact ⟨H.bat 6 rfl (j := 0) rfl, H.bat 6 rfl (j := 1) rfl, H.bat 6 rfl (j := 2) rfl, H.bat 6 rfl (j := 3) rfl, H.bat 6 rfl (j := 4) rfl, H.bat 6 rfl (j := 5) rfl, H.bat 6 rfl (j := 6) rfl, H.bat 6 rfl (j := 7) rfl, H.bat 6 rfl (j := 8) rfl, H.bat 6 rfl (j := 9) rfl, H.bat 6 rfl (j := 10) rfl, H.bat 6 rfl (j := 11) rfl, H.bat 6 rfl (j := 12) rfl, H.bat 19 rfl (j := 0) rfl, H.bat 19 rfl (j := 1) rfl, H.bat 19 rfl (j := 2) rfl, H.bat 19 rfl (j := 3) rfl, H.bat 19 rfl (j := 4) rfl, H.bat 19 rfl (j := 5) rfl, H.bat 19 rfl (j := 6) rfl, H.bat 19 rfl (j := 7) rfl, H.bat 19 rfl (j := 8) rfl, H.bat 19 rfl (j := 9) rfl, H.bat 19 rfl (j := 10) rfl, H.bat 19 rfl (j := 11) rfl, H.bat 19 rfl (j := 12) rfl⟩
  clear hK K
  try simp only [sA, sB, sC, Act.put, sD, sE, sF]
  refine wpC 3 fun K hK => ?_
  go_simp
  refine (eqFs_yes up m1 m2 sq st sv tr n3 n6 n7 n8 base bl pd calls (some ⟨gax, 0, none⟩) n1 (some ⟨gbx, 0, none⟩) n2 (some ⟨gcx, 0, none⟩) n3 (some ⟨gdx, 0, none⟩) n6 (some ⟨gex, 0, none⟩) n7 (some ⟨gfx, 0, none⟩) n8 n1 n2 Lax Lbx (some ⟨gay, 0, none⟩) n1 (some ⟨gby, 0, none⟩) n2 (some ⟨gcy, 0, none⟩) n3 (some ⟨gdy, 0, none⟩) n6 (some ⟨gey, 0, none⟩) n7 (some ⟨gfy, 0, none⟩) n8 n1 n2 Lay Lby _ (H.rdN 12 rfl) (H.rdN 11 rfl) (H.rd 10 rfl) (H.rd 9 rfl) (H.rd 8 rfl) (H.rd 7 rfl) (H.rdN 5 rfl) (H.rdN 4 rfl) (H.rd 3 rfl) (H.rd 2 rfl) (H.rd 1 rfl) (H.rd 0 rfl) (HLax.out.trans HLay.out.symm) (HLbx.out.trans HLby.out.symm) hs1 hs2 few1x few2x hs1 hs2 few1y few2y hs3 hs6 hs7 hs8).mono ?_
  rintro e wz ⟨rfl, fz⟩
  replace H := H.go fz
  clear fz
  go_wp2_with fail
  refine hK.out _ _ ?_ (fun hHeld => ?_)
  · exact ⟨H.bat 6 rfl (j := 0) rfl, H.bat 6 rfl (j := 1) rfl, H.bat 6 rfl (j := 2) rfl, H.bat 6 rfl (j := 3) rfl, H.bat 6 rfl (j := 4) rfl, H.bat 6 rfl (j := 5) rfl, H.bat 6 rfl (j := 6) rfl, H.bat 6 rfl (j := 7) rfl, H.bat 6 rfl (j := 8) rfl, H.bat 6 rfl (j := 9) rfl, H.bat 6 rfl (j := 10) rfl, H.bat 6 rfl (j := 11) rfl, H.bat 6 rfl (j := 12) rfl, H.bat 19 rfl (j := 0) rfl, H.bat 19 rfl (j := 1) rfl, H.bat 19 rfl (j := 2) rfl, H.bat 19 rfl (j := 3) rfl, H.bat 19 rfl (j := 4) rfl, H.bat 19 rfl (j := 5) rfl, H.bat 19 rfl (j := 6) rfl, H.bat 19 rfl (j := 7) rfl, H.bat 19 rfl (j := 8) rfl, H.bat 19 rfl (j := 9) rfl, H.bat 19 rfl (j := 10) rfl, H.bat 19 rfl (j := 11) rfl, H.bat 19 rfl (j := 12) rfl⟩
  clear hK K
  try simp only [sA, sB, sC, Act.put, sD, sE, sF]
  refine wpT 4 ?_
  refine wpAnyH_done (by kernel_rfl) ?_ _
  go_wp2_with fail
  go_ret
  exact ⟨rfl, H.fr⟩
end Go.Proofs.YtaogikhpglcmjaaGreatDoor
