/-
  The law FnExactNewFs, walked.
-/
import Derived.Test.YtlgclhnghpjgjaaNewFs
import Derived.Test.YtlgclhnghpjgjaaFsMark
namespace Go.Proofs.Ytlgclhnghpjgjaa
open Go.RowKit

set_option linter.unusedVariables false
set_option linter.unusedSimpArgs false
theorem root_len : ∀ p ∈ rootL, p.2.2.2.2.2.length ≤ 1048576 := fun p hp => (root_sz p hp).2.1
theorem nil_len : ∀ p ∈ ([] : List (Value × Nod)), p.2.2.2.2.2.length ≤ 1048576 := by simp
set_option maxRecDepth 100000 in
set_option maxHeartbeats 8000000 in
theorem lawFnExactNewFs_walk (w : World) : Calls Try.prog 3 #[] w fun e w' => e = .returned (.bool true) ∧ Fr w w' := by
  have hup : (true != true) = false := rfl
  go_enter Try.func3, Try.ntmps3
  go_wp2_with fail
  refine (specNewFs_any _).mono ?_
  rintro e w1 ⟨gw, Bw, dw, Dw, qw, rfl, K⟩
  unfold fsV
  have H := (K).lay_ 31 [.bool true, .int .i64 2, .slice (some ⟨gw, 0, none⟩) 1 1, .int .i64 0, .slice none 0 0, .slice Bw 17 dw, .int .i64 0, .int .i64 0, .slice Dw 18 qw, .slice none 0 0, .slice none 0 0, .int .i64 0, .int .i64 0] rfl
  clear K
  obtain ⟨bw, hbw⟩ : ∃ x, x = w1.heap.size := ⟨_, rfl⟩
  rw [← hbw] at H
  have HBw := Lib.hid hbw
  clear hbw
  go_wp2_with fail
  rw [← HBw.out]
  refine (implNewFs_any _).mono ?_
  rintro e w2 ⟨gg, Bg, dg, Dg, qg, rfl, K⟩
  unfold fsV
  replace H := (H.join K).lay_ 31 [.bool true, .int .i64 2, .slice (some ⟨gg, 0, none⟩) 1 1, .int .i64 0, .slice none 0 0, .slice Bg 17 dg, .int .i64 0, .int .i64 0, .slice Dg 18 qg, .slice none 0 0, .slice none 0 0, .int .i64 0, .int .i64 0] rfl
  clear K
  obtain ⟨bg, hbg⟩ : ∃ x, x = w2.heap.size := ⟨_, rfl⟩
  rw [← hbg] at H
  have HBg := Lib.hid hbg
  clear hbg
  have y0 := H.bat 0 rfl (j := 0) rfl
  have y1 := H.bat 0 rfl (j := 1) rfl
  have y2 := H.bat 0 rfl (j := 2) rfl
  have y3 := H.bat 0 rfl (j := 3) rfl
  have y4 := H.bat 0 rfl (j := 4) rfl
  have y5 := H.bat 0 rfl (j := 5) rfl
  have y6 := H.bat 0 rfl (j := 6) rfl
  have y7 := H.bat 0 rfl (j := 7) rfl
  have y8 := H.bat 0 rfl (j := 8) rfl
  have y9 := H.bat 0 rfl (j := 9) rfl
  have y10 := H.bat 0 rfl (j := 10) rfl
  have y11 := H.bat 0 rfl (j := 11) rfl
  have y12 := H.bat 0 rfl (j := 12) rfl
  have z0 := H.bat 7 rfl (j := 0) rfl
  have z1 := H.bat 7 rfl (j := 1) rfl
  have z2 := H.bat 7 rfl (j := 2) rfl
  have z3 := H.bat 7 rfl (j := 3) rfl
  have z4 := H.bat 7 rfl (j := 4) rfl
  have z5 := H.bat 7 rfl (j := 5) rfl
  have z6 := H.bat 7 rfl (j := 6) rfl
  have z7 := H.bat 7 rfl (j := 7) rfl
  have z8 := H.bat 7 rfl (j := 8) rfl
  have z9 := H.bat 7 rfl (j := 9) rfl
  have z10 := H.bat 7 rfl (j := 10) rfl
  have z11 := H.bat 7 rfl (j := 11) rfl
  have z12 := H.bat 7 rfl (j := 12) rfl
  go_wp2_with fail
  rw [← HBg.out]
  refine (eqFs_yes true 2 0 0 0 0 0 17 18 0 0 rootB (rootB ++ [ByteArray.mk #[]]) [] [] _ _ _ _ _ _ _ _ _ _ _ _ _ _ rootL [] _ _ _ _ _ _ _ _ _ _ _ _ _ _ rootL [] _ (H.rdN 1 rfl) (H.rdN 2 rfl) (H.rd 3 rfl) (H.rd 4 rfl) (H.rd 5 rfl) (H.rd 6 rfl) (H.rdN 8 rfl) (H.rdN 9 rfl) (H.rd 10 rfl) (H.rd 11 rfl) (H.rd 12 rfl) (H.rd 13 rfl) rfl rfl (by decide) (by decide) root_len nil_len (by decide) (by decide) root_len nil_len (by decide) (by decide) (by decide) (by decide)).mono ?_
  rintro e w3 ⟨rfl, f3⟩
  replace H := H.go f3
  clear f3
  clear y0 y1 y2 y3 y4 y5 y6 y7 y8 y9 y10 y11 y12 z0 z1 z2 z3 z4 z5 z6 z7 z8 z9 z10 z11 z12
  replace H := H.reord [1, 2, 3, 4, 5, 6, 0, 7, 8, 9, 10, 11, 12, 13] (n := 14) rfl (by decide)
  have y0 := H.bat 6 rfl (j := 0) rfl
  have y1 := H.bat 6 rfl (j := 1) rfl
  have y2 := H.bat 6 rfl (j := 2) rfl
  have y3 := H.bat 6 rfl (j := 3) rfl
  have y4 := H.bat 6 rfl (j := 4) rfl
  have y5 := H.bat 6 rfl (j := 5) rfl
  have y6 := H.bat 6 rfl (j := 6) rfl
  have y7 := H.bat 6 rfl (j := 7) rfl
  have y8 := H.bat 6 rfl (j := 8) rfl
  have y9 := H.bat 6 rfl (j := 9) rfl
  have y10 := H.bat 6 rfl (j := 10) rfl
  have y11 := H.bat 6 rfl (j := 11) rfl
  have y12 := H.bat 6 rfl (j := 12) rfl
  obtain ⟨tt, htt⟩ : ∃ t, t = 1 + totN rootL + totN [] + 17 + 18 + 0 * 2 + 0 * 6 := ⟨_, rfl⟩
  have HTT := Lib.hid htt
  have htt0 : ¬ ((tt : Int) < 0) := by omega
  clear htt
  go_wp2_with fail
  refine (markFs_any true 2 0 0 0 0 0 _ 1 _ _ 0 _ _ 17 _ _ 18 _ _ 0 _ _ 0 _ rootL [] _ _ _ _ 1 H (by decide) (by decide) (by decide) (by decide) (by decide) (by decide) (by decide) (by decide) (by decide)).mono ?_
  rintro e w4 ⟨rfl, K⟩
  replace H := K
  clear K
  rw [← HTT.out]
  clear y0 y1 y2 y3 y4 y5 y6 y7 y8 y9 y10 y11 y12
  have y0 := H.bat 6 rfl (j := 0) rfl
  have y1 := H.bat 6 rfl (j := 1) rfl
  have y2 := H.bat 6 rfl (j := 2) rfl
  have y3 := H.bat 6 rfl (j := 3) rfl
  have y4 := H.bat 6 rfl (j := 4) rfl
  have y5 := H.bat 6 rfl (j := 5) rfl
  have y6 := H.bat 6 rfl (j := 6) rfl
  have y7 := H.bat 6 rfl (j := 7) rfl
  have y8 := H.bat 6 rfl (j := 8) rfl
  have y9 := H.bat 6 rfl (j := 9) rfl
  have y10 := H.bat 6 rfl (j := 10) rfl
  have y11 := H.bat 6 rfl (j := 11) rfl
  have y12 := H.bat 6 rfl (j := 12) rfl
  go_wp2_with fail
  refine (heldFs_any true 2 0 0 0 0 0 _ 1 _ _ 0 _ _ 17 _ _ 18 _ _ 0 _ _ 0 _ rootL [] 1 _ (H.rdN 0 rfl) (H.rdN 1 rfl) (H.rd 2 rfl) (H.rd 3 rfl) (H.rd 4 rfl) (H.rd 5 rfl) (by decide) (by decide) (by decide) (by decide) (by decide) (by decide) (by decide) (by decide) (by decide)).mono ?_
  rintro e w5 ⟨rfl, f5⟩
  replace H := H.go f5
  clear f5
  rw [← HTT.out]
  clear y0 y1 y2 y3 y4 y5 y6 y7 y8 y9 y10 y11 y12
  go_wp2_with fail
  refine (implNewFs_any _).mono ?_
  rintro e w6 ⟨gh, Bh, dh, Dh, qh, rfl, K⟩
  unfold fsV
  replace H := (H.join K).lay_ 31 [.bool true, .int .i64 2, .slice (some ⟨gh, 0, none⟩) 1 1, .int .i64 0, .slice none 0 0, .slice Bh 17 dh, .int .i64 0, .int .i64 0, .slice Dh 18 qh, .slice none 0 0, .slice none 0 0, .int .i64 0, .int .i64 0] rfl
  clear K
  obtain ⟨bh, hbh⟩ : ∃ x, x = w6.heap.size := ⟨_, rfl⟩
  rw [← hbh] at H
  have HBh := Lib.hid hbh
  clear hbh
  have y0 := H.bat 0 rfl (j := 0) rfl
  have y1 := H.bat 0 rfl (j := 1) rfl
  have y2 := H.bat 0 rfl (j := 2) rfl
  have y3 := H.bat 0 rfl (j := 3) rfl
  have y4 := H.bat 0 rfl (j := 4) rfl
  have y5 := H.bat 0 rfl (j := 5) rfl
  have y6 := H.bat 0 rfl (j := 6) rfl
  have y7 := H.bat 0 rfl (j := 7) rfl
  have y8 := H.bat 0 rfl (j := 8) rfl
  have y9 := H.bat 0 rfl (j := 9) rfl
  have y10 := H.bat 0 rfl (j := 10) rfl
  have y11 := H.bat 0 rfl (j := 11) rfl
  have y12 := H.bat 0 rfl (j := 12) rfl
  have z0 := H.bat 14 rfl (j := 0) rfl
  have z1 := H.bat 14 rfl (j := 1) rfl
  have z2 := H.bat 14 rfl (j := 2) rfl
  have z3 := H.bat 14 rfl (j := 3) rfl
  have z4 := H.bat 14 rfl (j := 4) rfl
  have z5 := H.bat 14 rfl (j := 5) rfl
  have z6 := H.bat 14 rfl (j := 6) rfl
  have z7 := H.bat 14 rfl (j := 7) rfl
  have z8 := H.bat 14 rfl (j := 8) rfl
  have z9 := H.bat 14 rfl (j := 9) rfl
  have z10 := H.bat 14 rfl (j := 10) rfl
  have z11 := H.bat 14 rfl (j := 11) rfl
  have z12 := H.bat 14 rfl (j := 12) rfl
  go_wp2_with fail
  rw [← HBh.out]
  refine (eqFs_yes true 2 0 0 0 0 0 17 18 0 0 rootB (rootB ++ [ByteArray.mk #[]]) [] [] _ _ _ _ _ _ _ _ _ _ _ _ _ _ rootL [] _ _ _ _ _ _ _ _ _ _ _ _ _ _ rootL [] _ (H.rdN 1 rfl) (H.rdN 2 rfl) (H.rd 3 rfl) (H.rd 4 rfl) (H.rd 5 rfl) (H.rd 6 rfl) (H.rdN 15 rfl) (H.rdN 16 rfl) (H.rd 17 rfl) (H.rd 18 rfl) (H.rd 19 rfl) (H.rd 20 rfl) rfl rfl (by decide) (by decide) root_len nil_len (by decide) (by decide) root_len nil_len (by decide) (by decide) (by decide) (by decide)).mono ?_
  rintro e w7 ⟨rfl, f7⟩
  replace H := H.go f7
  clear f7
  clear y0 y1 y2 y3 y4 y5 y6 y7 y8 y9 y10 y11 y12 z0 z1 z2 z3 z4 z5 z6 z7 z8 z9 z10 z11 z12
  have y0 := H.bat 13 rfl (j := 0) rfl
  have y1 := H.bat 13 rfl (j := 1) rfl
  have y2 := H.bat 13 rfl (j := 2) rfl
  have y3 := H.bat 13 rfl (j := 3) rfl
  have y4 := H.bat 13 rfl (j := 4) rfl
  have y5 := H.bat 13 rfl (j := 5) rfl
  have y6 := H.bat 13 rfl (j := 6) rfl
  have y7 := H.bat 13 rfl (j := 7) rfl
  have y8 := H.bat 13 rfl (j := 8) rfl
  have y9 := H.bat 13 rfl (j := 9) rfl
  have y10 := H.bat 13 rfl (j := 10) rfl
  have y11 := H.bat 13 rfl (j := 11) rfl
  have y12 := H.bat 13 rfl (j := 12) rfl
  go_wp2_with fail
  refine (heldFs_any true 2 0 0 0 0 0 _ 1 _ _ 0 _ _ 17 _ _ 18 _ _ 0 _ _ 0 _ rootL [] 1 _ (H.rdN 7 rfl) (H.rdN 8 rfl) (H.rd 9 rfl) (H.rd 10 rfl) (H.rd 11 rfl) (H.rd 12 rfl) (by decide) (by decide) (by decide) (by decide) (by decide) (by decide) (by decide) (by decide) (by decide)).mono ?_
  rintro e w8 ⟨rfl, f8⟩
  replace H := H.go f8
  clear f8
  rw [← HTT.out]
  clear y0 y1 y2 y3 y4 y5 y6 y7 y8 y9 y10 y11 y12
  go_wp2_with fail
  go_ret
  exact ⟨rfl, H.fr⟩
end Go.Proofs.Ytlgclhnghpjgjaa
