/-
  The law FnExactNewStore, walked.
-/
import Derived.Test.YtjkeidhdinogdaaNewStore
namespace Go.Proofs.Ytjkeidhdinogdaa
open Go.RowKit

set_option maxRecDepth 100000 in
set_option maxHeartbeats 4000000 in
theorem lawFnExactNewStore_walk (w : World) : Calls Try.prog 3 #[] w fun e w' => e = .returned (.bool true) ∧ Fr w w' := by
  go_enter Try.func3, Try.ntmps3
  go_wp2_with fail
  refine (specNewStore_any _).mono ?_
  rintro e w1 ⟨A1, c1, B1, d1, rfl, h1⟩
  have H1 := h1.lay_ 25 [.slice A1 24 c1, .slice B1 24 d1] rfl
  go_wp2_with fail
  refine (implNewStore_any _).mono ?_
  rintro e w2 ⟨A2, c2, B2, d2, rfl, h2⟩
  have H2 := (H1.join h2).lay_ 25 [.slice A2 24 c2, .slice B2 24 d2] rfl
  clear h1 H1 h2
  have s0 := H2.bat 0 rfl (j := 0) rfl
  have s1 := H2.bat 0 rfl (j := 1) rfl
  have s2 := H2.bat 3 rfl (j := 0) rfl
  have s3 := H2.bat 3 rfl (j := 1) rfl
  go_wp2_with fail
  refine (eqStore_yes _ _ _ _ _ _ _ _ _ _ _ _ newBits (newData 24) _ (H2.rd 2 rfl) (H2.rd 1 rfl) (H2.rd 5 rfl) (H2.rd 4 rfl) (by decide) (by decide)).mono ?_
  rintro e w3 ⟨rfl, f3⟩
  have H3 := H2.go f3
  clear H2 s0 s1 s2 s3 f3
  have s0 := H3.bat 0 rfl (j := 0) rfl
  have s1 := H3.bat 0 rfl (j := 1) rfl
  go_wp2_with fail
  refine (markStore_any _ _ _ _ _ _ 1 _ _ 2 1 H3 rfl rfl (by decide) (by decide) (by decide) (by decide)).mono ?_
  rintro e w4 ⟨rfl, H4⟩
  clear H3 s0 s1
  have s0 := H4.bat 0 rfl (j := 0) rfl
  have s1 := H4.bat 0 rfl (j := 1) rfl
  go_wp2_with fail
  refine (heldStore_any _ 24 _ _ 24 _ 1 _ (H4.rd 2 rfl) (H4.rd 1 rfl) (by decide) (by decide) (by decide)).mono ?_
  rintro e w5 ⟨rfl, f5⟩
  have H5 := H4.go f5
  clear H4 s0 s1 f5
  go_wp2_with fail
  refine (implNewStore_any _).mono ?_
  rintro e w6 ⟨A6, c6, B6, d6, rfl, h6⟩
  have H6 := (H5.join h6).lay_ 25 [.slice A6 24 c6, .slice B6 24 d6] rfl
  clear H5 h6
  have s0 := H6.bat 0 rfl (j := 0) rfl
  have s1 := H6.bat 0 rfl (j := 1) rfl
  have s2 := H6.bat 6 rfl (j := 0) rfl
  have s3 := H6.bat 6 rfl (j := 1) rfl
  go_wp2_with fail
  refine (eqStore_yes _ _ _ _ _ _ _ _ _ _ _ _ newBits (newData 24) _ (H6.rd 2 rfl) (H6.rd 1 rfl) (H6.rd 8 rfl) (H6.rd 7 rfl) (by decide) (by decide)).mono ?_
  rintro e w7 ⟨rfl, f7⟩
  have H7 := H6.go f7
  clear H6 s0 s1 s2 s3 f7
  have s0 := H7.bat 3 rfl (j := 0) rfl
  have s1 := H7.bat 3 rfl (j := 1) rfl
  go_wp2_with fail
  refine (heldStore_any _ 24 _ _ 24 _ 1 _ (H7.rd 5 rfl) (H7.rd 4 rfl) (by decide) (by decide) (by decide)).mono ?_
  rintro e w8 ⟨rfl, f8⟩
  have H8 := H7.go f8
  clear H7 s0 s1 f8
  go_wp2
  go_ret
  exact ⟨rfl, H8.fr⟩

end Go.Proofs.Ytjkeidhdinogdaa
