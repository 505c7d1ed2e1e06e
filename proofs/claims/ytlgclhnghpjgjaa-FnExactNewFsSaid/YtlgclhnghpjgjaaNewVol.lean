/-
  New volumes and new devices.
-/
import Derived.Test.YtlgclhnghpjgjaaBlocksV
namespace Go.Proofs.Ytlgclhnghpjgjaa
open Go.RowKit

set_option linter.unusedVariables false
set_option linter.unusedSimpArgs false
/-- The volume of one directory. -/
def rootL : List (Value × Nod) := [(.slice none 0 0, 1, 2, 1, ⟨#[]⟩, [])]
theorem root_sz : NodSz rootL := by
  intro p hp
  simp only [rootL, List.mem_singleton] at hp
  subst hp
  refine ⟨by decide, by decide, ?_⟩
  have h1 := varB_len 1
  have h2 := varB_len 2
  have h3 := varB_len (((ByteArray.mk #[]).size : Nat) : Int)
  have h4 := varB_len ((0 : Nat) : Int)
  have h5 := toB_len (ByteArray.mk #[])
  have h6 : (ByteArray.mk #[]).size = 0 := rfl
  rw [h6] at h5
  simp only [nodeB, pieceB, List.length_cons, List.length_append, List.flatMap_nil, List.length_nil]
  omega
theorem root_fold {W : List Nat} {w0 w : World} {l : List Ob} {v : Value} (h : Hp W w0 w (.row 50 5 v 1 (rootL.flatMap cNV) :: l)) : Hp W w0 w (obN v 1 rootL :: l) :=
  Hp.join2 (r := rowN v 1 rootL) (rs := rootL.map rowE) (Hp.swap (Hp.push (r := rowE (.slice none 0 0, 1, 2, 1, ⟨#[]⟩, [])) (h.many0.nil_ 64 4) 0 rfl))
set_option maxRecDepth 100000 in
theorem implNewVol_any (w : World) :
    Calls Try.prog 13 #[] w fun e w' => ∃ g : Nat, e = .returned (.agg #[.int .i64 2, .slice (some ⟨g, 0, none⟩) 1 1]) ∧ Hp [] w w' [obN (.slice (some ⟨g, 0, none⟩) 1 1) 1 rootL] := by
  have e : (w.alloc (.cells #[.int .i64 2, .slice (some ⟨w.heap.size + 1, 0, none⟩) 1 1] 24)).heap.size = w.heap.size + 1 := by simp
  have H := (((Hp.start w).lay_ 24 [.int .i64 2, .slice (some ⟨w.heap.size + 1, 0, none⟩) 1 1] rfl).lit 50 5 1 [.int .i64 1, .int .i64 2, .int .i64 1, .string ⟨#[]⟩, .slice none 0 0] rfl (by simp [maxLen]))
  rw [e] at H
  have c0 := H.bat 1 rfl (j := 0) rfl
  have c1 := H.bat 1 rfl (j := 1) rfl
  have H9 := Lib.hid (root_fold H.drop1)
  clear H e
  go_enter Try.func13, Try.ntmps13
  go_wp2_with fail
  exact bodyPost_ret (v := .agg #[.int .i64 2, .slice (some ⟨w.heap.size + 1, 0, none⟩) 1 1]) (by simp [results, Try.results13, go_sem, c0, c1]) rfl ⟨_, rfl, H9.out⟩
set_option maxRecDepth 100000 in
theorem specNewVol_any (w : World) :
    Calls Try.prog 11 #[] w fun e w' => ∃ g : Nat, e = .returned (.agg #[.int .i64 2, .slice (some ⟨g, 0, none⟩) 1 1]) ∧ Hp [] w w' [obN (.slice (some ⟨g, 0, none⟩) 1 1) 1 rootL] := by
  have e : (w.alloc (.cells #[.int .i64 2, .slice (some ⟨w.heap.size + 1, 0, none⟩) 1 1] 24)).heap.size = w.heap.size + 1 := by simp
  have H := (((Hp.start w).lay_ 24 [.int .i64 2, .slice (some ⟨w.heap.size + 1, 0, none⟩) 1 1] rfl).lit 50 5 1 [.int .i64 1, .int .i64 2, .int .i64 1, .string ⟨#[]⟩, .slice none 0 0] rfl (by simp [maxLen]))
  rw [e] at H
  have c0 := H.bat 1 rfl (j := 0) rfl
  have c1 := H.bat 1 rfl (j := 1) rfl
  have H9 := Lib.hid (root_fold H.drop1)
  clear H e
  go_enter Try.func11, Try.ntmps11
  go_wp2_with fail
  exact bodyPost_ret (v := .agg #[.int .i64 2, .slice (some ⟨w.heap.size + 1, 0, none⟩) 1 1]) (by simp [results, Try.results11, go_sem, c0, c1]) rfl ⟨_, rfl, H9.out⟩
def rootB : List ByteArray := blocksB 2 (nodes rootL)
theorem rootB_len : rootB.length = 17 := blocksB_len _ _
set_option maxRecDepth 100000 in
set_option maxHeartbeats 1000000 in
theorem implFormat_any (w : World) :
    Calls Try.prog 15 #[] w (Made w 9 1 18 ((rootB ++ [ByteArray.mk #[]]).map Value.string)) := by
  have HL := Lib.hid rootB_len
  have hbl : rootB.length ≤ 17 := by rw [rootB_len]; exact Nat.le_refl _
  go_enter Try.func15, Try.ntmps15
  go_wp2_with fail
  refine (implNewVol_any _).mono ?_
  rintro e w1 ⟨g, rfl, H1⟩
  go_wp2_with fail
  refine (volBlocks_any 2 _ 1 1 rootL _ (H1.rdN 0 rfl) (by decide) root_sz).mono ?_
  rintro e w2 ⟨C, d, rfl, o2, f2⟩
  have H2 := (H1.made o2 f2).drop1
  clear H1 o2 f2
  have H3 : Hp [] w w2 [.row 9 1 (.slice C 17 d) rootB.length (rootB.map Value.string)] := H2.recast (by rw [HL.out]; rfl)
  clear H2
  go_wp2_with (at_builtin; refine wp_appM (f := Value.string) (H3) rfl _ _ _ rfl Try.underlying25 infoString rfl 0 _ _ rfl rfl _ _ (ByteArray.mk #[]) rfl (by simp) rfl (by first | (simp only [maxLen]; omega) | (simp [maxLen]; done) | (simp [maxLen]; omega)) (by first | omega | (simp; done) | (simp; omega)) ?_)
  intro v' w6 H6
  have H7 : Hp [] w w6 [.row 9 1 v' 18 ((rootB ++ [ByteArray.mk #[]]).map Value.string)] := H6.recast (by
    rw [HL.out, List.map_append]; rfl)
  obtain ⟨D, q, rfl⟩ := H7.shape 0 rfl
  have HF := Lib.hid H7
  clear H6 H7 H3
  go_wp2_with fail
  go_ret
  exact HF.out.toMade 0 rfl
set_option maxRecDepth 100000 in
set_option maxHeartbeats 1000000 in
theorem specFormat_any (w : World) :
    Calls Try.prog 10 #[] w (Made w 9 1 18 ((rootB ++ [ByteArray.mk #[]]).map Value.string)) := by
  have HL := Lib.hid rootB_len
  have hbl : rootB.length ≤ 17 := by rw [rootB_len]; exact Nat.le_refl _
  go_enter Try.func10, Try.ntmps10
  go_wp2_with fail
  refine (specNewVol_any _).mono ?_
  rintro e w1 ⟨g, rfl, H1⟩
  go_wp2_with fail
  refine (l7Blocks_any 2 _ 1 1 rootL _ (H1.rdN 0 rfl) (by decide) root_sz).mono ?_
  rintro e w2 ⟨C, d, rfl, o2, f2⟩
  have H2 := (H1.made o2 f2).drop1
  clear H1 o2 f2
  have H3 : Hp [] w w2 [.row 9 1 (.slice C 17 d) rootB.length (rootB.map Value.string)] := H2.recast (by rw [HL.out]; rfl)
  clear H2
  go_wp2_with (at_builtin; refine wp_appM (f := Value.string) (H3) rfl _ _ _ rfl Try.underlying25 infoString rfl 0 _ _ rfl rfl _ _ (ByteArray.mk #[]) rfl (by simp) rfl (by first | (simp only [maxLen]; omega) | (simp [maxLen]; done) | (simp [maxLen]; omega)) (by first | omega | (simp; done) | (simp; omega)) ?_)
  intro v' w6 H6
  have H7 : Hp [] w w6 [.row 9 1 v' 18 ((rootB ++ [ByteArray.mk #[]]).map Value.string)] := H6.recast (by
    rw [HL.out, List.map_append]; rfl)
  obtain ⟨D, q, rfl⟩ := H7.shape 0 rfl
  have HF := Lib.hid H7
  clear H6 H7 H3
  go_wp2_with fail
  go_ret
  exact HF.out.toMade 0 rfl
end Go.Proofs.Ytlgclhnghpjgjaa
