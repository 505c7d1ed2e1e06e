/-
  Volumes as blocks of text, of the program and of the reference.
-/
import Derived.Test.YtlgclhnghpjgjaaTextN2
import Derived.Test.YtlgclhnghpjgjaaNodeS
namespace Go.Proofs.Ytlgclhnghpjgjaa
open Go.RowKit

set_option linter.unusedVariables false
set_option linter.unusedSimpArgs false
def blkAt (l : List Nod) (i : Nat) : ByteArray := match l[i]? with
  | some x => ofB (nodeB x)
  | none => ⟨#[]⟩
theorem blocksB_eq (next : Int) (l : List Nod) : blocksB next l = ofB (headB next l.length) :: (List.range 16).map (blkAt l) := rfl
theorem blocksB_len (next : Int) (l : List Nod) : (blocksB next l).length = 17 := by rw [blocksB_eq]; simp
theorem blocksB_take (next : Int) (l : List Nod) {i : Nat} (h : i < 16) : (blocksB next l).take (i + 2) = (blocksB next l).take (i + 1) ++ [blkAt l i] := by
  have hx : (blocksB next l)[i + 1]? = some (blkAt l i) := by rw [blocksB_eq]; simp [h]
  rw [List.take_add_one, hx]; rfl
theorem headB_ofB (next : Int) (n : Nat) : (ByteArray.mk #[117] ++ varS next) ++ varS (n : Int) = ofB (headB next n) := by
  have e : ByteArray.mk #[117] = ofB [117] := rfl
  rw [e, varS, varS, ofB_append, ofB_append, headB]
  simp [List.append_assoc]
def NodSz (L : List (Value × Nod)) : Prop := ∀ p ∈ L, p.2.2.2.2.1.size ≤ 1099511627776 ∧ p.2.2.2.2.2.length ≤ 1048576 ∧ (nodeB p.2).length ≤ 2199023255552
set_option maxRecDepth 100000 in
set_option maxHeartbeats 8000000 in
theorem volBlocks_any (next : Int) (A : Option Addr) (n c : Nat) (L : List (Value × Nod)) (w : World) (h : RdN w A n L) (hn : n ≤ 1048576) (hsz : NodSz L) :
    Calls Try.prog 14 #[.agg #[.int .i64 next, .slice A n c]] w (Made w 9 1 17 ((blocksB next (nodes L)).map Value.string)) := by
  have hz0 := varS_size next
  have hz1 := varS_size (n : Int)
  have HE := Lib.hid (headB_ofB next n)
  obtain ⟨t0, ht0⟩ : ∃ x, varS next = x := ⟨_, rfl⟩
  obtain ⟨t1, ht1⟩ : ∃ x, varS (n : Int) = x := ⟨_, rfl⟩
  rw [ht0] at hz0
  rw [ht1] at hz1
  have HE := Lib.hid (show (ByteArray.mk #[117] ++ t0) ++ t1 = ofB (headB next n) by rw [← ht0, ← ht1]; exact HE.out)
  have HT0 := Lib.hid ht0
  have HT1 := Lib.hid ht1
  clear ht0 ht1
  obtain ⟨BB, hBB⟩ : ∃ x, x = blocksB next (nodes L) := ⟨_, rfl⟩
  rw [← hBB]
  have HNL := Lib.hid (show (nodes L).length = n by rw [nodes_len]; exact h.len)
  have HB0 := Lib.hid (show BB.take 1 = [ofB (headB next n)] by rw [hBB, blocksB_eq, HNL.out]; rfl)
  have HBL := Lib.hid (show BB.length = 17 by rw [hBB]; exact blocksB_len _ _)
  have HBT := Lib.hid (show ∀ i : Nat, i < 16 → BB.take (i + 2) = BB.take (i + 1) ++ [blkAt (nodes L) i] from fun i hi => by rw [hBB]; exact blocksB_take _ _ hi)
  clear hBB
  have HL := Lib.hid h.len
  have HR := Lib.hid h
  have HSZ := Lib.hid hsz
  clear h hsz
  have cc0 : (9223372036854775807 < 1 + t0.size) = False := eq_false (by omega)
  have cc1 : (9223372036854775807 < 1 + t0.size + t1.size) = False := eq_false (by omega)
  have H := ((Hp.start w).lay_ 24 [.int .i64 next, .slice A n c] rfl).drew
  obtain ⟨g, hg⟩ : ∃ x, x = w.heap.size := ⟨_, rfl⟩
  rw [← hg] at H
  have HG := Lib.hid hg
  clear hg
  have y0 := H.bat 0 rfl (j := 0) rfl
  have y1 := H.bat 0 rfl (j := 1) rfl
  go_enter Try.func14, Try.ntmps14
  go_wp2_with fail
  rw [← HG.out]
  refine wp_region_held_drew (S := fun w' => w'.cell? ⟨g, 0, none⟩ = some (.int .i64 next) ∧ w'.cell? ⟨g, 1, none⟩ = some (.slice A n c)) (by kernel_rfl) ?_ (fun hHeld => ?_)
  · exact ⟨y0, y1⟩
  obtain ⟨u0, hu0⟩ : ∃ uu : World, uu = (w.alloc (.cells #[.int .i64 next, .slice A n c] 24)).drew := ⟨_, rfl⟩
  rw [← hu0] at H hHeld ⊢
  clear hu0
  refine wpAnyH_take (i := 0) (v := ?_) rfl (by kernel_rfl) (by kernel_rfl) (by kernel_rfl) (fun _ _ _ h => h) (Or.inl ⟨by kernel_rfl, ?_⟩) (by assumption) ?_
  rotate_left
  · (intro w hSw; (try dsimp only at hSw); go_simp; try (with_reducible rfl))
  try simp only [sA, sB, sC, Act.put, sD, sE, sF]
  refine wpAnyH_take (i := 1) (v := ?_) rfl (by kernel_rfl) (by kernel_rfl) (by kernel_rfl) (fun _ _ _ h => h) (Or.inl ⟨by kernel_rfl, ?_⟩) (by assumption) ?_
  rotate_left
  · (intro w hSw; (try dsimp only at hSw); go_simp; try (with_reducible rfl))
  try simp only [sA, sB, sC, Act.put, sD, sE, sF]
  refine wpAnyH_take (i := 4) (v := ?_) rfl (by kernel_rfl) (by kernel_rfl) (by kernel_rfl) (fun _ _ _ h => h) (Or.inl ⟨by kernel_rfl, ?_⟩) (by assumption) ?_
  rotate_left
  · (intro w hSw; (try dsimp only at hSw); go_simp; try (with_reducible rfl))
  try simp only [sA, sB, sC, Act.put, sD, sE, sF]
  refine wpAnyH_take (i := 5) (v := ?_) rfl (by kernel_rfl) (by kernel_rfl) (by kernel_rfl) (fun _ _ _ h => h) (Or.inl ⟨by kernel_rfl, ?_⟩) (by assumption) ?_
  rotate_left
  · (intro w hSw; (try dsimp only at hSw); go_simp; try (with_reducible rfl))
  try simp only [sA, sB, sC, Act.put, sD, sE, sF]
  refine wpAnyH_take (i := 6) (v := ?_) rfl (by kernel_rfl) (by kernel_rfl) (by kernel_rfl) (fun _ _ _ h => h) (Or.inl ⟨by kernel_rfl, ?_⟩) (by assumption) ?_
  rotate_left
  · (intro w hSw; (try dsimp only at hSw); go_simp; try (with_reducible rfl))
  try simp only [sA, sB, sC, Act.put, sD, sE, sF]
  refine wpAnyH_ready (rs := [2]) (by kernel_rfl) (by simp) ?_
  refine (AllReadyH.cons rfl (fun K hK => ?_) AllReadyH.nil)
  go_simp
  refine (implVar_any next _).mono ?_
  rintro e u1 ⟨rfl, f9⟩
  replace H := H.go f9
  clear f9
  rw [HT0.out]
  go_wp2_with fail
  refine hK.out _ _ ?_ (fun hHeld => ?_)
  · exact ⟨H.bat 0 rfl (j := 0) rfl, H.bat 0 rfl (j := 1) rfl⟩
  clear hK K
  try simp only [sA, sB, sC, Act.put, sD, sE, sF]
  refine wpAnyH_take (i := 3) (v := ?_) rfl (by kernel_rfl) (by kernel_rfl) (by kernel_rfl) (fun _ _ _ h => h) (Or.inl ⟨by kernel_rfl, ?_⟩) (by assumption) ?_
  rotate_left
  · (intro w hSw; (try dsimp only at hSw); go_simp; try (with_reducible rfl))
  try simp only [sA, sB, sC, Act.put, sD, sE, sF]
  refine wpAnyH_ready (rs := [7]) (by kernel_rfl) (by simp) ?_
  refine (AllReadyH.cons rfl (fun K hK => ?_) AllReadyH.nil)
  go_simp
  refine (implVar_any (n : Int) _).mono ?_
  rintro e u2 ⟨rfl, f9⟩
  replace H := H.go f9
  clear f9
  rw [HT1.out]
  go_wp2_with fail
  refine hK.out _ _ ?_ (fun hHeld => ?_)
  · exact ⟨H.bat 0 rfl (j := 0) rfl, H.bat 0 rfl (j := 1) rfl⟩
  clear hK K
  try simp only [sA, sB, sC, Act.put, sD, sE, sF]
  refine wpAnyH_take (i := 8) (v := ?_) rfl (by kernel_rfl) (by kernel_rfl) (by kernel_rfl) (fun _ _ _ h => h) (Or.inl ⟨by kernel_rfl, ?_⟩) (by assumption) ?_
  rotate_left
  · (intro w hSw; (try dsimp only at hSw); go_simp; try (with_reducible rfl))
  try simp only [sA, sB, sC, Act.put, sD, sE, sF]
  refine wpAnyH_ready (rs := [9]) (by kernel_rfl) (by simp) ?_
  refine (AllReadyH.cons rfl (fun K hK => ?_) AllReadyH.nil)
  replace H := H.lit 9 1 1 [.string ((ByteArray.mk #[117] ++ t0) ++ t1)] rfl (by simp [maxLen])
  go_simp
  obtain ⟨h5, hh5⟩ : ∃ x, x = u2.heap.size := ⟨_, rfl⟩
  rw [← hh5] at H ⊢
  clear hh5
  obtain ⟨u3, hv⟩ : ∃ uu : World, uu = u2.alloc (.cells #[.string ((ByteArray.mk #[117] ++ t0) ++ t1)] 9) := ⟨_, rfl⟩
  rw [← hv] at H ⊢
  clear hv
  refine hK.out _ _ ?_ (fun hHeld => ?_)
  · exact ⟨H.bat 1 rfl (j := 0) rfl, H.bat 1 rfl (j := 1) rfl⟩
  clear hK K
  try simp only [sA, sB, sC, Act.put, sD, sE, sF]
  refine wpAnyH_take (i := 10) (v := ?_) rfl (by kernel_rfl) (by kernel_rfl) (by kernel_rfl) (fun _ _ _ h => h) (Or.inl ⟨by kernel_rfl, ?_⟩) (by assumption) ?_
  rotate_left
  · (intro w hSw; (try dsimp only at hSw); go_simp; try (with_reducible rfl))
  try simp only [sA, sB, sC, Act.put, sD, sE, sF]
  refine wpAnyH_done (by kernel_rfl) ?_ _
  clear y0 y1 cc0 cc1 hz0 hz1 HT0 HT1
  have H0 : Hp [] w _ [.row 9 1 (.slice (some ⟨h5, 0, none⟩) 1 1) (BB.take 1).length ((BB.take 1).map Value.string), .blk g 24 [.int .i64 next, .slice A n c]] := H.recast (by rw [HB0.out, ← HE.out]; rfl)
  clear H HE HG
  go_wp2_with fail
  go_loopw [3, 16] (fun sv iv wr => ∃ i : Nat, iv = .int .i64 i ∧ i ≤ 16 ∧ Hp [] w wr [.row 9 1 sv (BB.take (i + 1)).length ((BB.take (i + 1)).map Value.string), .blk g 24 [.int .i64 next, .slice A n c]]) (fun _ iv _ => 16 - (intOf iv).toNat)
  case atStart => exact ⟨0, rfl, by omega, H0⟩
  case round =>
    clear H0
    obtain ⟨i, rfl, hi, H⟩ := hrel
    have y1 := H.bat 1 rfl (j := 1) rfl
    have hi0 : (0 : Int) ≤ (i : Int) := by omega
    by_cases hlt : i < 16
    · have hlt1 : (i : Int) < 16 := by omega
      by_cases hin : i < n
      · have hin1 : (i : Int) < (n : Int) := by omega
        obtain ⟨⟨v, x0, x1, x2, x3, es⟩, hx⟩ := some_at HL.out hin
        obtain ⟨bk, of, B1, d1, rfl, e1, r1, c1⟩ := (HR.out.fr H.fr).elem hx
        simp only at e1 r1
        subst e1
        have ca0 := c1 0 _ rfl; simp only [Nat.add_zero] at ca0
        have ca1 := c1 1 _ rfl
        have ca2 := c1 2 _ rfl
        have ca3 := c1 3 _ rfl
        have ca4 := c1 4 _ rfl
        have HSX := Lib.hid (HSZ.out _ (List.mem_of_getElem? hx))
        have HBA := Lib.hid (show blkAt (nodes L) i = ofB (nodeB (x0, x1, x2, x3, es)) by rw [blkAt, nodes, List.getElem?_map, hx]; rfl)
        clear hx c1
        go_wp2_with fail
        refine (inodeText_any x0 x1 x2 x3 es B1 es.length d1 _ r1 HSX.out.2.1 HSX.out.1 HSX.out.2.2).mono ?_
        rintro e w5 ⟨rfl, f5⟩
        rw [← HBA.out]
        have H5 := H.go f5
        clear H f5 r1 ca0 ca1 ca2 ca3 ca4 y1
        go_wp2_with (at_builtin; refine wp_appM (f := Value.string) (H5) rfl _ _ _ rfl Try.underlying25 infoString rfl 0 _ _ rfl rfl _ _ (blkAt (nodes L) i) rfl (by simp) rfl (by first | (simp only [maxLen]; omega) | (simp [maxLen]; done) | (simp [maxLen]; omega)) (by first | omega | (simp; done) | (simp; omega)) ?_)
        intro v' w6 H6
        have H7 := Lib.hid (show Hp [] w w6 [.row 9 1 v' (BB.take (i + 1 + 1)).length ((BB.take (i + 1 + 1)).map Value.string), .blk g 24 [.int .i64 next, .slice (some ⟨bk, of, none⟩) n c]] from H6.recast (by
          rw [HBT.out i hlt]; simp))
        clear H5 H6
        go_wp2_with fail
        go_roundw
        case rel => exact ⟨i + 1, by go_num, by omega, H7.out⟩
        case measure => simp [intOf]; omega
      · have hin1 : ¬ ((i : Int) < (n : Int)) := by omega
        have HBA := Lib.hid (show blkAt (nodes L) i = ByteArray.mk #[] by rw [blkAt, List.getElem?_eq_none (by rw [HNL.out]; omega)])
        go_wp2_with (at_builtin; refine wp_appM (f := Value.string) (H) rfl _ _ _ rfl Try.underlying25 infoString rfl 0 _ _ rfl rfl _ _ (ByteArray.mk #[]) rfl (by simp) rfl (by first | (simp only [maxLen]; omega) | (simp [maxLen]; done) | (simp [maxLen]; omega)) (by first | omega | (simp; done) | (simp; omega)) ?_)
        intro v' w6 H6
        have H7 := Lib.hid (show Hp [] w w6 [.row 9 1 v' (BB.take (i + 1 + 1)).length ((BB.take (i + 1 + 1)).map Value.string), .blk g 24 [.int .i64 next, .slice A n c]] from H6.recast (by
          rw [HBT.out i hlt, HBA.out]; simp))
        clear H H6 y1
        go_wp2_with fail
        go_roundw
        case rel => exact ⟨i + 1, by go_num, by omega, H7.out⟩
        case measure => simp [intOf]; omega
    · have hlt1 : ¬ ((i : Int) < 16) := by omega
      have hi16 : i + 1 = 17 := by omega
      have ht : BB.take (i + 1) = BB := List.take_of_length_le (by rw [HBL.out]; omega)
      rw [ht, HBL.out] at H
      obtain ⟨C, q, rfl⟩ := H.shape 0 rfl
      have H9 := Lib.hid H.drop1
      clear H y1
      go_wp2_with fail
      go_ret
      exact H9.out.toMade 0 rfl
set_option maxRecDepth 100000 in
set_option maxHeartbeats 8000000 in
theorem l7Blocks_any (next : Int) (A : Option Addr) (n c : Nat) (L : List (Value × Nod)) (w : World) (h : RdN w A n L) (hn : n ≤ 1048576) (hsz : NodSz L) :
    Calls Try.prog 12 #[.agg #[.int .i64 next, .slice A n c]] w (Made w 9 1 17 ((blocksB next (nodes L)).map Value.string)) := by
  have hz0 := varS_size next
  have hz1 := varS_size (n : Int)
  have HE := Lib.hid (headB_ofB next n)
  obtain ⟨t0, ht0⟩ : ∃ x, varS next = x := ⟨_, rfl⟩
  obtain ⟨t1, ht1⟩ : ∃ x, varS (n : Int) = x := ⟨_, rfl⟩
  rw [ht0] at hz0
  rw [ht1] at hz1
  have HE := Lib.hid (show (ByteArray.mk #[117] ++ t0) ++ t1 = ofB (headB next n) by rw [← ht0, ← ht1]; exact HE.out)
  have HT0 := Lib.hid ht0
  have HT1 := Lib.hid ht1
  clear ht0 ht1
  obtain ⟨BB, hBB⟩ : ∃ x, x = blocksB next (nodes L) := ⟨_, rfl⟩
  rw [← hBB]
  have HNL := Lib.hid (show (nodes L).length = n by rw [nodes_len]; exact h.len)
  have HB0 := Lib.hid (show BB.take 1 = [ofB (headB next n)] by rw [hBB, blocksB_eq, HNL.out]; rfl)
  have HBL := Lib.hid (show BB.length = 17 by rw [hBB]; exact blocksB_len _ _)
  have HBT := Lib.hid (show ∀ i : Nat, i < 16 → BB.take (i + 2) = BB.take (i + 1) ++ [blkAt (nodes L) i] from fun i hi => by rw [hBB]; exact blocksB_take _ _ hi)
  clear hBB
  have HL := Lib.hid h.len
  have HR := Lib.hid h
  have HSZ := Lib.hid hsz
  clear h hsz
  have cc0 : (9223372036854775807 < 1 + t0.size) = False := eq_false (by omega)
  have cc1 : (9223372036854775807 < 1 + t0.size + t1.size) = False := eq_false (by omega)
  have H := ((Hp.start w).lay_ 24 [.int .i64 next, .slice A n c] rfl).drew
  obtain ⟨g, hg⟩ : ∃ x, x = w.heap.size := ⟨_, rfl⟩
  rw [← hg] at H
  have HG := Lib.hid hg
  clear hg
  have y0 := H.bat 0 rfl (j := 0) rfl
  have y1 := H.bat 0 rfl (j := 1) rfl
  go_enter Try.func12, Try.ntmps12
  go_wp2_with fail
  rw [← HG.out]
  refine wp_region_held_drew (S := fun w' => w'.cell? ⟨g, 0, none⟩ = some (.int .i64 next) ∧ w'.cell? ⟨g, 1, none⟩ = some (.slice A n c)) (by kernel_rfl) ?_ (fun hHeld => ?_)
  · exact ⟨y0, y1⟩
  obtain ⟨u0, hu0⟩ : ∃ uu : World, uu = (w.alloc (.cells #[.int .i64 next, .slice A n c] 24)).drew := ⟨_, rfl⟩
  rw [← hu0] at H hHeld ⊢
  clear hu0
  refine wpAnyH_take (i := 0) (v := ?_) rfl (by kernel_rfl) (by kernel_rfl) (by kernel_rfl) (fun _ _ _ h => h) (Or.inl ⟨by kernel_rfl, ?_⟩) (by assumption) ?_
  rotate_left
  · (intro w hSw; (try dsimp only at hSw); go_simp; try (with_reducible rfl))
  try simp only [sA, sB, sC, Act.put, sD, sE, sF]
  refine wpAnyH_take (i := 1) (v := ?_) rfl (by kernel_rfl) (by kernel_rfl) (by kernel_rfl) (fun _ _ _ h => h) (Or.inl ⟨by kernel_rfl, ?_⟩) (by assumption) ?_
  rotate_left
  · (intro w hSw; (try dsimp only at hSw); go_simp; try (with_reducible rfl))
  try simp only [sA, sB, sC, Act.put, sD, sE, sF]
  refine wpAnyH_take (i := 4) (v := ?_) rfl (by kernel_rfl) (by kernel_rfl) (by kernel_rfl) (fun _ _ _ h => h) (Or.inl ⟨by kernel_rfl, ?_⟩) (by assumption) ?_
  rotate_left
  · (intro w hSw; (try dsimp only at hSw); go_simp; try (with_reducible rfl))
  try simp only [sA, sB, sC, Act.put, sD, sE, sF]
  refine wpAnyH_take (i := 5) (v := ?_) rfl (by kernel_rfl) (by kernel_rfl) (by kernel_rfl) (fun _ _ _ h => h) (Or.inl ⟨by kernel_rfl, ?_⟩) (by assumption) ?_
  rotate_left
  · (intro w hSw; (try dsimp only at hSw); go_simp; try (with_reducible rfl))
  try simp only [sA, sB, sC, Act.put, sD, sE, sF]
  refine wpAnyH_take (i := 6) (v := ?_) rfl (by kernel_rfl) (by kernel_rfl) (by kernel_rfl) (fun _ _ _ h => h) (Or.inl ⟨by kernel_rfl, ?_⟩) (by assumption) ?_
  rotate_left
  · (intro w hSw; (try dsimp only at hSw); go_simp; try (with_reducible rfl))
  try simp only [sA, sB, sC, Act.put, sD, sE, sF]
  refine wpAnyH_ready (rs := [2]) (by kernel_rfl) (by simp) ?_
  refine (AllReadyH.cons rfl (fun K hK => ?_) AllReadyH.nil)
  go_simp
  refine (specVar_any next _).mono ?_
  rintro e u1 ⟨rfl, f9⟩
  replace H := H.go f9
  clear f9
  rw [HT0.out]
  go_wp2_with fail
  refine hK.out _ _ ?_ (fun hHeld => ?_)
  · exact ⟨H.bat 0 rfl (j := 0) rfl, H.bat 0 rfl (j := 1) rfl⟩
  clear hK K
  try simp only [sA, sB, sC, Act.put, sD, sE, sF]
  refine wpAnyH_take (i := 3) (v := ?_) rfl (by kernel_rfl) (by kernel_rfl) (by kernel_rfl) (fun _ _ _ h => h) (Or.inl ⟨by kernel_rfl, ?_⟩) (by assumption) ?_
  rotate_left
  · (intro w hSw; (try dsimp only at hSw); go_simp; try (with_reducible rfl))
  try simp only [sA, sB, sC, Act.put, sD, sE, sF]
  refine wpAnyH_ready (rs := [7]) (by kernel_rfl) (by simp) ?_
  refine (AllReadyH.cons rfl (fun K hK => ?_) AllReadyH.nil)
  go_simp
  refine (specVar_any (n : Int) _).mono ?_
  rintro e u2 ⟨rfl, f9⟩
  replace H := H.go f9
  clear f9
  rw [HT1.out]
  go_wp2_with fail
  refine hK.out _ _ ?_ (fun hHeld => ?_)
  · exact ⟨H.bat 0 rfl (j := 0) rfl, H.bat 0 rfl (j := 1) rfl⟩
  clear hK K
  try simp only [sA, sB, sC, Act.put, sD, sE, sF]
  refine wpAnyH_take (i := 8) (v := ?_) rfl (by kernel_rfl) (by kernel_rfl) (by kernel_rfl) (fun _ _ _ h => h) (Or.inl ⟨by kernel_rfl, ?_⟩) (by assumption) ?_
  rotate_left
  · (intro w hSw; (try dsimp only at hSw); go_simp; try (with_reducible rfl))
  try simp only [sA, sB, sC, Act.put, sD, sE, sF]
  refine wpAnyH_ready (rs := [9]) (by kernel_rfl) (by simp) ?_
  refine (AllReadyH.cons rfl (fun K hK => ?_) AllReadyH.nil)
  replace H := H.lit 9 1 1 [.string ((ByteArray.mk #[117] ++ t0) ++ t1)] rfl (by simp [maxLen])
  go_simp
  obtain ⟨h5, hh5⟩ : ∃ x, x = u2.heap.size := ⟨_, rfl⟩
  rw [← hh5] at H ⊢
  clear hh5
  obtain ⟨u3, hv⟩ : ∃ uu : World, uu = u2.alloc (.cells #[.string ((ByteArray.mk #[117] ++ t0) ++ t1)] 9) := ⟨_, rfl⟩
  rw [← hv] at H ⊢
  clear hv
  refine hK.out _ _ ?_ (fun hHeld => ?_)
  · exact ⟨H.bat 1 rfl (j := 0) rfl, H.bat 1 rfl (j := 1) rfl⟩
  clear hK K
  try simp only [sA, sB, sC, Act.put, sD, sE, sF]
  refine wpAnyH_take (i := 10) (v := ?_) rfl (by kernel_rfl) (by kernel_rfl) (by kernel_rfl) (fun _ _ _ h => h) (Or.inl ⟨by kernel_rfl, ?_⟩) (by assumption) ?_
  rotate_left
  · (intro w hSw; (try dsimp only at hSw); go_simp; try (with_reducible rfl))
  try simp only [sA, sB, sC, Act.put, sD, sE, sF]
  refine wpAnyH_done (by kernel_rfl) ?_ _
  clear y0 y1 cc0 cc1 hz0 hz1 HT0 HT1
  have H0 : Hp [] w _ [.row 9 1 (.slice (some ⟨h5, 0, none⟩) 1 1) (BB.take 1).length ((BB.take 1).map Value.string), .blk g 24 [.int .i64 next, .slice A n c]] := H.recast (by rw [HB0.out, ← HE.out]; rfl)
  clear H HE HG
  go_wp2_with fail
  go_loopw [3, 4] (fun sv iv wr => ∃ i : Nat, iv = .int .i64 i ∧ i ≤ 16 ∧ Hp [] w wr [.row 9 1 sv (BB.take (i + 1)).length ((BB.take (i + 1)).map Value.string), .blk g 24 [.int .i64 next, .slice A n c]]) (fun _ iv _ => 16 - (intOf iv).toNat)
  case atStart => exact ⟨0, rfl, by omega, H0⟩
  case round =>
    clear H0
    obtain ⟨i, rfl, hi, H⟩ := hrel
    have y1 := H.bat 1 rfl (j := 1) rfl
    have hi0 : (0 : Int) ≤ (i : Int) := by omega
    by_cases hlt : i < 16
    · have hlt1 : (i : Int) < 16 := by omega
      by_cases hin : i < n
      · have hin1 : (i : Int) < (n : Int) := by omega
        obtain ⟨⟨v, x0, x1, x2, x3, es⟩, hx⟩ := some_at HL.out hin
        obtain ⟨bk, of, B1, d1, rfl, e1, r1, c1⟩ := (HR.out.fr H.fr).elem hx
        simp only at e1 r1
        subst e1
        have ca0 := c1 0 _ rfl; simp only [Nat.add_zero] at ca0
        have ca1 := c1 1 _ rfl
        have ca2 := c1 2 _ rfl
        have ca3 := c1 3 _ rfl
        have ca4 := c1 4 _ rfl
        have HSX := Lib.hid (HSZ.out _ (List.mem_of_getElem? hx))
        have HBA := Lib.hid (show blkAt (nodes L) i = ofB (nodeB (x0, x1, x2, x3, es)) by rw [blkAt, nodes, List.getElem?_map, hx]; rfl)
        clear hx c1
        go_wp2_with fail
        refine (l7Inode_any x0 x1 x2 x3 es B1 es.length d1 _ r1 HSX.out.2.1 HSX.out.1 HSX.out.2.2).mono ?_
        rintro e w5 ⟨rfl, f5⟩
        rw [← HBA.out]
        have H5 := H.go f5
        clear H f5 r1 ca0 ca1 ca2 ca3 ca4 y1
        go_wp2_with (at_builtin; refine wp_appM (f := Value.string) (H5) rfl _ _ _ rfl Try.underlying25 infoString rfl 0 _ _ rfl rfl _ _ (blkAt (nodes L) i) rfl (by simp) rfl (by first | (simp only [maxLen]; omega) | (simp [maxLen]; done) | (simp [maxLen]; omega)) (by first | omega | (simp; done) | (simp; omega)) ?_)
        intro v' w6 H6
        have H7 := Lib.hid (show Hp [] w w6 [.row 9 1 v' (BB.take (i + 1 + 1)).length ((BB.take (i + 1 + 1)).map Value.string), .blk g 24 [.int .i64 next, .slice (some ⟨bk, of, none⟩) n c]] from H6.recast (by
          rw [HBT.out i hlt]; simp))
        clear H5 H6
        go_wp2_with fail
        go_roundw
        case rel => exact ⟨i + 1, by go_num, by omega, H7.out⟩
        case measure => simp [intOf]; omega
      · have hin1 : ¬ ((i : Int) < (n : Int)) := by omega
        have HBA := Lib.hid (show blkAt (nodes L) i = ByteArray.mk #[] by rw [blkAt, List.getElem?_eq_none (by rw [HNL.out]; omega)])
        go_wp2_with (at_builtin; refine wp_appM (f := Value.string) (H) rfl _ _ _ rfl Try.underlying25 infoString rfl 0 _ _ rfl rfl _ _ (ByteArray.mk #[]) rfl (by simp) rfl (by first | (simp only [maxLen]; omega) | (simp [maxLen]; done) | (simp [maxLen]; omega)) (by first | omega | (simp; done) | (simp; omega)) ?_)
        intro v' w6 H6
        have H7 := Lib.hid (show Hp [] w w6 [.row 9 1 v' (BB.take (i + 1 + 1)).length ((BB.take (i + 1 + 1)).map Value.string), .blk g 24 [.int .i64 next, .slice A n c]] from H6.recast (by
          rw [HBT.out i hlt, HBA.out]; simp))
        clear H H6 y1
        go_wp2_with fail
        go_roundw
        case rel => exact ⟨i + 1, by go_num, by omega, H7.out⟩
        case measure => simp [intOf]; omega
    · have hlt1 : ¬ ((i : Int) < 16) := by omega
      have hi16 : i + 1 = 17 := by omega
      have ht : BB.take (i + 1) = BB := List.take_of_length_le (by rw [HBL.out]; omega)
      rw [ht, HBL.out] at H
      obtain ⟨C, q, rfl⟩ := H.shape 0 rfl
      have H9 := Lib.hid H.drop1
      clear H y1
      go_wp2_with fail
      go_ret
      exact H9.out.toMade 0 rfl
end Go.Proofs.Ytlgclhnghpjgjaa
