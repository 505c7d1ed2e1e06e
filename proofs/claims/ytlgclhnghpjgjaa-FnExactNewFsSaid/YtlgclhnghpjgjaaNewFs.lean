/-
  NewFs of the program and of the reference; machines marked and held; the law FnExactNewFs.
-/
import Derived.Test.YtlgclhnghpjgjaaFsE
import Derived.Test.YtlgclhnghpjgjaaNewVol
namespace Go.Proofs.Ytlgclhnghpjgjaa
open Go.RowKit

set_option linter.unusedVariables false
set_option linter.unusedSimpArgs false
theorem Hp.nilN {W : List Nat} {w0 w : World} {l : List Ob} (h : Hp W w0 w l) : Hp W w0 w (obN (.slice none 0 0) 0 [] :: l) :=
  Hp.join2 (r := rowN (.slice none 0 0) 0 []) (rs := []) (h.many0.nil_ 50 5)
/-- A block's cells, written one by one. -/
def setsW (w : World) (g : Nat) : Nat → List Value → World
  | _, [] => w
  | j, v :: vs => setsW (w.setCell ⟨g, j, none⟩ v) g (j + 1) vs
theorem Hp.bputs_aux {W : List Nat} {w0 : World} {g : Nat} {t : TypeId} : ∀ (vs pre post : List Value) (w : World) (l : List Ob) (i : Nat), Hp W w0 w l → l[i]? = some (.blk g t (pre ++ post)) → post.length = vs.length → Hp W w0 (setsW w g pre.length vs) (l.set i (.blk g t (pre ++ vs)))
  | [], pre, post, w, l, i, h, hi, hl => by
    have e : post = [] := List.eq_nil_of_length_eq_zero hl
    subst e
    have e2 : l.set i (.blk g t (pre ++ [])) = l := by
      apply List.ext_getElem?
      intro j
      by_cases hij : i = j
      · subst hij; rw [List.getElem?_set_self (List.getElem?_eq_some_iff.1 hi).1, hi]
      · rw [List.getElem?_set_ne hij]
    rw [e2]; exact h
  | v :: vs, pre, [], w, l, i, h, hi, hl => by simp at hl
  | v :: vs, pre, p :: post, w, l, i, h, hi, hl => by
    have h1 := h.bput i hi pre.length v
    rw [List.set_append_right _ _ (Nat.le_refl _), Nat.sub_self, List.set_cons_zero] at h1
    have h2 := Hp.bputs_aux vs (pre ++ [v]) post _ _ i h1 (by rw [List.getElem?_set_self (List.getElem?_eq_some_iff.1 hi).1, List.append_assoc]; rfl) (by simpa using hl)
    rw [List.set_set, List.length_append, List.append_assoc] at h2
    exact h2
theorem Hp.bputs {W : List Nat} {w0 w : World} {l : List Ob} {g : Nat} {t : TypeId} {cs : List Value} (h : Hp W w0 w l) (i : Nat) (hi : l[i]? = some (.blk g t cs)) (vs : List Value) (hl : cs.length = vs.length) : Hp W w0 (setsW w g 0 vs) (l.set i (.blk g t vs)) :=
  Hp.bputs_aux vs [] cs w l i h hi hl

def fsV (g1 : Nat) (B : Option Addr) (d : Nat) (D : Option Addr) (q : Nat) : Value := .agg #[.bool true, .int .i64 2, .slice (some ⟨g1, 0, none⟩) 1 1, .int .i64 0, .slice none 0 0, .slice B 17 d, .int .i64 0, .int .i64 0, .slice D 18 q, .slice none 0 0, .slice none 0 0, .int .i64 0, .int .i64 0]
def GaveFs (w : World) (e : Ending) (w' : World) : Prop := ∃ (g1 : Nat) (B : Option Addr) (d : Nat) (D : Option Addr) (q : Nat), e = .returned (fsV g1 B d D q) ∧
  Hp [] w w' [obN (.slice (some ⟨g1, 0, none⟩) 1 1) 1 rootL, obN (.slice none 0 0) 0 [], .row 9 1 (.slice B 17 d) 17 (rootB.map Value.string), .row 9 1 (.slice D 18 q) 18 ((rootB ++ [ByteArray.mk #[]]).map Value.string), .row 69 2 (.slice none 0 0) 0 [], .row 57 6 (.slice none 0 0) 0 []]

set_option maxRecDepth 100000 in
set_option maxHeartbeats 4000000 in
theorem implNewFs_any (w : World) : Calls Try.prog 5 #[] w (GaveFs w) := by
  have H := (Hp.start w).lay_ 31 [.bool false, .int .i64 0, .slice none 0 0, .int .i64 0, .slice none 0 0, .slice none 0 0, .int .i64 0, .int .i64 0, .slice none 0 0, .slice none 0 0, .slice none 0 0, .int .i64 0, .int .i64 0] rfl
  obtain ⟨g0, hg0⟩ : ∃ x, x = w.heap.size := ⟨_, rfl⟩
  rw [← hg0] at H
  have HG0 := Lib.hid hg0
  clear hg0
  go_enter Try.func5, Try.ntmps5
  go_wp2_with fail
  rw [← HG0.out]
  refine (implNewVol_any _).mono ?_
  rintro e w1 ⟨g1, rfl, K⟩
  replace H := H.join K
  clear K
  go_wp2_with fail
  refine (implNewVol_any _).mono ?_
  rintro e w2 ⟨g2, rfl, K⟩
  replace H := H.join K
  clear K
  go_wp2_with fail
  refine (volBlocks_any 2 _ 1 1 rootL _ (H.rdN 0 rfl) (by decide) root_sz).mono ?_
  rintro e w3 ⟨B, d, rfl, o3, f3⟩
  replace H := H.made o3 f3
  clear o3 f3
  go_wp2_with fail
  refine (implFormat_any _).mono ?_
  rintro e w4 ⟨D, q, rfl, o4, f4⟩
  replace H := H.made o4 f4
  clear o4 f4
  have H : Hp [] w w4 [.row 9 1 (.slice D 18 q) 18 ((rootB ++ [ByteArray.mk #[]]).map Value.string), .row 9 1 (.slice B 17 d) 17 (rootB.map Value.string), obN (.slice (some ⟨g2, 0, none⟩) 1 1) 1 rootL, obN (.slice (some ⟨g1, 0, none⟩) 1 1) 1 rootL, .blk g0 31 [.bool false, .int .i64 0, .slice none 0 0, .int .i64 0, .slice none 0 0, .slice none 0 0, .int .i64 0, .int .i64 0, .slice none 0 0, .slice none 0 0, .slice none 0 0, .int .i64 0, .int .i64 0]] := H
  have e0 := H.bfree 4 rfl 0
  have s0 := H.bat 4 rfl (j := 0) rfl
  have e1 := H.bfree 4 rfl 1
  have s1 := H.bat 4 rfl (j := 1) rfl
  have e2 := H.bfree 4 rfl 2
  have s2 := H.bat 4 rfl (j := 2) rfl
  have e3 := H.bfree 4 rfl 3
  have s3 := H.bat 4 rfl (j := 3) rfl
  have e4 := H.bfree 4 rfl 4
  have s4 := H.bat 4 rfl (j := 4) rfl
  have e5 := H.bfree 4 rfl 5
  have s5 := H.bat 4 rfl (j := 5) rfl
  have e6 := H.bfree 4 rfl 6
  have s6 := H.bat 4 rfl (j := 6) rfl
  have e7 := H.bfree 4 rfl 7
  have s7 := H.bat 4 rfl (j := 7) rfl
  have e8 := H.bfree 4 rfl 8
  have s8 := H.bat 4 rfl (j := 8) rfl
  have e9 := H.bfree 4 rfl 9
  have s9 := H.bat 4 rfl (j := 9) rfl
  have e10 := H.bfree 4 rfl 10
  have s10 := H.bat 4 rfl (j := 10) rfl
  have e11 := H.bfree 4 rfl 11
  have s11 := H.bat 4 rfl (j := 11) rfl
  have e12 := H.bfree 4 rfl 12
  have s12 := H.bat 4 rfl (j := 12) rfl
  have H8 : Hp [] w (((((((((((((w4.setCell ⟨g0, 0, none⟩ (.bool true)).setCell ⟨g0, 1, none⟩ (.int .i64 2)).setCell ⟨g0, 2, none⟩ (.slice (some ⟨g1, 0, none⟩) 1 1)).setCell ⟨g0, 3, none⟩ (.int .i64 0)).setCell ⟨g0, 4, none⟩ (.slice none 0 0)).setCell ⟨g0, 5, none⟩ (.slice B 17 d)).setCell ⟨g0, 6, none⟩ (.int .i64 0)).setCell ⟨g0, 7, none⟩ (.int .i64 0)).setCell ⟨g0, 8, none⟩ (.slice D 18 q)).setCell ⟨g0, 9, none⟩ (.slice none 0 0)).setCell ⟨g0, 10, none⟩ (.slice none 0 0)).setCell ⟨g0, 11, none⟩ (.int .i64 0)).setCell ⟨g0, 12, none⟩ (.int .i64 0)) _ := H.bputs 4 rfl [.bool true, .int .i64 2, .slice (some ⟨g1, 0, none⟩) 1 1, .int .i64 0, .slice none 0 0, .slice B 17 d, .int .i64 0, .int .i64 0, .slice D 18 q, .slice none 0 0, .slice none 0 0, .int .i64 0, .int .i64 0] rfl
  have c0 := H8.bat 4 rfl (j := 0) rfl
  have c1 := H8.bat 4 rfl (j := 1) rfl
  have c2 := H8.bat 4 rfl (j := 2) rfl
  have c3 := H8.bat 4 rfl (j := 3) rfl
  have c4 := H8.bat 4 rfl (j := 4) rfl
  have c5 := H8.bat 4 rfl (j := 5) rfl
  have c6 := H8.bat 4 rfl (j := 6) rfl
  have c7 := H8.bat 4 rfl (j := 7) rfl
  have c8 := H8.bat 4 rfl (j := 8) rfl
  have c9 := H8.bat 4 rfl (j := 9) rfl
  have c10 := H8.bat 4 rfl (j := 10) rfl
  have c11 := H8.bat 4 rfl (j := 11) rfl
  have c12 := H8.bat 4 rfl (j := 12) rfl
  have H9 := Lib.hid (show GaveFs w (.returned (fsV g1 B d D q)) _ from ⟨g1, B, d, D, q, rfl, (((((H8.sub (l' := [.row 9 1 (.slice D 18 q) 18 ((rootB ++ [ByteArray.mk #[]]).map Value.string), .row 9 1 (.slice B 17 d) 17 (rootB.map Value.string), obN (.slice (some ⟨g1, 0, none⟩) 1 1) 1 rootL]) (.cons_cons _ (.cons_cons _ (.cons _ (.cons_cons _ (.cons _ .slnil)))))).nilN).nil_ 69 2).nil_ 57 6).reord [5, 2, 4, 3, 1, 0] (n := 6) rfl (by decide))⟩)
  clear H H8
  go_wp2_with fail
  exact bodyPost_ret (v := fsV g1 B d D q) (by simp [fsV, results, Try.results5, go_sem, c0, c1, c2, c3, c4, c5, c6, c7, c8, c9, c10, c11, c12]) rfl H9.out
set_option maxRecDepth 100000 in
set_option maxHeartbeats 1000000 in
theorem specNewDev_any (w : World) : Calls Try.prog 9 #[] w fun e w' => ∃ g : Nat, e = .returned (.agg #[.slice (some ⟨g, 0, none⟩) 18 18, .slice none 0 0]) ∧ Fr w w' := by
  have H := (Hp.start w).lay_ 28 [.slice none 0 0, .slice none 0 0] rfl
  go_enter Try.func9, Try.ntmps9
  go_wp2_with (at_make; refine wp_mk (H) rfl _ _ _ rfl Try.underlying25 infoString rfl rfl (18) _ _ _ _ rfl rfl rfl rfl (by first | omega | (simp; done) | (simp; omega)) (by first | (simp only [maxLen]; omega) | (simp [maxLen]; done) | (simp [maxLen]; omega)) ?_)
  intro w1 H1
  obtain ⟨g, hg⟩ : ∃ x, x = w.heap.size + 1 := ⟨_, rfl⟩
  rw [← hg] at H1 ⊢
  clear hg
  have e0 := H1.bfree 1 rfl 0
  have e1 := H1.bfree 1 rfl 1
  have s0 := H1.bat 1 rfl (j := 0) rfl
  have s1 := H1.bat 1 rfl (j := 1) rfl
  have H2 := (H1.bput 1 rfl 0 (.slice (some ⟨g, 0, none⟩) 18 18)).bput 1 rfl 1 (.slice none 0 0)
  have c0 := H2.bat 1 rfl (j := 0) rfl
  have c1 := H2.bat 1 rfl (j := 1) rfl
  have H9 := Lib.hid H2.fr
  clear H H1 H2
  go_wp2_with fail
  exact bodyPost_ret (v := .agg #[.slice (some ⟨g, 0, none⟩) 18 18, .slice none 0 0]) (by simp [results, Try.results9, go_sem, c0, c1]) rfl ⟨_, rfl, H9.out⟩

set_option maxRecDepth 100000 in
set_option maxHeartbeats 8000000 in
theorem specNewFs_any (w : World) : Calls Try.prog 4 #[] w (GaveFs w) := by
  have H := (Hp.start w).lay_ 31 [.bool false, .int .i64 0, .slice none 0 0, .int .i64 0, .slice none 0 0, .slice none 0 0, .int .i64 0, .int .i64 0, .slice none 0 0, .slice none 0 0, .slice none 0 0, .int .i64 0, .int .i64 0] rfl
  obtain ⟨g0, hg0⟩ : ∃ x, x = w.heap.size := ⟨_, rfl⟩
  rw [← hg0] at H
  have HG0 := Lib.hid hg0
  clear hg0
  go_enter Try.func4, Try.ntmps4
  go_wp2_with fail
  rw [← HG0.out]
  refine (specNewDev_any _).mono ?_
  rintro e w1 ⟨gd, rfl, f1⟩
  replace H := (H.go f1).lay_ 28 [.slice (some ⟨gd, 0, none⟩) 18 18, .slice none 0 0] rfl
  clear f1
  obtain ⟨gb, hgb⟩ : ∃ x, x = w1.heap.size := ⟨_, rfl⟩
  rw [← hgb] at H
  have HGB := Lib.hid hgb
  clear hgb
  go_wp2_with fail
  rw [← HGB.out]
  refine (specFormat_any _).mono ?_
  rintro e w4 ⟨D, q, rfl, o4, f4⟩
  replace H := H.made o4 f4
  clear o4 f4
  have e0 := H.bfree 1 rfl 0
  have s0 := H.bat 1 rfl (j := 0) rfl
  replace H := (H.bput 1 rfl 0 (.slice D 18 q))
  go_wp2_with fail
  clear e0 s0
  replace H := H.drew
  have H : Hp [] w _ [.row 9 1 (.slice D 18 q) 18 ((rootB ++ [ByteArray.mk #[]]).map Value.string), .blk gb 28 [.slice D 18 q, .slice none 0 0], .blk g0 31 [.bool false, .int .i64 0, .slice none 0 0, .int .i64 0, .slice none 0 0, .slice none 0 0, .int .i64 0, .int .i64 0, .slice none 0 0, .slice none 0 0, .slice none 0 0, .int .i64 0, .int .i64 0]] := H
  have z0 := H.bat 1 rfl (j := 0) rfl
  have z1 := H.bat 1 rfl (j := 1) rfl
  refine wp_region_held_drew (S := fun w' => w'.cell? ⟨gb, 0, none⟩ = some (.slice D 18 q) ∧ w'.cell? ⟨gb, 1, none⟩ = some (.slice none 0 0)) (by kernel_rfl) ?_ (fun hHeld => ?_)
  · exact ⟨z0, z1⟩
  obtain ⟨u0, hu0⟩ : ∃ uu : World, uu = (w4.setCell ⟨gb, 0, none⟩ (.slice D 18 q)).drew := ⟨_, rfl⟩
  rw [← hu0] at H hHeld ⊢
  clear hu0
  refine wpAnyH_take (i := 3) (v := ?_) rfl (by kernel_rfl) (by kernel_rfl) (by kernel_rfl) (fun _ _ _ h => h) (Or.inl ⟨by kernel_rfl, ?_⟩) (by assumption) ?_
  rotate_left
  · (intro w hSw; (try dsimp only at hSw); go_simp; try (with_reducible rfl))
  try simp only [sA, sB, sC, Act.put, sD, sE, sF]
  refine wpAnyH_ready (rs := [0]) (by kernel_rfl) (by simp) ?_
  refine (AllReadyH.cons rfl (fun K hK => ?_) AllReadyH.nil)
  go_simp
  refine (specNewVol_any _).mono ?_
  rintro e u1 ⟨ga, rfl, K⟩
  replace H := H.join K
  clear K
  go_wp2_with fail
  refine hK.out _ _ ?_ (fun hHeld => ?_)
  · exact ⟨H.bat 2 rfl (j := 0) rfl, H.bat 2 rfl (j := 1) rfl⟩
  clear hK K
  try simp only [sA, sB, sC, Act.put, sD, sE, sF]
  refine wpAnyH_ready (rs := [1]) (by kernel_rfl) (by simp) ?_
  refine (AllReadyH.cons rfl (fun K hK => ?_) AllReadyH.nil)
  go_simp
  refine (specNewVol_any _).mono ?_
  rintro e u2 ⟨gc, rfl, K⟩
  replace H := H.join K
  clear K
  go_wp2_with fail
  refine hK.out _ _ ?_ (fun hHeld => ?_)
  · exact ⟨H.bat 3 rfl (j := 0) rfl, H.bat 3 rfl (j := 1) rfl⟩
  clear hK K
  try simp only [sA, sB, sC, Act.put, sD, sE, sF]
  refine wpAnyH_ready (rs := [2]) (by kernel_rfl) (by simp) ?_
  refine (AllReadyH.cons rfl (fun K hK => ?_) AllReadyH.nil)
  go_simp
  refine (l7Blocks_any 2 _ 1 1 rootL _ (H.rdN 0 rfl) (by decide) root_sz).mono ?_
  rintro e u3 ⟨B, d, rfl, o3, f3⟩
  replace H := H.made o3 f3
  clear o3 f3
  go_wp2_with fail
  refine hK.out _ _ ?_ (fun hHeld => ?_)
  · exact ⟨H.bat 4 rfl (j := 0) rfl, H.bat 4 rfl (j := 1) rfl⟩
  clear hK K
  try simp only [sA, sB, sC, Act.put, sD, sE, sF]
  refine wpAnyH_take (i := 4) (v := ?_) rfl (by kernel_rfl) (by kernel_rfl) (by kernel_rfl) (fun _ _ _ h => h) (Or.inl ⟨by kernel_rfl, ?_⟩) (by assumption) ?_
  rotate_left
  · (intro w hSw; (try dsimp only at hSw); go_simp; try (with_reducible rfl))
  try simp only [sA, sB, sC, Act.put, sD, sE, sF]
  refine wpAnyH_ready (rs := [5]) (by kernel_rfl) (by simp) ?_
  refine (AllReadyH.cons rfl (fun K hK => ?_) AllReadyH.nil)
  have e0 := H.bfree 5 rfl 0
  have s0 := H.bat 5 rfl (j := 0) rfl
  have e1 := H.bfree 5 rfl 1
  have s1 := H.bat 5 rfl (j := 1) rfl
  have e2 := H.bfree 5 rfl 2
  have s2 := H.bat 5 rfl (j := 2) rfl
  have e3 := H.bfree 5 rfl 3
  have s3 := H.bat 5 rfl (j := 3) rfl
  have e4 := H.bfree 5 rfl 4
  have s4 := H.bat 5 rfl (j := 4) rfl
  have e5 := H.bfree 5 rfl 5
  have s5 := H.bat 5 rfl (j := 5) rfl
  have e6 := H.bfree 5 rfl 6
  have s6 := H.bat 5 rfl (j := 6) rfl
  have e7 := H.bfree 5 rfl 7
  have s7 := H.bat 5 rfl (j := 7) rfl
  have e8 := H.bfree 5 rfl 8
  have s8 := H.bat 5 rfl (j := 8) rfl
  have e9 := H.bfree 5 rfl 9
  have s9 := H.bat 5 rfl (j := 9) rfl
  have e10 := H.bfree 5 rfl 10
  have s10 := H.bat 5 rfl (j := 10) rfl
  have e11 := H.bfree 5 rfl 11
  have s11 := H.bat 5 rfl (j := 11) rfl
  have e12 := H.bfree 5 rfl 12
  have s12 := H.bat 5 rfl (j := 12) rfl
  replace H : Hp [] w (((((((((((((u3.setCell ⟨g0, 0, none⟩ (.bool true)).setCell ⟨g0, 1, none⟩ (.int .i64 2)).setCell ⟨g0, 2, none⟩ (.slice (some ⟨ga, 0, none⟩) 1 1)).setCell ⟨g0, 3, none⟩ (.int .i64 0)).setCell ⟨g0, 4, none⟩ (.slice none 0 0)).setCell ⟨g0, 5, none⟩ (.slice B 17 d)).setCell ⟨g0, 6, none⟩ (.int .i64 0)).setCell ⟨g0, 7, none⟩ (.int .i64 0)).setCell ⟨g0, 8, none⟩ (.slice D 18 q)).setCell ⟨g0, 9, none⟩ (.slice none 0 0)).setCell ⟨g0, 10, none⟩ (.slice none 0 0)).setCell ⟨g0, 11, none⟩ (.int .i64 0)).setCell ⟨g0, 12, none⟩ (.int .i64 0)) _ := H.bputs 5 rfl [.bool true, .int .i64 2, .slice (some ⟨ga, 0, none⟩) 1 1, .int .i64 0, .slice none 0 0, .slice B 17 d, .int .i64 0, .int .i64 0, .slice D 18 q, .slice none 0 0, .slice none 0 0, .int .i64 0, .int .i64 0] rfl
  go_simp
  refine hK.out _ _ ?_ (fun hHeld => ?_)
  · exact ⟨H.bat 4 rfl (j := 0) rfl, H.bat 4 rfl (j := 1) rfl⟩
  clear hK K
  try simp only [sA, sB, sC, Act.put, sD, sE, sF]
  refine wpAnyH_done (by kernel_rfl) ?_ _
  have c0 := H.bat 5 rfl (j := 0) rfl
  have c1 := H.bat 5 rfl (j := 1) rfl
  have c2 := H.bat 5 rfl (j := 2) rfl
  have c3 := H.bat 5 rfl (j := 3) rfl
  have c4 := H.bat 5 rfl (j := 4) rfl
  have c5 := H.bat 5 rfl (j := 5) rfl
  have c6 := H.bat 5 rfl (j := 6) rfl
  have c7 := H.bat 5 rfl (j := 7) rfl
  have c8 := H.bat 5 rfl (j := 8) rfl
  have c9 := H.bat 5 rfl (j := 9) rfl
  have c10 := H.bat 5 rfl (j := 10) rfl
  have c11 := H.bat 5 rfl (j := 11) rfl
  have c12 := H.bat 5 rfl (j := 12) rfl
  have H9 := Lib.hid (show GaveFs w (.returned (fsV ga B d D q)) _ from ⟨ga, B, d, D, q, rfl, (((((H.sub (l' := [.row 9 1 (.slice B 17 d) 17 (rootB.map Value.string), obN (.slice (some ⟨ga, 0, none⟩) 1 1) 1 rootL, .row 9 1 (.slice D 18 q) 18 ((rootB ++ [ByteArray.mk #[]]).map Value.string)]) (.cons_cons _ (.cons _ (.cons_cons _ (.cons_cons _ (.cons _ (.cons _ .slnil))))))).nilN).nil_ 69 2).nil_ 57 6).reord [4, 2, 3, 5, 1, 0] (n := 6) rfl (by decide))⟩)
  clear H z0 z1
  go_wp2_with fail
  exact bodyPost_ret (v := fsV ga B d D q) (by simp [fsV, results, Try.results4, go_sem, c0, c1, c2, c3, c4, c5, c6, c7, c8, c9, c10, c11, c12]) rfl H9.out
end Go.Proofs.Ytlgclhnghpjgjaa
