/-
  The reference cuts a file.
-/
import Derived.Test.YtbmoolmgfpcnkaaGc
import Derived.Test.YtbmoolmgfpcnkaaCutAt
import Derived.Test.YtbmoolmgfpcnkaaGb
import Derived.Test.YtbmoolmgfpcnkaaFilRead
namespace Go.Proofs.Ytbmoolmgfpcnkaa
open Go.RowKit

set_option linter.unusedSimpArgs false
set_option linter.unusedVariables false
set_option maxRecDepth 100000 in
set_option maxHeartbeats 8000000 in
theorem specFilCut_any (A : Option Addr) (n c : Nat) (bits : List Bool) (B : Option Addr) (m d : Nat) (data : List ByteArray) (z : Int) (E : Option Addr) (q r : Nat) (l : List (Int × Int × Int)) (size : Int) (w : World)
    (h0 : Rd w A n 1 (bits.map Value.bool)) (h1 : Rd w B m 1 (data.map Value.string)) (h2 : Rd w E q 3 (l.flatMap cExt)) (hcA : A = none → c = 0) (hcB : B = none → d = 0) (hcE : E = none → r = 0) (hn : n ≤ 1048576) (hm : m ≤ 1048576) (hz : ∀ s ∈ data, s.size ≤ 1048576) (hq : q ≤ 1048576) :
    Calls Try.prog 9 #[.agg #[.slice A n c, .slice B m d], .agg #[.int .i64 z, .slice E q r], .int .i64 size] w
      fun e w' => GaveSF w n m (cutBits bits data z l size) (cutData bits data z l size) (cutZ bits data z l size) (cutL bits data z l size) (cutOk bits data z l size) e w' := by
  have H0 := ((((Hp.start w).lay_ 31 [.slice A n c, .slice B m d] rfl).lay_ 34 [.int .i64 z, .slice E q r] (g := w.heap.size + 1) (by simp)).lay_ 31 [.slice none 0 0, .slice none 0 0] (g := w.heap.size + 1 + 1) (by simp)).lay_ 34 [.int .i64 0, .slice none 0 0] (g := w.heap.size + 1 + 1 + 1) (by simp)
  have t0 := H0.bat 3 rfl (j := 0) rfl
  have t1 := H0.bat 3 rfl (j := 1) rfl
  have HL := Lib.hid (show l.length = q from h2.lenk cExt_len (by omega))
  have G2 := Lib.hid h2
  go_enter Try.func9, Try.ntmps9
  go_wp2_with fail
  refine (l17Copy_any A n c bits B m d data _ (H0.old h0) (H0.old h1) hcA hcB hn hm).mono ?_
  rintro e w1 ⟨A1, c1, B1, d1, rfl, K1⟩
  have H1 := (H0.join K1).lay_ 31 [.slice A1 n c1, .slice B1 m d1] rfl
  obtain ⟨g9, hg9⟩ : ∃ x, x = w1.heap.size := ⟨_, rfl⟩
  have HG9 := Lib.hid hg9
  rw [← hg9] at H1
  have t2 := H1.bat 5 rfl (j := 0) rfl
  have t3 := H1.bat 5 rfl (j := 1) rfl
  clear t0 t1 H0 K1 hg9
  go_wp2_with fail
  obtain ⟨u1, hu1⟩ : ∃ uu : World, uu = w1.alloc (.cells #[.slice A1 n c1, .slice B1 m d1] 31) := ⟨_, rfl⟩
  rw [← hu1] at H1 ⊢
  rw [← HG9.out]
  clear hu1 t2 t3 HG9
  refine (l17Same_any z E q r l _ (H1.old h2) hcE hq).mono ?_
  rintro e w2 ⟨E1, r1, rfl, K2⟩
  have H2 := (H1.join K2).lay_ 34 [.int .i64 z, .slice E1 q r1] rfl
  obtain ⟨g10, hg10⟩ : ∃ x, x = w2.heap.size := ⟨_, rfl⟩
  have HG10 := Lib.hid hg10
  rw [← hg10] at H2
  have t0 := H2.bat 8 rfl (j := 0) rfl
  have t1 := H2.bat 8 rfl (j := 1) rfl
  have t2 := H2.bat 7 rfl (j := 0) rfl
  have t3 := H2.bat 7 rfl (j := 1) rfl
  clear H1 K2 hg10
  go_wp2_with fail
  obtain ⟨u2, hu2⟩ : ∃ uu : World, uu = w2.alloc (.cells #[.int .i64 z, .slice E1 q r1] 34) := ⟨_, rfl⟩
  rw [← hu2] at H2 ⊢
  rw [← HG10.out]
  clear hu2 t0 t1 t2 t3 HG10
  have H : Hp [] w u2 [.row 4 1 (.slice A1 n c1) n (bits.map Value.bool), .row 9 1 (.slice B1 m d1) m (data.map Value.string), .row 92 3 (.slice E1 q r1) q (l.flatMap cExt), .blk g9 31 [.slice A1 n c1, .slice B1 m d1], .blk g10 34 [.int .i64 z, .slice E1 q r1],
      .blk (w.heap.size + 1 + 1 + 1) 34 [.int .i64 0, .slice none 0 0], .blk (w.heap.size + 1 + 1) 31 [.slice none 0 0, .slice none 0 0], .blk (w.heap.size + 1) 34 [.int .i64 z, .slice E q r], .blk w.heap.size 31 [.slice A n c, .slice B m d]] := H2.reord [3, 4, 1, 2, 0, 5, 6, 7, 8] (n := 9) rfl (by decide)
  clear H2
  refine (specFilOk_any A n c bits B m d data z E q r l _ (H.old h0) (H.old h1) (H.old h2) hm hz hq).mono ?_
  rintro e w2 ⟨rfl, f2⟩
  replace H := H.go f2
  clear f2
  cases hok : filOk bits data z l with
  | false =>
    have HE := Lib.hid (cut_no (size := size) (show cutOk bits data z l size = false by simp [cutOk, hok]))
    clear hok
    go_wp2_with fail
    replace H := H.drew
    refine wp_region_held_drew (S := fun w' => w'.cell? ⟨g9, 0, none⟩ = some (.slice A1 n c1) ∧ w'.cell? ⟨g9, 1, none⟩ = some (.slice B1 m d1) ∧ w'.cell? ⟨g10, 0, none⟩ = some (.int .i64 z) ∧ w'.cell? ⟨g10, 1, none⟩ = some (.slice E1 q r1)) (by kernel_rfl) ?_ (fun hHeld => ?_)
    · exact ⟨H.bat 3 rfl (j := 0) rfl, H.bat 3 rfl (j := 1) rfl, H.bat 4 rfl (j := 0) rfl, H.bat 4 rfl (j := 1) rfl⟩
    obtain ⟨u0, hu0⟩ : ∃ uu : World, uu = w2.drew := ⟨_, rfl⟩
    rw [← hu0] at H hHeld ⊢
    clear hu0
    refine wpAnyH_take (i := 0) (v := ?_) rfl (by kernel_rfl) (by kernel_rfl) (by kernel_rfl) (fun _ _ _ h => h) (Or.inl ⟨by kernel_rfl, ?_⟩) (by assumption) ?_
    rotate_left
    · (intro w hSw; (try dsimp only at hSw); go_simp; try (with_reducible rfl))
    try simp only [sA, sB, sC, Act.put, sD, sE, sF]
    refine wpAnyH_take (i := 1) (v := ?_) rfl (by kernel_rfl) (by kernel_rfl) (by kernel_rfl) (fun _ _ _ h => h) (Or.inl ⟨by kernel_rfl, ?_⟩) (by assumption) ?_
    rotate_left
    · (intro w hSw; (try dsimp only at hSw); go_simp; try (with_reducible rfl))
    try simp only [sA, sB, sC, Act.put, sD, sE, sF]
    refine wpAnyH_ready (rs := [2]) (by kernel_rfl) (by simp) ?_
    refine (AllReadyH.cons rfl (fun K hK => ?_) AllReadyH.nil)
    have e0 := H.bfree 6 rfl 0
    have e1 := H.bfree 6 rfl 1
    have s0 := H.bat 6 rfl (j := 0) rfl
    have s1 := H.bat 6 rfl (j := 1) rfl
    replace H := (H.bput 6 rfl 0 (.slice A1 n c1)).bput 6 rfl 1 (.slice B1 m d1)
    go_simp
    refine hK.out _ _ ?_ (fun hHeld => ?_)
    · exact ⟨H.bat 3 rfl (j := 0) rfl, H.bat 3 rfl (j := 1) rfl, H.bat 4 rfl (j := 0) rfl, H.bat 4 rfl (j := 1) rfl⟩
    clear hK K
    try simp only [sA, sB, sC, Act.put, sD, sE, sF]
    refine wpAnyH_ready (rs := [3]) (by kernel_rfl) (by simp) ?_
    refine (AllReadyH.cons rfl (fun K hK => ?_) AllReadyH.nil)
    have e0 := H.bfree 5 rfl 0
    have e1 := H.bfree 5 rfl 1
    have s0 := H.bat 5 rfl (j := 0) rfl
    have s1 := H.bat 5 rfl (j := 1) rfl
    replace H := (H.bput 5 rfl 0 (.int .i64 z)).bput 5 rfl 1 (.slice E1 q r1)
    go_simp
    refine hK.out _ _ ?_ (fun hHeld => ?_)
    · exact ⟨H.bat 3 rfl (j := 0) rfl, H.bat 3 rfl (j := 1) rfl, H.bat 4 rfl (j := 0) rfl, H.bat 4 rfl (j := 1) rfl⟩
    clear hK K
    try simp only [sA, sB, sC, Act.put, sD, sE, sF]
    refine wpAnyH_take (i := 4) (v := ?_) rfl (by kernel_rfl) (by kernel_rfl) (by kernel_rfl) (fun _ _ _ h => h) (Or.inl ⟨by kernel_rfl, ?_⟩) (by assumption) ?_
    rotate_left
    · (intro w hSw; (try dsimp only at hSw); go_simp; try (with_reducible rfl))
    try simp only [sA, sB, sC, Act.put, sD, sE, sF]
    refine wpAnyH_done (by kernel_rfl) ?_ _
    have x1 := H.bat 6 rfl (j := 0) rfl
    have x2 := H.bat 6 rfl (j := 1) rfl
    have x3 := H.bat 5 rfl (j := 0) rfl
    have x4 := H.bat 5 rfl (j := 1) rfl
    have H7 := Lib.hid H
    clear H
    go_wp2_with fail
    refine bodyPost_ret (v := .tuple #[.agg #[.slice A1 n c1, .slice B1 m d1], .agg #[.int .i64 z, .slice E1 q r1], .bool false]) (by simp [results, Try.results9, go_sem, x1, x2, x3, x4]) rfl ?_
    refine .of HE.out ⟨A1, c1, B1, d1, _, _, _, rfl, HL.out, ?_⟩
    exact H7.out.sub (l' := [.row 4 1 (.slice A1 n c1) n (bits.map Value.bool), .row 9 1 (.slice B1 m d1) m (data.map Value.string), .row 92 3 (.slice E1 q r1) q (l.flatMap cExt)]) (.cons_cons _ (.cons_cons _ (.cons_cons _ (List.nil_sublist _))))
  | true =>
    go_wp2_with fail
    refine (l1In_any size 0 48 _).mono ?_
    rintro e w3 ⟨rfl, rfl⟩
    cases hin : inB size 0 48 with
    | false =>
      have HE := Lib.hid (cut_no (show cutOk bits data z l size = false by simp [cutOk, hin]))
      clear hok hin
      go_wp2_with fail
      replace H := H.drew
      refine wp_region_held_drew (S := fun w' => w'.cell? ⟨g9, 0, none⟩ = some (.slice A1 n c1) ∧ w'.cell? ⟨g9, 1, none⟩ = some (.slice B1 m d1) ∧ w'.cell? ⟨g10, 0, none⟩ = some (.int .i64 z) ∧ w'.cell? ⟨g10, 1, none⟩ = some (.slice E1 q r1)) (by kernel_rfl) ?_ (fun hHeld => ?_)
      · exact ⟨H.bat 3 rfl (j := 0) rfl, H.bat 3 rfl (j := 1) rfl, H.bat 4 rfl (j := 0) rfl, H.bat 4 rfl (j := 1) rfl⟩
      obtain ⟨u0, hu0⟩ : ∃ uu : World, uu = w3.drew := ⟨_, rfl⟩
      rw [← hu0] at H hHeld ⊢
      clear hu0
      refine wpAnyH_take (i := 0) (v := ?_) rfl (by kernel_rfl) (by kernel_rfl) (by kernel_rfl) (fun _ _ _ h => h) (Or.inl ⟨by kernel_rfl, ?_⟩) (by assumption) ?_
      rotate_left
      · (intro w hSw; (try dsimp only at hSw); go_simp; try (with_reducible rfl))
      try simp only [sA, sB, sC, Act.put, sD, sE, sF]
      refine wpAnyH_take (i := 1) (v := ?_) rfl (by kernel_rfl) (by kernel_rfl) (by kernel_rfl) (fun _ _ _ h => h) (Or.inl ⟨by kernel_rfl, ?_⟩) (by assumption) ?_
      rotate_left
      · (intro w hSw; (try dsimp only at hSw); go_simp; try (with_reducible rfl))
      try simp only [sA, sB, sC, Act.put, sD, sE, sF]
      refine wpAnyH_ready (rs := [2]) (by kernel_rfl) (by simp) ?_
      refine (AllReadyH.cons rfl (fun K hK => ?_) AllReadyH.nil)
      have e0 := H.bfree 6 rfl 0
      have e1 := H.bfree 6 rfl 1
      have s0 := H.bat 6 rfl (j := 0) rfl
      have s1 := H.bat 6 rfl (j := 1) rfl
      replace H := (H.bput 6 rfl 0 (.slice A1 n c1)).bput 6 rfl 1 (.slice B1 m d1)
      go_simp
      refine hK.out _ _ ?_ (fun hHeld => ?_)
      · exact ⟨H.bat 3 rfl (j := 0) rfl, H.bat 3 rfl (j := 1) rfl, H.bat 4 rfl (j := 0) rfl, H.bat 4 rfl (j := 1) rfl⟩
      clear hK K
      try simp only [sA, sB, sC, Act.put, sD, sE, sF]
      refine wpAnyH_ready (rs := [3]) (by kernel_rfl) (by simp) ?_
      refine (AllReadyH.cons rfl (fun K hK => ?_) AllReadyH.nil)
      have e0 := H.bfree 5 rfl 0
      have e1 := H.bfree 5 rfl 1
      have s0 := H.bat 5 rfl (j := 0) rfl
      have s1 := H.bat 5 rfl (j := 1) rfl
      replace H := (H.bput 5 rfl 0 (.int .i64 z)).bput 5 rfl 1 (.slice E1 q r1)
      go_simp
      refine hK.out _ _ ?_ (fun hHeld => ?_)
      · exact ⟨H.bat 3 rfl (j := 0) rfl, H.bat 3 rfl (j := 1) rfl, H.bat 4 rfl (j := 0) rfl, H.bat 4 rfl (j := 1) rfl⟩
      clear hK K
      try simp only [sA, sB, sC, Act.put, sD, sE, sF]
      refine wpAnyH_take (i := 4) (v := ?_) rfl (by kernel_rfl) (by kernel_rfl) (by kernel_rfl) (fun _ _ _ h => h) (Or.inl ⟨by kernel_rfl, ?_⟩) (by assumption) ?_
      rotate_left
      · (intro w hSw; (try dsimp only at hSw); go_simp; try (with_reducible rfl))
      try simp only [sA, sB, sC, Act.put, sD, sE, sF]
      refine wpAnyH_done (by kernel_rfl) ?_ _
      have x1 := H.bat 6 rfl (j := 0) rfl
      have x2 := H.bat 6 rfl (j := 1) rfl
      have x3 := H.bat 5 rfl (j := 0) rfl
      have x4 := H.bat 5 rfl (j := 1) rfl
      have H7 := Lib.hid H
      clear H
      go_wp2_with fail
      refine bodyPost_ret (v := .tuple #[.agg #[.slice A1 n c1, .slice B1 m d1], .agg #[.int .i64 z, .slice E1 q r1], .bool false]) (by simp [results, Try.results9, go_sem, x1, x2, x3, x4]) rfl ?_
      refine .of HE.out ⟨A1, c1, B1, d1, _, _, _, rfl, HL.out, ?_⟩
      exact H7.out.sub (l' := [.row 4 1 (.slice A1 n c1) n (bits.map Value.bool), .row 9 1 (.slice B1 m d1) m (data.map Value.string), .row 92 3 (.slice E1 q r1) q (l.flatMap cExt)]) (.cons_cons _ (.cons_cons _ (.cons_cons _ (List.nil_sublist _))))
    | true =>
      have HOK := Lib.hid (show cutOk bits data z l size = true by simp [cutOk, hok, hin])
      obtain ⟨hst, _, _, _⟩ := filOk_parts hok
      have hs2 := inB_iff.1 hin
      have ST := Lib.hid (stOk_iff.1 hst)
      obtain ⟨sn, rfl⟩ : ∃ u : Nat, size = u := ⟨size.toNat, by omega⟩
      have hn24 : n = 24 := by have := h0.len1; rw [ST.out.1] at this; exact this.symm
      have hm24 : m = 24 := by have := h1.len1; rw [ST.out.2.1] at this; exact this.symm
      subst hn24 hm24
      have hs0 : (0 : Int) ≤ (sn : Int) := by omega
      have hs1 : (sn : Int) ≤ 1000 := by omega
      clear hok hin hst h0 h1 hz hcA hcB hcE h2
      replace H := H.drew
      go_wp2_with fail
      refine wp_region_held_drew (S := fun w' => w'.cell? ⟨w.heap.size + 1, 1, none⟩ = some (.slice E q r)) (by kernel_rfl) ?_ (fun hHeld => ?_)
      · exact H.bat 7 rfl (j := 1) rfl
      obtain ⟨u0, hu0⟩ : ∃ uu : World, uu = w3.drew := ⟨_, rfl⟩
      rw [← hu0] at H hHeld ⊢
      clear hu0
      refine wpAnyH_take (i := 0) (v := ?_) rfl (by kernel_rfl) (by kernel_rfl) (by kernel_rfl) (fun _ _ _ h => h) (Or.inl ⟨by kernel_rfl, ?_⟩) (by assumption) ?_
      rotate_left
      · (intro w hSw; (try dsimp only at hSw); go_simp; try (with_reducible rfl))
      try simp only [sA, sB, sC, Act.put, sD, sE, sF]
      refine wpAnyH_take (i := 1) (v := ?_) rfl (by kernel_rfl) (by kernel_rfl) (by kernel_rfl) (fun _ _ _ h => h) (Or.inl ⟨by kernel_rfl, ?_⟩) (by assumption) ?_
      rotate_left
      · (intro w hSw; (try dsimp only at hSw); go_simp; try (with_reducible rfl))
      try simp only [sA, sB, sC, Act.put, sD, sE, sF]
      refine wpAnyH_take (i := 2) (v := ?_) rfl (by kernel_rfl) (by kernel_rfl) (by kernel_rfl) (fun _ _ _ h => h) (Or.inl ⟨by kernel_rfl, ?_⟩) (by assumption) ?_
      rotate_left
      · (intro w hSw; (try dsimp only at hSw); go_simp; try (with_reducible rfl))
      try simp only [sA, sB, sC, Act.put, sD, sE, sF]
      refine wpAnyH_ready (rs := [3]) (by kernel_rfl) (by simp) ?_
      refine (AllReadyH.cons rfl (fun K hK => ?_) AllReadyH.nil)
      go_simp
      refine (end_any sn hs0 hs1 _).mono ?_
      rintro e9 w9 ⟨rfl, rfl⟩
      go_wp2_with fail
      refine hK.out _ _ ?_ (fun hHeld => ?_)
      · exact H.bat 7 rfl (j := 1) rfl
      clear hK K
      try simp only [sA, sB, sC, Act.put, sD, sE, sF]
      refine wpAnyH_ready (rs := [4]) (by kernel_rfl) (by simp) ?_
      refine (AllReadyH.cons rfl (fun K hK => ?_) AllReadyH.nil)
      go_simp
      refine (specCutAt_hp E q r l (endsI sn) _ (H.old G2.out) hq).mono ?_
      rintro e w4 ⟨A4, c4, A5, c5, rfl, K⟩
      replace H := H.join K
      clear K
      go_wp2_with fail
      refine hK.out _ _ ?_ (fun hHeld => ?_)
      · exact H.bat 9 rfl (j := 1) rfl
      clear hK K
      try simp only [sA, sB, sC, Act.put, sD, sE, sF]
      refine wpAnyH_take (i := 5) (v := ?_) rfl (by kernel_rfl) (by kernel_rfl) (by kernel_rfl) (fun _ _ _ h => h) (Or.inl ⟨by kernel_rfl, ?_⟩) (by assumption) ?_
      rotate_left
      · (intro w hSw; (try dsimp only at hSw); go_simp; try (with_reducible rfl))
      try simp only [sA, sB, sC, Act.put, sD, sE, sF]
      refine wpAnyH_take (i := 6) (v := ?_) rfl (by kernel_rfl) (by kernel_rfl) (by kernel_rfl) (fun _ _ _ h => h) (Or.inl ⟨by kernel_rfl, ?_⟩) (by assumption) ?_
      rotate_left
      · (intro w hSw; (try dsimp only at hSw); go_simp; try (with_reducible rfl))
      try simp only [sA, sB, sC, Act.put, sD, sE, sF]
      refine wpAnyH_take (i := 7) (v := ?_) rfl (by kernel_rfl) (by kernel_rfl) (by kernel_rfl) (fun _ _ _ h => h) (Or.inl ⟨by kernel_rfl, ?_⟩) (by assumption) ?_
      rotate_left
      · (intro w hSw; (try dsimp only at hSw); go_simp; try (with_reducible rfl))
      try simp only [sA, sB, sC, Act.put, sD, sE, sF]
      refine wpAnyH_take (i := 8) (v := ?_) rfl (by kernel_rfl) (by kernel_rfl) (by kernel_rfl) (fun _ _ _ h => h) (Or.inl ⟨by kernel_rfl, ?_⟩) (by assumption) ?_
      rotate_left
      · (intro w hSw; (try dsimp only at hSw); go_simp; try (with_reducible rfl))
      try simp only [sA, sB, sC, Act.put, sD, sE, sF]
      refine wpAnyH_take (i := 9) (v := ?_) rfl (by kernel_rfl) (by kernel_rfl) (by kernel_rfl) (fun _ _ _ h => h) (Or.inl ⟨by kernel_rfl, ?_⟩) (by assumption) ?_
      rotate_left
      · (intro w hSw; (try dsimp only at hSw); go_simp; try (with_reducible rfl))
      try simp only [sA, sB, sC, Act.put, sD, sE, sF]
      refine wpAnyH_done (by kernel_rfl) ?_ _
      have hql := cutExts_len l (endsI sn)
      have hgl := cutGone_len l (endsI sn)
      have HGIN := Lib.hid (cutGone_in (l := l) (endsI sn))
      obtain ⟨LF, hLF⟩ : ∃ x, x = cutExts l (endsI sn) := ⟨_, rfl⟩
      obtain ⟨GN, hGN⟩ : ∃ x, x = cutGone l (endsI sn) := ⟨_, rfl⟩
      rw [← hLF, ← hGN] at H
      rw [← hLF, ← hGN]
      rw [← hLF] at hql
      rw [← hGN] at hgl HGIN
      have HLF := Lib.hid hLF
      have HGN := Lib.hid hGN
      clear hLF hGN
      obtain ⟨kq, hkq⟩ : ∃ x, x = LF.length := ⟨_, rfl⟩
      obtain ⟨kg, hkg⟩ : ∃ x, x = GN.length := ⟨_, rfl⟩
      rw [← hkq, ← hkg] at H
      rw [← hkq, ← hkg]
      rw [← hkq] at hql
      rw [← hkg] at hgl
      have HKQ := Lib.hid hkq.symm
      have HKG := Lib.hid hkg.symm
      clear hkq hkg
      obtain ⟨gA, cA, e, _⟩ := H.form 2 rfl (by decide)
      injection e with e1 _ e2
      subst e1 e2
      obtain ⟨gB, cB, e, _⟩ := H.form 3 rfl (by decide)
      injection e with e1 _ e2
      subst e1 e2
      replace H := H.reord [2, 3, 0, 5, 6, 7, 8, 9, 10, 1, 4] (n := 11) rfl (by decide)
      have e0 := H.bfree 4 rfl 0
      have e1 := H.bfree 4 rfl 1
      have s0 := H.bat 4 rfl (j := 0) rfl
      have s1 := H.bat 4 rfl (j := 1) rfl
      replace H := (H.bput 4 rfl 1 (.slice A4 kq c4)).bput 4 rfl 0 (.int .i64 sn)
      go_wp2_with fail
      go_loopw [13] (fun kv wr => ∃ k : Nat, k ≤ kg ∧ kv = .int .i64 k ∧ Hp [] w wr [.row 4 1 (.slice (some ⟨gA, 0, none⟩) 24 c1) 24 ((goneB bits (GN.take k)).map Value.bool), .row 9 1 (.slice (some ⟨gB, 0, none⟩) 24 d1) 24 (data.map Value.string), .row 92 3 (.slice A4 kq c4) kq (LF.flatMap cExt), .blk g9 31 [.slice (some ⟨gA, 0, none⟩) 24 c1, .slice (some ⟨gB, 0, none⟩) 24 d1], .blk g10 34 [.int .i64 sn, .slice A4 kq c4],
      .blk (w.heap.size + 1 + 1 + 1) 34 [.int .i64 0, .slice none 0 0], .blk (w.heap.size + 1 + 1) 31 [.slice none 0 0, .slice none 0 0], .blk (w.heap.size + 1) 34 [.int .i64 z, .slice E q r], .blk w.heap.size 31 [.slice A 24 c, .slice B 24 d], .row 3 1 (.slice A5 kg c5) kg (GN.map (Value.int .i64)), .row 92 3 (.slice E1 q r1) q (l.flatMap cExt)]) (fun kv _ => kg - (intOf kv).toNat)
      case atStart => exact ⟨0, by omega, rfl, H⟩
      case round =>
        clear H e0 e1 s0 s1
        obtain ⟨k, hk, rfl, H⟩ := hrel
        by_cases hlt : k < kg
        · obtain ⟨x, hx⟩ := at_some HKG.out hlt
          have hxb := HGIN.out x hx.mem
          obtain ⟨x, rfl⟩ : ∃ u : Nat, x = u := ⟨x.toNat, by omega⟩
          obtain ⟨gG, cG, e, _⟩ := H.form 9 rfl (by omega)
          injection e with e1 _ e2
          subst e1 e2
          have hx0 : (0 : Int) ≤ (x : Int) := by omega
          have hx1 : (x : Int) < 24 := by omega
          have hk0 : (0 : Int) ≤ (k : Int) := by omega
          have hk1 : (k : Int) < (kg : Int) := by omega
          have HX := Lib.hid hx
          clear hx
          go_wp2_with fail
          replace H := H.drew
          refine wp_region_held_drew (S := fun w' => w'.cell? ⟨g9, 0, none⟩ = some (.slice (some ⟨gA, 0, none⟩) 24 c1) ∧ w'.cell? ⟨gG, k, none⟩ = some (.int .i64 x)) (by kernel_rfl) ?_ (fun hHeld => ?_)
          · exact ⟨H.bat 3 rfl (j := 0) rfl, H.atM (f1 := Value.int .i64) 9 rfl HX.out⟩
          obtain ⟨u0, hu0⟩ : ∃ uu : World, uu = wr.drew := ⟨_, rfl⟩
          rw [← hu0] at H hHeld ⊢
          clear hu0
          refine wpAnyH_take (i := 0) (v := ?_) rfl (by kernel_rfl) (by kernel_rfl) (by kernel_rfl) (fun _ _ _ h => h) (Or.inl ⟨by kernel_rfl, ?_⟩) (by assumption) ?_
          rotate_left
          · (intro w hSw; (try dsimp only at hSw); go_simp; try (with_reducible rfl))
          try simp only [sA, sB, sC, Act.put, sD, sE, sF]
          refine wpAnyH_take (i := 1) (v := ?_) rfl (by kernel_rfl) (by kernel_rfl) (by kernel_rfl) (fun _ _ _ h => h) (Or.inl ⟨by kernel_rfl, ?_⟩) (by assumption) ?_
          rotate_left
          · (intro w hSw; (try dsimp only at hSw); go_simp; try (with_reducible rfl))
          try simp only [sA, sB, sC, Act.put, sD, sE, sF]
          refine wpAnyH_take (i := 2) (v := ?_) rfl (by kernel_rfl) (by kernel_rfl) (by kernel_rfl) (fun _ _ _ h => h) (Or.inl ⟨by kernel_rfl, ?_⟩) (by assumption) ?_
          rotate_left
          · (intro w hSw; (try dsimp only at hSw); go_simp; try (with_reducible rfl))
          try simp only [sA, sB, sC, Act.put, sD, sE, sF]
          refine wpAnyH_take (i := 3) (v := ?_) rfl (by kernel_rfl) (by kernel_rfl) (by kernel_rfl) (fun _ _ _ h => h) (Or.inl ⟨by kernel_rfl, ?_⟩) (by assumption) ?_
          rotate_left
          · (intro w hSw; (try dsimp only at hSw); go_simp; try (with_reducible rfl))
          try simp only [sA, sB, sC, Act.put, sD, sE, sF]
          refine wpAnyH_take (i := 4) (v := ?_) rfl (by kernel_rfl) (by kernel_rfl) (by kernel_rfl) (fun _ _ _ h => h) (Or.inl ⟨by kernel_rfl, ?_⟩) (by assumption) ?_
          rotate_left
          · (intro w hSw; (try dsimp only at hSw); go_simp; try (with_reducible rfl))
          try simp only [sA, sB, sC, Act.put, sD, sE, sF]
          refine wpAnyH_take (i := 5) (v := ?_) rfl (by kernel_rfl) (by kernel_rfl) (by kernel_rfl) (fun _ _ _ h => h) (Or.inl ⟨by kernel_rfl, ?_⟩) (by assumption) ?_
          rotate_left
          · (intro w hSw; (try dsimp only at hSw); go_simp; try (with_reducible rfl))
          try simp only [sA, sB, sC, Act.put, sD, sE, sF]
          refine wpAnyH_take (i := 6) (v := ?_) rfl (by kernel_rfl) (by kernel_rfl) (by kernel_rfl) (fun _ _ _ h => h) (Or.inl ⟨by kernel_rfl, ?_⟩) (by assumption) ?_
          rotate_left
          · (intro w hSw; (try dsimp only at hSw); go_simp; try (with_reducible rfl))
          try simp only [sA, sB, sC, Act.put, sD, sE, sF]
          refine wpAnyH_ready (rs := [7]) (by kernel_rfl) (by simp) ?_
          refine (AllReadyH.cons rfl (fun K hK => ?_) AllReadyH.nil)
          have hf := H.free 0 rfl x
          obtain ⟨u, hu⟩ := at_some (show (goneB bits (GN.take k)).length = 24 by rw [goneB_len]; exact ST.out.1) (show x < 24 by omega)
          have hcu := H.atM (f1 := Value.bool) 0 rfl hu
          replace H := H.putM (f1 := Value.bool) 0 rfl x false
          go_simp
          refine hK.out _ _ ?_ (fun hHeld => ?_)
          · exact ⟨H.bat 3 rfl (j := 0) rfl, H.atM (f1 := Value.int .i64) 9 rfl HX.out⟩
          clear hK K
          try simp only [sA, sB, sC, Act.put, sD, sE, sF]
          refine wpAnyH_done (by kernel_rfl) ?_ _
          have HT := Lib.hid HX.out.take
          have H2 := Lib.hid H
          clear H
          go_wp2_with fail
          go_roundw
          case rel => exact ⟨k + 1, by omega, by go_num, by rw [HT.out, goneB_snoc]; exact H2.out⟩
          case measure => simp [intOf]; omega
        · have hk1 : GN.take k = GN := List.take_of_length_le (by rw [HKG.out]; omega)
          rw [hk1] at H
          have hkk : k = kg := by omega
          clear hk1
          obtain ⟨sd, hsd⟩ : ∃ x, x = sn / 4 := ⟨_, rfl⟩
          obtain ⟨sm, hsm⟩ : ∃ x, x = sn % 4 := ⟨_, rfl⟩
          have hsm4 : sm < 4 := by omega
          have hsd12 : sd ≤ 12 := by omega
          have HSM := Lib.hid (show (sn : Int) % 4 = (sm : Int) by omega)
          have HSD := Lib.hid (show (sn : Int) / 4 = (sd : Int) by omega)
          have HEND := Lib.hid (show sm ≠ 0 → IntKind.i64.wrap (endsI (sn : Int) - 1) = (sd : Int) from fun h => by unfold endsI; rw [IntWalk.i64_in _ (by omega)]; omega)
          have HYES := Lib.hid (fun (D : List ByteArray) h => cut_yes (D := D) HOK.out h)
          rw [← HLF.out, ← HGN.out] at HYES
          have HCL := Lib.hid (show cutLast l sn = blockAtL LF sd by rw [cutLast, HSD.out, HLF.out])
          have hw2 : IntKind.i64.wrap ((sn : Int).tmod 4) = (sm : Int) := by rw [Int.tmod_eq_emod_of_nonneg hs0, IntWalk.i64_in _ (by omega)]; omega
          have hq2 : (sn : Int) % 4 = (sm : Int) := by omega
          clear hsd hsm
          by_cases hm0 : sm = 0
          · subst hm0
            have HE := Lib.hid (HYES.out data (by rw [HSM.out]; simp))
            go_wp2_with fail
            replace H := H.drew
            refine wp_region_held_drew (S := fun w' => w'.cell? ⟨g9, 0, none⟩ = some (.slice (some ⟨gA, 0, none⟩) 24 c1) ∧ w'.cell? ⟨g9, 1, none⟩ = some (.slice (some ⟨gB, 0, none⟩) 24 d1) ∧ w'.cell? ⟨g10, 0, none⟩ = some (.int .i64 sn) ∧ w'.cell? ⟨g10, 1, none⟩ = some (.slice A4 kq c4)) (by kernel_rfl) ?_ (fun hHeld => ?_)
            · exact ⟨H.bat 3 rfl (j := 0) rfl, H.bat 3 rfl (j := 1) rfl, H.bat 4 rfl (j := 0) rfl, H.bat 4 rfl (j := 1) rfl⟩
            obtain ⟨u0, hu0⟩ : ∃ uu : World, uu = wr.drew := ⟨_, rfl⟩
            rw [← hu0] at H hHeld ⊢
            clear hu0
            refine wpAnyH_take (i := 0) (v := ?_) rfl (by kernel_rfl) (by kernel_rfl) (by kernel_rfl) (fun _ _ _ h => h) (Or.inl ⟨by kernel_rfl, ?_⟩) (by assumption) ?_
            rotate_left
            · (intro w hSw; (try dsimp only at hSw); go_simp; try (with_reducible rfl))
            try simp only [sA, sB, sC, Act.put, sD, sE, sF]
            refine wpAnyH_take (i := 1) (v := ?_) rfl (by kernel_rfl) (by kernel_rfl) (by kernel_rfl) (fun _ _ _ h => h) (Or.inl ⟨by kernel_rfl, ?_⟩) (by assumption) ?_
            rotate_left
            · (intro w hSw; (try dsimp only at hSw); go_simp; try (with_reducible rfl))
            try simp only [sA, sB, sC, Act.put, sD, sE, sF]
            refine wpAnyH_ready (rs := [2]) (by kernel_rfl) (by simp) ?_
            refine (AllReadyH.cons rfl (fun K hK => ?_) AllReadyH.nil)
            have e0 := H.bfree 6 rfl 0
            have e1 := H.bfree 6 rfl 1
            have s0 := H.bat 6 rfl (j := 0) rfl
            have s1 := H.bat 6 rfl (j := 1) rfl
            replace H := (H.bput 6 rfl 0 (.slice (some ⟨gA, 0, none⟩) 24 c1)).bput 6 rfl 1 (.slice (some ⟨gB, 0, none⟩) 24 d1)
            go_simp
            refine hK.out _ _ ?_ (fun hHeld => ?_)
            · exact ⟨H.bat 3 rfl (j := 0) rfl, H.bat 3 rfl (j := 1) rfl, H.bat 4 rfl (j := 0) rfl, H.bat 4 rfl (j := 1) rfl⟩
            clear hK K
            try simp only [sA, sB, sC, Act.put, sD, sE, sF]
            refine wpAnyH_ready (rs := [3]) (by kernel_rfl) (by simp) ?_
            refine (AllReadyH.cons rfl (fun K hK => ?_) AllReadyH.nil)
            have e0 := H.bfree 5 rfl 0
            have e1 := H.bfree 5 rfl 1
            have s0 := H.bat 5 rfl (j := 0) rfl
            have s1 := H.bat 5 rfl (j := 1) rfl
            replace H := (H.bput 5 rfl 0 (.int .i64 sn)).bput 5 rfl 1 (.slice A4 kq c4)
            go_simp
            refine hK.out _ _ ?_ (fun hHeld => ?_)
            · exact ⟨H.bat 3 rfl (j := 0) rfl, H.bat 3 rfl (j := 1) rfl, H.bat 4 rfl (j := 0) rfl, H.bat 4 rfl (j := 1) rfl⟩
            clear hK K
            try simp only [sA, sB, sC, Act.put, sD, sE, sF]
            refine wpAnyH_take (i := 4) (v := ?_) rfl (by kernel_rfl) (by kernel_rfl) (by kernel_rfl) (fun _ _ _ h => h) (Or.inl ⟨by kernel_rfl, ?_⟩) (by assumption) ?_
            rotate_left
            · (intro w hSw; (try dsimp only at hSw); go_simp; try (with_reducible rfl))
            try simp only [sA, sB, sC, Act.put, sD, sE, sF]
            refine wpAnyH_done (by kernel_rfl) ?_ _
            have x1 := H.bat 6 rfl (j := 0) rfl
            have x2 := H.bat 6 rfl (j := 1) rfl
            have x3 := H.bat 5 rfl (j := 0) rfl
            have x4 := H.bat 5 rfl (j := 1) rfl
            have H7 := Lib.hid H
            clear H
            go_wp2_with fail
            refine bodyPost_ret (v := .tuple #[.agg #[.slice (some ⟨gA, 0, none⟩) 24 c1, .slice (some ⟨gB, 0, none⟩) 24 d1], .agg #[.int .i64 sn, .slice A4 kq c4], .bool true]) (by simp [results, Try.results9, go_sem, x1, x2, x3, x4]) rfl ?_
            refine .of HE.out ⟨(some ⟨gA, 0, none⟩), c1, (some ⟨gB, 0, none⟩), d1, _, _, _, rfl, HKQ.out, ?_⟩
            exact H7.out.sub (l' := [.row 4 1 (.slice (some ⟨gA, 0, none⟩) 24 c1) 24 ((goneB bits GN).map Value.bool), .row 9 1 (.slice (some ⟨gB, 0, none⟩) 24 d1) 24 (data.map Value.string), .row 92 3 (.slice A4 kq c4) kq (LF.flatMap cExt)]) (.cons_cons _ (.cons_cons _ (.cons_cons _ (List.nil_sublist _))))
          · have hmp : ((sm : Int) != 0) = true := by simp; omega
            have hwe := HEND.out hm0
            go_wp2_with fail
            refine (end_any sn hs0 hs1 _).mono ?_
            rintro e9 w9 ⟨rfl, rfl⟩
            go_wp2_with fail
            refine (specBlockAt_any A4 kq c4 LF sd _ (H.rd 2 rfl) (by omega)).mono ?_
            rintro e w6 ⟨rfl, f6⟩
            replace H := H.go f6
            clear f6
            have hb23 := blockAt_le (l := LF) (sd : Int)
            obtain ⟨b, hb⟩ : ∃ x, x = blockAtL LF sd := ⟨_, rfl⟩
            rw [← hb] at HCL hb23 ⊢
            have HB := Lib.hid hb
            clear hb
            by_cases hb0 : 0 ≤ b
            · obtain ⟨b, rfl⟩ : ∃ u : Nat, b = u := ⟨b.toNat, by omega⟩
              obtain ⟨s, hs⟩ := at_some ST.out.2.1 (show b < 24 by omega)
              have hs4 : s.size = 4 := ST.out.2.2 s hs.mem
              have HE := Lib.hid (HYES.out (data.set b (intoS s sm (ofB (zB (4 - sm))))) (by
                rw [HSM.out, HCL.out, if_pos (by simp; omega), cutBlk]
                simp [show data[b]? = some s from hs]))
              have hw3 : IntKind.i64.wrap (4 - (sm : Int)) = ((4 - sm : Nat) : Int) := by rw [IntWalk.i64_in _ (by omega)]; omega
              have hzs : (ofB (zB (4 - sm))).size = 4 - sm := by rw [ofB_size, zB, List.length_replicate]
              have hb1 : (b : Int) < 24 := by omega
              have HS := Lib.hid hs
              have hz9 : (0 : Int) ≤ ((4 - sm : Nat) : Int) := by omega
              have hz8 : ((4 - sm : Nat) : Int) ≤ 1000 := by omega
              have hi8 : sm + (ofB (zB (4 - sm))).size ≤ s.size := by rw [hzs, hs4]; omega
              have hi9 : s.size ≤ 1000 := by omega
              clear hs hs4 hzs
              go_wp2_with fail
              replace H := H.drew
              refine wp_joint (fun a a' w' => a' = (((((((((((((a.put (some 67) (.pointer (some ⟨g9, 1, none⟩))).put (some 68) (.slice (some ⟨gB, 0, none⟩) 24 d1)).put (some 69) (.int .i64 b)).put (some 70) (.pointer (some ⟨g9, 1, none⟩))).put (some 71) (.slice (some ⟨gB, 0, none⟩) 24 d1)).put (some 72) (.int .i64 b)).put (some 73) (.pointer (some ⟨gB, b, none⟩))).put (some 74) (.string s)).put (some 75) (.int .i64 sm)).put (some 76) (.int .i64 sm)).put (some 77) (.int .i64 ((4 - sm : Nat) : Int))).put (some 78) (.string (ofB (zB (4 - sm))))).put (some 79) (.string (intoS s sm (ofB (zB (4 - sm)))))).put (some 80) (.pointer (some ⟨gB, b, none⟩)) ∧
                Hp [] w w' [.row 4 1 (.slice (some ⟨gA, 0, none⟩) 24 c1) 24 ((goneB bits GN).map Value.bool), .row 9 1 (.slice (some ⟨gB, 0, none⟩) 24 d1) 24 ((data.set b (intoS s sm (ofB (zB (4 - sm))))).map Value.string), .row 92 3 (.slice A4 kq c4) kq (LF.flatMap cExt), .blk g9 31 [.slice (some ⟨gA, 0, none⟩) 24 c1, .slice (some ⟨gB, 0, none⟩) 24 d1], .blk g10 34 [.int .i64 sn, .slice A4 kq c4],
                  .blk (w.heap.size + 1 + 1 + 1) 34 [.int .i64 0, .slice none 0 0], .blk (w.heap.size + 1 + 1) 31 [.slice none 0 0, .slice none 0 0], .blk (w.heap.size + 1) 34 [.int .i64 z, .slice E q r], .blk w.heap.size 31 [.slice A 24 c, .slice B 24 d], .row 3 1 (.slice A5 kg c5) kg (GN.map (Value.int .i64)), .row 92 3 (.slice E1 q r1) q (l.flatMap cExt)]) ?_ ?_
              ·
                refine wp_region_held_drew (S := fun w' => w'.cell? ⟨g9, 1, none⟩ = some (.slice (some ⟨gB, 0, none⟩) 24 d1)) (by kernel_rfl) ?_ (fun hHeld => ?_)
                · exact H.bat 3 rfl (j := 1) rfl
                obtain ⟨u0, hu0⟩ : ∃ uu : World, uu = w6.drew := ⟨_, rfl⟩
                rw [← hu0] at H hHeld ⊢
                clear hu0
                refine wpAnyH_take (i := 0) (v := ?_) rfl (by kernel_rfl) (by kernel_rfl) (by kernel_rfl) (fun _ _ _ h => nomatch h.1) (Or.inl ⟨by kernel_rfl, ?_⟩) (by assumption) ?_
                rotate_left
                · (intro w hSw; (try dsimp only at hSw); go_simp; try (with_reducible rfl))
                try simp only [sA, sB, sC, Act.put, sD, sE, sF]
                refine wpAnyH_take (i := 1) (v := ?_) rfl (by kernel_rfl) (by kernel_rfl) (by kernel_rfl) (fun _ _ _ h => nomatch h.1) (Or.inl ⟨by kernel_rfl, ?_⟩) (by assumption) ?_
                rotate_left
                · (intro w hSw; (try dsimp only at hSw); go_simp; try (with_reducible rfl))
                try simp only [sA, sB, sC, Act.put, sD, sE, sF]
                refine wpAnyH_take (i := 2) (v := ?_) rfl (by kernel_rfl) (by kernel_rfl) (by kernel_rfl) (fun _ _ _ h => nomatch h.1) (Or.inl ⟨by kernel_rfl, ?_⟩) (by assumption) ?_
                rotate_left
                · (intro w hSw; (try dsimp only at hSw); go_simp; try (with_reducible rfl))
                try simp only [sA, sB, sC, Act.put, sD, sE, sF]
                refine wpAnyH_take (i := 3) (v := ?_) rfl (by kernel_rfl) (by kernel_rfl) (by kernel_rfl) (fun _ _ _ h => nomatch h.1) (Or.inl ⟨by kernel_rfl, ?_⟩) (by assumption) ?_
                rotate_left
                · (intro w hSw; (try dsimp only at hSw); go_simp; try (with_reducible rfl))
                try simp only [sA, sB, sC, Act.put, sD, sE, sF]
                refine wpAnyH_take (i := 4) (v := ?_) rfl (by kernel_rfl) (by kernel_rfl) (by kernel_rfl) (fun _ _ _ h => nomatch h.1) (Or.inl ⟨by kernel_rfl, ?_⟩) (by assumption) ?_
                rotate_left
                · (intro w hSw; (try dsimp only at hSw); go_simp; try (with_reducible rfl))
                try simp only [sA, sB, sC, Act.put, sD, sE, sF]
                refine wpAnyH_take (i := 5) (v := ?_) rfl (by kernel_rfl) (by kernel_rfl) (by kernel_rfl) (fun _ _ _ h => nomatch h.1) (Or.inl ⟨by kernel_rfl, ?_⟩) (by assumption) ?_
                rotate_left
                · (intro w hSw; (try dsimp only at hSw); go_simp; try (with_reducible rfl))
                try simp only [sA, sB, sC, Act.put, sD, sE, sF]
                refine wpAnyH_take (i := 6) (v := ?_) rfl (by kernel_rfl) (by kernel_rfl) (by kernel_rfl) (fun _ _ _ h => nomatch h.1) (Or.inl ⟨by kernel_rfl, ?_⟩) (by assumption) ?_
                rotate_left
                · (intro w hSw; (try dsimp only at hSw); go_simp; try (with_reducible rfl))
                try simp only [sA, sB, sC, Act.put, sD, sE, sF]
                refine wpAnyH_take (i := 8) (v := ?_) rfl (by kernel_rfl) (by kernel_rfl) (by kernel_rfl) (fun _ _ _ h => nomatch h.1) (Or.inl ⟨by kernel_rfl, ?_⟩) (by assumption) ?_
                rotate_left
                · (intro w hSw; (try dsimp only at hSw); go_simp; try (with_reducible rfl))
                try simp only [sA, sB, sC, Act.put, sD, sE, sF]
                refine wpAnyH_take (i := 9) (v := ?_) rfl (by kernel_rfl) (by kernel_rfl) (by kernel_rfl) (fun _ _ _ h => nomatch h.1) (Or.inl ⟨by kernel_rfl, ?_⟩) (by assumption) ?_
                rotate_left
                · (intro w hSw; (try dsimp only at hSw); go_simp; try (with_reducible rfl))
                try simp only [sA, sB, sC, Act.put, sD, sE, sF]
                refine wpAnyH_take (i := 10) (v := ?_) rfl (by kernel_rfl) (by kernel_rfl) (by kernel_rfl) (fun _ _ _ h => nomatch h.1) (Or.inl ⟨by kernel_rfl, ?_⟩) (by assumption) ?_
                rotate_left
                · (intro w hSw; (try dsimp only at hSw); go_simp; try (with_reducible rfl))
                try simp only [sA, sB, sC, Act.put, sD, sE, sF]
                refine wpAnyH_ready (rs := [7, 11]) (by kernel_rfl) (by simp) ?_
                refine (AllReadyH.cons rfl (fun K hK => ?_) (AllReadyH.cons rfl (fun K hK => ?_) AllReadyH.nil))
                · have hcs := H.atM (f1 := Value.string) 1 rfl HS.out
                  go_simp
                  refine hK.out _ _ ?_ (fun hHeld => ?_)
                  · exact H.bat 3 rfl (j := 1) rfl
                  clear hK K
                  try simp only [sA, sB, sC, Act.put, sD, sE, sF]
                  refine wpAnyH_ready (rs := [11]) (by kernel_rfl) (by simp) ?_
                  refine (AllReadyH.cons rfl (fun K hK => ?_) AllReadyH.nil)
                  go_simp
                  refine (specZeros_any ((4 - sm : Nat) : Int) hz9 hz8 _).mono ?_
                  rintro e u2 ⟨rfl, f8⟩
                  replace H := H.go f8
                  clear f8
                  rw [Int.toNat_natCast]
                  go_wp2_with fail
                  refine hK.out _ _ ?_ (fun hHeld => ?_)
                  · exact H.bat 3 rfl (j := 1) rfl
                  clear hK K
                  try simp only [sA, sB, sC, Act.put, sD, sE, sF]
                  refine wpAnyH_ready (rs := [12]) (by kernel_rfl) (by simp) ?_
                  refine (AllReadyH.cons rfl (fun K hK => ?_) AllReadyH.nil)
                  go_simp
                  refine (into_any s sm (ofB (zB (4 - sm))) _ hi8 hi9).mono ?_
                  rintro e w9 ⟨rfl, f9⟩
                  replace H := H.go f9
                  clear f9
                  go_wp2_with fail
                  refine hK.out _ _ ?_ (fun hHeld => ?_)
                  · exact H.bat 3 rfl (j := 1) rfl
                  clear hK K
                  try simp only [sA, sB, sC, Act.put, sD, sE, sF]
                  refine wpAnyH_take (i := 13) (v := ?_) rfl (by kernel_rfl) (by kernel_rfl) (by kernel_rfl) (fun _ _ _ h => nomatch h.1) (Or.inl ⟨by kernel_rfl, ?_⟩) (by assumption) ?_
                  rotate_left
                  · (intro w hSw; (try dsimp only at hSw); go_simp; try (with_reducible rfl))
                  try simp only [sA, sB, sC, Act.put, sD, sE, sF]
                  refine wpAnyH_ready (rs := [14]) (by kernel_rfl) (by simp) ?_
                  refine (AllReadyH.cons rfl (fun K hK => ?_) AllReadyH.nil)
                  have hf := H.free 1 rfl b
                  have hcu := H.atM (f1 := Value.string) 1 rfl HS.out
                  replace H := H.putM (f1 := Value.string) 1 rfl b (intoS s sm (ofB (zB (4 - sm))))
                  go_simp
                  refine hK.out _ _ ?_ (fun hHeld => ?_)
                  · exact H.bat 3 rfl (j := 1) rfl
                  clear hK K
                  try simp only [sA, sB, sC, Act.put, sD, sE, sF]
                  refine wpAnyH_done (by kernel_rfl) ?_ _
                  exact ⟨rfl, rfl, H⟩
                · go_simp
                  refine (specZeros_any ((4 - sm : Nat) : Int) hz9 hz8 _).mono ?_
                  rintro e u1 ⟨rfl, f8⟩
                  replace H := H.go f8
                  clear f8
                  rw [Int.toNat_natCast]
                  go_wp2_with fail
                  refine hK.out _ _ ?_ (fun hHeld => ?_)
                  · exact H.bat 3 rfl (j := 1) rfl
                  clear hK K
                  try simp only [sA, sB, sC, Act.put, sD, sE, sF]
                  refine wpAnyH_ready (rs := [7]) (by kernel_rfl) (by simp) ?_
                  refine (AllReadyH.cons rfl (fun K hK => ?_) AllReadyH.nil)
                  have hcs := H.atM (f1 := Value.string) 1 rfl HS.out
                  go_simp
                  refine hK.out _ _ ?_ (fun hHeld => ?_)
                  · exact H.bat 3 rfl (j := 1) rfl
                  clear hK K
                  try simp only [sA, sB, sC, Act.put, sD, sE, sF]
                  refine wpAnyH_ready (rs := [12]) (by kernel_rfl) (by simp) ?_
                  refine (AllReadyH.cons rfl (fun K hK => ?_) AllReadyH.nil)
                  go_simp
                  refine (into_any s sm (ofB (zB (4 - sm))) _ hi8 hi9).mono ?_
                  rintro e w9 ⟨rfl, f9⟩
                  replace H := H.go f9
                  clear f9
                  go_wp2_with fail
                  refine hK.out _ _ ?_ (fun hHeld => ?_)
                  · exact H.bat 3 rfl (j := 1) rfl
                  clear hK K
                  try simp only [sA, sB, sC, Act.put, sD, sE, sF]
                  refine wpAnyH_take (i := 13) (v := ?_) rfl (by kernel_rfl) (by kernel_rfl) (by kernel_rfl) (fun _ _ _ h => nomatch h.1) (Or.inl ⟨by kernel_rfl, ?_⟩) (by assumption) ?_
                  rotate_left
                  · (intro w hSw; (try dsimp only at hSw); go_simp; try (with_reducible rfl))
                  try simp only [sA, sB, sC, Act.put, sD, sE, sF]
                  refine wpAnyH_ready (rs := [14]) (by kernel_rfl) (by simp) ?_
                  refine (AllReadyH.cons rfl (fun K hK => ?_) AllReadyH.nil)
                  have hf := H.free 1 rfl b
                  have hcu := H.atM (f1 := Value.string) 1 rfl HS.out
                  replace H := H.putM (f1 := Value.string) 1 rfl b (intoS s sm (ofB (zB (4 - sm))))
                  go_simp
                  refine hK.out _ _ ?_ (fun hHeld => ?_)
                  · exact H.bat 3 rfl (j := 1) rfl
                  clear hK K
                  try simp only [sA, sB, sC, Act.put, sD, sE, sF]
                  refine wpAnyH_done (by kernel_rfl) ?_ _
                  exact ⟨rfl, rfl, H⟩
              clear H
              rintro a' w9 ⟨rfl, H⟩
              simp only [List.getElem_toArray, List.getElem_cons_succ, List.getElem_cons_zero, Act.put, List.setIfInBounds_toArray, List.set_cons_zero, List.set_cons_succ]
              go_wp2_with fail
              replace H := H.drew
              refine wp_region_held_drew (S := fun w' => w'.cell? ⟨g9, 0, none⟩ = some (.slice (some ⟨gA, 0, none⟩) 24 c1) ∧ w'.cell? ⟨g9, 1, none⟩ = some (.slice (some ⟨gB, 0, none⟩) 24 d1) ∧ w'.cell? ⟨g10, 0, none⟩ = some (.int .i64 sn) ∧ w'.cell? ⟨g10, 1, none⟩ = some (.slice A4 kq c4)) (by kernel_rfl) ?_ (fun hHeld => ?_)
              · exact ⟨H.bat 3 rfl (j := 0) rfl, H.bat 3 rfl (j := 1) rfl, H.bat 4 rfl (j := 0) rfl, H.bat 4 rfl (j := 1) rfl⟩
              obtain ⟨u0, hu0⟩ : ∃ uu : World, uu = w9.drew := ⟨_, rfl⟩
              rw [← hu0] at H hHeld ⊢
              clear hu0
              refine wpAnyH_take (i := 0) (v := ?_) rfl (by kernel_rfl) (by kernel_rfl) (by kernel_rfl) (fun _ _ _ h => h) (Or.inl ⟨by kernel_rfl, ?_⟩) (by assumption) ?_
              rotate_left
              · (intro w hSw; (try dsimp only at hSw); go_simp; try (with_reducible rfl))
              try simp only [sA, sB, sC, Act.put, sD, sE, sF]
              refine wpAnyH_take (i := 1) (v := ?_) rfl (by kernel_rfl) (by kernel_rfl) (by kernel_rfl) (fun _ _ _ h => h) (Or.inl ⟨by kernel_rfl, ?_⟩) (by assumption) ?_
              rotate_left
              · (intro w hSw; (try dsimp only at hSw); go_simp; try (with_reducible rfl))
              try simp only [sA, sB, sC, Act.put, sD, sE, sF]
              refine wpAnyH_ready (rs := [2]) (by kernel_rfl) (by simp) ?_
              refine (AllReadyH.cons rfl (fun K hK => ?_) AllReadyH.nil)
              have e0 := H.bfree 6 rfl 0
              have e1 := H.bfree 6 rfl 1
              have s0 := H.bat 6 rfl (j := 0) rfl
              have s1 := H.bat 6 rfl (j := 1) rfl
              replace H := (H.bput 6 rfl 0 (.slice (some ⟨gA, 0, none⟩) 24 c1)).bput 6 rfl 1 (.slice (some ⟨gB, 0, none⟩) 24 d1)
              go_simp
              refine hK.out _ _ ?_ (fun hHeld => ?_)
              · exact ⟨H.bat 3 rfl (j := 0) rfl, H.bat 3 rfl (j := 1) rfl, H.bat 4 rfl (j := 0) rfl, H.bat 4 rfl (j := 1) rfl⟩
              clear hK K
              try simp only [sA, sB, sC, Act.put, sD, sE, sF]
              refine wpAnyH_ready (rs := [3]) (by kernel_rfl) (by simp) ?_
              refine (AllReadyH.cons rfl (fun K hK => ?_) AllReadyH.nil)
              have e0 := H.bfree 5 rfl 0
              have e1 := H.bfree 5 rfl 1
              have s0 := H.bat 5 rfl (j := 0) rfl
              have s1 := H.bat 5 rfl (j := 1) rfl
              replace H := (H.bput 5 rfl 0 (.int .i64 sn)).bput 5 rfl 1 (.slice A4 kq c4)
              go_simp
              refine hK.out _ _ ?_ (fun hHeld => ?_)
              · exact ⟨H.bat 3 rfl (j := 0) rfl, H.bat 3 rfl (j := 1) rfl, H.bat 4 rfl (j := 0) rfl, H.bat 4 rfl (j := 1) rfl⟩
              clear hK K
              try simp only [sA, sB, sC, Act.put, sD, sE, sF]
              refine wpAnyH_take (i := 4) (v := ?_) rfl (by kernel_rfl) (by kernel_rfl) (by kernel_rfl) (fun _ _ _ h => h) (Or.inl ⟨by kernel_rfl, ?_⟩) (by assumption) ?_
              rotate_left
              · (intro w hSw; (try dsimp only at hSw); go_simp; try (with_reducible rfl))
              try simp only [sA, sB, sC, Act.put, sD, sE, sF]
              refine wpAnyH_done (by kernel_rfl) ?_ _
              have x1 := H.bat 6 rfl (j := 0) rfl
              have x2 := H.bat 6 rfl (j := 1) rfl
              have x3 := H.bat 5 rfl (j := 0) rfl
              have x4 := H.bat 5 rfl (j := 1) rfl
              have H7 := Lib.hid H
              clear H
              go_wp2_with fail
              refine bodyPost_ret (v := .tuple #[.agg #[.slice (some ⟨gA, 0, none⟩) 24 c1, .slice (some ⟨gB, 0, none⟩) 24 d1], .agg #[.int .i64 sn, .slice A4 kq c4], .bool true]) (by simp [results, Try.results9, go_sem, x1, x2, x3, x4]) rfl ?_
              refine .of HE.out ⟨(some ⟨gA, 0, none⟩), c1, (some ⟨gB, 0, none⟩), d1, _, _, _, rfl, HKQ.out, ?_⟩
              exact H7.out.sub (l' := [.row 4 1 (.slice (some ⟨gA, 0, none⟩) 24 c1) 24 ((goneB bits GN).map Value.bool), .row 9 1 (.slice (some ⟨gB, 0, none⟩) 24 d1) 24 ((data.set b (intoS s sm (ofB (zB (4 - sm))))).map Value.string), .row 92 3 (.slice A4 kq c4) kq (LF.flatMap cExt)]) (.cons_cons _ (.cons_cons _ (.cons_cons _ (List.nil_sublist _))))
            · have HE := Lib.hid (HYES.out data (by rw [HSM.out, HCL.out]; simp [hb0]))
              have hbd : decide (0 ≤ b) = false := decide_eq_false hb0
              go_wp2_with fail
              replace H := H.drew
              refine wp_region_held_drew (S := fun w' => w'.cell? ⟨g9, 0, none⟩ = some (.slice (some ⟨gA, 0, none⟩) 24 c1) ∧ w'.cell? ⟨g9, 1, none⟩ = some (.slice (some ⟨gB, 0, none⟩) 24 d1) ∧ w'.cell? ⟨g10, 0, none⟩ = some (.int .i64 sn) ∧ w'.cell? ⟨g10, 1, none⟩ = some (.slice A4 kq c4)) (by kernel_rfl) ?_ (fun hHeld => ?_)
              · exact ⟨H.bat 3 rfl (j := 0) rfl, H.bat 3 rfl (j := 1) rfl, H.bat 4 rfl (j := 0) rfl, H.bat 4 rfl (j := 1) rfl⟩
              obtain ⟨u0, hu0⟩ : ∃ uu : World, uu = w6.drew := ⟨_, rfl⟩
              rw [← hu0] at H hHeld ⊢
              clear hu0
              refine wpAnyH_take (i := 0) (v := ?_) rfl (by kernel_rfl) (by kernel_rfl) (by kernel_rfl) (fun _ _ _ h => h) (Or.inl ⟨by kernel_rfl, ?_⟩) (by assumption) ?_
              rotate_left
              · (intro w hSw; (try dsimp only at hSw); go_simp; try (with_reducible rfl))
              try simp only [sA, sB, sC, Act.put, sD, sE, sF]
              refine wpAnyH_take (i := 1) (v := ?_) rfl (by kernel_rfl) (by kernel_rfl) (by kernel_rfl) (fun _ _ _ h => h) (Or.inl ⟨by kernel_rfl, ?_⟩) (by assumption) ?_
              rotate_left
              · (intro w hSw; (try dsimp only at hSw); go_simp; try (with_reducible rfl))
              try simp only [sA, sB, sC, Act.put, sD, sE, sF]
              refine wpAnyH_ready (rs := [2]) (by kernel_rfl) (by simp) ?_
              refine (AllReadyH.cons rfl (fun K hK => ?_) AllReadyH.nil)
              have e0 := H.bfree 6 rfl 0
              have e1 := H.bfree 6 rfl 1
              have s0 := H.bat 6 rfl (j := 0) rfl
              have s1 := H.bat 6 rfl (j := 1) rfl
              replace H := (H.bput 6 rfl 0 (.slice (some ⟨gA, 0, none⟩) 24 c1)).bput 6 rfl 1 (.slice (some ⟨gB, 0, none⟩) 24 d1)
              go_simp
              refine hK.out _ _ ?_ (fun hHeld => ?_)
              · exact ⟨H.bat 3 rfl (j := 0) rfl, H.bat 3 rfl (j := 1) rfl, H.bat 4 rfl (j := 0) rfl, H.bat 4 rfl (j := 1) rfl⟩
              clear hK K
              try simp only [sA, sB, sC, Act.put, sD, sE, sF]
              refine wpAnyH_ready (rs := [3]) (by kernel_rfl) (by simp) ?_
              refine (AllReadyH.cons rfl (fun K hK => ?_) AllReadyH.nil)
              have e0 := H.bfree 5 rfl 0
              have e1 := H.bfree 5 rfl 1
              have s0 := H.bat 5 rfl (j := 0) rfl
              have s1 := H.bat 5 rfl (j := 1) rfl
              replace H := (H.bput 5 rfl 0 (.int .i64 sn)).bput 5 rfl 1 (.slice A4 kq c4)
              go_simp
              refine hK.out _ _ ?_ (fun hHeld => ?_)
              · exact ⟨H.bat 3 rfl (j := 0) rfl, H.bat 3 rfl (j := 1) rfl, H.bat 4 rfl (j := 0) rfl, H.bat 4 rfl (j := 1) rfl⟩
              clear hK K
              try simp only [sA, sB, sC, Act.put, sD, sE, sF]
              refine wpAnyH_take (i := 4) (v := ?_) rfl (by kernel_rfl) (by kernel_rfl) (by kernel_rfl) (fun _ _ _ h => h) (Or.inl ⟨by kernel_rfl, ?_⟩) (by assumption) ?_
              rotate_left
              · (intro w hSw; (try dsimp only at hSw); go_simp; try (with_reducible rfl))
              try simp only [sA, sB, sC, Act.put, sD, sE, sF]
              refine wpAnyH_done (by kernel_rfl) ?_ _
              have x1 := H.bat 6 rfl (j := 0) rfl
              have x2 := H.bat 6 rfl (j := 1) rfl
              have x3 := H.bat 5 rfl (j := 0) rfl
              have x4 := H.bat 5 rfl (j := 1) rfl
              have H7 := Lib.hid H
              clear H
              go_wp2_with fail
              refine bodyPost_ret (v := .tuple #[.agg #[.slice (some ⟨gA, 0, none⟩) 24 c1, .slice (some ⟨gB, 0, none⟩) 24 d1], .agg #[.int .i64 sn, .slice A4 kq c4], .bool true]) (by simp [results, Try.results9, go_sem, x1, x2, x3, x4]) rfl ?_
              refine .of HE.out ⟨(some ⟨gA, 0, none⟩), c1, (some ⟨gB, 0, none⟩), d1, _, _, _, rfl, HKQ.out, ?_⟩
              exact H7.out.sub (l' := [.row 4 1 (.slice (some ⟨gA, 0, none⟩) 24 c1) 24 ((goneB bits GN).map Value.bool), .row 9 1 (.slice (some ⟨gB, 0, none⟩) 24 d1) 24 (data.map Value.string), .row 92 3 (.slice A4 kq c4) kq (LF.flatMap cExt)]) (.cons_cons _ (.cons_cons _ (.cons_cons _ (List.nil_sublist _))))
end Go.Proofs.Ytbmoolmgfpcnkaa
