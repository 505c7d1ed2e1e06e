/-
  The program cuts a file.
-/
import Derived.Test.YtbmoolmgfpcnkaaGc
import Derived.Test.YtbmoolmgfpcnkaaCutAt
import Derived.Test.YtbmoolmgfpcnkaaFilRead
import Derived.Test.YtbmoolmgfpcnkaaGb
namespace Go.Proofs.Ytbmoolmgfpcnkaa
open Go.RowKit

set_option linter.unusedSimpArgs false
set_option linter.unusedVariables false
set_option maxRecDepth 100000 in
set_option maxHeartbeats 8000000 in
theorem implFilCut_any (A : Option Addr) (n c : Nat) (bits : List Bool) (B : Option Addr) (m d : Nat) (data : List ByteArray) (z : Int) (E : Option Addr) (q r : Nat) (l : List (Int × Int × Int)) (size : Int) (w : World)
    (h0 : Rd w A n 1 (bits.map Value.bool)) (h1 : Rd w B m 1 (data.map Value.string)) (h2 : Rd w E q 3 (l.flatMap cExt)) (hcA : A = none → c = 0) (hcB : B = none → d = 0) (hcE : E = none → r = 0) (hn : n ≤ 1048576) (hm : m ≤ 1048576) (hz : ∀ s ∈ data, s.size ≤ 1048576) (hq : q ≤ 1048576) :
    Calls Try.prog 12 #[.agg #[.slice A n c, .slice B m d], .agg #[.int .i64 z, .slice E q r], .int .i64 size] w
      fun e w' => GaveSF w n m (cutBits bits data z l size) (cutData bits data z l size) (cutZ bits data z l size) (cutL bits data z l size) (cutOk bits data z l size) e w' := by
  have H := (((((Hp.start w).lay_ 31 [.slice A n c, .slice B m d] rfl).lay_ 34 [.int .i64 z, .slice E q r] (g := w.heap.size + 1) (by simp)).lay_ 31 [.slice none 0 0, .slice none 0 0] (g := w.heap.size + 1 + 1) (by simp)).lay_ 34 [.int .i64 0, .slice none 0 0] (g := w.heap.size + 1 + 1 + 1) (by simp)).drew
  have t0 := H.bat 3 rfl (j := 0) rfl
  have t1 := H.bat 3 rfl (j := 1) rfl
  have t2 := H.bat 2 rfl (j := 0) rfl
  have t3 := H.bat 2 rfl (j := 1) rfl
  have HL := Lib.hid (show l.length = q from h2.lenk cExt_len (by omega))
  go_enter Try.func12, Try.ntmps12
  go_wp2_with fail
  refine wp_joint (fun a a' w' => ∃ (A1 : Option Addr) (c1 : Nat) (B1 : Option Addr) (d1 : Nat) (E1 : Option Addr) (r1 g9 g10 : Nat), a' = (((((a.put (some 9) (.pointer (some ⟨g9, 0, none⟩))).put (some 10) (.pointer (some ⟨g10, 0, none⟩))).put (some 17) (.agg #[.slice A n c, .slice B m d])).put (some 18) (.agg #[.slice A1 n c1, .slice B1 m d1])).put (some 19) (.agg #[.int .i64 z, .slice E q r])).put (some 20) (.agg #[.int .i64 z, .slice E1 q r1]) ∧
    Hp [] w w' [.row 4 1 (.slice A1 n c1) n (bits.map Value.bool), .row 9 1 (.slice B1 m d1) m (data.map Value.string), .row 92 3 (.slice E1 q r1) q (l.flatMap cExt), .blk g9 31 [.slice A1 n c1, .slice B1 m d1], .blk g10 34 [.int .i64 z, .slice E1 q r1],
      .blk (w.heap.size + 1 + 1 + 1) 34 [.int .i64 0, .slice none 0 0], .blk (w.heap.size + 1 + 1) 31 [.slice none 0 0, .slice none 0 0], .blk (w.heap.size + 1) 34 [.int .i64 z, .slice E q r], .blk w.heap.size 31 [.slice A n c, .slice B m d]]) ?_ ?_
  ·
    refine wp_region_held_drew (S := fun w' => w'.cell? ⟨w.heap.size, 0, none⟩ = some (.slice A n c) ∧ w'.cell? ⟨w.heap.size, 1, none⟩ = some (.slice B m d) ∧ w'.cell? ⟨w.heap.size + 1, 0, none⟩ = some (.int .i64 z) ∧ w'.cell? ⟨w.heap.size + 1, 1, none⟩ = some (.slice E q r)) (by kernel_rfl) ?_ (fun hHeld => ?_)
    · exact ⟨t0, t1, t2, t3⟩
    obtain ⟨u0, hu0⟩ : ∃ uu : World, uu = ((((w.alloc (.cells #[.slice A n c, .slice B m d] 31)).alloc (.cells #[.int .i64 z, .slice E q r] 34)).alloc (.cells #[.slice none 0 0, .slice none 0 0] 31)).alloc (.cells #[.int .i64 0, .slice none 0 0] 34)).drew := ⟨_, rfl⟩
    rw [← hu0] at H hHeld ⊢
    clear hu0
    refine wpAnyH_take (i := 0) (v := ?_) rfl (by kernel_rfl) (by kernel_rfl) (by kernel_rfl) (fun _ _ _ h => nomatch h.1) (Or.inl ⟨by kernel_rfl, ?_⟩) (by assumption) ?_
    rotate_left
    · (intro w hSw; (try dsimp only at hSw); go_simp; try (with_reducible rfl))
    try simp only [sA, sB, sC, Act.put, sD, sE, sF]
    refine wpAnyH_take (i := 2) (v := ?_) rfl (by kernel_rfl) (by kernel_rfl) (by kernel_rfl) (fun _ _ _ h => nomatch h.1) (Or.inl ⟨by kernel_rfl, ?_⟩) (by assumption) ?_
    rotate_left
    · (intro w hSw; (try dsimp only at hSw); go_simp; try (with_reducible rfl))
    try simp only [sA, sB, sC, Act.put, sD, sE, sF]
    refine wpAnyH_ready (rs := [1, 4, 5]) (by kernel_rfl) (by simp) ?_
    refine (AllReadyH.cons rfl (fun K hK => ?_) (AllReadyH.cons rfl (fun K hK => ?_) (AllReadyH.cons rfl (fun K hK => ?_) AllReadyH.nil)))
    · go_simp
      refine (copyStore_any A n c bits B m d data _ (H.old h0) (H.old h1) hcA hcB hn hm).mono ?_
      rintro e u1 ⟨A1, c1, B1, d1, rfl, K1⟩
      replace H := H.join K1
      clear K1
      go_wp2_with fail
      refine hK.out _ _ ?_ (fun hHeld => ?_)
      · exact ⟨H.bat 5 rfl (j := 0) rfl, H.bat 5 rfl (j := 1) rfl, H.bat 4 rfl (j := 0) rfl, H.bat 4 rfl (j := 1) rfl⟩
      clear hK K
      try simp only [sA, sB, sC, Act.put, sD, sE, sF]
      refine wpAnyH_ready (rs := [3, 4, 5]) (by kernel_rfl) (by simp) ?_
      refine (AllReadyH.cons rfl (fun K hK => ?_) (AllReadyH.cons rfl (fun K hK => ?_) (AllReadyH.cons rfl (fun K hK => ?_) AllReadyH.nil)))
      · go_simp
        refine (copyFil_any z E q r l _ (H.old h2) hcE hq).mono ?_
        rintro e u2 ⟨E1, r1, rfl, K1⟩
        replace H := H.join K1
        clear K1
        go_wp2_with fail
        refine hK.out _ _ ?_ (fun hHeld => ?_)
        · exact ⟨H.bat 6 rfl (j := 0) rfl, H.bat 6 rfl (j := 1) rfl, H.bat 5 rfl (j := 0) rfl, H.bat 5 rfl (j := 1) rfl⟩
        clear hK K
        try simp only [sA, sB, sC, Act.put, sD, sE, sF]
        refine wpAnyH_ready (rs := [4, 5]) (by kernel_rfl) (by simp) ?_
        refine (AllReadyH.cons rfl (fun K hK => ?_) (AllReadyH.cons rfl (fun K hK => ?_) AllReadyH.nil))
        · replace H := H.lay 31 [.slice none 0 0, .slice none 0 0]
          go_simp
          obtain ⟨g9, hg9⟩ : ∃ x, x = u2.heap.size := ⟨_, rfl⟩
          rw [← hg9] at H ⊢
          clear hg9
          obtain ⟨u3, hv⟩ : ∃ uu : World, uu = u2.alloc (.cells #[.slice none 0 0, .slice none 0 0] 31) := ⟨_, rfl⟩
          rw [← hv] at H ⊢
          clear hv
          refine hK.out _ _ ?_ (fun hHeld => ?_)
          · exact ⟨H.bat 7 rfl (j := 0) rfl, H.bat 7 rfl (j := 1) rfl, H.bat 6 rfl (j := 0) rfl, H.bat 6 rfl (j := 1) rfl⟩
          clear hK K
          try simp only [sA, sB, sC, Act.put, sD, sE, sF]
          refine wpAnyH_ready (rs := [5]) (by kernel_rfl) (by simp) ?_
          refine (AllReadyH.cons rfl (fun K hK => ?_) AllReadyH.nil)
          replace H := H.lay 34 [.int .i64 0, .slice none 0 0]
          go_simp
          obtain ⟨g10, hg10⟩ : ∃ x, x = u3.heap.size := ⟨_, rfl⟩
          rw [← hg10] at H ⊢
          clear hg10
          obtain ⟨u4, hv⟩ : ∃ uu : World, uu = u3.alloc (.cells #[.int .i64 0, .slice none 0 0] 34) := ⟨_, rfl⟩
          rw [← hv] at H ⊢
          clear hv
          refine hK.out _ _ ?_ (fun hHeld => ?_)
          · exact ⟨H.bat 8 rfl (j := 0) rfl, H.bat 8 rfl (j := 1) rfl, H.bat 7 rfl (j := 0) rfl, H.bat 7 rfl (j := 1) rfl⟩
          clear hK K
          try simp only [sA, sB, sC, Act.put, sD, sE, sF]
          refine wpAnyH_ready (rs := [6]) (by kernel_rfl) (by simp) ?_
          refine (AllReadyH.cons rfl (fun K hK => ?_) AllReadyH.nil)
          replace H := H.reord [3, 4, 2, 1, 0, 5, 6, 7, 8] (n := 9) rfl (by decide)
          have e0 := H.bfree 3 rfl 0
          have e1 := H.bfree 3 rfl 1
          have s0 := H.bat 3 rfl (j := 0) rfl
          have s1 := H.bat 3 rfl (j := 1) rfl
          replace H := (H.bput 3 rfl 0 (.slice A1 n c1)).bput 3 rfl 1 (.slice B1 m d1)
          go_simp
          refine hK.out _ _ ?_ (fun hHeld => ?_)
          · exact ⟨H.bat 8 rfl (j := 0) rfl, H.bat 8 rfl (j := 1) rfl, H.bat 7 rfl (j := 0) rfl, H.bat 7 rfl (j := 1) rfl⟩
          clear hK K
          try simp only [sA, sB, sC, Act.put, sD, sE, sF]
          refine wpAnyH_ready (rs := [7]) (by kernel_rfl) (by simp) ?_
          refine (AllReadyH.cons rfl (fun K hK => ?_) AllReadyH.nil)
          have e0 := H.bfree 4 rfl 0
          have e1 := H.bfree 4 rfl 1
          have s0 := H.bat 4 rfl (j := 0) rfl
          have s1 := H.bat 4 rfl (j := 1) rfl
          replace H := (H.bput 4 rfl 0 (.int .i64 z)).bput 4 rfl 1 (.slice E1 q r1)
          go_simp
          refine hK.out _ _ ?_ (fun hHeld => ?_)
          · exact ⟨H.bat 8 rfl (j := 0) rfl, H.bat 8 rfl (j := 1) rfl, H.bat 7 rfl (j := 0) rfl, H.bat 7 rfl (j := 1) rfl⟩
          clear hK K
          try simp only [sA, sB, sC, Act.put, sD, sE, sF]
          refine wpAnyH_done (by kernel_rfl) ?_ _
          exact ⟨rfl, A1, c1, B1, d1, E1, r1, g9, g10, rfl, H⟩
        · replace H := H.lay 34 [.int .i64 0, .slice none 0 0]
          go_simp
          obtain ⟨g10, hg10⟩ : ∃ x, x = u2.heap.size := ⟨_, rfl⟩
          rw [← hg10] at H ⊢
          clear hg10
          obtain ⟨u3, hv⟩ : ∃ uu : World, uu = u2.alloc (.cells #[.int .i64 0, .slice none 0 0] 34) := ⟨_, rfl⟩
          rw [← hv] at H ⊢
          clear hv
          refine hK.out _ _ ?_ (fun hHeld => ?_)
          · exact ⟨H.bat 7 rfl (j := 0) rfl, H.bat 7 rfl (j := 1) rfl, H.bat 6 rfl (j := 0) rfl, H.bat 6 rfl (j := 1) rfl⟩
          clear hK K
          try simp only [sA, sB, sC, Act.put, sD, sE, sF]
          refine wpAnyH_ready (rs := [4]) (by kernel_rfl) (by simp) ?_
          refine (AllReadyH.cons rfl (fun K hK => ?_) AllReadyH.nil)
          replace H := H.lay 31 [.slice none 0 0, .slice none 0 0]
          go_simp
          obtain ⟨g9, hg9⟩ : ∃ x, x = u3.heap.size := ⟨_, rfl⟩
          rw [← hg9] at H ⊢
          clear hg9
          obtain ⟨u4, hv⟩ : ∃ uu : World, uu = u3.alloc (.cells #[.slice none 0 0, .slice none 0 0] 31) := ⟨_, rfl⟩
          rw [← hv] at H ⊢
          clear hv
          refine hK.out _ _ ?_ (fun hHeld => ?_)
          · exact ⟨H.bat 8 rfl (j := 0) rfl, H.bat 8 rfl (j := 1) rfl, H.bat 7 rfl (j := 0) rfl, H.bat 7 rfl (j := 1) rfl⟩
          clear hK K
          try simp only [sA, sB, sC, Act.put, sD, sE, sF]
          refine wpAnyH_ready (rs := [6]) (by kernel_rfl) (by simp) ?_
          refine (AllReadyH.cons rfl (fun K hK => ?_) AllReadyH.nil)
          replace H := H.reord [3, 4, 2, 0, 1, 5, 6, 7, 8] (n := 9) rfl (by decide)
          have e0 := H.bfree 3 rfl 0
          have e1 := H.bfree 3 rfl 1
          have s0 := H.bat 3 rfl (j := 0) rfl
          have s1 := H.bat 3 rfl (j := 1) rfl
          replace H := (H.bput 3 rfl 0 (.slice A1 n c1)).bput 3 rfl 1 (.slice B1 m d1)
          go_simp
          refine hK.out _ _ ?_ (fun hHeld => ?_)
          · exact ⟨H.bat 8 rfl (j := 0) rfl, H.bat 8 rfl (j := 1) rfl, H.bat 7 rfl (j := 0) rfl, H.bat 7 rfl (j := 1) rfl⟩
          clear hK K
          try simp only [sA, sB, sC, Act.put, sD, sE, sF]
          refine wpAnyH_ready (rs := [7]) (by kernel_rfl) (by simp) ?_
          refine (AllReadyH.cons rfl (fun K hK => ?_) AllReadyH.nil)
          have e0 := H.bfree 4 rfl 0
          have e1 := H.bfree 4 rfl 1
          have s0 := H.bat 4 rfl (j := 0) rfl
          have s1 := H.bat 4 rfl (j := 1) rfl
          replace H := (H.bput 4 rfl 0 (.int .i64 z)).bput 4 rfl 1 (.slice E1 q r1)
          go_simp
          refine hK.out _ _ ?_ (fun hHeld => ?_)
          · exact ⟨H.bat 8 rfl (j := 0) rfl, H.bat 8 rfl (j := 1) rfl, H.bat 7 rfl (j := 0) rfl, H.bat 7 rfl (j := 1) rfl⟩
          clear hK K
          try simp only [sA, sB, sC, Act.put, sD, sE, sF]
          refine wpAnyH_done (by kernel_rfl) ?_ _
          exact ⟨rfl, A1, c1, B1, d1, E1, r1, g9, g10, rfl, H⟩
      · replace H := H.lay 31 [.slice none 0 0, .slice none 0 0]
        go_simp
        obtain ⟨g9, hg9⟩ : ∃ x, x = u1.heap.size := ⟨_, rfl⟩
        rw [← hg9] at H ⊢
        clear hg9
        obtain ⟨u2, hv⟩ : ∃ uu : World, uu = u1.alloc (.cells #[.slice none 0 0, .slice none 0 0] 31) := ⟨_, rfl⟩
        rw [← hv] at H ⊢
        clear hv
        refine hK.out _ _ ?_ (fun hHeld => ?_)
        · exact ⟨H.bat 6 rfl (j := 0) rfl, H.bat 6 rfl (j := 1) rfl, H.bat 5 rfl (j := 0) rfl, H.bat 5 rfl (j := 1) rfl⟩
        clear hK K
        try simp only [sA, sB, sC, Act.put, sD, sE, sF]
        refine wpAnyH_ready (rs := [3, 5]) (by kernel_rfl) (by simp) ?_
        refine (AllReadyH.cons rfl (fun K hK => ?_) (AllReadyH.cons rfl (fun K hK => ?_) AllReadyH.nil))
        · go_simp
          refine (copyFil_any z E q r l _ (H.old h2) hcE hq).mono ?_
          rintro e u3 ⟨E1, r1, rfl, K1⟩
          replace H := H.join K1
          clear K1
          go_wp2_with fail
          refine hK.out _ _ ?_ (fun hHeld => ?_)
          · exact ⟨H.bat 7 rfl (j := 0) rfl, H.bat 7 rfl (j := 1) rfl, H.bat 6 rfl (j := 0) rfl, H.bat 6 rfl (j := 1) rfl⟩
          clear hK K
          try simp only [sA, sB, sC, Act.put, sD, sE, sF]
          refine wpAnyH_ready (rs := [5]) (by kernel_rfl) (by simp) ?_
          refine (AllReadyH.cons rfl (fun K hK => ?_) AllReadyH.nil)
          replace H := H.lay 34 [.int .i64 0, .slice none 0 0]
          go_simp
          obtain ⟨g10, hg10⟩ : ∃ x, x = u3.heap.size := ⟨_, rfl⟩
          rw [← hg10] at H ⊢
          clear hg10
          obtain ⟨u4, hv⟩ : ∃ uu : World, uu = u3.alloc (.cells #[.int .i64 0, .slice none 0 0] 34) := ⟨_, rfl⟩
          rw [← hv] at H ⊢
          clear hv
          refine hK.out _ _ ?_ (fun hHeld => ?_)
          · exact ⟨H.bat 8 rfl (j := 0) rfl, H.bat 8 rfl (j := 1) rfl, H.bat 7 rfl (j := 0) rfl, H.bat 7 rfl (j := 1) rfl⟩
          clear hK K
          try simp only [sA, sB, sC, Act.put, sD, sE, sF]
          refine wpAnyH_ready (rs := [6]) (by kernel_rfl) (by simp) ?_
          refine (AllReadyH.cons rfl (fun K hK => ?_) AllReadyH.nil)
          replace H := H.reord [3, 4, 1, 2, 0, 5, 6, 7, 8] (n := 9) rfl (by decide)
          have e0 := H.bfree 3 rfl 0
          have e1 := H.bfree 3 rfl 1
          have s0 := H.bat 3 rfl (j := 0) rfl
          have s1 := H.bat 3 rfl (j := 1) rfl
          replace H := (H.bput 3 rfl 0 (.slice A1 n c1)).bput 3 rfl 1 (.slice B1 m d1)
          go_simp
          refine hK.out _ _ ?_ (fun hHeld => ?_)
          · exact ⟨H.bat 8 rfl (j := 0) rfl, H.bat 8 rfl (j := 1) rfl, H.bat 7 rfl (j := 0) rfl, H.bat 7 rfl (j := 1) rfl⟩
          clear hK K
          try simp only [sA, sB, sC, Act.put, sD, sE, sF]
          refine wpAnyH_ready (rs := [7]) (by kernel_rfl) (by simp) ?_
          refine (AllReadyH.cons rfl (fun K hK => ?_) AllReadyH.nil)
          have e0 := H.bfree 4 rfl 0
          have e1 := H.bfree 4 rfl 1
          have s0 := H.bat 4 rfl (j := 0) rfl
          have s1 := H.bat 4 rfl (j := 1) rfl
          replace H := (H.bput 4 rfl 0 (.int .i64 z)).bput 4 rfl 1 (.slice E1 q r1)
          go_simp
          refine hK.out _ _ ?_ (fun hHeld => ?_)
          · exact ⟨H.bat 8 rfl (j := 0) rfl, H.bat 8 rfl (j := 1) rfl, H.bat 7 rfl (j := 0) rfl, H.bat 7 rfl (j := 1) rfl⟩
          clear hK K
          try simp only [sA, sB, sC, Act.put, sD, sE, sF]
          refine wpAnyH_done (by kernel_rfl) ?_ _
          exact ⟨rfl, A1, c1, B1, d1, E1, r1, g9, g10, rfl, H⟩
        · replace H := H.lay 34 [.int .i64 0, .slice none 0 0]
          go_simp
          obtain ⟨g10, hg10⟩ : ∃ x, x = u2.heap.size := ⟨_, rfl⟩
          rw [← hg10] at H ⊢
          clear hg10
          obtain ⟨u3, hv⟩ : ∃ uu : World, uu = u2.alloc (.cells #[.int .i64 0, .slice none 0 0] 34) := ⟨_, rfl⟩
          rw [← hv] at H ⊢
          clear hv
          refine hK.out _ _ ?_ (fun hHeld => ?_)
          · exact ⟨H.bat 7 rfl (j := 0) rfl, H.bat 7 rfl (j := 1) rfl, H.bat 6 rfl (j := 0) rfl, H.bat 6 rfl (j := 1) rfl⟩
          clear hK K
          try simp only [sA, sB, sC, Act.put, sD, sE, sF]
          refine wpAnyH_ready (rs := [3]) (by kernel_rfl) (by simp) ?_
          refine (AllReadyH.cons rfl (fun K hK => ?_) AllReadyH.nil)
          go_simp
          refine (copyFil_any z E q r l _ (H.old h2) hcE hq).mono ?_
          rintro e u4 ⟨E1, r1, rfl, K1⟩
          replace H := H.join K1
          clear K1
          go_wp2_with fail
          refine hK.out _ _ ?_ (fun hHeld => ?_)
          · exact ⟨H.bat 8 rfl (j := 0) rfl, H.bat 8 rfl (j := 1) rfl, H.bat 7 rfl (j := 0) rfl, H.bat 7 rfl (j := 1) rfl⟩
          clear hK K
          try simp only [sA, sB, sC, Act.put, sD, sE, sF]
          refine wpAnyH_ready (rs := [6]) (by kernel_rfl) (by simp) ?_
          refine (AllReadyH.cons rfl (fun K hK => ?_) AllReadyH.nil)
          replace H := H.reord [3, 4, 0, 2, 1, 5, 6, 7, 8] (n := 9) rfl (by decide)
          have e0 := H.bfree 3 rfl 0
          have e1 := H.bfree 3 rfl 1
          have s0 := H.bat 3 rfl (j := 0) rfl
          have s1 := H.bat 3 rfl (j := 1) rfl
          replace H := (H.bput 3 rfl 0 (.slice A1 n c1)).bput 3 rfl 1 (.slice B1 m d1)
          go_simp
          refine hK.out _ _ ?_ (fun hHeld => ?_)
          · exact ⟨H.bat 8 rfl (j := 0) rfl, H.bat 8 rfl (j := 1) rfl, H.bat 7 rfl (j := 0) rfl, H.bat 7 rfl (j := 1) rfl⟩
          clear hK K
          try simp only [sA, sB, sC, Act.put, sD, sE, sF]
          refine wpAnyH_ready (rs := [7]) (by kernel_rfl) (by simp) ?_
          refine (AllReadyH.cons rfl (fun K hK => ?_) AllReadyH.nil)
          have e0 := H.bfree 4 rfl 0
          have e1 := H.bfree 4 rfl 1
          have s0 := H.bat 4 rfl (j := 0) rfl
          have s1 := H.bat 4 rfl (j := 1) rfl
          replace H := (H.bput 4 rfl 0 (.int .i64 z)).bput 4 rfl 1 (.slice E1 q r1)
          go_simp
          refine hK.out _ _ ?_ (fun hHeld => ?_)
          · exact ⟨H.bat 8 rfl (j := 0) rfl, H.bat 8 rfl (j := 1) rfl, H.bat 7 rfl (j := 0) rfl, H.bat 7 rfl (j := 1) rfl⟩
          clear hK K
          try simp only [sA, sB, sC, Act.put, sD, sE, sF]
          refine wpAnyH_done (by kernel_rfl) ?_ _
          exact ⟨rfl, A1, c1, B1, d1, E1, r1, g9, g10, rfl, H⟩
      · replace H := H.lay 34 [.int .i64 0, .slice none 0 0]
        go_simp
        obtain ⟨g10, hg10⟩ : ∃ x, x = u1.heap.size := ⟨_, rfl⟩
        rw [← hg10] at H ⊢
        clear hg10
        obtain ⟨u2, hv⟩ : ∃ uu : World, uu = u1.alloc (.cells #[.int .i64 0, .slice none 0 0] 34) := ⟨_, rfl⟩
        rw [← hv] at H ⊢
        clear hv
        refine hK.out _ _ ?_ (fun hHeld => ?_)
        · exact ⟨H.bat 6 rfl (j := 0) rfl, H.bat 6 rfl (j := 1) rfl, H.bat 5 rfl (j := 0) rfl, H.bat 5 rfl (j := 1) rfl⟩
        clear hK K
        try simp only [sA, sB, sC, Act.put, sD, sE, sF]
        refine wpAnyH_ready (rs := [3, 4]) (by kernel_rfl) (by simp) ?_
        refine (AllReadyH.cons rfl (fun K hK => ?_) (AllReadyH.cons rfl (fun K hK => ?_) AllReadyH.nil))
        · go_simp
          refine (copyFil_any z E q r l _ (H.old h2) hcE hq).mono ?_
          rintro e u3 ⟨E1, r1, rfl, K1⟩
          replace H := H.join K1
          clear K1
          go_wp2_with fail
          refine hK.out _ _ ?_ (fun hHeld => ?_)
          · exact ⟨H.bat 7 rfl (j := 0) rfl, H.bat 7 rfl (j := 1) rfl, H.bat 6 rfl (j := 0) rfl, H.bat 6 rfl (j := 1) rfl⟩
          clear hK K
          try simp only [sA, sB, sC, Act.put, sD, sE, sF]
          refine wpAnyH_ready (rs := [4]) (by kernel_rfl) (by simp) ?_
          refine (AllReadyH.cons rfl (fun K hK => ?_) AllReadyH.nil)
          replace H := H.lay 31 [.slice none 0 0, .slice none 0 0]
          go_simp
          obtain ⟨g9, hg9⟩ : ∃ x, x = u3.heap.size := ⟨_, rfl⟩
          rw [← hg9] at H ⊢
          clear hg9
          obtain ⟨u4, hv⟩ : ∃ uu : World, uu = u3.alloc (.cells #[.slice none 0 0, .slice none 0 0] 31) := ⟨_, rfl⟩
          rw [← hv] at H ⊢
          clear hv
          refine hK.out _ _ ?_ (fun hHeld => ?_)
          · exact ⟨H.bat 8 rfl (j := 0) rfl, H.bat 8 rfl (j := 1) rfl, H.bat 7 rfl (j := 0) rfl, H.bat 7 rfl (j := 1) rfl⟩
          clear hK K
          try simp only [sA, sB, sC, Act.put, sD, sE, sF]
          refine wpAnyH_ready (rs := [6]) (by kernel_rfl) (by simp) ?_
          refine (AllReadyH.cons rfl (fun K hK => ?_) AllReadyH.nil)
          replace H := H.reord [3, 4, 1, 0, 2, 5, 6, 7, 8] (n := 9) rfl (by decide)
          have e0 := H.bfree 3 rfl 0
          have e1 := H.bfree 3 rfl 1
          have s0 := H.bat 3 rfl (j := 0) rfl
          have s1 := H.bat 3 rfl (j := 1) rfl
          replace H := (H.bput 3 rfl 0 (.slice A1 n c1)).bput 3 rfl 1 (.slice B1 m d1)
          go_simp
          refine hK.out _ _ ?_ (fun hHeld => ?_)
          · exact ⟨H.bat 8 rfl (j := 0) rfl, H.bat 8 rfl (j := 1) rfl, H.bat 7 rfl (j := 0) rfl, H.bat 7 rfl (j := 1) rfl⟩
          clear hK K
          try simp only [sA, sB, sC, Act.put, sD, sE, sF]
          refine wpAnyH_ready (rs := [7]) (by kernel_rfl) (by simp) ?_
          refine (AllReadyH.cons rfl (fun K hK => ?_) AllReadyH.nil)
          have e0 := H.bfree 4 rfl 0
          have e1 := H.bfree 4 rfl 1
          have s0 := H.bat 4 rfl (j := 0) rfl
          have s1 := H.bat 4 rfl (j := 1) rfl
          replace H := (H.bput 4 rfl 0 (.int .i64 z)).bput 4 rfl 1 (.slice E1 q r1)
          go_simp
          refine hK.out _ _ ?_ (fun hHeld => ?_)
          · exact ⟨H.bat 8 rfl (j := 0) rfl, H.bat 8 rfl (j := 1) rfl, H.bat 7 rfl (j := 0) rfl, H.bat 7 rfl (j := 1) rfl⟩
          clear hK K
          try simp only [sA, sB, sC, Act.put, sD, sE, sF]
          refine wpAnyH_done (by kernel_rfl) ?_ _
          exact ⟨rfl, A1, c1, B1, d1, E1, r1, g9, g10, rfl, H⟩
        · replace H := H.lay 31 [.slice none 0 0, .slice none 0 0]
          go_simp
          obtain ⟨g9, hg9⟩ : ∃ x, x = u2.heap.size := ⟨_, rfl⟩
          rw [← hg9] at H ⊢
          clear hg9
          obtain ⟨u3, hv⟩ : ∃ uu : World, uu = u2.alloc (.cells #[.slice none 0 0, .slice none 0 0] 31) := ⟨_, rfl⟩
          rw [← hv] at H ⊢
          clear hv
          refine hK.out _ _ ?_ (fun hHeld => ?_)
          · exact ⟨H.bat 7 rfl (j := 0) rfl, H.bat 7 rfl (j := 1) rfl, H.bat 6 rfl (j := 0) rfl, H.bat 6 rfl (j := 1) rfl⟩
          clear hK K
          try simp only [sA, sB, sC, Act.put, sD, sE, sF]
          refine wpAnyH_ready (rs := [3]) (by kernel_rfl) (by simp) ?_
          refine (AllReadyH.cons rfl (fun K hK => ?_) AllReadyH.nil)
          go_simp
          refine (copyFil_any z E q r l _ (H.old h2) hcE hq).mono ?_
          rintro e u4 ⟨E1, r1, rfl, K1⟩
          replace H := H.join K1
          clear K1
          go_wp2_with fail
          refine hK.out _ _ ?_ (fun hHeld => ?_)
          · exact ⟨H.bat 8 rfl (j := 0) rfl, H.bat 8 rfl (j := 1) rfl, H.bat 7 rfl (j := 0) rfl, H.bat 7 rfl (j := 1) rfl⟩
          clear hK K
          try simp only [sA, sB, sC, Act.put, sD, sE, sF]
          refine wpAnyH_ready (rs := [6]) (by kernel_rfl) (by simp) ?_
          refine (AllReadyH.cons rfl (fun K hK => ?_) AllReadyH.nil)
          replace H := H.reord [3, 4, 0, 1, 2, 5, 6, 7, 8] (n := 9) rfl (by decide)
          have e0 := H.bfree 3 rfl 0
          have e1 := H.bfree 3 rfl 1
          have s0 := H.bat 3 rfl (j := 0) rfl
          have s1 := H.bat 3 rfl (j := 1) rfl
          replace H := (H.bput 3 rfl 0 (.slice A1 n c1)).bput 3 rfl 1 (.slice B1 m d1)
          go_simp
          refine hK.out _ _ ?_ (fun hHeld => ?_)
          · exact ⟨H.bat 8 rfl (j := 0) rfl, H.bat 8 rfl (j := 1) rfl, H.bat 7 rfl (j := 0) rfl, H.bat 7 rfl (j := 1) rfl⟩
          clear hK K
          try simp only [sA, sB, sC, Act.put, sD, sE, sF]
          refine wpAnyH_ready (rs := [7]) (by kernel_rfl) (by simp) ?_
          refine (AllReadyH.cons rfl (fun K hK => ?_) AllReadyH.nil)
          have e0 := H.bfree 4 rfl 0
          have e1 := H.bfree 4 rfl 1
          have s0 := H.bat 4 rfl (j := 0) rfl
          have s1 := H.bat 4 rfl (j := 1) rfl
          replace H := (H.bput 4 rfl 0 (.int .i64 z)).bput 4 rfl 1 (.slice E1 q r1)
          go_simp
          refine hK.out _ _ ?_ (fun hHeld => ?_)
          · exact ⟨H.bat 8 rfl (j := 0) rfl, H.bat 8 rfl (j := 1) rfl, H.bat 7 rfl (j := 0) rfl, H.bat 7 rfl (j := 1) rfl⟩
          clear hK K
          try simp only [sA, sB, sC, Act.put, sD, sE, sF]
          refine wpAnyH_done (by kernel_rfl) ?_ _
          exact ⟨rfl, A1, c1, B1, d1, E1, r1, g9, g10, rfl, H⟩
    · replace H := H.lay 31 [.slice none 0 0, .slice none 0 0]
      go_simp
      obtain ⟨g9, hg9⟩ : ∃ x, x = u0.heap.size := ⟨_, rfl⟩
      rw [← hg9] at H ⊢
      clear hg9
      obtain ⟨u1, hv⟩ : ∃ uu : World, uu = u0.alloc (.cells #[.slice none 0 0, .slice none 0 0] 31) := ⟨_, rfl⟩
      rw [← hv] at H ⊢
      clear hv
      refine hK.out _ _ ?_ (fun hHeld => ?_)
      · exact ⟨H.bat 4 rfl (j := 0) rfl, H.bat 4 rfl (j := 1) rfl, H.bat 3 rfl (j := 0) rfl, H.bat 3 rfl (j := 1) rfl⟩
      clear hK K
      try simp only [sA, sB, sC, Act.put, sD, sE, sF]
      refine wpAnyH_ready (rs := [1, 5]) (by kernel_rfl) (by simp) ?_
      refine (AllReadyH.cons rfl (fun K hK => ?_) (AllReadyH.cons rfl (fun K hK => ?_) AllReadyH.nil))
      · go_simp
        refine (copyStore_any A n c bits B m d data _ (H.old h0) (H.old h1) hcA hcB hn hm).mono ?_
        rintro e u2 ⟨A1, c1, B1, d1, rfl, K1⟩
        replace H := H.join K1
        clear K1
        go_wp2_with fail
        refine hK.out _ _ ?_ (fun hHeld => ?_)
        · exact ⟨H.bat 6 rfl (j := 0) rfl, H.bat 6 rfl (j := 1) rfl, H.bat 5 rfl (j := 0) rfl, H.bat 5 rfl (j := 1) rfl⟩
        clear hK K
        try simp only [sA, sB, sC, Act.put, sD, sE, sF]
        refine wpAnyH_ready (rs := [3, 5]) (by kernel_rfl) (by simp) ?_
        refine (AllReadyH.cons rfl (fun K hK => ?_) (AllReadyH.cons rfl (fun K hK => ?_) AllReadyH.nil))
        · go_simp
          refine (copyFil_any z E q r l _ (H.old h2) hcE hq).mono ?_
          rintro e u3 ⟨E1, r1, rfl, K1⟩
          replace H := H.join K1
          clear K1
          go_wp2_with fail
          refine hK.out _ _ ?_ (fun hHeld => ?_)
          · exact ⟨H.bat 7 rfl (j := 0) rfl, H.bat 7 rfl (j := 1) rfl, H.bat 6 rfl (j := 0) rfl, H.bat 6 rfl (j := 1) rfl⟩
          clear hK K
          try simp only [sA, sB, sC, Act.put, sD, sE, sF]
          refine wpAnyH_ready (rs := [5]) (by kernel_rfl) (by simp) ?_
          refine (AllReadyH.cons rfl (fun K hK => ?_) AllReadyH.nil)
          replace H := H.lay 34 [.int .i64 0, .slice none 0 0]
          go_simp
          obtain ⟨g10, hg10⟩ : ∃ x, x = u3.heap.size := ⟨_, rfl⟩
          rw [← hg10] at H ⊢
          clear hg10
          obtain ⟨u4, hv⟩ : ∃ uu : World, uu = u3.alloc (.cells #[.int .i64 0, .slice none 0 0] 34) := ⟨_, rfl⟩
          rw [← hv] at H ⊢
          clear hv
          refine hK.out _ _ ?_ (fun hHeld => ?_)
          · exact ⟨H.bat 8 rfl (j := 0) rfl, H.bat 8 rfl (j := 1) rfl, H.bat 7 rfl (j := 0) rfl, H.bat 7 rfl (j := 1) rfl⟩
          clear hK K
          try simp only [sA, sB, sC, Act.put, sD, sE, sF]
          refine wpAnyH_ready (rs := [6]) (by kernel_rfl) (by simp) ?_
          refine (AllReadyH.cons rfl (fun K hK => ?_) AllReadyH.nil)
          replace H := H.reord [2, 3, 1, 4, 0, 5, 6, 7, 8] (n := 9) rfl (by decide)
          have e0 := H.bfree 3 rfl 0
          have e1 := H.bfree 3 rfl 1
          have s0 := H.bat 3 rfl (j := 0) rfl
          have s1 := H.bat 3 rfl (j := 1) rfl
          replace H := (H.bput 3 rfl 0 (.slice A1 n c1)).bput 3 rfl 1 (.slice B1 m d1)
          go_simp
          refine hK.out _ _ ?_ (fun hHeld => ?_)
          · exact ⟨H.bat 8 rfl (j := 0) rfl, H.bat 8 rfl (j := 1) rfl, H.bat 7 rfl (j := 0) rfl, H.bat 7 rfl (j := 1) rfl⟩
          clear hK K
          try simp only [sA, sB, sC, Act.put, sD, sE, sF]
          refine wpAnyH_ready (rs := [7]) (by kernel_rfl) (by simp) ?_
          refine (AllReadyH.cons rfl (fun K hK => ?_) AllReadyH.nil)
          have e0 := H.bfree 4 rfl 0
          have e1 := H.bfree 4 rfl 1
          have s0 := H.bat 4 rfl (j := 0) rfl
          have s1 := H.bat 4 rfl (j := 1) rfl
          replace H := (H.bput 4 rfl 0 (.int .i64 z)).bput 4 rfl 1 (.slice E1 q r1)
          go_simp
          refine hK.out _ _ ?_ (fun hHeld => ?_)
          · exact ⟨H.bat 8 rfl (j := 0) rfl, H.bat 8 rfl (j := 1) rfl, H.bat 7 rfl (j := 0) rfl, H.bat 7 rfl (j := 1) rfl⟩
          clear hK K
          try simp only [sA, sB, sC, Act.put, sD, sE, sF]
          refine wpAnyH_done (by kernel_rfl) ?_ _
          exact ⟨rfl, A1, c1, B1, d1, E1, r1, g9, g10, rfl, H⟩
        · replace H := H.lay 34 [.int .i64 0, .slice none 0 0]
          go_simp
          obtain ⟨g10, hg10⟩ : ∃ x, x = u2.heap.size := ⟨_, rfl⟩
          rw [← hg10] at H ⊢
          clear hg10
          obtain ⟨u3, hv⟩ : ∃ uu : World, uu = u2.alloc (.cells #[.int .i64 0, .slice none 0 0] 34) := ⟨_, rfl⟩
          rw [← hv] at H ⊢
          clear hv
          refine hK.out _ _ ?_ (fun hHeld => ?_)
          · exact ⟨H.bat 7 rfl (j := 0) rfl, H.bat 7 rfl (j := 1) rfl, H.bat 6 rfl (j := 0) rfl, H.bat 6 rfl (j := 1) rfl⟩
          clear hK K
          try simp only [sA, sB, sC, Act.put, sD, sE, sF]
          refine wpAnyH_ready (rs := [3]) (by kernel_rfl) (by simp) ?_
          refine (AllReadyH.cons rfl (fun K hK => ?_) AllReadyH.nil)
          go_simp
          refine (copyFil_any z E q r l _ (H.old h2) hcE hq).mono ?_
          rintro e u4 ⟨E1, r1, rfl, K1⟩
          replace H := H.join K1
          clear K1
          go_wp2_with fail
          refine hK.out _ _ ?_ (fun hHeld => ?_)
          · exact ⟨H.bat 8 rfl (j := 0) rfl, H.bat 8 rfl (j := 1) rfl, H.bat 7 rfl (j := 0) rfl, H.bat 7 rfl (j := 1) rfl⟩
          clear hK K
          try simp only [sA, sB, sC, Act.put, sD, sE, sF]
          refine wpAnyH_ready (rs := [6]) (by kernel_rfl) (by simp) ?_
          refine (AllReadyH.cons rfl (fun K hK => ?_) AllReadyH.nil)
          replace H := H.reord [2, 3, 0, 4, 1, 5, 6, 7, 8] (n := 9) rfl (by decide)
          have e0 := H.bfree 3 rfl 0
          have e1 := H.bfree 3 rfl 1
          have s0 := H.bat 3 rfl (j := 0) rfl
          have s1 := H.bat 3 rfl (j := 1) rfl
          replace H := (H.bput 3 rfl 0 (.slice A1 n c1)).bput 3 rfl 1 (.slice B1 m d1)
          go_simp
          refine hK.out _ _ ?_ (fun hHeld => ?_)
          · exact ⟨H.bat 8 rfl (j := 0) rfl, H.bat 8 rfl (j := 1) rfl, H.bat 7 rfl (j := 0) rfl, H.bat 7 rfl (j := 1) rfl⟩
          clear hK K
          try simp only [sA, sB, sC, Act.put, sD, sE, sF]
          refine wpAnyH_ready (rs := [7]) (by kernel_rfl) (by simp) ?_
          refine (AllReadyH.cons rfl (fun K hK => ?_) AllReadyH.nil)
          have e0 := H.bfree 4 rfl 0
          have e1 := H.bfree 4 rfl 1
          have s0 := H.bat 4 rfl (j := 0) rfl
          have s1 := H.bat 4 rfl (j := 1) rfl
          replace H := (H.bput 4 rfl 0 (.int .i64 z)).bput 4 rfl 1 (.slice E1 q r1)
          go_simp
          refine hK.out _ _ ?_ (fun hHeld => ?_)
          · exact ⟨H.bat 8 rfl (j := 0) rfl, H.bat 8 rfl (j := 1) rfl, H.bat 7 rfl (j := 0) rfl, H.bat 7 rfl (j := 1) rfl⟩
          clear hK K
          try simp only [sA, sB, sC, Act.put, sD, sE, sF]
          refine wpAnyH_done (by kernel_rfl) ?_ _
          exact ⟨rfl, A1, c1, B1, d1, E1, r1, g9, g10, rfl, H⟩
      · replace H := H.lay 34 [.int .i64 0, .slice none 0 0]
        go_simp
        obtain ⟨g10, hg10⟩ : ∃ x, x = u1.heap.size := ⟨_, rfl⟩
        rw [← hg10] at H ⊢
        clear hg10
        obtain ⟨u2, hv⟩ : ∃ uu : World, uu = u1.alloc (.cells #[.int .i64 0, .slice none 0 0] 34) := ⟨_, rfl⟩
        rw [← hv] at H ⊢
        clear hv
        refine hK.out _ _ ?_ (fun hHeld => ?_)
        · exact ⟨H.bat 5 rfl (j := 0) rfl, H.bat 5 rfl (j := 1) rfl, H.bat 4 rfl (j := 0) rfl, H.bat 4 rfl (j := 1) rfl⟩
        clear hK K
        try simp only [sA, sB, sC, Act.put, sD, sE, sF]
        refine wpAnyH_ready (rs := [1]) (by kernel_rfl) (by simp) ?_
        refine (AllReadyH.cons rfl (fun K hK => ?_) AllReadyH.nil)
        go_simp
        refine (copyStore_any A n c bits B m d data _ (H.old h0) (H.old h1) hcA hcB hn hm).mono ?_
        rintro e u3 ⟨A1, c1, B1, d1, rfl, K1⟩
        replace H := H.join K1
        clear K1
        go_wp2_with fail
        refine hK.out _ _ ?_ (fun hHeld => ?_)
        · exact ⟨H.bat 7 rfl (j := 0) rfl, H.bat 7 rfl (j := 1) rfl, H.bat 6 rfl (j := 0) rfl, H.bat 6 rfl (j := 1) rfl⟩
        clear hK K
        try simp only [sA, sB, sC, Act.put, sD, sE, sF]
        refine wpAnyH_ready (rs := [3]) (by kernel_rfl) (by simp) ?_
        refine (AllReadyH.cons rfl (fun K hK => ?_) AllReadyH.nil)
        go_simp
        refine (copyFil_any z E q r l _ (H.old h2) hcE hq).mono ?_
        rintro e u4 ⟨E1, r1, rfl, K1⟩
        replace H := H.join K1
        clear K1
        go_wp2_with fail
        refine hK.out _ _ ?_ (fun hHeld => ?_)
        · exact ⟨H.bat 8 rfl (j := 0) rfl, H.bat 8 rfl (j := 1) rfl, H.bat 7 rfl (j := 0) rfl, H.bat 7 rfl (j := 1) rfl⟩
        clear hK K
        try simp only [sA, sB, sC, Act.put, sD, sE, sF]
        refine wpAnyH_ready (rs := [6]) (by kernel_rfl) (by simp) ?_
        refine (AllReadyH.cons rfl (fun K hK => ?_) AllReadyH.nil)
        replace H := H.reord [1, 2, 0, 4, 3, 5, 6, 7, 8] (n := 9) rfl (by decide)
        have e0 := H.bfree 3 rfl 0
        have e1 := H.bfree 3 rfl 1
        have s0 := H.bat 3 rfl (j := 0) rfl
        have s1 := H.bat 3 rfl (j := 1) rfl
        replace H := (H.bput 3 rfl 0 (.slice A1 n c1)).bput 3 rfl 1 (.slice B1 m d1)
        go_simp
        refine hK.out _ _ ?_ (fun hHeld => ?_)
        · exact ⟨H.bat 8 rfl (j := 0) rfl, H.bat 8 rfl (j := 1) rfl, H.bat 7 rfl (j := 0) rfl, H.bat 7 rfl (j := 1) rfl⟩
        clear hK K
        try simp only [sA, sB, sC, Act.put, sD, sE, sF]
        refine wpAnyH_ready (rs := [7]) (by kernel_rfl) (by simp) ?_
        refine (AllReadyH.cons rfl (fun K hK => ?_) AllReadyH.nil)
        have e0 := H.bfree 4 rfl 0
        have e1 := H.bfree 4 rfl 1
        have s0 := H.bat 4 rfl (j := 0) rfl
        have s1 := H.bat 4 rfl (j := 1) rfl
        replace H := (H.bput 4 rfl 0 (.int .i64 z)).bput 4 rfl 1 (.slice E1 q r1)
        go_simp
        refine hK.out _ _ ?_ (fun hHeld => ?_)
        · exact ⟨H.bat 8 rfl (j := 0) rfl, H.bat 8 rfl (j := 1) rfl, H.bat 7 rfl (j := 0) rfl, H.bat 7 rfl (j := 1) rfl⟩
        clear hK K
        try simp only [sA, sB, sC, Act.put, sD, sE, sF]
        refine wpAnyH_done (by kernel_rfl) ?_ _
        exact ⟨rfl, A1, c1, B1, d1, E1, r1, g9, g10, rfl, H⟩
    · replace H := H.lay 34 [.int .i64 0, .slice none 0 0]
      go_simp
      obtain ⟨g10, hg10⟩ : ∃ x, x = u0.heap.size := ⟨_, rfl⟩
      rw [← hg10] at H ⊢
      clear hg10
      obtain ⟨u1, hv⟩ : ∃ uu : World, uu = u0.alloc (.cells #[.int .i64 0, .slice none 0 0] 34) := ⟨_, rfl⟩
      rw [← hv] at H ⊢
      clear hv
      refine hK.out _ _ ?_ (fun hHeld => ?_)
      · exact ⟨H.bat 4 rfl (j := 0) rfl, H.bat 4 rfl (j := 1) rfl, H.bat 3 rfl (j := 0) rfl, H.bat 3 rfl (j := 1) rfl⟩
      clear hK K
      try simp only [sA, sB, sC, Act.put, sD, sE, sF]
      refine wpAnyH_ready (rs := [1, 4]) (by kernel_rfl) (by simp) ?_
      refine (AllReadyH.cons rfl (fun K hK => ?_) (AllReadyH.cons rfl (fun K hK => ?_) AllReadyH.nil))
      · go_simp
        refine (copyStore_any A n c bits B m d data _ (H.old h0) (H.old h1) hcA hcB hn hm).mono ?_
        rintro e u2 ⟨A1, c1, B1, d1, rfl, K1⟩
        replace H := H.join K1
        clear K1
        go_wp2_with fail
        refine hK.out _ _ ?_ (fun hHeld => ?_)
        · exact ⟨H.bat 6 rfl (j := 0) rfl, H.bat 6 rfl (j := 1) rfl, H.bat 5 rfl (j := 0) rfl, H.bat 5 rfl (j := 1) rfl⟩
        clear hK K
        try simp only [sA, sB, sC, Act.put, sD, sE, sF]
        refine wpAnyH_ready (rs := [3, 4]) (by kernel_rfl) (by simp) ?_
        refine (AllReadyH.cons rfl (fun K hK => ?_) (AllReadyH.cons rfl (fun K hK => ?_) AllReadyH.nil))
        · go_simp
          refine (copyFil_any z E q r l _ (H.old h2) hcE hq).mono ?_
          rintro e u3 ⟨E1, r1, rfl, K1⟩
          replace H := H.join K1
          clear K1
          go_wp2_with fail
          refine hK.out _ _ ?_ (fun hHeld => ?_)
          · exact ⟨H.bat 7 rfl (j := 0) rfl, H.bat 7 rfl (j := 1) rfl, H.bat 6 rfl (j := 0) rfl, H.bat 6 rfl (j := 1) rfl⟩
          clear hK K
          try simp only [sA, sB, sC, Act.put, sD, sE, sF]
          refine wpAnyH_ready (rs := [4]) (by kernel_rfl) (by simp) ?_
          refine (AllReadyH.cons rfl (fun K hK => ?_) AllReadyH.nil)
          replace H := H.lay 31 [.slice none 0 0, .slice none 0 0]
          go_simp
          obtain ⟨g9, hg9⟩ : ∃ x, x = u3.heap.size := ⟨_, rfl⟩
          rw [← hg9] at H ⊢
          clear hg9
          obtain ⟨u4, hv⟩ : ∃ uu : World, uu = u3.alloc (.cells #[.slice none 0 0, .slice none 0 0] 31) := ⟨_, rfl⟩
          rw [← hv] at H ⊢
          clear hv
          refine hK.out _ _ ?_ (fun hHeld => ?_)
          · exact ⟨H.bat 8 rfl (j := 0) rfl, H.bat 8 rfl (j := 1) rfl, H.bat 7 rfl (j := 0) rfl, H.bat 7 rfl (j := 1) rfl⟩
          clear hK K
          try simp only [sA, sB, sC, Act.put, sD, sE, sF]
          refine wpAnyH_ready (rs := [6]) (by kernel_rfl) (by simp) ?_
          refine (AllReadyH.cons rfl (fun K hK => ?_) AllReadyH.nil)
          replace H := H.reord [2, 3, 1, 0, 4, 5, 6, 7, 8] (n := 9) rfl (by decide)
          have e0 := H.bfree 3 rfl 0
          have e1 := H.bfree 3 rfl 1
          have s0 := H.bat 3 rfl (j := 0) rfl
          have s1 := H.bat 3 rfl (j := 1) rfl
          replace H := (H.bput 3 rfl 0 (.slice A1 n c1)).bput 3 rfl 1 (.slice B1 m d1)
          go_simp
          refine hK.out _ _ ?_ (fun hHeld => ?_)
          · exact ⟨H.bat 8 rfl (j := 0) rfl, H.bat 8 rfl (j := 1) rfl, H.bat 7 rfl (j := 0) rfl, H.bat 7 rfl (j := 1) rfl⟩
          clear hK K
          try simp only [sA, sB, sC, Act.put, sD, sE, sF]
          refine wpAnyH_ready (rs := [7]) (by kernel_rfl) (by simp) ?_
          refine (AllReadyH.cons rfl (fun K hK => ?_) AllReadyH.nil)
          have e0 := H.bfree 4 rfl 0
          have e1 := H.bfree 4 rfl 1
          have s0 := H.bat 4 rfl (j := 0) rfl
          have s1 := H.bat 4 rfl (j := 1) rfl
          replace H := (H.bput 4 rfl 0 (.int .i64 z)).bput 4 rfl 1 (.slice E1 q r1)
          go_simp
          refine hK.out _ _ ?_ (fun hHeld => ?_)
          · exact ⟨H.bat 8 rfl (j := 0) rfl, H.bat 8 rfl (j := 1) rfl, H.bat 7 rfl (j := 0) rfl, H.bat 7 rfl (j := 1) rfl⟩
          clear hK K
          try simp only [sA, sB, sC, Act.put, sD, sE, sF]
          refine wpAnyH_done (by kernel_rfl) ?_ _
          exact ⟨rfl, A1, c1, B1, d1, E1, r1, g9, g10, rfl, H⟩
        · replace H := H.lay 31 [.slice none 0 0, .slice none 0 0]
          go_simp
          obtain ⟨g9, hg9⟩ : ∃ x, x = u2.heap.size := ⟨_, rfl⟩
          rw [← hg9] at H ⊢
          clear hg9
          obtain ⟨u3, hv⟩ : ∃ uu : World, uu = u2.alloc (.cells #[.slice none 0 0, .slice none 0 0] 31) := ⟨_, rfl⟩
          rw [← hv] at H ⊢
          clear hv
          refine hK.out _ _ ?_ (fun hHeld => ?_)
          · exact ⟨H.bat 7 rfl (j := 0) rfl, H.bat 7 rfl (j := 1) rfl, H.bat 6 rfl (j := 0) rfl, H.bat 6 rfl (j := 1) rfl⟩
          clear hK K
          try simp only [sA, sB, sC, Act.put, sD, sE, sF]
          refine wpAnyH_ready (rs := [3]) (by kernel_rfl) (by simp) ?_
          refine (AllReadyH.cons rfl (fun K hK => ?_) AllReadyH.nil)
          go_simp
          refine (copyFil_any z E q r l _ (H.old h2) hcE hq).mono ?_
          rintro e u4 ⟨E1, r1, rfl, K1⟩
          replace H := H.join K1
          clear K1
          go_wp2_with fail
          refine hK.out _ _ ?_ (fun hHeld => ?_)
          · exact ⟨H.bat 8 rfl (j := 0) rfl, H.bat 8 rfl (j := 1) rfl, H.bat 7 rfl (j := 0) rfl, H.bat 7 rfl (j := 1) rfl⟩
          clear hK K
          try simp only [sA, sB, sC, Act.put, sD, sE, sF]
          refine wpAnyH_ready (rs := [6]) (by kernel_rfl) (by simp) ?_
          refine (AllReadyH.cons rfl (fun K hK => ?_) AllReadyH.nil)
          replace H := H.reord [2, 3, 0, 1, 4, 5, 6, 7, 8] (n := 9) rfl (by decide)
          have e0 := H.bfree 3 rfl 0
          have e1 := H.bfree 3 rfl 1
          have s0 := H.bat 3 rfl (j := 0) rfl
          have s1 := H.bat 3 rfl (j := 1) rfl
          replace H := (H.bput 3 rfl 0 (.slice A1 n c1)).bput 3 rfl 1 (.slice B1 m d1)
          go_simp
          refine hK.out _ _ ?_ (fun hHeld => ?_)
          · exact ⟨H.bat 8 rfl (j := 0) rfl, H.bat 8 rfl (j := 1) rfl, H.bat 7 rfl (j := 0) rfl, H.bat 7 rfl (j := 1) rfl⟩
          clear hK K
          try simp only [sA, sB, sC, Act.put, sD, sE, sF]
          refine wpAnyH_ready (rs := [7]) (by kernel_rfl) (by simp) ?_
          refine (AllReadyH.cons rfl (fun K hK => ?_) AllReadyH.nil)
          have e0 := H.bfree 4 rfl 0
          have e1 := H.bfree 4 rfl 1
          have s0 := H.bat 4 rfl (j := 0) rfl
          have s1 := H.bat 4 rfl (j := 1) rfl
          replace H := (H.bput 4 rfl 0 (.int .i64 z)).bput 4 rfl 1 (.slice E1 q r1)
          go_simp
          refine hK.out _ _ ?_ (fun hHeld => ?_)
          · exact ⟨H.bat 8 rfl (j := 0) rfl, H.bat 8 rfl (j := 1) rfl, H.bat 7 rfl (j := 0) rfl, H.bat 7 rfl (j := 1) rfl⟩
          clear hK K
          try simp only [sA, sB, sC, Act.put, sD, sE, sF]
          refine wpAnyH_done (by kernel_rfl) ?_ _
          exact ⟨rfl, A1, c1, B1, d1, E1, r1, g9, g10, rfl, H⟩
      · replace H := H.lay 31 [.slice none 0 0, .slice none 0 0]
        go_simp
        obtain ⟨g9, hg9⟩ : ∃ x, x = u1.heap.size := ⟨_, rfl⟩
        rw [← hg9] at H ⊢
        clear hg9
        obtain ⟨u2, hv⟩ : ∃ uu : World, uu = u1.alloc (.cells #[.slice none 0 0, .slice none 0 0] 31) := ⟨_, rfl⟩
        rw [← hv] at H ⊢
        clear hv
        refine hK.out _ _ ?_ (fun hHeld => ?_)
        · exact ⟨H.bat 5 rfl (j := 0) rfl, H.bat 5 rfl (j := 1) rfl, H.bat 4 rfl (j := 0) rfl, H.bat 4 rfl (j := 1) rfl⟩
        clear hK K
        try simp only [sA, sB, sC, Act.put, sD, sE, sF]
        refine wpAnyH_ready (rs := [1]) (by kernel_rfl) (by simp) ?_
        refine (AllReadyH.cons rfl (fun K hK => ?_) AllReadyH.nil)
        go_simp
        refine (copyStore_any A n c bits B m d data _ (H.old h0) (H.old h1) hcA hcB hn hm).mono ?_
        rintro e u3 ⟨A1, c1, B1, d1, rfl, K1⟩
        replace H := H.join K1
        clear K1
        go_wp2_with fail
        refine hK.out _ _ ?_ (fun hHeld => ?_)
        · exact ⟨H.bat 7 rfl (j := 0) rfl, H.bat 7 rfl (j := 1) rfl, H.bat 6 rfl (j := 0) rfl, H.bat 6 rfl (j := 1) rfl⟩
        clear hK K
        try simp only [sA, sB, sC, Act.put, sD, sE, sF]
        refine wpAnyH_ready (rs := [3]) (by kernel_rfl) (by simp) ?_
        refine (AllReadyH.cons rfl (fun K hK => ?_) AllReadyH.nil)
        go_simp
        refine (copyFil_any z E q r l _ (H.old h2) hcE hq).mono ?_
        rintro e u4 ⟨E1, r1, rfl, K1⟩
        replace H := H.join K1
        clear K1
        go_wp2_with fail
        refine hK.out _ _ ?_ (fun hHeld => ?_)
        · exact ⟨H.bat 8 rfl (j := 0) rfl, H.bat 8 rfl (j := 1) rfl, H.bat 7 rfl (j := 0) rfl, H.bat 7 rfl (j := 1) rfl⟩
        clear hK K
        try simp only [sA, sB, sC, Act.put, sD, sE, sF]
        refine wpAnyH_ready (rs := [6]) (by kernel_rfl) (by simp) ?_
        refine (AllReadyH.cons rfl (fun K hK => ?_) AllReadyH.nil)
        replace H := H.reord [1, 2, 0, 3, 4, 5, 6, 7, 8] (n := 9) rfl (by decide)
        have e0 := H.bfree 3 rfl 0
        have e1 := H.bfree 3 rfl 1
        have s0 := H.bat 3 rfl (j := 0) rfl
        have s1 := H.bat 3 rfl (j := 1) rfl
        replace H := (H.bput 3 rfl 0 (.slice A1 n c1)).bput 3 rfl 1 (.slice B1 m d1)
        go_simp
        refine hK.out _ _ ?_ (fun hHeld => ?_)
        · exact ⟨H.bat 8 rfl (j := 0) rfl, H.bat 8 rfl (j := 1) rfl, H.bat 7 rfl (j := 0) rfl, H.bat 7 rfl (j := 1) rfl⟩
        clear hK K
        try simp only [sA, sB, sC, Act.put, sD, sE, sF]
        refine wpAnyH_ready (rs := [7]) (by kernel_rfl) (by simp) ?_
        refine (AllReadyH.cons rfl (fun K hK => ?_) AllReadyH.nil)
        have e0 := H.bfree 4 rfl 0
        have e1 := H.bfree 4 rfl 1
        have s0 := H.bat 4 rfl (j := 0) rfl
        have s1 := H.bat 4 rfl (j := 1) rfl
        replace H := (H.bput 4 rfl 0 (.int .i64 z)).bput 4 rfl 1 (.slice E1 q r1)
        go_simp
        refine hK.out _ _ ?_ (fun hHeld => ?_)
        · exact ⟨H.bat 8 rfl (j := 0) rfl, H.bat 8 rfl (j := 1) rfl, H.bat 7 rfl (j := 0) rfl, H.bat 7 rfl (j := 1) rfl⟩
        clear hK K
        try simp only [sA, sB, sC, Act.put, sD, sE, sF]
        refine wpAnyH_done (by kernel_rfl) ?_ _
        exact ⟨rfl, A1, c1, B1, d1, E1, r1, g9, g10, rfl, H⟩
  clear H t0 t1 t2 t3
  rintro a' w1 ⟨A1, c1, B1, d1, E1, r1, g9, g10, rfl, H⟩
  simp only [List.getElem_toArray, List.getElem_cons_succ, List.getElem_cons_zero, Act.put, List.setIfInBounds_toArray, List.set_cons_zero, List.set_cons_succ]
  have t0 := H.bat 8 rfl (j := 0) rfl
  have t1 := H.bat 8 rfl (j := 1) rfl
  have t2 := H.bat 7 rfl (j := 0) rfl
  have t3 := H.bat 7 rfl (j := 1) rfl
  go_wp2_with fail
  refine (implFilOk_any A n c bits B m d data z E q r l _ (H.old h0) (H.old h1) (H.old h2) hm hz hq).mono ?_
  rintro e w2 ⟨rfl, f2⟩
  replace H := H.go f2
  clear t0 t1 t2 t3
  cases hok : filOk bits data z l with
  | false =>
    have HE := Lib.hid (cut_no (size := size) (show cutOk bits data z l size = false by simp [cutOk, hok]))
    clear hok
    go_wp2_with fail
    replace H := H.drew
    refine wp_region_held_drew (S := fun w' => w'.cell? ⟨g9, 0, none⟩ = some (.slice A1 n c1) ∧ w'.cell? ⟨g9, 1, none⟩ = some (.slice B1 m d1) ∧ w'.cell? ⟨g10, 0, none⟩ = some (.int .i64 z) ∧ w'.cell? ⟨g10, 1, none⟩ = some (.slice E1 q r1)) (by kernel_rfl) ?_ (fun hHeld => ?_)
    · exact ⟨H.bat 3 rfl (j := 0) rfl, H.bat 3 rfl (j := 1) rfl, H.bat 4 rfl (j := 0) rfl, H.bat 4 rfl (j := 1) rfl⟩
    obtain ⟨u0, hu0⟩ : ∃ uu : World, uu = w2.drew := ⟨_, rfl⟩
    rw [← hu0] at H hHeld ⊢
    clear hu0
    refine wpAnyH_take (i := 0) (v := ?_) rfl (by kernel_rfl) (by kernel_rfl) (by kernel_rfl) (fun _ _ _ h => h) (Or.inl ⟨by kernel_rfl, ?_⟩) (by assumption) ?_
    rotate_left
    · (intro w hSw; (try dsimp only at hSw); go_simp; try (with_reducible rfl))
    try simp only [sA, sB, sC, Act.put, sD, sE, sF]
    refine wpAnyH_take (i := 1) (v := ?_) rfl (by kernel_rfl) (by kernel_rfl) (by kernel_rfl) (fun _ _ _ h => h) (Or.inl ⟨by kernel_rfl, ?_⟩) (by assumption) ?_
    rotate_left
    · (intro w hSw; (try dsimp only at hSw); go_simp; try (with_reducible rfl))
    try simp only [sA, sB, sC, Act.put, sD, sE, sF]
    refine wpAnyH_ready (rs := [2]) (by kernel_rfl) (by simp) ?_
    refine (AllReadyH.cons rfl (fun K hK => ?_) AllReadyH.nil)
    have e0 := H.bfree 6 rfl 0
    have e1 := H.bfree 6 rfl 1
    have s0 := H.bat 6 rfl (j := 0) rfl
    have s1 := H.bat 6 rfl (j := 1) rfl
    replace H := (H.bput 6 rfl 0 (.slice A1 n c1)).bput 6 rfl 1 (.slice B1 m d1)
    go_simp
    refine hK.out _ _ ?_ (fun hHeld => ?_)
    · exact ⟨H.bat 3 rfl (j := 0) rfl, H.bat 3 rfl (j := 1) rfl, H.bat 4 rfl (j := 0) rfl, H.bat 4 rfl (j := 1) rfl⟩
    clear hK K
    try simp only [sA, sB, sC, Act.put, sD, sE, sF]
    refine wpAnyH_ready (rs := [3]) (by kernel_rfl) (by simp) ?_
    refine (AllReadyH.cons rfl (fun K hK => ?_) AllReadyH.nil)
    have e0 := H.bfree 5 rfl 0
    have e1 := H.bfree 5 rfl 1
    have s0 := H.bat 5 rfl (j := 0) rfl
    have s1 := H.bat 5 rfl (j := 1) rfl
    replace H := (H.bput 5 rfl 0 (.int .i64 z)).bput 5 rfl 1 (.slice E1 q r1)
    go_simp
    refine hK.out _ _ ?_ (fun hHeld => ?_)
    · exact ⟨H.bat 3 rfl (j := 0) rfl, H.bat 3 rfl (j := 1) rfl, H.bat 4 rfl (j := 0) rfl, H.bat 4 rfl (j := 1) rfl⟩
    clear hK K
    try simp only [sA, sB, sC, Act.put, sD, sE, sF]
    refine wpAnyH_take (i := 4) (v := ?_) rfl (by kernel_rfl) (by kernel_rfl) (by kernel_rfl) (fun _ _ _ h => h) (Or.inl ⟨by kernel_rfl, ?_⟩) (by assumption) ?_
    rotate_left
    · (intro w hSw; (try dsimp only at hSw); go_simp; try (with_reducible rfl))
    try simp only [sA, sB, sC, Act.put, sD, sE, sF]
    refine wpAnyH_done (by kernel_rfl) ?_ _
    have x1 := H.bat 6 rfl (j := 0) rfl
    have x2 := H.bat 6 rfl (j := 1) rfl
    have x3 := H.bat 5 rfl (j := 0) rfl
    have x4 := H.bat 5 rfl (j := 1) rfl
    have H7 := Lib.hid H
    clear H
    go_wp2_with fail
    refine bodyPost_ret (v := .tuple #[.agg #[.slice A1 n c1, .slice B1 m d1], .agg #[.int .i64 z, .slice E1 q r1], .bool false]) (by simp [results, Try.results12, go_sem, x1, x2, x3, x4]) rfl ?_
    refine .of HE.out ⟨A1, c1, B1, d1, _, _, _, rfl, HL.out, ?_⟩
    exact H7.out.sub (l' := [.row 4 1 (.slice A1 n c1) n (bits.map Value.bool), .row 9 1 (.slice B1 m d1) m (data.map Value.string), .row 92 3 (.slice E1 q r1) q (l.flatMap cExt)]) (.cons_cons _ (.cons_cons _ (.cons_cons _ (List.nil_sublist _))))
  | true =>
    go_wp2_with fail
    refine (within_any size 0 48 _).mono ?_
    rintro e w3 ⟨rfl, rfl⟩
    cases hin : inB size 0 48 with
    | false =>
      have HE := Lib.hid (cut_no (show cutOk bits data z l size = false by simp [cutOk, hin]))
      clear hok hin
      go_wp2_with fail
      replace H := H.drew
      refine wp_region_held_drew (S := fun w' => w'.cell? ⟨g9, 0, none⟩ = some (.slice A1 n c1) ∧ w'.cell? ⟨g9, 1, none⟩ = some (.slice B1 m d1) ∧ w'.cell? ⟨g10, 0, none⟩ = some (.int .i64 z) ∧ w'.cell? ⟨g10, 1, none⟩ = some (.slice E1 q r1)) (by kernel_rfl) ?_ (fun hHeld => ?_)
      · exact ⟨H.bat 3 rfl (j := 0) rfl, H.bat 3 rfl (j := 1) rfl, H.bat 4 rfl (j := 0) rfl, H.bat 4 rfl (j := 1) rfl⟩
      obtain ⟨u0, hu0⟩ : ∃ uu : World, uu = w3.drew := ⟨_, rfl⟩
      rw [← hu0] at H hHeld ⊢
      clear hu0
      refine wpAnyH_take (i := 0) (v := ?_) rfl (by kernel_rfl) (by kernel_rfl) (by kernel_rfl) (fun _ _ _ h => h) (Or.inl ⟨by kernel_rfl, ?_⟩) (by assumption) ?_
      rotate_left
      · (intro w hSw; (try dsimp only at hSw); go_simp; try (with_reducible rfl))
      try simp only [sA, sB, sC, Act.put, sD, sE, sF]
      refine wpAnyH_take (i := 1) (v := ?_) rfl (by kernel_rfl) (by kernel_rfl) (by kernel_rfl) (fun _ _ _ h => h) (Or.inl ⟨by kernel_rfl, ?_⟩) (by assumption) ?_
      rotate_left
      · (intro w hSw; (try dsimp only at hSw); go_simp; try (with_reducible rfl))
      try simp only [sA, sB, sC, Act.put, sD, sE, sF]
      refine wpAnyH_ready (rs := [2]) (by kernel_rfl) (by simp) ?_
      refine (AllReadyH.cons rfl (fun K hK => ?_) AllReadyH.nil)
      have e0 := H.bfree 6 rfl 0
      have e1 := H.bfree 6 rfl 1
      have s0 := H.bat 6 rfl (j := 0) rfl
      have s1 := H.bat 6 rfl (j := 1) rfl
      replace H := (H.bput 6 rfl 0 (.slice A1 n c1)).bput 6 rfl 1 (.slice B1 m d1)
      go_simp
      refine hK.out _ _ ?_ (fun hHeld => ?_)
      · exact ⟨H.bat 3 rfl (j := 0) rfl, H.bat 3 rfl (j := 1) rfl, H.bat 4 rfl (j := 0) rfl, H.bat 4 rfl (j := 1) rfl⟩
      clear hK K
      try simp only [sA, sB, sC, Act.put, sD, sE, sF]
      refine wpAnyH_ready (rs := [3]) (by kernel_rfl) (by simp) ?_
      refine (AllReadyH.cons rfl (fun K hK => ?_) AllReadyH.nil)
      have e0 := H.bfree 5 rfl 0
      have e1 := H.bfree 5 rfl 1
      have s0 := H.bat 5 rfl (j := 0) rfl
      have s1 := H.bat 5 rfl (j := 1) rfl
      replace H := (H.bput 5 rfl 0 (.int .i64 z)).bput 5 rfl 1 (.slice E1 q r1)
      go_simp
      refine hK.out _ _ ?_ (fun hHeld => ?_)
      · exact ⟨H.bat 3 rfl (j := 0) rfl, H.bat 3 rfl (j := 1) rfl, H.bat 4 rfl (j := 0) rfl, H.bat 4 rfl (j := 1) rfl⟩
      clear hK K
      try simp only [sA, sB, sC, Act.put, sD, sE, sF]
      refine wpAnyH_take (i := 4) (v := ?_) rfl (by kernel_rfl) (by kernel_rfl) (by kernel_rfl) (fun _ _ _ h => h) (Or.inl ⟨by kernel_rfl, ?_⟩) (by assumption) ?_
      rotate_left
      · (intro w hSw; (try dsimp only at hSw); go_simp; try (with_reducible rfl))
      try simp only [sA, sB, sC, Act.put, sD, sE, sF]
      refine wpAnyH_done (by kernel_rfl) ?_ _
      have x1 := H.bat 6 rfl (j := 0) rfl
      have x2 := H.bat 6 rfl (j := 1) rfl
      have x3 := H.bat 5 rfl (j := 0) rfl
      have x4 := H.bat 5 rfl (j := 1) rfl
      have H7 := Lib.hid H
      clear H
      go_wp2_with fail
      refine bodyPost_ret (v := .tuple #[.agg #[.slice A1 n c1, .slice B1 m d1], .agg #[.int .i64 z, .slice E1 q r1], .bool false]) (by simp [results, Try.results12, go_sem, x1, x2, x3, x4]) rfl ?_
      refine .of HE.out ⟨A1, c1, B1, d1, _, _, _, rfl, HL.out, ?_⟩
      exact H7.out.sub (l' := [.row 4 1 (.slice A1 n c1) n (bits.map Value.bool), .row 9 1 (.slice B1 m d1) m (data.map Value.string), .row 92 3 (.slice E1 q r1) q (l.flatMap cExt)]) (.cons_cons _ (.cons_cons _ (.cons_cons _ (List.nil_sublist _))))
    | true =>
      have HOK := Lib.hid (show cutOk bits data z l size = true by simp [cutOk, hok, hin])
      obtain ⟨hst, _, _, _⟩ := filOk_parts hok
      have hs2 := inB_iff.1 hin
      have ST := Lib.hid (stOk_iff.1 hst)
      obtain ⟨sn, rfl⟩ : ∃ u : Nat, size = u := ⟨size.toNat, by omega⟩
      have hn24 : n = 24 := by have := h0.len1; rw [ST.out.1] at this; exact this.symm
      have hm24 : m = 24 := by have := h1.len1; rw [ST.out.2.1] at this; exact this.symm
      subst hn24 hm24
      have hs0 : (0 : Int) ≤ (sn : Int) := by omega
      have hs1 : (sn : Int) ≤ 1000 := by omega
      clear hok hin hst h0 h1 hz hcA hcB hcE h2
      replace H := H.drew
      go_wp2_with fail
      refine wp_region_held_drew (S := fun w' => w'.cell? ⟨g10, 1, none⟩ = some (.slice E1 q r1)) (by kernel_rfl) ?_ (fun hHeld => ?_)
      · exact H.bat 4 rfl (j := 1) rfl
      obtain ⟨u0, hu0⟩ : ∃ uu : World, uu = w3.drew := ⟨_, rfl⟩
      rw [← hu0] at H hHeld ⊢
      clear hu0
      refine wpAnyH_take (i := 0) (v := ?_) rfl (by kernel_rfl) (by kernel_rfl) (by kernel_rfl) (fun _ _ _ h => h) (Or.inl ⟨by kernel_rfl, ?_⟩) (by assumption) ?_
      rotate_left
      · (intro w hSw; (try dsimp only at hSw); go_simp; try (with_reducible rfl))
      try simp only [sA, sB, sC, Act.put, sD, sE, sF]
      refine wpAnyH_take (i := 1) (v := ?_) rfl (by kernel_rfl) (by kernel_rfl) (by kernel_rfl) (fun _ _ _ h => h) (Or.inl ⟨by kernel_rfl, ?_⟩) (by assumption) ?_
      rotate_left
      · (intro w hSw; (try dsimp only at hSw); go_simp; try (with_reducible rfl))
      try simp only [sA, sB, sC, Act.put, sD, sE, sF]
      refine wpAnyH_take (i := 2) (v := ?_) rfl (by kernel_rfl) (by kernel_rfl) (by kernel_rfl) (fun _ _ _ h => h) (Or.inl ⟨by kernel_rfl, ?_⟩) (by assumption) ?_
      rotate_left
      · (intro w hSw; (try dsimp only at hSw); go_simp; try (with_reducible rfl))
      try simp only [sA, sB, sC, Act.put, sD, sE, sF]
      refine wpAnyH_ready (rs := [3]) (by kernel_rfl) (by simp) ?_
      refine (AllReadyH.cons rfl (fun K hK => ?_) AllReadyH.nil)
      go_simp
      refine (ends_any sn hs0 hs1 _).mono ?_
      rintro e9 w9 ⟨rfl, rfl⟩
      go_wp2_with fail
      refine hK.out _ _ ?_ (fun hHeld => ?_)
      · exact H.bat 4 rfl (j := 1) rfl
      clear hK K
      try simp only [sA, sB, sC, Act.put, sD, sE, sF]
      refine wpAnyH_ready (rs := [4]) (by kernel_rfl) (by simp) ?_
      refine (AllReadyH.cons rfl (fun K hK => ?_) AllReadyH.nil)
      go_simp
      refine (implCutAt_hp E1 q r1 l (endsI sn) _ (H.rd 2 rfl) hq).mono ?_
      rintro e u2 ⟨A4, c4, A5, c5, rfl, K⟩
      replace H := H.join K
      clear K
      go_wp2_with fail
      refine hK.out _ _ ?_ (fun hHeld => ?_)
      · exact H.bat 6 rfl (j := 1) rfl
      clear hK K
      try simp only [sA, sB, sC, Act.put, sD, sE, sF]
      refine wpAnyH_take (i := 5) (v := ?_) rfl (by kernel_rfl) (by kernel_rfl) (by kernel_rfl) (fun _ _ _ h => h) (Or.inl ⟨by kernel_rfl, ?_⟩) (by assumption) ?_
      rotate_left
      · (intro w hSw; (try dsimp only at hSw); go_simp; try (with_reducible rfl))
      try simp only [sA, sB, sC, Act.put, sD, sE, sF]
      refine wpAnyH_take (i := 6) (v := ?_) rfl (by kernel_rfl) (by kernel_rfl) (by kernel_rfl) (fun _ _ _ h => h) (Or.inl ⟨by kernel_rfl, ?_⟩) (by assumption) ?_
      rotate_left
      · (intro w hSw; (try dsimp only at hSw); go_simp; try (with_reducible rfl))
      try simp only [sA, sB, sC, Act.put, sD, sE, sF]
      refine wpAnyH_take (i := 7) (v := ?_) rfl (by kernel_rfl) (by kernel_rfl) (by kernel_rfl) (fun _ _ _ h => h) (Or.inl ⟨by kernel_rfl, ?_⟩) (by assumption) ?_
      rotate_left
      · (intro w hSw; (try dsimp only at hSw); go_simp; try (with_reducible rfl))
      try simp only [sA, sB, sC, Act.put, sD, sE, sF]
      refine wpAnyH_take (i := 8) (v := ?_) rfl (by kernel_rfl) (by kernel_rfl) (by kernel_rfl) (fun _ _ _ h => h) (Or.inl ⟨by kernel_rfl, ?_⟩) (by assumption) ?_
      rotate_left
      · (intro w hSw; (try dsimp only at hSw); go_simp; try (with_reducible rfl))
      try simp only [sA, sB, sC, Act.put, sD, sE, sF]
      refine wpAnyH_take (i := 9) (v := ?_) rfl (by kernel_rfl) (by kernel_rfl) (by kernel_rfl) (fun _ _ _ h => h) (Or.inl ⟨by kernel_rfl, ?_⟩) (by assumption) ?_
      rotate_left
      · (intro w hSw; (try dsimp only at hSw); go_simp; try (with_reducible rfl))
      try simp only [sA, sB, sC, Act.put, sD, sE, sF]
      refine wpAnyH_done (by kernel_rfl) ?_ _
      have hql := cutExts_len l (endsI sn)
      have hgl := cutGone_len l (endsI sn)
      have HGIN := Lib.hid (cutGone_in (l := l) (endsI sn))
      obtain ⟨LF, hLF⟩ : ∃ x, x = cutExts l (endsI sn) := ⟨_, rfl⟩
      obtain ⟨GN, hGN⟩ : ∃ x, x = cutGone l (endsI sn) := ⟨_, rfl⟩
      rw [← hLF, ← hGN] at H
      rw [← hLF, ← hGN]
      rw [← hLF] at hql
      rw [← hGN] at hgl HGIN
      have HLF := Lib.hid hLF
      have HGN := Lib.hid hGN
      clear hLF hGN
      obtain ⟨kq, hkq⟩ : ∃ x, x = LF.length := ⟨_, rfl⟩
      obtain ⟨kg, hkg⟩ : ∃ x, x = GN.length := ⟨_, rfl⟩
      rw [← hkq, ← hkg] at H
      rw [← hkq, ← hkg]
      rw [← hkq] at hql
      rw [← hkg] at hgl
      have HKQ := Lib.hid hkq.symm
      have HKG := Lib.hid hkg.symm
      clear hkq hkg
      obtain ⟨gA, cA, e, _⟩ := H.form 2 rfl (by decide)
      injection e with e1 _ e2
      subst e1 e2
      obtain ⟨gB, cB, e, _⟩ := H.form 3 rfl (by decide)
      injection e with e1 _ e2
      subst e1 e2
      go_wp2_with fail
      go_loopw [42] (fun kv wr => ∃ k : Nat, k ≤ kg ∧ kv = .int .i64 k ∧ Hp [] w wr [.row 92 3 (.slice A4 kq c4) kq (LF.flatMap cExt), .row 3 1 (.slice A5 kg c5) kg (GN.map (Value.int .i64)), .row 4 1 (.slice (some ⟨gA, 0, none⟩) 24 c1) 24 ((goneB bits (GN.take k)).map Value.bool), .row 9 1 (.slice (some ⟨gB, 0, none⟩) 24 d1) 24 (data.map Value.string), .row 92 3 (.slice E1 q r1) q (l.flatMap cExt), .blk g9 31 [.slice (some ⟨gA, 0, none⟩) 24 c1, .slice (some ⟨gB, 0, none⟩) 24 d1], .blk g10 34 [.int .i64 z, .slice E1 q r1],
      .blk (w.heap.size + 1 + 1 + 1) 34 [.int .i64 0, .slice none 0 0], .blk (w.heap.size + 1 + 1) 31 [.slice none 0 0, .slice none 0 0], .blk (w.heap.size + 1) 34 [.int .i64 z, .slice E q r], .blk w.heap.size 31 [.slice A 24 c, .slice B 24 d]]) (fun kv _ => kg - (intOf kv).toNat)
      case atStart => exact ⟨0, by omega, rfl, H⟩
      case round =>
        clear H
        obtain ⟨k, hk, rfl, H⟩ := hrel
        by_cases hlt : k < kg
        · obtain ⟨x, hx⟩ := at_some HKG.out hlt
          have hxb := HGIN.out x hx.mem
          obtain ⟨x, rfl⟩ : ∃ u : Nat, x = u := ⟨x.toNat, by omega⟩
          obtain ⟨gG, cG, e, _⟩ := H.form 1 rfl (by omega)
          injection e with e1 _ e2
          subst e1 e2
          have cx := H.atM (f1 := Value.int .i64) 1 rfl hx
          have ca := H.bat 5 rfl (j := 0) rfl
          have hx0 : (0 : Int) ≤ (x : Int) := by omega
          have hx1 : (x : Int) < 24 := by omega
          have hk0 : (0 : Int) ≤ (k : Int) := by omega
          have hk1 : (k : Int) < (kg : Int) := by omega
          obtain ⟨u, hu⟩ : ∃ u, wr.cell? ⟨gA, x, none⟩ = some u := by
            obtain ⟨u, hu⟩ := at_some (show (goneB bits (GN.take k)).length = 24 by rw [goneB_len]; exact ST.out.1) (show x < 24 by omega)
            exact ⟨_, H.atM (f1 := Value.bool) 2 rfl hu⟩
          have hf := H.free 2 rfl x
          have HT := Lib.hid hx.take
          have H2 := Lib.hid (H.putM (f1 := Value.bool) 2 rfl x false)
          clear H hx
          go_wp2_with fail
          go_roundw
          case rel => exact ⟨k + 1, by omega, by go_num, by rw [HT.out, goneB_snoc]; exact H2.out⟩
          case measure => simp [intOf]; omega
        · have hk1 : GN.take k = GN := List.take_of_length_le (by rw [HKG.out]; omega)
          rw [hk1] at H
          have hkk : k = kg := by omega
          clear hk1
          replace H := H.reord [2, 3, 0, 5, 6, 7, 8, 9, 10, 1, 4] (n := 11) rfl (by decide)
          have e0 := H.bfree 4 rfl 0
          have e1 := H.bfree 4 rfl 1
          have s0 := H.bat 4 rfl (j := 0) rfl
          have s1 := H.bat 4 rfl (j := 1) rfl
          have H2 := (H.bput 4 rfl 0 (.int .i64 sn)).bput 4 rfl 1 (.slice A4 kq c4)
          have H3 := Lib.hid H2
          clear H H2
          obtain ⟨sd, hsd⟩ : ∃ x, x = sn / 4 := ⟨_, rfl⟩
          obtain ⟨sm, hsm⟩ : ∃ x, x = sn % 4 := ⟨_, rfl⟩
          have hw1 : IntKind.i64.wrap ((sn : Int).tdiv 4) = (sd : Int) := by rw [Int.tdiv_eq_ediv_of_nonneg hs0, IntWalk.i64_in _ (by omega)]; omega
          have hw2 : IntKind.i64.wrap ((sn : Int).tmod 4) = (sm : Int) := by rw [Int.tmod_eq_emod_of_nonneg hs0, IntWalk.i64_in _ (by omega)]; omega
          have hsm4 : sm < 4 := by omega
          have hsd12 : sd ≤ 12 := by omega
          have HSM := Lib.hid (show (sn : Int) % 4 = (sm : Int) by omega)
          have HSD := Lib.hid (show (sn : Int) / 4 = (sd : Int) by omega)
          have HYES := Lib.hid (fun (D : List ByteArray) h => cut_yes (D := D) HOK.out h)
          rw [← HLF.out, ← HGN.out] at HYES
          have HCL := Lib.hid (show cutLast l sn = blockAtL LF sd by rw [cutLast, HSD.out, HLF.out])
          have hq1 : (sn : Int) / 4 = (sd : Int) := by omega
          have hq2 : (sn : Int) % 4 = (sm : Int) := by omega
          clear hsd hsm
          by_cases hm0 : sm = 0
          · subst hm0
            have HE := Lib.hid (HYES.out data (by rw [HSM.out]; simp))
            go_wp2_with fail
            obtain ⟨w6, hw6⟩ : ∃ uu : World, uu = (wr.setCell ⟨g10, 0, none⟩ (.int .i64 sn)).setCell ⟨g10, 1, none⟩ (.slice A4 kq c4) := ⟨_, rfl⟩
            rw [← hw6] at H3 ⊢
            have H := H3.out
            clear H3 hw6
            replace H := H.drew
            refine wp_region_held_drew (S := fun w' => w'.cell? ⟨g9, 0, none⟩ = some (.slice (some ⟨gA, 0, none⟩) 24 c1) ∧ w'.cell? ⟨g9, 1, none⟩ = some (.slice (some ⟨gB, 0, none⟩) 24 d1) ∧ w'.cell? ⟨g10, 0, none⟩ = some (.int .i64 sn) ∧ w'.cell? ⟨g10, 1, none⟩ = some (.slice A4 kq c4)) (by kernel_rfl) ?_ (fun hHeld => ?_)
            · exact ⟨H.bat 3 rfl (j := 0) rfl, H.bat 3 rfl (j := 1) rfl, H.bat 4 rfl (j := 0) rfl, H.bat 4 rfl (j := 1) rfl⟩
            obtain ⟨u0, hu0⟩ : ∃ uu : World, uu = w6.drew := ⟨_, rfl⟩
            rw [← hu0] at H hHeld ⊢
            clear hu0
            refine wpAnyH_take (i := 0) (v := ?_) rfl (by kernel_rfl) (by kernel_rfl) (by kernel_rfl) (fun _ _ _ h => h) (Or.inl ⟨by kernel_rfl, ?_⟩) (by assumption) ?_
            rotate_left
            · (intro w hSw; (try dsimp only at hSw); go_simp; try (with_reducible rfl))
            try simp only [sA, sB, sC, Act.put, sD, sE, sF]
            refine wpAnyH_take (i := 1) (v := ?_) rfl (by kernel_rfl) (by kernel_rfl) (by kernel_rfl) (fun _ _ _ h => h) (Or.inl ⟨by kernel_rfl, ?_⟩) (by assumption) ?_
            rotate_left
            · (intro w hSw; (try dsimp only at hSw); go_simp; try (with_reducible rfl))
            try simp only [sA, sB, sC, Act.put, sD, sE, sF]
            refine wpAnyH_ready (rs := [2]) (by kernel_rfl) (by simp) ?_
            refine (AllReadyH.cons rfl (fun K hK => ?_) AllReadyH.nil)
            have e0 := H.bfree 6 rfl 0
            have e1 := H.bfree 6 rfl 1
            have s0 := H.bat 6 rfl (j := 0) rfl
            have s1 := H.bat 6 rfl (j := 1) rfl
            replace H := (H.bput 6 rfl 0 (.slice (some ⟨gA, 0, none⟩) 24 c1)).bput 6 rfl 1 (.slice (some ⟨gB, 0, none⟩) 24 d1)
            go_simp
            refine hK.out _ _ ?_ (fun hHeld => ?_)
            · exact ⟨H.bat 3 rfl (j := 0) rfl, H.bat 3 rfl (j := 1) rfl, H.bat 4 rfl (j := 0) rfl, H.bat 4 rfl (j := 1) rfl⟩
            clear hK K
            try simp only [sA, sB, sC, Act.put, sD, sE, sF]
            refine wpAnyH_ready (rs := [3]) (by kernel_rfl) (by simp) ?_
            refine (AllReadyH.cons rfl (fun K hK => ?_) AllReadyH.nil)
            have e0 := H.bfree 5 rfl 0
            have e1 := H.bfree 5 rfl 1
            have s0 := H.bat 5 rfl (j := 0) rfl
            have s1 := H.bat 5 rfl (j := 1) rfl
            replace H := (H.bput 5 rfl 0 (.int .i64 sn)).bput 5 rfl 1 (.slice A4 kq c4)
            go_simp
            refine hK.out _ _ ?_ (fun hHeld => ?_)
            · exact ⟨H.bat 3 rfl (j := 0) rfl, H.bat 3 rfl (j := 1) rfl, H.bat 4 rfl (j := 0) rfl, H.bat 4 rfl (j := 1) rfl⟩
            clear hK K
            try simp only [sA, sB, sC, Act.put, sD, sE, sF]
            refine wpAnyH_take (i := 4) (v := ?_) rfl (by kernel_rfl) (by kernel_rfl) (by kernel_rfl) (fun _ _ _ h => h) (Or.inl ⟨by kernel_rfl, ?_⟩) (by assumption) ?_
            rotate_left
            · (intro w hSw; (try dsimp only at hSw); go_simp; try (with_reducible rfl))
            try simp only [sA, sB, sC, Act.put, sD, sE, sF]
            refine wpAnyH_done (by kernel_rfl) ?_ _
            have x1 := H.bat 6 rfl (j := 0) rfl
            have x2 := H.bat 6 rfl (j := 1) rfl
            have x3 := H.bat 5 rfl (j := 0) rfl
            have x4 := H.bat 5 rfl (j := 1) rfl
            have H7 := Lib.hid H
            clear H
            go_wp2_with fail
            refine bodyPost_ret (v := .tuple #[.agg #[.slice (some ⟨gA, 0, none⟩) 24 c1, .slice (some ⟨gB, 0, none⟩) 24 d1], .agg #[.int .i64 sn, .slice A4 kq c4], .bool true]) (by simp [results, Try.results12, go_sem, x1, x2, x3, x4]) rfl ?_
            refine .of HE.out ⟨(some ⟨gA, 0, none⟩), c1, (some ⟨gB, 0, none⟩), d1, _, _, _, rfl, HKQ.out, ?_⟩
            exact H7.out.sub (l' := [.row 4 1 (.slice (some ⟨gA, 0, none⟩) 24 c1) 24 ((goneB bits GN).map Value.bool), .row 9 1 (.slice (some ⟨gB, 0, none⟩) 24 d1) 24 (data.map Value.string), .row 92 3 (.slice A4 kq c4) kq (LF.flatMap cExt)]) (.cons_cons _ (.cons_cons _ (.cons_cons _ (List.nil_sublist _))))
          · have hmp : decide (0 < (sm : Int)) = true := by simp; omega
            go_wp2_with fail
            refine (implBlockAt_any A4 kq c4 LF sd _ (H3.out.rd 2 rfl) (by omega)).mono ?_
            rintro e w6 ⟨rfl, f6⟩
            have H := H3.out.go f6
            clear H3 f6
            have hb23 := blockAt_le (l := LF) (sd : Int)
            obtain ⟨b, hb⟩ : ∃ x, x = blockAtL LF sd := ⟨_, rfl⟩
            rw [← hb] at HCL hb23 ⊢
            have HB := Lib.hid hb
            clear hb
            by_cases hb0 : 0 ≤ b
            · skip
              obtain ⟨b, rfl⟩ : ∃ u : Nat, b = u := ⟨b.toNat, by omega⟩
              obtain ⟨s, hs⟩ := at_some ST.out.2.1 (show b < 24 by omega)
              have hs4 : s.size = 4 := ST.out.2.2 s hs.mem
              have HE := Lib.hid (HYES.out (data.set b (intoS s sm (ofB (zB (4 - sm))))) (by
                rw [HSM.out, HCL.out, if_pos (by simp; omega), cutBlk]
                simp [show data[b]? = some s from hs]))
              have hw3 : IntKind.i64.wrap (4 - (sm : Int)) = ((4 - sm : Nat) : Int) := by rw [IntWalk.i64_in _ (by omega)]; omega
              have hzs : (ofB (zB (4 - sm))).size = 4 - sm := by rw [ofB_size, zB, List.length_replicate]
              go_wp2_with fail
              refine (implBlockAt_any A4 kq c4 LF sd _ (H.rd 2 rfl) (by omega)).mono ?_
              rintro e w7 ⟨rfl, f7⟩
              replace H := H.go f7
              clear f7
              rw [← HB.out]
              go_wp2_with fail
              refine (implZeros_any ((4 - sm : Nat) : Int) (by omega) (by omega) _).mono ?_
              rintro e w8 ⟨rfl, f8⟩
              replace H := H.go f8
              clear f8
              rw [Int.toNat_natCast]
              go_wp2_with fail
              refine (store_any H 3 1 g9 gB 24 c1 24 d1 (some ⟨gA, 0, none⟩) data rfl rfl b sm s (ofB (zB (4 - sm))) (by decide) hs (by omega) (by rw [hzs]; omega) (by omega)).mono ?_
              rintro e w9 ⟨rfl, H9⟩
              clear H
              have H := H9
              clear H9
              clear hs hs4 hzs
              go_wp2_with fail
              replace H := H.drew
              refine wp_region_held_drew (S := fun w' => w'.cell? ⟨g9, 0, none⟩ = some (.slice (some ⟨gA, 0, none⟩) 24 c1) ∧ w'.cell? ⟨g9, 1, none⟩ = some (.slice (some ⟨gB, 0, none⟩) 24 d1) ∧ w'.cell? ⟨g10, 0, none⟩ = some (.int .i64 sn) ∧ w'.cell? ⟨g10, 1, none⟩ = some (.slice A4 kq c4)) (by kernel_rfl) ?_ (fun hHeld => ?_)
              · exact ⟨H.bat 3 rfl (j := 0) rfl, H.bat 3 rfl (j := 1) rfl, H.bat 4 rfl (j := 0) rfl, H.bat 4 rfl (j := 1) rfl⟩
              obtain ⟨u0, hu0⟩ : ∃ uu : World, uu = w9.drew := ⟨_, rfl⟩
              rw [← hu0] at H hHeld ⊢
              clear hu0
              refine wpAnyH_take (i := 0) (v := ?_) rfl (by kernel_rfl) (by kernel_rfl) (by kernel_rfl) (fun _ _ _ h => h) (Or.inl ⟨by kernel_rfl, ?_⟩) (by assumption) ?_
              rotate_left
              · (intro w hSw; (try dsimp only at hSw); go_simp; try (with_reducible rfl))
              try simp only [sA, sB, sC, Act.put, sD, sE, sF]
              refine wpAnyH_take (i := 1) (v := ?_) rfl (by kernel_rfl) (by kernel_rfl) (by kernel_rfl) (fun _ _ _ h => h) (Or.inl ⟨by kernel_rfl, ?_⟩) (by assumption) ?_
              rotate_left
              · (intro w hSw; (try dsimp only at hSw); go_simp; try (with_reducible rfl))
              try simp only [sA, sB, sC, Act.put, sD, sE, sF]
              refine wpAnyH_ready (rs := [2]) (by kernel_rfl) (by simp) ?_
              refine (AllReadyH.cons rfl (fun K hK => ?_) AllReadyH.nil)
              have e0 := H.bfree 6 rfl 0
              have e1 := H.bfree 6 rfl 1
              have s0 := H.bat 6 rfl (j := 0) rfl
              have s1 := H.bat 6 rfl (j := 1) rfl
              replace H := (H.bput 6 rfl 0 (.slice (some ⟨gA, 0, none⟩) 24 c1)).bput 6 rfl 1 (.slice (some ⟨gB, 0, none⟩) 24 d1)
              go_simp
              refine hK.out _ _ ?_ (fun hHeld => ?_)
              · exact ⟨H.bat 3 rfl (j := 0) rfl, H.bat 3 rfl (j := 1) rfl, H.bat 4 rfl (j := 0) rfl, H.bat 4 rfl (j := 1) rfl⟩
              clear hK K
              try simp only [sA, sB, sC, Act.put, sD, sE, sF]
              refine wpAnyH_ready (rs := [3]) (by kernel_rfl) (by simp) ?_
              refine (AllReadyH.cons rfl (fun K hK => ?_) AllReadyH.nil)
              have e0 := H.bfree 5 rfl 0
              have e1 := H.bfree 5 rfl 1
              have s0 := H.bat 5 rfl (j := 0) rfl
              have s1 := H.bat 5 rfl (j := 1) rfl
              replace H := (H.bput 5 rfl 0 (.int .i64 sn)).bput 5 rfl 1 (.slice A4 kq c4)
              go_simp
              refine hK.out _ _ ?_ (fun hHeld => ?_)
              · exact ⟨H.bat 3 rfl (j := 0) rfl, H.bat 3 rfl (j := 1) rfl, H.bat 4 rfl (j := 0) rfl, H.bat 4 rfl (j := 1) rfl⟩
              clear hK K
              try simp only [sA, sB, sC, Act.put, sD, sE, sF]
              refine wpAnyH_take (i := 4) (v := ?_) rfl (by kernel_rfl) (by kernel_rfl) (by kernel_rfl) (fun _ _ _ h => h) (Or.inl ⟨by kernel_rfl, ?_⟩) (by assumption) ?_
              rotate_left
              · (intro w hSw; (try dsimp only at hSw); go_simp; try (with_reducible rfl))
              try simp only [sA, sB, sC, Act.put, sD, sE, sF]
              refine wpAnyH_done (by kernel_rfl) ?_ _
              have x1 := H.bat 6 rfl (j := 0) rfl
              have x2 := H.bat 6 rfl (j := 1) rfl
              have x3 := H.bat 5 rfl (j := 0) rfl
              have x4 := H.bat 5 rfl (j := 1) rfl
              have H7 := Lib.hid H
              clear H
              go_wp2_with fail
              refine bodyPost_ret (v := .tuple #[.agg #[.slice (some ⟨gA, 0, none⟩) 24 c1, .slice (some ⟨gB, 0, none⟩) 24 d1], .agg #[.int .i64 sn, .slice A4 kq c4], .bool true]) (by simp [results, Try.results12, go_sem, x1, x2, x3, x4]) rfl ?_
              refine .of HE.out ⟨(some ⟨gA, 0, none⟩), c1, (some ⟨gB, 0, none⟩), d1, _, _, _, rfl, HKQ.out, ?_⟩
              exact H7.out.sub (l' := [.row 4 1 (.slice (some ⟨gA, 0, none⟩) 24 c1) 24 ((goneB bits GN).map Value.bool), .row 9 1 (.slice (some ⟨gB, 0, none⟩) 24 d1) 24 ((data.set b (intoS s sm (ofB (zB (4 - sm))))).map Value.string), .row 92 3 (.slice A4 kq c4) kq (LF.flatMap cExt)]) (.cons_cons _ (.cons_cons _ (.cons_cons _ (List.nil_sublist _))))
            · have HE := Lib.hid (HYES.out data (by rw [HSM.out, HCL.out]; simp [hb0]))
              have hbd : decide (0 ≤ b) = false := decide_eq_false hb0
              go_wp2_with fail
              replace H := H.drew
              refine wp_region_held_drew (S := fun w' => w'.cell? ⟨g9, 0, none⟩ = some (.slice (some ⟨gA, 0, none⟩) 24 c1) ∧ w'.cell? ⟨g9, 1, none⟩ = some (.slice (some ⟨gB, 0, none⟩) 24 d1) ∧ w'.cell? ⟨g10, 0, none⟩ = some (.int .i64 sn) ∧ w'.cell? ⟨g10, 1, none⟩ = some (.slice A4 kq c4)) (by kernel_rfl) ?_ (fun hHeld => ?_)
              · exact ⟨H.bat 3 rfl (j := 0) rfl, H.bat 3 rfl (j := 1) rfl, H.bat 4 rfl (j := 0) rfl, H.bat 4 rfl (j := 1) rfl⟩
              obtain ⟨u0, hu0⟩ : ∃ uu : World, uu = w6.drew := ⟨_, rfl⟩
              rw [← hu0] at H hHeld ⊢
              clear hu0
              refine wpAnyH_take (i := 0) (v := ?_) rfl (by kernel_rfl) (by kernel_rfl) (by kernel_rfl) (fun _ _ _ h => h) (Or.inl ⟨by kernel_rfl, ?_⟩) (by assumption) ?_
              rotate_left
              · (intro w hSw; (try dsimp only at hSw); go_simp; try (with_reducible rfl))
              try simp only [sA, sB, sC, Act.put, sD, sE, sF]
              refine wpAnyH_take (i := 1) (v := ?_) rfl (by kernel_rfl) (by kernel_rfl) (by kernel_rfl) (fun _ _ _ h => h) (Or.inl ⟨by kernel_rfl, ?_⟩) (by assumption) ?_
              rotate_left
              · (intro w hSw; (try dsimp only at hSw); go_simp; try (with_reducible rfl))
              try simp only [sA, sB, sC, Act.put, sD, sE, sF]
              refine wpAnyH_ready (rs := [2]) (by kernel_rfl) (by simp) ?_
              refine (AllReadyH.cons rfl (fun K hK => ?_) AllReadyH.nil)
              have e0 := H.bfree 6 rfl 0
              have e1 := H.bfree 6 rfl 1
              have s0 := H.bat 6 rfl (j := 0) rfl
              have s1 := H.bat 6 rfl (j := 1) rfl
              replace H := (H.bput 6 rfl 0 (.slice (some ⟨gA, 0, none⟩) 24 c1)).bput 6 rfl 1 (.slice (some ⟨gB, 0, none⟩) 24 d1)
              go_simp
              refine hK.out _ _ ?_ (fun hHeld => ?_)
              · exact ⟨H.bat 3 rfl (j := 0) rfl, H.bat 3 rfl (j := 1) rfl, H.bat 4 rfl (j := 0) rfl, H.bat 4 rfl (j := 1) rfl⟩
              clear hK K
              try simp only [sA, sB, sC, Act.put, sD, sE, sF]
              refine wpAnyH_ready (rs := [3]) (by kernel_rfl) (by simp) ?_
              refine (AllReadyH.cons rfl (fun K hK => ?_) AllReadyH.nil)
              have e0 := H.bfree 5 rfl 0
              have e1 := H.bfree 5 rfl 1
              have s0 := H.bat 5 rfl (j := 0) rfl
              have s1 := H.bat 5 rfl (j := 1) rfl
              replace H := (H.bput 5 rfl 0 (.int .i64 sn)).bput 5 rfl 1 (.slice A4 kq c4)
              go_simp
              refine hK.out _ _ ?_ (fun hHeld => ?_)
              · exact ⟨H.bat 3 rfl (j := 0) rfl, H.bat 3 rfl (j := 1) rfl, H.bat 4 rfl (j := 0) rfl, H.bat 4 rfl (j := 1) rfl⟩
              clear hK K
              try simp only [sA, sB, sC, Act.put, sD, sE, sF]
              refine wpAnyH_take (i := 4) (v := ?_) rfl (by kernel_rfl) (by kernel_rfl) (by kernel_rfl) (fun _ _ _ h => h) (Or.inl ⟨by kernel_rfl, ?_⟩) (by assumption) ?_
              rotate_left
              · (intro w hSw; (try dsimp only at hSw); go_simp; try (with_reducible rfl))
              try simp only [sA, sB, sC, Act.put, sD, sE, sF]
              refine wpAnyH_done (by kernel_rfl) ?_ _
              have x1 := H.bat 6 rfl (j := 0) rfl
              have x2 := H.bat 6 rfl (j := 1) rfl
              have x3 := H.bat 5 rfl (j := 0) rfl
              have x4 := H.bat 5 rfl (j := 1) rfl
              have H7 := Lib.hid H
              clear H
              go_wp2_with fail
              refine bodyPost_ret (v := .tuple #[.agg #[.slice (some ⟨gA, 0, none⟩) 24 c1, .slice (some ⟨gB, 0, none⟩) 24 d1], .agg #[.int .i64 sn, .slice A4 kq c4], .bool true]) (by simp [results, Try.results12, go_sem, x1, x2, x3, x4]) rfl ?_
              refine .of HE.out ⟨(some ⟨gA, 0, none⟩), c1, (some ⟨gB, 0, none⟩), d1, _, _, _, rfl, HKQ.out, ?_⟩
              exact H7.out.sub (l' := [.row 4 1 (.slice (some ⟨gA, 0, none⟩) 24 c1) 24 ((goneB bits GN).map Value.bool), .row 9 1 (.slice (some ⟨gB, 0, none⟩) 24 d1) 24 (data.map Value.string), .row 92 3 (.slice A4 kq c4) kq (LF.flatMap cExt)]) (.cons_cons _ (.cons_cons _ (.cons_cons _ (List.nil_sublist _))))
end Go.Proofs.Ytbmoolmgfpcnkaa
