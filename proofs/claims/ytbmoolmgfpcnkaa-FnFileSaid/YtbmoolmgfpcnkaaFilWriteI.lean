/-
  The program writes into a file.
-/
import Derived.Test.YtbmoolmgfpcnkaaGc
import Derived.Test.YtbmoolmgfpcnkaaCutAt
import Derived.Test.YtbmoolmgfpcnkaaFilRead
import Derived.Test.YtbmoolmgfpcnkaaGb
import Derived.Test.YtbmoolmgfpcnkaaPutBlock
namespace Go.Proofs.Ytbmoolmgfpcnkaa
open Go.RowKit

set_option linter.unusedSimpArgs false
set_option linter.unusedVariables false
theorem own_nc {w : World} {base : Nat} {e : TypeId} {k n c : Nat} {A : Option Addr} {xs : List Value} (h : w.ownsRow base e k (.slice A n c) n xs) : A = none → c = 0 := by
  rintro rfl
  rcases h.2 with ⟨hv, _⟩ | ⟨g, cap, cur, hv, _⟩
  · injection hv
  · injection hv with h1; cases h1
theorem calls_cast4 {P : Program} {f : Nat} {v1 v2 : Value} {x x' : Int} {t : ByteArray} {y y' z z' : Nat} {w : World} {Q : Ending → World → Prop} (hx : x = x') (hy : y = y') (hz : z = z') (k : Calls P f #[v1, v2, .int .i64 x', .string (t.extract y' z')] w Q) : Calls P f #[v1, v2, .int .i64 x, .string (t.extract y z)] w Q := by
  rw [hx, hy, hz]; exact k
set_option maxRecDepth 100000 in
set_option maxHeartbeats 8000000 in
theorem implFilWrite_any (A : Option Addr) (n c : Nat) (bits : List Bool) (B : Option Addr) (m d : Nat) (data : List ByteArray) (z : Int) (E : Option Addr) (q r : Nat) (l : List (Int × Int × Int)) (off : Int) (txt : ByteArray) (w : World)
    (h0 : Rd w A n 1 (bits.map Value.bool)) (h1 : Rd w B m 1 (data.map Value.string)) (h2 : Rd w E q 3 (l.flatMap cExt)) (hcA : A = none → c = 0) (hcB : B = none → d = 0) (hcE : E = none → r = 0) (hn : n ≤ 1048576) (hm : m ≤ 1048576) (hz : ∀ s ∈ data, s.size ≤ 1048576) (hq : q ≤ 1048576) (hoff : off ≤ 9223372036854775807) (htx : txt.size ≤ 9223372036854775807) :
    Calls Try.prog 33 #[.agg #[.slice A n c, .slice B m d], .agg #[.int .i64 z, .slice E q r], .int .i64 off, .string txt] w
      fun e w' => GaveR w n m (wrRes bits data z l off txt) e w' := by
  have H := (((((Hp.start w).lay_ 31 [.slice A n c, .slice B m d] rfl).lay_ 34 [.int .i64 z, .slice E q r] (g := w.heap.size + 1) (by simp)).lay_ 31 [.slice none 0 0, .slice none 0 0] (g := w.heap.size + 1 + 1) (by simp)).lay_ 34 [.int .i64 0, .slice none 0 0] (g := w.heap.size + 1 + 1 + 1) (by simp)).drew
  have t0 := H.bat 3 rfl (j := 0) rfl
  have t1 := H.bat 3 rfl (j := 1) rfl
  have t2 := H.bat 2 rfl (j := 0) rfl
  have t3 := H.bat 2 rfl (j := 1) rfl
  have HL := Lib.hid (show l.length = q from h2.lenk cExt_len (by omega))
  go_enter Try.func33, Try.ntmps33
  go_wp2_with fail
  refine wp_joint (fun a a' w' => ∃ (A1 : Option Addr) (c1 : Nat) (B1 : Option Addr) (d1 : Nat) (E1 : Option Addr) (r1 g9 g10 : Nat), a' = (((((a.put (some 11) (.pointer (some ⟨g9, 0, none⟩))).put (some 12) (.pointer (some ⟨g10, 0, none⟩))).put (some 18) (.agg #[.slice A n c, .slice B m d])).put (some 19) (.agg #[.slice A1 n c1, .slice B1 m d1])).put (some 20) (.agg #[.int .i64 z, .slice E q r])).put (some 21) (.agg #[.int .i64 z, .slice E1 q r1]) ∧
    Hp [] w w' [.row 4 1 (.slice A1 n c1) n (bits.map Value.bool), .row 9 1 (.slice B1 m d1) m (data.map Value.string), .row 92 3 (.slice E1 q r1) q (l.flatMap cExt), .blk g9 31 [.slice A1 n c1, .slice B1 m d1], .blk g10 34 [.int .i64 z, .slice E1 q r1],
      .blk (w.heap.size + 1 + 1 + 1) 34 [.int .i64 0, .slice none 0 0], .blk (w.heap.size + 1 + 1) 31 [.slice none 0 0, .slice none 0 0], .blk (w.heap.size + 1) 34 [.int .i64 z, .slice E q r], .blk w.heap.size 31 [.slice A n c, .slice B m d]]) ?_ ?_
  ·
    refine wp_region_held_drew (S := fun w' => w'.cell? ⟨w.heap.size, 0, none⟩ = some (.slice A n c) ∧ w'.cell? ⟨w.heap.size, 1, none⟩ = some (.slice B m d) ∧ w'.cell? ⟨w.heap.size + 1, 0, none⟩ = some (.int .i64 z) ∧ w'.cell? ⟨w.heap.size + 1, 1, none⟩ = some (.slice E q r)) (by kernel_rfl) ?_ (fun hHeld => ?_)
    · exact ⟨t0, t1, t2, t3⟩
    obtain ⟨u0, hu0⟩ : ∃ uu : World, uu = ((((w.alloc (.cells #[.slice A n c, .slice B m d] 31)).alloc (.cells #[.int .i64 z, .slice E q r] 34)).alloc (.cells #[.slice none 0 0, .slice none 0 0] 31)).alloc (.cells #[.int .i64 0, .slice none 0 0] 34)).drew := ⟨_, rfl⟩
    rw [← hu0] at H hHeld ⊢
    clear hu0
    refine wpAnyH_take (i := 0) (v := ?_) rfl (by kernel_rfl) (by kernel_rfl) (by kernel_rfl) (fun _ _ _ h => nomatch h.1) (Or.inl ⟨by kernel_rfl, ?_⟩) (by assumption) ?_
    rotate_left
    · (intro w hSw; (try dsimp only at hSw); go_simp; try (with_reducible rfl))
    try simp only [sA, sB, sC, Act.put, sD, sE, sF]
    refine wpAnyH_take (i := 2) (v := ?_) rfl (by kernel_rfl) (by kernel_rfl) (by kernel_rfl) (fun _ _ _ h => nomatch h.1) (Or.inl ⟨by kernel_rfl, ?_⟩) (by assumption) ?_
    rotate_left
    · (intro w hSw; (try dsimp only at hSw); go_simp; try (with_reducible rfl))
    try simp only [sA, sB, sC, Act.put, sD, sE, sF]
    refine wpAnyH_ready (rs := [1, 4, 5]) (by kernel_rfl) (by simp) ?_
    refine (AllReadyH.cons rfl (fun K hK => ?_) (AllReadyH.cons rfl (fun K hK => ?_) (AllReadyH.cons rfl (fun K hK => ?_) AllReadyH.nil)))
    · go_simp
      refine (copyStore_any A n c bits B m d data _ (H.old h0) (H.old h1) hcA hcB hn hm).mono ?_
      rintro e u1 ⟨A1, c1, B1, d1, rfl, K1⟩
      replace H := H.join K1
      clear K1
      go_wp2_with fail
      refine hK.out _ _ ?_ (fun hHeld => ?_)
      · exact ⟨H.bat 5 rfl (j := 0) rfl, H.bat 5 rfl (j := 1) rfl, H.bat 4 rfl (j := 0) rfl, H.bat 4 rfl (j := 1) rfl⟩
      clear hK K
      try simp only [sA, sB, sC, Act.put, sD, sE, sF]
      refine wpAnyH_ready (rs := [3, 4, 5]) (by kernel_rfl) (by simp) ?_
      refine (AllReadyH.cons rfl (fun K hK => ?_) (AllReadyH.cons rfl (fun K hK => ?_) (AllReadyH.cons rfl (fun K hK => ?_) AllReadyH.nil)))
      · go_simp
        refine (copyFil_any z E q r l _ (H.old h2) hcE hq).mono ?_
        rintro e u2 ⟨E1, r1, rfl, K1⟩
        replace H := H.join K1
        clear K1
        go_wp2_with fail
        refine hK.out _ _ ?_ (fun hHeld => ?_)
        · exact ⟨H.bat 6 rfl (j := 0) rfl, H.bat 6 rfl (j := 1) rfl, H.bat 5 rfl (j := 0) rfl, H.bat 5 rfl (j := 1) rfl⟩
        clear hK K
        try simp only [sA, sB, sC, Act.put, sD, sE, sF]
        refine wpAnyH_ready (rs := [4, 5]) (by kernel_rfl) (by simp) ?_
        refine (AllReadyH.cons rfl (fun K hK => ?_) (AllReadyH.cons rfl (fun K hK => ?_) AllReadyH.nil))
        · replace H := H.lay 31 [.slice none 0 0, .slice none 0 0]
          go_simp
          obtain ⟨g9, hg9⟩ : ∃ x, x = u2.heap.size := ⟨_, rfl⟩
          rw [← hg9] at H ⊢
          clear hg9
          obtain ⟨u3, hv⟩ : ∃ uu : World, uu = u2.alloc (.cells #[.slice none 0 0, .slice none 0 0] 31) := ⟨_, rfl⟩
          rw [← hv] at H ⊢
          clear hv
          refine hK.out _ _ ?_ (fun hHeld => ?_)
          · exact ⟨H.bat 7 rfl (j := 0) rfl, H.bat 7 rfl (j := 1) rfl, H.bat 6 rfl (j := 0) rfl, H.bat 6 rfl (j := 1) rfl⟩
          clear hK K
          try simp only [sA, sB, sC, Act.put, sD, sE, sF]
          refine wpAnyH_ready (rs := [5]) (by kernel_rfl) (by simp) ?_
          refine (AllReadyH.cons rfl (fun K hK => ?_) AllReadyH.nil)
          replace H := H.lay 34 [.int .i64 0, .slice none 0 0]
          go_simp
          obtain ⟨g10, hg10⟩ : ∃ x, x = u3.heap.size := ⟨_, rfl⟩
          rw [← hg10] at H ⊢
          clear hg10
          obtain ⟨u4, hv⟩ : ∃ uu : World, uu = u3.alloc (.cells #[.int .i64 0, .slice none 0 0] 34) := ⟨_, rfl⟩
          rw [← hv] at H ⊢
          clear hv
          refine hK.out _ _ ?_ (fun hHeld => ?_)
          · exact ⟨H.bat 8 rfl (j := 0) rfl, H.bat 8 rfl (j := 1) rfl, H.bat 7 rfl (j := 0) rfl, H.bat 7 rfl (j := 1) rfl⟩
          clear hK K
          try simp only [sA, sB, sC, Act.put, sD, sE, sF]
          refine wpAnyH_ready (rs := [6]) (by kernel_rfl) (by simp) ?_
          refine (AllReadyH.cons rfl (fun K hK => ?_) AllReadyH.nil)
          replace H := H.reord [3, 4, 2, 1, 0, 5, 6, 7, 8] (n := 9) rfl (by decide)
          have e0 := H.bfree 3 rfl 0
          have e1 := H.bfree 3 rfl 1
          have s0 := H.bat 3 rfl (j := 0) rfl
          have s1 := H.bat 3 rfl (j := 1) rfl
          replace H := (H.bput 3 rfl 0 (.slice A1 n c1)).bput 3 rfl 1 (.slice B1 m d1)
          go_simp
          refine hK.out _ _ ?_ (fun hHeld => ?_)
          · exact ⟨H.bat 8 rfl (j := 0) rfl, H.bat 8 rfl (j := 1) rfl, H.bat 7 rfl (j := 0) rfl, H.bat 7 rfl (j := 1) rfl⟩
          clear hK K
          try simp only [sA, sB, sC, Act.put, sD, sE, sF]
          refine wpAnyH_ready (rs := [7]) (by kernel_rfl) (by simp) ?_
          refine (AllReadyH.cons rfl (fun K hK => ?_) AllReadyH.nil)
          have e0 := H.bfree 4 rfl 0
          have e1 := H.bfree 4 rfl 1
          have s0 := H.bat 4 rfl (j := 0) rfl
          have s1 := H.bat 4 rfl (j := 1) rfl
          replace H := (H.bput 4 rfl 0 (.int .i64 z)).bput 4 rfl 1 (.slice E1 q r1)
          go_simp
          refine hK.out _ _ ?_ (fun hHeld => ?_)
          · exact ⟨H.bat 8 rfl (j := 0) rfl, H.bat 8 rfl (j := 1) rfl, H.bat 7 rfl (j := 0) rfl, H.bat 7 rfl (j := 1) rfl⟩
          clear hK K
          try simp only [sA, sB, sC, Act.put, sD, sE, sF]
          refine wpAnyH_done (by kernel_rfl) ?_ _
          exact ⟨rfl, A1, c1, B1, d1, E1, r1, g9, g10, rfl, H⟩
        · replace H := H.lay 34 [.int .i64 0, .slice none 0 0]
          go_simp
          obtain ⟨g10, hg10⟩ : ∃ x, x = u2.heap.size := ⟨_, rfl⟩
          rw [← hg10] at H ⊢
          clear hg10
          obtain ⟨u3, hv⟩ : ∃ uu : World, uu = u2.alloc (.cells #[.int .i64 0, .slice none 0 0] 34) := ⟨_, rfl⟩
          rw [← hv] at H ⊢
          clear hv
          refine hK.out _ _ ?_ (fun hHeld => ?_)
          · exact ⟨H.bat 7 rfl (j := 0) rfl, H.bat 7 rfl (j := 1) rfl, H.bat 6 rfl (j := 0) rfl, H.bat 6 rfl (j := 1) rfl⟩
          clear hK K
          try simp only [sA, sB, sC, Act.put, sD, sE, sF]
          refine wpAnyH_ready (rs := [4]) (by kernel_rfl) (by simp) ?_
          refine (AllReadyH.cons rfl (fun K hK => ?_) AllReadyH.nil)
          replace H := H.lay 31 [.slice none 0 0, .slice none 0 0]
          go_simp
          obtain ⟨g9, hg9⟩ : ∃ x, x = u3.heap.size := ⟨_, rfl⟩
          rw [← hg9] at H ⊢
          clear hg9
          obtain ⟨u4, hv⟩ : ∃ uu : World, uu = u3.alloc (.cells #[.slice none 0 0, .slice none 0 0] 31) := ⟨_, rfl⟩
          rw [← hv] at H ⊢
          clear hv
          refine hK.out _ _ ?_ (fun hHeld => ?_)
          · exact ⟨H.bat 8 rfl (j := 0) rfl, H.bat 8 rfl (j := 1) rfl, H.bat 7 rfl (j := 0) rfl, H.bat 7 rfl (j := 1) rfl⟩
          clear hK K
          try simp only [sA, sB, sC, Act.put, sD, sE, sF]
          refine wpAnyH_ready (rs := [6]) (by kernel_rfl) (by simp) ?_
          refine (AllReadyH.cons rfl (fun K hK => ?_) AllReadyH.nil)
          replace H := H.reord [3, 4, 2, 0, 1, 5, 6, 7, 8] (n := 9) rfl (by decide)
          have e0 := H.bfree 3 rfl 0
          have e1 := H.bfree 3 rfl 1
          have s0 := H.bat 3 rfl (j := 0) rfl
          have s1 := H.bat 3 rfl (j := 1) rfl
          replace H := (H.bput 3 rfl 0 (.slice A1 n c1)).bput 3 rfl 1 (.slice B1 m d1)
          go_simp
          refine hK.out _ _ ?_ (fun hHeld => ?_)
          · exact ⟨H.bat 8 rfl (j := 0) rfl, H.bat 8 rfl (j := 1) rfl, H.bat 7 rfl (j := 0) rfl, H.bat 7 rfl (j := 1) rfl⟩
          clear hK K
          try simp only [sA, sB, sC, Act.put, sD, sE, sF]
          refine wpAnyH_ready (rs := [7]) (by kernel_rfl) (by simp) ?_
          refine (AllReadyH.cons rfl (fun K hK => ?_) AllReadyH.nil)
          have e0 := H.bfree 4 rfl 0
          have e1 := H.bfree 4 rfl 1
          have s0 := H.bat 4 rfl (j := 0) rfl
          have s1 := H.bat 4 rfl (j := 1) rfl
          replace H := (H.bput 4 rfl 0 (.int .i64 z)).bput 4 rfl 1 (.slice E1 q r1)
          go_simp
          refine hK.out _ _ ?_ (fun hHeld => ?_)
          · exact ⟨H.bat 8 rfl (j := 0) rfl, H.bat 8 rfl (j := 1) rfl, H.bat 7 rfl (j := 0) rfl, H.bat 7 rfl (j := 1) rfl⟩
          clear hK K
          try simp only [sA, sB, sC, Act.put, sD, sE, sF]
          refine wpAnyH_done (by kernel_rfl) ?_ _
          exact ⟨rfl, A1, c1, B1, d1, E1, r1, g9, g10, rfl, H⟩
      · replace H := H.lay 31 [.slice none 0 0, .slice none 0 0]
        go_simp
        obtain ⟨g9, hg9⟩ : ∃ x, x = u1.heap.size := ⟨_, rfl⟩
        rw [← hg9] at H ⊢
        clear hg9
        obtain ⟨u2, hv⟩ : ∃ uu : World, uu = u1.alloc (.cells #[.slice none 0 0, .slice none 0 0] 31) := ⟨_, rfl⟩
        rw [← hv] at H ⊢
        clear hv
        refine hK.out _ _ ?_ (fun hHeld => ?_)
        · exact ⟨H.bat 6 rfl (j := 0) rfl, H.bat 6 rfl (j := 1) rfl, H.bat 5 rfl (j := 0) rfl, H.bat 5 rfl (j := 1) rfl⟩
        clear hK K
        try simp only [sA, sB, sC, Act.put, sD, sE, sF]
        refine wpAnyH_ready (rs := [3, 5]) (by kernel_rfl) (by simp) ?_
        refine (AllReadyH.cons rfl (fun K hK => ?_) (AllReadyH.cons rfl (fun K hK => ?_) AllReadyH.nil))
        · go_simp
          refine (copyFil_any z E q r l _ (H.old h2) hcE hq).mono ?_
          rintro e u3 ⟨E1, r1, rfl, K1⟩
          replace H := H.join K1
          clear K1
          go_wp2_with fail
          refine hK.out _ _ ?_ (fun hHeld => ?_)
          · exact ⟨H.bat 7 rfl (j := 0) rfl, H.bat 7 rfl (j := 1) rfl, H.bat 6 rfl (j := 0) rfl, H.bat 6 rfl (j := 1) rfl⟩
          clear hK K
          try simp only [sA, sB, sC, Act.put, sD, sE, sF]
          refine wpAnyH_ready (rs := [5]) (by kernel_rfl) (by simp) ?_
          refine (AllReadyH.cons rfl (fun K hK => ?_) AllReadyH.nil)
          replace H := H.lay 34 [.int .i64 0, .slice none 0 0]
          go_simp
          obtain ⟨g10, hg10⟩ : ∃ x, x = u3.heap.size := ⟨_, rfl⟩
          rw [← hg10] at H ⊢
          clear hg10
          obtain ⟨u4, hv⟩ : ∃ uu : World, uu = u3.alloc (.cells #[.int .i64 0, .slice none 0 0] 34) := ⟨_, rfl⟩
          rw [← hv] at H ⊢
          clear hv
          refine hK.out _ _ ?_ (fun hHeld => ?_)
          · exact ⟨H.bat 8 rfl (j := 0) rfl, H.bat 8 rfl (j := 1) rfl, H.bat 7 rfl (j := 0) rfl, H.bat 7 rfl (j := 1) rfl⟩
          clear hK K
          try simp only [sA, sB, sC, Act.put, sD, sE, sF]
          refine wpAnyH_ready (rs := [6]) (by kernel_rfl) (by simp) ?_
          refine (AllReadyH.cons rfl (fun K hK => ?_) AllReadyH.nil)
          replace H := H.reord [3, 4, 1, 2, 0, 5, 6, 7, 8] (n := 9) rfl (by decide)
          have e0 := H.bfree 3 rfl 0
          have e1 := H.bfree 3 rfl 1
          have s0 := H.bat 3 rfl (j := 0) rfl
          have s1 := H.bat 3 rfl (j := 1) rfl
          replace H := (H.bput 3 rfl 0 (.slice A1 n c1)).bput 3 rfl 1 (.slice B1 m d1)
          go_simp
          refine hK.out _ _ ?_ (fun hHeld => ?_)
          · exact ⟨H.bat 8 rfl (j := 0) rfl, H.bat 8 rfl (j := 1) rfl, H.bat 7 rfl (j := 0) rfl, H.bat 7 rfl (j := 1) rfl⟩
          clear hK K
          try simp only [sA, sB, sC, Act.put, sD, sE, sF]
          refine wpAnyH_ready (rs := [7]) (by kernel_rfl) (by simp) ?_
          refine (AllReadyH.cons rfl (fun K hK => ?_) AllReadyH.nil)
          have e0 := H.bfree 4 rfl 0
          have e1 := H.bfree 4 rfl 1
          have s0 := H.bat 4 rfl (j := 0) rfl
          have s1 := H.bat 4 rfl (j := 1) rfl
          replace H := (H.bput 4 rfl 0 (.int .i64 z)).bput 4 rfl 1 (.slice E1 q r1)
          go_simp
          refine hK.out _ _ ?_ (fun hHeld => ?_)
          · exact ⟨H.bat 8 rfl (j := 0) rfl, H.bat 8 rfl (j := 1) rfl, H.bat 7 rfl (j := 0) rfl, H.bat 7 rfl (j := 1) rfl⟩
          clear hK K
          try simp only [sA, sB, sC, Act.put, sD, sE, sF]
          refine wpAnyH_done (by kernel_rfl) ?_ _
          exact ⟨rfl, A1, c1, B1, d1, E1, r1, g9, g10, rfl, H⟩
        · replace H := H.lay 34 [.int .i64 0, .slice none 0 0]
          go_simp
          obtain ⟨g10, hg10⟩ : ∃ x, x = u2.heap.size := ⟨_, rfl⟩
          rw [← hg10] at H ⊢
          clear hg10
          obtain ⟨u3, hv⟩ : ∃ uu : World, uu = u2.alloc (.cells #[.int .i64 0, .slice none 0 0] 34) := ⟨_, rfl⟩
          rw [← hv] at H ⊢
          clear hv
          refine hK.out _ _ ?_ (fun hHeld => ?_)
          · exact ⟨H.bat 7 rfl (j := 0) rfl, H.bat 7 rfl (j := 1) rfl, H.bat 6 rfl (j := 0) rfl, H.bat 6 rfl (j := 1) rfl⟩
          clear hK K
          try simp only [sA, sB, sC, Act.put, sD, sE, sF]
          refine wpAnyH_ready (rs := [3]) (by kernel_rfl) (by simp) ?_
          refine (AllReadyH.cons rfl (fun K hK => ?_) AllReadyH.nil)
          go_simp
          refine (copyFil_any z E q r l _ (H.old h2) hcE hq).mono ?_
          rintro e u4 ⟨E1, r1, rfl, K1⟩
          replace H := H.join K1
          clear K1
          go_wp2_with fail
          refine hK.out _ _ ?_ (fun hHeld => ?_)
          · exact ⟨H.bat 8 rfl (j := 0) rfl, H.bat 8 rfl (j := 1) rfl, H.bat 7 rfl (j := 0) rfl, H.bat 7 rfl (j := 1) rfl⟩
          clear hK K
          try simp only [sA, sB, sC, Act.put, sD, sE, sF]
          refine wpAnyH_ready (rs := [6]) (by kernel_rfl) (by simp) ?_
          refine (AllReadyH.cons rfl (fun K hK => ?_) AllReadyH.nil)
          replace H := H.reord [3, 4, 0, 2, 1, 5, 6, 7, 8] (n := 9) rfl (by decide)
          have e0 := H.bfree 3 rfl 0
          have e1 := H.bfree 3 rfl 1
          have s0 := H.bat 3 rfl (j := 0) rfl
          have s1 := H.bat 3 rfl (j := 1) rfl
          replace H := (H.bput 3 rfl 0 (.slice A1 n c1)).bput 3 rfl 1 (.slice B1 m d1)
          go_simp
          refine hK.out _ _ ?_ (fun hHeld => ?_)
          · exact ⟨H.bat 8 rfl (j := 0) rfl, H.bat 8 rfl (j := 1) rfl, H.bat 7 rfl (j := 0) rfl, H.bat 7 rfl (j := 1) rfl⟩
          clear hK K
          try simp only [sA, sB, sC, Act.put, sD, sE, sF]
          refine wpAnyH_ready (rs := [7]) (by kernel_rfl) (by simp) ?_
          refine (AllReadyH.cons rfl (fun K hK => ?_) AllReadyH.nil)
          have e0 := H.bfree 4 rfl 0
          have e1 := H.bfree 4 rfl 1
          have s0 := H.bat 4 rfl (j := 0) rfl
          have s1 := H.bat 4 rfl (j := 1) rfl
          replace H := (H.bput 4 rfl 0 (.int .i64 z)).bput 4 rfl 1 (.slice E1 q r1)
          go_simp
          refine hK.out _ _ ?_ (fun hHeld => ?_)
          · exact ⟨H.bat 8 rfl (j := 0) rfl, H.bat 8 rfl (j := 1) rfl, H.bat 7 rfl (j := 0) rfl, H.bat 7 rfl (j := 1) rfl⟩
          clear hK K
          try simp only [sA, sB, sC, Act.put, sD, sE, sF]
          refine wpAnyH_done (by kernel_rfl) ?_ _
          exact ⟨rfl, A1, c1, B1, d1, E1, r1, g9, g10, rfl, H⟩
      · replace H := H.lay 34 [.int .i64 0, .slice none 0 0]
        go_simp
        obtain ⟨g10, hg10⟩ : ∃ x, x = u1.heap.size := ⟨_, rfl⟩
        rw [← hg10] at H ⊢
        clear hg10
        obtain ⟨u2, hv⟩ : ∃ uu : World, uu = u1.alloc (.cells #[.int .i64 0, .slice none 0 0] 34) := ⟨_, rfl⟩
        rw [← hv] at H ⊢
        clear hv
        refine hK.out _ _ ?_ (fun hHeld => ?_)
        · exact ⟨H.bat 6 rfl (j := 0) rfl, H.bat 6 rfl (j := 1) rfl, H.bat 5 rfl (j := 0) rfl, H.bat 5 rfl (j := 1) rfl⟩
        clear hK K
        try simp only [sA, sB, sC, Act.put, sD, sE, sF]
        refine wpAnyH_ready (rs := [3, 4]) (by kernel_rfl) (by simp) ?_
        refine (AllReadyH.cons rfl (fun K hK => ?_) (AllReadyH.cons rfl (fun K hK => ?_) AllReadyH.nil))
        · go_simp
          refine (copyFil_any z E q r l _ (H.old h2) hcE hq).mono ?_
          rintro e u3 ⟨E1, r1, rfl, K1⟩
          replace H := H.join K1
          clear K1
          go_wp2_with fail
          refine hK.out _ _ ?_ (fun hHeld => ?_)
          · exact ⟨H.bat 7 rfl (j := 0) rfl, H.bat 7 rfl (j := 1) rfl, H.bat 6 rfl (j := 0) rfl, H.bat 6 rfl (j := 1) rfl⟩
          clear hK K
          try simp only [sA, sB, sC, Act.put, sD, sE, sF]
          refine wpAnyH_ready (rs := [4]) (by kernel_rfl) (by simp) ?_
          refine (AllReadyH.cons rfl (fun K hK => ?_) AllReadyH.nil)
          replace H := H.lay 31 [.slice none 0 0, .slice none 0 0]
          go_simp
          obtain ⟨g9, hg9⟩ : ∃ x, x = u3.heap.size := ⟨_, rfl⟩
          rw [← hg9] at H ⊢
          clear hg9
          obtain ⟨u4, hv⟩ : ∃ uu : World, uu = u3.alloc (.cells #[.slice none 0 0, .slice none 0 0] 31) := ⟨_, rfl⟩
          rw [← hv] at H ⊢
          clear hv
          refine hK.out _ _ ?_ (fun hHeld => ?_)
          · exact ⟨H.bat 8 rfl (j := 0) rfl, H.bat 8 rfl (j := 1) rfl, H.bat 7 rfl (j := 0) rfl, H.bat 7 rfl (j := 1) rfl⟩
          clear hK K
          try simp only [sA, sB, sC, Act.put, sD, sE, sF]
          refine wpAnyH_ready (rs := [6]) (by kernel_rfl) (by simp) ?_
          refine (AllReadyH.cons rfl (fun K hK => ?_) AllReadyH.nil)
          replace H := H.reord [3, 4, 1, 0, 2, 5, 6, 7, 8] (n := 9) rfl (by decide)
          have e0 := H.bfree 3 rfl 0
          have e1 := H.bfree 3 rfl 1
          have s0 := H.bat 3 rfl (j := 0) rfl
          have s1 := H.bat 3 rfl (j := 1) rfl
          replace H := (H.bput 3 rfl 0 (.slice A1 n c1)).bput 3 rfl 1 (.slice B1 m d1)
          go_simp
          refine hK.out _ _ ?_ (fun hHeld => ?_)
          · exact ⟨H.bat 8 rfl (j := 0) rfl, H.bat 8 rfl (j := 1) rfl, H.bat 7 rfl (j := 0) rfl, H.bat 7 rfl (j := 1) rfl⟩
          clear hK K
          try simp only [sA, sB, sC, Act.put, sD, sE, sF]
          refine wpAnyH_ready (rs := [7]) (by kernel_rfl) (by simp) ?_
          refine (AllReadyH.cons rfl (fun K hK => ?_) AllReadyH.nil)
          have e0 := H.bfree 4 rfl 0
          have e1 := H.bfree 4 rfl 1
          have s0 := H.bat 4 rfl (j := 0) rfl
          have s1 := H.bat 4 rfl (j := 1) rfl
          replace H := (H.bput 4 rfl 0 (.int .i64 z)).bput 4 rfl 1 (.slice E1 q r1)
          go_simp
          refine hK.out _ _ ?_ (fun hHeld => ?_)
          · exact ⟨H.bat 8 rfl (j := 0) rfl, H.bat 8 rfl (j := 1) rfl, H.bat 7 rfl (j := 0) rfl, H.bat 7 rfl (j := 1) rfl⟩
          clear hK K
          try simp only [sA, sB, sC, Act.put, sD, sE, sF]
          refine wpAnyH_done (by kernel_rfl) ?_ _
          exact ⟨rfl, A1, c1, B1, d1, E1, r1, g9, g10, rfl, H⟩
        · replace H := H.lay 31 [.slice none 0 0, .slice none 0 0]
          go_simp
          obtain ⟨g9, hg9⟩ : ∃ x, x = u2.heap.size := ⟨_, rfl⟩
          rw [← hg9] at H ⊢
          clear hg9
          obtain ⟨u3, hv⟩ : ∃ uu : World, uu = u2.alloc (.cells #[.slice none 0 0, .slice none 0 0] 31) := ⟨_, rfl⟩
          rw [← hv] at H ⊢
          clear hv
          refine hK.out _ _ ?_ (fun hHeld => ?_)
          · exact ⟨H.bat 7 rfl (j := 0) rfl, H.bat 7 rfl (j := 1) rfl, H.bat 6 rfl (j := 0) rfl, H.bat 6 rfl (j := 1) rfl⟩
          clear hK K
          try simp only [sA, sB, sC, Act.put, sD, sE, sF]
          refine wpAnyH_ready (rs := [3]) (by kernel_rfl) (by simp) ?_
          refine (AllReadyH.cons rfl (fun K hK => ?_) AllReadyH.nil)
          go_simp
          refine (copyFil_any z E q r l _ (H.old h2) hcE hq).mono ?_
          rintro e u4 ⟨E1, r1, rfl, K1⟩
          replace H := H.join K1
          clear K1
          go_wp2_with fail
          refine hK.out _ _ ?_ (fun hHeld => ?_)
          · exact ⟨H.bat 8 rfl (j := 0) rfl, H.bat 8 rfl (j := 1) rfl, H.bat 7 rfl (j := 0) rfl, H.bat 7 rfl (j := 1) rfl⟩
          clear hK K
          try simp only [sA, sB, sC, Act.put, sD, sE, sF]
          refine wpAnyH_ready (rs := [6]) (by kernel_rfl) (by simp) ?_
          refine (AllReadyH.cons rfl (fun K hK => ?_) AllReadyH.nil)
          replace H := H.reord [3, 4, 0, 1, 2, 5, 6, 7, 8] (n := 9) rfl (by decide)
          have e0 := H.bfree 3 rfl 0
          have e1 := H.bfree 3 rfl 1
          have s0 := H.bat 3 rfl (j := 0) rfl
          have s1 := H.bat 3 rfl (j := 1) rfl
          replace H := (H.bput 3 rfl 0 (.slice A1 n c1)).bput 3 rfl 1 (.slice B1 m d1)
          go_simp
          refine hK.out _ _ ?_ (fun hHeld => ?_)
          · exact ⟨H.bat 8 rfl (j := 0) rfl, H.bat 8 rfl (j := 1) rfl, H.bat 7 rfl (j := 0) rfl, H.bat 7 rfl (j := 1) rfl⟩
          clear hK K
          try simp only [sA, sB, sC, Act.put, sD, sE, sF]
          refine wpAnyH_ready (rs := [7]) (by kernel_rfl) (by simp) ?_
          refine (AllReadyH.cons rfl (fun K hK => ?_) AllReadyH.nil)
          have e0 := H.bfree 4 rfl 0
          have e1 := H.bfree 4 rfl 1
          have s0 := H.bat 4 rfl (j := 0) rfl
          have s1 := H.bat 4 rfl (j := 1) rfl
          replace H := (H.bput 4 rfl 0 (.int .i64 z)).bput 4 rfl 1 (.slice E1 q r1)
          go_simp
          refine hK.out _ _ ?_ (fun hHeld => ?_)
          · exact ⟨H.bat 8 rfl (j := 0) rfl, H.bat 8 rfl (j := 1) rfl, H.bat 7 rfl (j := 0) rfl, H.bat 7 rfl (j := 1) rfl⟩
          clear hK K
          try simp only [sA, sB, sC, Act.put, sD, sE, sF]
          refine wpAnyH_done (by kernel_rfl) ?_ _
          exact ⟨rfl, A1, c1, B1, d1, E1, r1, g9, g10, rfl, H⟩
    · replace H := H.lay 31 [.slice none 0 0, .slice none 0 0]
      go_simp
      obtain ⟨g9, hg9⟩ : ∃ x, x = u0.heap.size := ⟨_, rfl⟩
      rw [← hg9] at H ⊢
      clear hg9
      obtain ⟨u1, hv⟩ : ∃ uu : World, uu = u0.alloc (.cells #[.slice none 0 0, .slice none 0 0] 31) := ⟨_, rfl⟩
      rw [← hv] at H ⊢
      clear hv
      refine hK.out _ _ ?_ (fun hHeld => ?_)
      · exact ⟨H.bat 4 rfl (j := 0) rfl, H.bat 4 rfl (j := 1) rfl, H.bat 3 rfl (j := 0) rfl, H.bat 3 rfl (j := 1) rfl⟩
      clear hK K
      try simp only [sA, sB, sC, Act.put, sD, sE, sF]
      refine wpAnyH_ready (rs := [1, 5]) (by kernel_rfl) (by simp) ?_
      refine (AllReadyH.cons rfl (fun K hK => ?_) (AllReadyH.cons rfl (fun K hK => ?_) AllReadyH.nil))
      · go_simp
        refine (copyStore_any A n c bits B m d data _ (H.old h0) (H.old h1) hcA hcB hn hm).mono ?_
        rintro e u2 ⟨A1, c1, B1, d1, rfl, K1⟩
        replace H := H.join K1
        clear K1
        go_wp2_with fail
        refine hK.out _ _ ?_ (fun hHeld => ?_)
        · exact ⟨H.bat 6 rfl (j := 0) rfl, H.bat 6 rfl (j := 1) rfl, H.bat 5 rfl (j := 0) rfl, H.bat 5 rfl (j := 1) rfl⟩
        clear hK K
        try simp only [sA, sB, sC, Act.put, sD, sE, sF]
        refine wpAnyH_ready (rs := [3, 5]) (by kernel_rfl) (by simp) ?_
        refine (AllReadyH.cons rfl (fun K hK => ?_) (AllReadyH.cons rfl (fun K hK => ?_) AllReadyH.nil))
        · go_simp
          refine (copyFil_any z E q r l _ (H.old h2) hcE hq).mono ?_
          rintro e u3 ⟨E1, r1, rfl, K1⟩
          replace H := H.join K1
          clear K1
          go_wp2_with fail
          refine hK.out _ _ ?_ (fun hHeld => ?_)
          · exact ⟨H.bat 7 rfl (j := 0) rfl, H.bat 7 rfl (j := 1) rfl, H.bat 6 rfl (j := 0) rfl, H.bat 6 rfl (j := 1) rfl⟩
          clear hK K
          try simp only [sA, sB, sC, Act.put, sD, sE, sF]
          refine wpAnyH_ready (rs := [5]) (by kernel_rfl) (by simp) ?_
          refine (AllReadyH.cons rfl (fun K hK => ?_) AllReadyH.nil)
          replace H := H.lay 34 [.int .i64 0, .slice none 0 0]
          go_simp
          obtain ⟨g10, hg10⟩ : ∃ x, x = u3.heap.size := ⟨_, rfl⟩
          rw [← hg10] at H ⊢
          clear hg10
          obtain ⟨u4, hv⟩ : ∃ uu : World, uu = u3.alloc (.cells #[.int .i64 0, .slice none 0 0] 34) := ⟨_, rfl⟩
          rw [← hv] at H ⊢
          clear hv
          refine hK.out _ _ ?_ (fun hHeld => ?_)
          · exact ⟨H.bat 8 rfl (j := 0) rfl, H.bat 8 rfl (j := 1) rfl, H.bat 7 rfl (j := 0) rfl, H.bat 7 rfl (j := 1) rfl⟩
          clear hK K
          try simp only [sA, sB, sC, Act.put, sD, sE, sF]
          refine wpAnyH_ready (rs := [6]) (by kernel_rfl) (by simp) ?_
          refine (AllReadyH.cons rfl (fun K hK => ?_) AllReadyH.nil)
          replace H := H.reord [2, 3, 1, 4, 0, 5, 6, 7, 8] (n := 9) rfl (by decide)
          have e0 := H.bfree 3 rfl 0
          have e1 := H.bfree 3 rfl 1
          have s0 := H.bat 3 rfl (j := 0) rfl
          have s1 := H.bat 3 rfl (j := 1) rfl
          replace H := (H.bput 3 rfl 0 (.slice A1 n c1)).bput 3 rfl 1 (.slice B1 m d1)
          go_simp
          refine hK.out _ _ ?_ (fun hHeld => ?_)
          · exact ⟨H.bat 8 rfl (j := 0) rfl, H.bat 8 rfl (j := 1) rfl, H.bat 7 rfl (j := 0) rfl, H.bat 7 rfl (j := 1) rfl⟩
          clear hK K
          try simp only [sA, sB, sC, Act.put, sD, sE, sF]
          refine wpAnyH_ready (rs := [7]) (by kernel_rfl) (by simp) ?_
          refine (AllReadyH.cons rfl (fun K hK => ?_) AllReadyH.nil)
          have e0 := H.bfree 4 rfl 0
          have e1 := H.bfree 4 rfl 1
          have s0 := H.bat 4 rfl (j := 0) rfl
          have s1 := H.bat 4 rfl (j := 1) rfl
          replace H := (H.bput 4 rfl 0 (.int .i64 z)).bput 4 rfl 1 (.slice E1 q r1)
          go_simp
          refine hK.out _ _ ?_ (fun hHeld => ?_)
          · exact ⟨H.bat 8 rfl (j := 0) rfl, H.bat 8 rfl (j := 1) rfl, H.bat 7 rfl (j := 0) rfl, H.bat 7 rfl (j := 1) rfl⟩
          clear hK K
          try simp only [sA, sB, sC, Act.put, sD, sE, sF]
          refine wpAnyH_done (by kernel_rfl) ?_ _
          exact ⟨rfl, A1, c1, B1, d1, E1, r1, g9, g10, rfl, H⟩
        · replace H := H.lay 34 [.int .i64 0, .slice none 0 0]
          go_simp
          obtain ⟨g10, hg10⟩ : ∃ x, x = u2.heap.size := ⟨_, rfl⟩
          rw [← hg10] at H ⊢
          clear hg10
          obtain ⟨u3, hv⟩ : ∃ uu : World, uu = u2.alloc (.cells #[.int .i64 0, .slice none 0 0] 34) := ⟨_, rfl⟩
          rw [← hv] at H ⊢
          clear hv
          refine hK.out _ _ ?_ (fun hHeld => ?_)
          · exact ⟨H.bat 7 rfl (j := 0) rfl, H.bat 7 rfl (j := 1) rfl, H.bat 6 rfl (j := 0) rfl, H.bat 6 rfl (j := 1) rfl⟩
          clear hK K
          try simp only [sA, sB, sC, Act.put, sD, sE, sF]
          refine wpAnyH_ready (rs := [3]) (by kernel_rfl) (by simp) ?_
          refine (AllReadyH.cons rfl (fun K hK => ?_) AllReadyH.nil)
          go_simp
          refine (copyFil_any z E q r l _ (H.old h2) hcE hq).mono ?_
          rintro e u4 ⟨E1, r1, rfl, K1⟩
          replace H := H.join K1
          clear K1
          go_wp2_with fail
          refine hK.out _ _ ?_ (fun hHeld => ?_)
          · exact ⟨H.bat 8 rfl (j := 0) rfl, H.bat 8 rfl (j := 1) rfl, H.bat 7 rfl (j := 0) rfl, H.bat 7 rfl (j := 1) rfl⟩
          clear hK K
          try simp only [sA, sB, sC, Act.put, sD, sE, sF]
          refine wpAnyH_ready (rs := [6]) (by kernel_rfl) (by simp) ?_
          refine (AllReadyH.cons rfl (fun K hK => ?_) AllReadyH.nil)
          replace H := H.reord [2, 3, 0, 4, 1, 5, 6, 7, 8] (n := 9) rfl (by decide)
          have e0 := H.bfree 3 rfl 0
          have e1 := H.bfree 3 rfl 1
          have s0 := H.bat 3 rfl (j := 0) rfl
          have s1 := H.bat 3 rfl (j := 1) rfl
          replace H := (H.bput 3 rfl 0 (.slice A1 n c1)).bput 3 rfl 1 (.slice B1 m d1)
          go_simp
          refine hK.out _ _ ?_ (fun hHeld => ?_)
          · exact ⟨H.bat 8 rfl (j := 0) rfl, H.bat 8 rfl (j := 1) rfl, H.bat 7 rfl (j := 0) rfl, H.bat 7 rfl (j := 1) rfl⟩
          clear hK K
          try simp only [sA, sB, sC, Act.put, sD, sE, sF]
          refine wpAnyH_ready (rs := [7]) (by kernel_rfl) (by simp) ?_
          refine (AllReadyH.cons rfl (fun K hK => ?_) AllReadyH.nil)
          have e0 := H.bfree 4 rfl 0
          have e1 := H.bfree 4 rfl 1
          have s0 := H.bat 4 rfl (j := 0) rfl
          have s1 := H.bat 4 rfl (j := 1) rfl
          replace H := (H.bput 4 rfl 0 (.int .i64 z)).bput 4 rfl 1 (.slice E1 q r1)
          go_simp
          refine hK.out _ _ ?_ (fun hHeld => ?_)
          · exact ⟨H.bat 8 rfl (j := 0) rfl, H.bat 8 rfl (j := 1) rfl, H.bat 7 rfl (j := 0) rfl, H.bat 7 rfl (j := 1) rfl⟩
          clear hK K
          try simp only [sA, sB, sC, Act.put, sD, sE, sF]
          refine wpAnyH_done (by kernel_rfl) ?_ _
          exact ⟨rfl, A1, c1, B1, d1, E1, r1, g9, g10, rfl, H⟩
      · replace H := H.lay 34 [.int .i64 0, .slice none 0 0]
        go_simp
        obtain ⟨g10, hg10⟩ : ∃ x, x = u1.heap.size := ⟨_, rfl⟩
        rw [← hg10] at H ⊢
        clear hg10
        obtain ⟨u2, hv⟩ : ∃ uu : World, uu = u1.alloc (.cells #[.int .i64 0, .slice none 0 0] 34) := ⟨_, rfl⟩
        rw [← hv] at H ⊢
        clear hv
        refine hK.out _ _ ?_ (fun hHeld => ?_)
        · exact ⟨H.bat 5 rfl (j := 0) rfl, H.bat 5 rfl (j := 1) rfl, H.bat 4 rfl (j := 0) rfl, H.bat 4 rfl (j := 1) rfl⟩
        clear hK K
        try simp only [sA, sB, sC, Act.put, sD, sE, sF]
        refine wpAnyH_ready (rs := [1]) (by kernel_rfl) (by simp) ?_
        refine (AllReadyH.cons rfl (fun K hK => ?_) AllReadyH.nil)
        go_simp
        refine (copyStore_any A n c bits B m d data _ (H.old h0) (H.old h1) hcA hcB hn hm).mono ?_
        rintro e u3 ⟨A1, c1, B1, d1, rfl, K1⟩
        replace H := H.join K1
        clear K1
        go_wp2_with fail
        refine hK.out _ _ ?_ (fun hHeld => ?_)
        · exact ⟨H.bat 7 rfl (j := 0) rfl, H.bat 7 rfl (j := 1) rfl, H.bat 6 rfl (j := 0) rfl, H.bat 6 rfl (j := 1) rfl⟩
        clear hK K
        try simp only [sA, sB, sC, Act.put, sD, sE, sF]
        refine wpAnyH_ready (rs := [3]) (by kernel_rfl) (by simp) ?_
        refine (AllReadyH.cons rfl (fun K hK => ?_) AllReadyH.nil)
        go_simp
        refine (copyFil_any z E q r l _ (H.old h2) hcE hq).mono ?_
        rintro e u4 ⟨E1, r1, rfl, K1⟩
        replace H := H.join K1
        clear K1
        go_wp2_with fail
        refine hK.out _ _ ?_ (fun hHeld => ?_)
        · exact ⟨H.bat 8 rfl (j := 0) rfl, H.bat 8 rfl (j := 1) rfl, H.bat 7 rfl (j := 0) rfl, H.bat 7 rfl (j := 1) rfl⟩
        clear hK K
        try simp only [sA, sB, sC, Act.put, sD, sE, sF]
        refine wpAnyH_ready (rs := [6]) (by kernel_rfl) (by simp) ?_
        refine (AllReadyH.cons rfl (fun K hK => ?_) AllReadyH.nil)
        replace H := H.reord [1, 2, 0, 4, 3, 5, 6, 7, 8] (n := 9) rfl (by decide)
        have e0 := H.bfree 3 rfl 0
        have e1 := H.bfree 3 rfl 1
        have s0 := H.bat 3 rfl (j := 0) rfl
        have s1 := H.bat 3 rfl (j := 1) rfl
        replace H := (H.bput 3 rfl 0 (.slice A1 n c1)).bput 3 rfl 1 (.slice B1 m d1)
        go_simp
        refine hK.out _ _ ?_ (fun hHeld => ?_)
        · exact ⟨H.bat 8 rfl (j := 0) rfl, H.bat 8 rfl (j := 1) rfl, H.bat 7 rfl (j := 0) rfl, H.bat 7 rfl (j := 1) rfl⟩
        clear hK K
        try simp only [sA, sB, sC, Act.put, sD, sE, sF]
        refine wpAnyH_ready (rs := [7]) (by kernel_rfl) (by simp) ?_
        refine (AllReadyH.cons rfl (fun K hK => ?_) AllReadyH.nil)
        have e0 := H.bfree 4 rfl 0
        have e1 := H.bfree 4 rfl 1
        have s0 := H.bat 4 rfl (j := 0) rfl
        have s1 := H.bat 4 rfl (j := 1) rfl
        replace H := (H.bput 4 rfl 0 (.int .i64 z)).bput 4 rfl 1 (.slice E1 q r1)
        go_simp
        refine hK.out _ _ ?_ (fun hHeld => ?_)
        · exact ⟨H.bat 8 rfl (j := 0) rfl, H.bat 8 rfl (j := 1) rfl, H.bat 7 rfl (j := 0) rfl, H.bat 7 rfl (j := 1) rfl⟩
        clear hK K
        try simp only [sA, sB, sC, Act.put, sD, sE, sF]
        refine wpAnyH_done (by kernel_rfl) ?_ _
        exact ⟨rfl, A1, c1, B1, d1, E1, r1, g9, g10, rfl, H⟩
    · replace H := H.lay 34 [.int .i64 0, .slice none 0 0]
      go_simp
      obtain ⟨g10, hg10⟩ : ∃ x, x = u0.heap.size := ⟨_, rfl⟩
      rw [← hg10] at H ⊢
      clear hg10
      obtain ⟨u1, hv⟩ : ∃ uu : World, uu = u0.alloc (.cells #[.int .i64 0, .slice none 0 0] 34) := ⟨_, rfl⟩
      rw [← hv] at H ⊢
      clear hv
      refine hK.out _ _ ?_ (fun hHeld => ?_)
      · exact ⟨H.bat 4 rfl (j := 0) rfl, H.bat 4 rfl (j := 1) rfl, H.bat 3 rfl (j := 0) rfl, H.bat 3 rfl (j := 1) rfl⟩
      clear hK K
      try simp only [sA, sB, sC, Act.put, sD, sE, sF]
      refine wpAnyH_ready (rs := [1, 4]) (by kernel_rfl) (by simp) ?_
      refine (AllReadyH.cons rfl (fun K hK => ?_) (AllReadyH.cons rfl (fun K hK => ?_) AllReadyH.nil))
      · go_simp
        refine (copyStore_any A n c bits B m d data _ (H.old h0) (H.old h1) hcA hcB hn hm).mono ?_
        rintro e u2 ⟨A1, c1, B1, d1, rfl, K1⟩
        replace H := H.join K1
        clear K1
        go_wp2_with fail
        refine hK.out _ _ ?_ (fun hHeld => ?_)
        · exact ⟨H.bat 6 rfl (j := 0) rfl, H.bat 6 rfl (j := 1) rfl, H.bat 5 rfl (j := 0) rfl, H.bat 5 rfl (j := 1) rfl⟩
        clear hK K
        try simp only [sA, sB, sC, Act.put, sD, sE, sF]
        refine wpAnyH_ready (rs := [3, 4]) (by kernel_rfl) (by simp) ?_
        refine (AllReadyH.cons rfl (fun K hK => ?_) (AllReadyH.cons rfl (fun K hK => ?_) AllReadyH.nil))
        · go_simp
          refine (copyFil_any z E q r l _ (H.old h2) hcE hq).mono ?_
          rintro e u3 ⟨E1, r1, rfl, K1⟩
          replace H := H.join K1
          clear K1
          go_wp2_with fail
          refine hK.out _ _ ?_ (fun hHeld => ?_)
          · exact ⟨H.bat 7 rfl (j := 0) rfl, H.bat 7 rfl (j := 1) rfl, H.bat 6 rfl (j := 0) rfl, H.bat 6 rfl (j := 1) rfl⟩
          clear hK K
          try simp only [sA, sB, sC, Act.put, sD, sE, sF]
          refine wpAnyH_ready (rs := [4]) (by kernel_rfl) (by simp) ?_
          refine (AllReadyH.cons rfl (fun K hK => ?_) AllReadyH.nil)
          replace H := H.lay 31 [.slice none 0 0, .slice none 0 0]
          go_simp
          obtain ⟨g9, hg9⟩ : ∃ x, x = u3.heap.size := ⟨_, rfl⟩
          rw [← hg9] at H ⊢
          clear hg9
          obtain ⟨u4, hv⟩ : ∃ uu : World, uu = u3.alloc (.cells #[.slice none 0 0, .slice none 0 0] 31) := ⟨_, rfl⟩
          rw [← hv] at H ⊢
          clear hv
          refine hK.out _ _ ?_ (fun hHeld => ?_)
          · exact ⟨H.bat 8 rfl (j := 0) rfl, H.bat 8 rfl (j := 1) rfl, H.bat 7 rfl (j := 0) rfl, H.bat 7 rfl (j := 1) rfl⟩
          clear hK K
          try simp only [sA, sB, sC, Act.put, sD, sE, sF]
          refine wpAnyH_ready (rs := [6]) (by kernel_rfl) (by simp) ?_
          refine (AllReadyH.cons rfl (fun K hK => ?_) AllReadyH.nil)
          replace H := H.reord [2, 3, 1, 0, 4, 5, 6, 7, 8] (n := 9) rfl (by decide)
          have e0 := H.bfree 3 rfl 0
          have e1 := H.bfree 3 rfl 1
          have s0 := H.bat 3 rfl (j := 0) rfl
          have s1 := H.bat 3 rfl (j := 1) rfl
          replace H := (H.bput 3 rfl 0 (.slice A1 n c1)).bput 3 rfl 1 (.slice B1 m d1)
          go_simp
          refine hK.out _ _ ?_ (fun hHeld => ?_)
          · exact ⟨H.bat 8 rfl (j := 0) rfl, H.bat 8 rfl (j := 1) rfl, H.bat 7 rfl (j := 0) rfl, H.bat 7 rfl (j := 1) rfl⟩
          clear hK K
          try simp only [sA, sB, sC, Act.put, sD, sE, sF]
          refine wpAnyH_ready (rs := [7]) (by kernel_rfl) (by simp) ?_
          refine (AllReadyH.cons rfl (fun K hK => ?_) AllReadyH.nil)
          have e0 := H.bfree 4 rfl 0
          have e1 := H.bfree 4 rfl 1
          have s0 := H.bat 4 rfl (j := 0) rfl
          have s1 := H.bat 4 rfl (j := 1) rfl
          replace H := (H.bput 4 rfl 0 (.int .i64 z)).bput 4 rfl 1 (.slice E1 q r1)
          go_simp
          refine hK.out _ _ ?_ (fun hHeld => ?_)
          · exact ⟨H.bat 8 rfl (j := 0) rfl, H.bat 8 rfl (j := 1) rfl, H.bat 7 rfl (j := 0) rfl, H.bat 7 rfl (j := 1) rfl⟩
          clear hK K
          try simp only [sA, sB, sC, Act.put, sD, sE, sF]
          refine wpAnyH_done (by kernel_rfl) ?_ _
          exact ⟨rfl, A1, c1, B1, d1, E1, r1, g9, g10, rfl, H⟩
        · replace H := H.lay 31 [.slice none 0 0, .slice none 0 0]
          go_simp
          obtain ⟨g9, hg9⟩ : ∃ x, x = u2.heap.size := ⟨_, rfl⟩
          rw [← hg9] at H ⊢
          clear hg9
          obtain ⟨u3, hv⟩ : ∃ uu : World, uu = u2.alloc (.cells #[.slice none 0 0, .slice none 0 0] 31) := ⟨_, rfl⟩
          rw [← hv] at H ⊢
          clear hv
          refine hK.out _ _ ?_ (fun hHeld => ?_)
          · exact ⟨H.bat 7 rfl (j := 0) rfl, H.bat 7 rfl (j := 1) rfl, H.bat 6 rfl (j := 0) rfl, H.bat 6 rfl (j := 1) rfl⟩
          clear hK K
          try simp only [sA, sB, sC, Act.put, sD, sE, sF]
          refine wpAnyH_ready (rs := [3]) (by kernel_rfl) (by simp) ?_
          refine (AllReadyH.cons rfl (fun K hK => ?_) AllReadyH.nil)
          go_simp
          refine (copyFil_any z E q r l _ (H.old h2) hcE hq).mono ?_
          rintro e u4 ⟨E1, r1, rfl, K1⟩
          replace H := H.join K1
          clear K1
          go_wp2_with fail
          refine hK.out _ _ ?_ (fun hHeld => ?_)
          · exact ⟨H.bat 8 rfl (j := 0) rfl, H.bat 8 rfl (j := 1) rfl, H.bat 7 rfl (j := 0) rfl, H.bat 7 rfl (j := 1) rfl⟩
          clear hK K
          try simp only [sA, sB, sC, Act.put, sD, sE, sF]
          refine wpAnyH_ready (rs := [6]) (by kernel_rfl) (by simp) ?_
          refine (AllReadyH.cons rfl (fun K hK => ?_) AllReadyH.nil)
          replace H := H.reord [2, 3, 0, 1, 4, 5, 6, 7, 8] (n := 9) rfl (by decide)
          have e0 := H.bfree 3 rfl 0
          have e1 := H.bfree 3 rfl 1
          have s0 := H.bat 3 rfl (j := 0) rfl
          have s1 := H.bat 3 rfl (j := 1) rfl
          replace H := (H.bput 3 rfl 0 (.slice A1 n c1)).bput 3 rfl 1 (.slice B1 m d1)
          go_simp
          refine hK.out _ _ ?_ (fun hHeld => ?_)
          · exact ⟨H.bat 8 rfl (j := 0) rfl, H.bat 8 rfl (j := 1) rfl, H.bat 7 rfl (j := 0) rfl, H.bat 7 rfl (j := 1) rfl⟩
          clear hK K
          try simp only [sA, sB, sC, Act.put, sD, sE, sF]
          refine wpAnyH_ready (rs := [7]) (by kernel_rfl) (by simp) ?_
          refine (AllReadyH.cons rfl (fun K hK => ?_) AllReadyH.nil)
          have e0 := H.bfree 4 rfl 0
          have e1 := H.bfree 4 rfl 1
          have s0 := H.bat 4 rfl (j := 0) rfl
          have s1 := H.bat 4 rfl (j := 1) rfl
          replace H := (H.bput 4 rfl 0 (.int .i64 z)).bput 4 rfl 1 (.slice E1 q r1)
          go_simp
          refine hK.out _ _ ?_ (fun hHeld => ?_)
          · exact ⟨H.bat 8 rfl (j := 0) rfl, H.bat 8 rfl (j := 1) rfl, H.bat 7 rfl (j := 0) rfl, H.bat 7 rfl (j := 1) rfl⟩
          clear hK K
          try simp only [sA, sB, sC, Act.put, sD, sE, sF]
          refine wpAnyH_done (by kernel_rfl) ?_ _
          exact ⟨rfl, A1, c1, B1, d1, E1, r1, g9, g10, rfl, H⟩
      · replace H := H.lay 31 [.slice none 0 0, .slice none 0 0]
        go_simp
        obtain ⟨g9, hg9⟩ : ∃ x, x = u1.heap.size := ⟨_, rfl⟩
        rw [← hg9] at H ⊢
        clear hg9
        obtain ⟨u2, hv⟩ : ∃ uu : World, uu = u1.alloc (.cells #[.slice none 0 0, .slice none 0 0] 31) := ⟨_, rfl⟩
        rw [← hv] at H ⊢
        clear hv
        refine hK.out _ _ ?_ (fun hHeld => ?_)
        · exact ⟨H.bat 5 rfl (j := 0) rfl, H.bat 5 rfl (j := 1) rfl, H.bat 4 rfl (j := 0) rfl, H.bat 4 rfl (j := 1) rfl⟩
        clear hK K
        try simp only [sA, sB, sC, Act.put, sD, sE, sF]
        refine wpAnyH_ready (rs := [1]) (by kernel_rfl) (by simp) ?_
        refine (AllReadyH.cons rfl (fun K hK => ?_) AllReadyH.nil)
        go_simp
        refine (copyStore_any A n c bits B m d data _ (H.old h0) (H.old h1) hcA hcB hn hm).mono ?_
        rintro e u3 ⟨A1, c1, B1, d1, rfl, K1⟩
        replace H := H.join K1
        clear K1
        go_wp2_with fail
        refine hK.out _ _ ?_ (fun hHeld => ?_)
        · exact ⟨H.bat 7 rfl (j := 0) rfl, H.bat 7 rfl (j := 1) rfl, H.bat 6 rfl (j := 0) rfl, H.bat 6 rfl (j := 1) rfl⟩
        clear hK K
        try simp only [sA, sB, sC, Act.put, sD, sE, sF]
        refine wpAnyH_ready (rs := [3]) (by kernel_rfl) (by simp) ?_
        refine (AllReadyH.cons rfl (fun K hK => ?_) AllReadyH.nil)
        go_simp
        refine (copyFil_any z E q r l _ (H.old h2) hcE hq).mono ?_
        rintro e u4 ⟨E1, r1, rfl, K1⟩
        replace H := H.join K1
        clear K1
        go_wp2_with fail
        refine hK.out _ _ ?_ (fun hHeld => ?_)
        · exact ⟨H.bat 8 rfl (j := 0) rfl, H.bat 8 rfl (j := 1) rfl, H.bat 7 rfl (j := 0) rfl, H.bat 7 rfl (j := 1) rfl⟩
        clear hK K
        try simp only [sA, sB, sC, Act.put, sD, sE, sF]
        refine wpAnyH_ready (rs := [6]) (by kernel_rfl) (by simp) ?_
        refine (AllReadyH.cons rfl (fun K hK => ?_) AllReadyH.nil)
        replace H := H.reord [1, 2, 0, 3, 4, 5, 6, 7, 8] (n := 9) rfl (by decide)
        have e0 := H.bfree 3 rfl 0
        have e1 := H.bfree 3 rfl 1
        have s0 := H.bat 3 rfl (j := 0) rfl
        have s1 := H.bat 3 rfl (j := 1) rfl
        replace H := (H.bput 3 rfl 0 (.slice A1 n c1)).bput 3 rfl 1 (.slice B1 m d1)
        go_simp
        refine hK.out _ _ ?_ (fun hHeld => ?_)
        · exact ⟨H.bat 8 rfl (j := 0) rfl, H.bat 8 rfl (j := 1) rfl, H.bat 7 rfl (j := 0) rfl, H.bat 7 rfl (j := 1) rfl⟩
        clear hK K
        try simp only [sA, sB, sC, Act.put, sD, sE, sF]
        refine wpAnyH_ready (rs := [7]) (by kernel_rfl) (by simp) ?_
        refine (AllReadyH.cons rfl (fun K hK => ?_) AllReadyH.nil)
        have e0 := H.bfree 4 rfl 0
        have e1 := H.bfree 4 rfl 1
        have s0 := H.bat 4 rfl (j := 0) rfl
        have s1 := H.bat 4 rfl (j := 1) rfl
        replace H := (H.bput 4 rfl 0 (.int .i64 z)).bput 4 rfl 1 (.slice E1 q r1)
        go_simp
        refine hK.out _ _ ?_ (fun hHeld => ?_)
        · exact ⟨H.bat 8 rfl (j := 0) rfl, H.bat 8 rfl (j := 1) rfl, H.bat 7 rfl (j := 0) rfl, H.bat 7 rfl (j := 1) rfl⟩
        clear hK K
        try simp only [sA, sB, sC, Act.put, sD, sE, sF]
        refine wpAnyH_done (by kernel_rfl) ?_ _
        exact ⟨rfl, A1, c1, B1, d1, E1, r1, g9, g10, rfl, H⟩
  clear H t0 t1 t2 t3
  rintro a' w1 ⟨A1, c1, B1, d1, E1, r1, g9, g10, rfl, H⟩
  simp only [List.getElem_toArray, List.getElem_cons_succ, List.getElem_cons_zero, Act.put, List.setIfInBounds_toArray, List.set_cons_zero, List.set_cons_succ]
  have t0 := H.bat 8 rfl (j := 0) rfl
  have t1 := H.bat 8 rfl (j := 1) rfl
  have t2 := H.bat 7 rfl (j := 0) rfl
  have t3 := H.bat 7 rfl (j := 1) rfl
  go_wp2_with fail
  refine (implFilOk_any A n c bits B m d data z E q r l _ (H.old h0) (H.old h1) (H.old h2) hm hz hq).mono ?_
  rintro e w2 ⟨rfl, f2⟩
  replace H := H.go f2
  clear t0 t1 t2 t3
  have hw48 : IntKind.i64.wrap (48 - (txt.size : Int)) = 48 - (txt.size : Int) := IntWalk.i64_in _ (by omega)
  cases hok : filOk bits data z l with
  | false =>
    have HE := Lib.hid (show wrRes bits data z l off txt = (bits, data, z, l, false) by simp [wrRes, hok])
    clear hok
    go_wp2_with fail
    replace H := H.drew
    refine wp_region_held_drew (S := fun w' => w'.cell? ⟨g9, 0, none⟩ = some (.slice A1 n c1) ∧ w'.cell? ⟨g9, 1, none⟩ = some (.slice B1 m d1) ∧ w'.cell? ⟨g10, 0, none⟩ = some (.int .i64 z) ∧ w'.cell? ⟨g10, 1, none⟩ = some (.slice E1 q r1)) (by kernel_rfl) ?_ (fun hHeld => ?_)
    · exact ⟨H.bat 3 rfl (j := 0) rfl, H.bat 3 rfl (j := 1) rfl, H.bat 4 rfl (j := 0) rfl, H.bat 4 rfl (j := 1) rfl⟩
    obtain ⟨u0, hu0⟩ : ∃ uu : World, uu = w2.drew := ⟨_, rfl⟩
    rw [← hu0] at H hHeld ⊢
    clear hu0
    refine wpAnyH_take (i := 0) (v := ?_) rfl (by kernel_rfl) (by kernel_rfl) (by kernel_rfl) (fun _ _ _ h => h) (Or.inl ⟨by kernel_rfl, ?_⟩) (by assumption) ?_
    rotate_left
    · (intro w hSw; (try dsimp only at hSw); go_simp; try (with_reducible rfl))
    try simp only [sA, sB, sC, Act.put, sD, sE, sF]
    refine wpAnyH_take (i := 1) (v := ?_) rfl (by kernel_rfl) (by kernel_rfl) (by kernel_rfl) (fun _ _ _ h => h) (Or.inl ⟨by kernel_rfl, ?_⟩) (by assumption) ?_
    rotate_left
    · (intro w hSw; (try dsimp only at hSw); go_simp; try (with_reducible rfl))
    try simp only [sA, sB, sC, Act.put, sD, sE, sF]
    refine wpAnyH_ready (rs := [2]) (by kernel_rfl) (by simp) ?_
    refine (AllReadyH.cons rfl (fun K hK => ?_) AllReadyH.nil)
    have e0 := H.bfree 6 rfl 0
    have e1 := H.bfree 6 rfl 1
    have s0 := H.bat 6 rfl (j := 0) rfl
    have s1 := H.bat 6 rfl (j := 1) rfl
    replace H := (H.bput 6 rfl 0 (.slice A1 n c1)).bput 6 rfl 1 (.slice B1 m d1)
    go_simp
    refine hK.out _ _ ?_ (fun hHeld => ?_)
    · exact ⟨H.bat 3 rfl (j := 0) rfl, H.bat 3 rfl (j := 1) rfl, H.bat 4 rfl (j := 0) rfl, H.bat 4 rfl (j := 1) rfl⟩
    clear hK K
    try simp only [sA, sB, sC, Act.put, sD, sE, sF]
    refine wpAnyH_ready (rs := [3]) (by kernel_rfl) (by simp) ?_
    refine (AllReadyH.cons rfl (fun K hK => ?_) AllReadyH.nil)
    have e0 := H.bfree 5 rfl 0
    have e1 := H.bfree 5 rfl 1
    have s0 := H.bat 5 rfl (j := 0) rfl
    have s1 := H.bat 5 rfl (j := 1) rfl
    replace H := (H.bput 5 rfl 0 (.int .i64 z)).bput 5 rfl 1 (.slice E1 q r1)
    go_simp
    refine hK.out _ _ ?_ (fun hHeld => ?_)
    · exact ⟨H.bat 3 rfl (j := 0) rfl, H.bat 3 rfl (j := 1) rfl, H.bat 4 rfl (j := 0) rfl, H.bat 4 rfl (j := 1) rfl⟩
    clear hK K
    try simp only [sA, sB, sC, Act.put, sD, sE, sF]
    refine wpAnyH_take (i := 4) (v := ?_) rfl (by kernel_rfl) (by kernel_rfl) (by kernel_rfl) (fun _ _ _ h => h) (Or.inl ⟨by kernel_rfl, ?_⟩) (by assumption) ?_
    rotate_left
    · (intro w hSw; (try dsimp only at hSw); go_simp; try (with_reducible rfl))
    try simp only [sA, sB, sC, Act.put, sD, sE, sF]
    refine wpAnyH_done (by kernel_rfl) ?_ _
    have x1 := H.bat 6 rfl (j := 0) rfl
    have x2 := H.bat 6 rfl (j := 1) rfl
    have x3 := H.bat 5 rfl (j := 0) rfl
    have x4 := H.bat 5 rfl (j := 1) rfl
    have H7 := Lib.hid H
    clear H
    go_wp2_with fail
    refine bodyPost_ret (v := .tuple #[.agg #[.slice A1 n c1, .slice B1 m d1], .agg #[.int .i64 z, .slice E1 q r1], .bool false]) (by simp [results, Try.results33, go_sem, x1, x2, x3, x4]) rfl ?_
    refine .of HE.out ⟨A1, c1, B1, d1, _, _, _, rfl, HL.out, ?_⟩
    exact H7.out.sub (l' := [.row 4 1 (.slice A1 n c1) n (bits.map Value.bool), .row 9 1 (.slice B1 m d1) m (data.map Value.string), .row 92 3 (.slice E1 q r1) q (l.flatMap cExt)]) (.cons_cons _ (.cons_cons _ (.cons_cons _ (List.nil_sublist _))))
  | true =>
    by_cases ho0 : off < 0
    · have HE := Lib.hid (show wrRes bits data z l off txt = (bits, data, z, l, false) by simp [wrRes, show ¬ 0 ≤ off by omega])
      clear hok
      go_wp2_with fail
      replace H := H.drew
      refine wp_region_held_drew (S := fun w' => w'.cell? ⟨g9, 0, none⟩ = some (.slice A1 n c1) ∧ w'.cell? ⟨g9, 1, none⟩ = some (.slice B1 m d1) ∧ w'.cell? ⟨g10, 0, none⟩ = some (.int .i64 z) ∧ w'.cell? ⟨g10, 1, none⟩ = some (.slice E1 q r1)) (by kernel_rfl) ?_ (fun hHeld => ?_)
      · exact ⟨H.bat 3 rfl (j := 0) rfl, H.bat 3 rfl (j := 1) rfl, H.bat 4 rfl (j := 0) rfl, H.bat 4 rfl (j := 1) rfl⟩
      obtain ⟨u0, hu0⟩ : ∃ uu : World, uu = w2.drew := ⟨_, rfl⟩
      rw [← hu0] at H hHeld ⊢
      clear hu0
      refine wpAnyH_take (i := 0) (v := ?_) rfl (by kernel_rfl) (by kernel_rfl) (by kernel_rfl) (fun _ _ _ h => h) (Or.inl ⟨by kernel_rfl, ?_⟩) (by assumption) ?_
      rotate_left
      · (intro w hSw; (try dsimp only at hSw); go_simp; try (with_reducible rfl))
      try simp only [sA, sB, sC, Act.put, sD, sE, sF]
      refine wpAnyH_take (i := 1) (v := ?_) rfl (by kernel_rfl) (by kernel_rfl) (by kernel_rfl) (fun _ _ _ h => h) (Or.inl ⟨by kernel_rfl, ?_⟩) (by assumption) ?_
      rotate_left
      · (intro w hSw; (try dsimp only at hSw); go_simp; try (with_reducible rfl))
      try simp only [sA, sB, sC, Act.put, sD, sE, sF]
      refine wpAnyH_ready (rs := [2]) (by kernel_rfl) (by simp) ?_
      refine (AllReadyH.cons rfl (fun K hK => ?_) AllReadyH.nil)
      have e0 := H.bfree 6 rfl 0
      have e1 := H.bfree 6 rfl 1
      have s0 := H.bat 6 rfl (j := 0) rfl
      have s1 := H.bat 6 rfl (j := 1) rfl
      replace H := (H.bput 6 rfl 0 (.slice A1 n c1)).bput 6 rfl 1 (.slice B1 m d1)
      go_simp
      refine hK.out _ _ ?_ (fun hHeld => ?_)
      · exact ⟨H.bat 3 rfl (j := 0) rfl, H.bat 3 rfl (j := 1) rfl, H.bat 4 rfl (j := 0) rfl, H.bat 4 rfl (j := 1) rfl⟩
      clear hK K
      try simp only [sA, sB, sC, Act.put, sD, sE, sF]
      refine wpAnyH_ready (rs := [3]) (by kernel_rfl) (by simp) ?_
      refine (AllReadyH.cons rfl (fun K hK => ?_) AllReadyH.nil)
      have e0 := H.bfree 5 rfl 0
      have e1 := H.bfree 5 rfl 1
      have s0 := H.bat 5 rfl (j := 0) rfl
      have s1 := H.bat 5 rfl (j := 1) rfl
      replace H := (H.bput 5 rfl 0 (.int .i64 z)).bput 5 rfl 1 (.slice E1 q r1)
      go_simp
      refine hK.out _ _ ?_ (fun hHeld => ?_)
      · exact ⟨H.bat 3 rfl (j := 0) rfl, H.bat 3 rfl (j := 1) rfl, H.bat 4 rfl (j := 0) rfl, H.bat 4 rfl (j := 1) rfl⟩
      clear hK K
      try simp only [sA, sB, sC, Act.put, sD, sE, sF]
      refine wpAnyH_take (i := 4) (v := ?_) rfl (by kernel_rfl) (by kernel_rfl) (by kernel_rfl) (fun _ _ _ h => h) (Or.inl ⟨by kernel_rfl, ?_⟩) (by assumption) ?_
      rotate_left
      · (intro w hSw; (try dsimp only at hSw); go_simp; try (with_reducible rfl))
      try simp only [sA, sB, sC, Act.put, sD, sE, sF]
      refine wpAnyH_done (by kernel_rfl) ?_ _
      have x1 := H.bat 6 rfl (j := 0) rfl
      have x2 := H.bat 6 rfl (j := 1) rfl
      have x3 := H.bat 5 rfl (j := 0) rfl
      have x4 := H.bat 5 rfl (j := 1) rfl
      have H7 := Lib.hid H
      clear H
      go_wp2_with fail
      refine bodyPost_ret (v := .tuple #[.agg #[.slice A1 n c1, .slice B1 m d1], .agg #[.int .i64 z, .slice E1 q r1], .bool false]) (by simp [results, Try.results33, go_sem, x1, x2, x3, x4]) rfl ?_
      refine .of HE.out ⟨A1, c1, B1, d1, _, _, _, rfl, HL.out, ?_⟩
      exact H7.out.sub (l' := [.row 4 1 (.slice A1 n c1) n (bits.map Value.bool), .row 9 1 (.slice B1 m d1) m (data.map Value.string), .row 92 3 (.slice E1 q r1) q (l.flatMap cExt)]) (.cons_cons _ (.cons_cons _ (.cons_cons _ (List.nil_sublist _))))
    by_cases ho1 : 48 - (txt.size : Int) < off
    · have HE := Lib.hid (show wrRes bits data z l off txt = (bits, data, z, l, false) by simp [wrRes, show ¬ off ≤ 48 - (txt.size : Int) by omega])
      clear hok
      go_wp2_with fail
      replace H := H.drew
      refine wp_region_held_drew (S := fun w' => w'.cell? ⟨g9, 0, none⟩ = some (.slice A1 n c1) ∧ w'.cell? ⟨g9, 1, none⟩ = some (.slice B1 m d1) ∧ w'.cell? ⟨g10, 0, none⟩ = some (.int .i64 z) ∧ w'.cell? ⟨g10, 1, none⟩ = some (.slice E1 q r1)) (by kernel_rfl) ?_ (fun hHeld => ?_)
      · exact ⟨H.bat 3 rfl (j := 0) rfl, H.bat 3 rfl (j := 1) rfl, H.bat 4 rfl (j := 0) rfl, H.bat 4 rfl (j := 1) rfl⟩
      obtain ⟨u0, hu0⟩ : ∃ uu : World, uu = w2.drew := ⟨_, rfl⟩
      rw [← hu0] at H hHeld ⊢
      clear hu0
      refine wpAnyH_take (i := 0) (v := ?_) rfl (by kernel_rfl) (by kernel_rfl) (by kernel_rfl) (fun _ _ _ h => h) (Or.inl ⟨by kernel_rfl, ?_⟩) (by assumption) ?_
      rotate_left
      · (intro w hSw; (try dsimp only at hSw); go_simp; try (with_reducible rfl))
      try simp only [sA, sB, sC, Act.put, sD, sE, sF]
      refine wpAnyH_take (i := 1) (v := ?_) rfl (by kernel_rfl) (by kernel_rfl) (by kernel_rfl) (fun _ _ _ h => h) (Or.inl ⟨by kernel_rfl, ?_⟩) (by assumption) ?_
      rotate_left
      · (intro w hSw; (try dsimp only at hSw); go_simp; try (with_reducible rfl))
      try simp only [sA, sB, sC, Act.put, sD, sE, sF]
      refine wpAnyH_ready (rs := [2]) (by kernel_rfl) (by simp) ?_
      refine (AllReadyH.cons rfl (fun K hK => ?_) AllReadyH.nil)
      have e0 := H.bfree 6 rfl 0
      have e1 := H.bfree 6 rfl 1
      have s0 := H.bat 6 rfl (j := 0) rfl
      have s1 := H.bat 6 rfl (j := 1) rfl
      replace H := (H.bput 6 rfl 0 (.slice A1 n c1)).bput 6 rfl 1 (.slice B1 m d1)
      go_simp
      refine hK.out _ _ ?_ (fun hHeld => ?_)
      · exact ⟨H.bat 3 rfl (j := 0) rfl, H.bat 3 rfl (j := 1) rfl, H.bat 4 rfl (j := 0) rfl, H.bat 4 rfl (j := 1) rfl⟩
      clear hK K
      try simp only [sA, sB, sC, Act.put, sD, sE, sF]
      refine wpAnyH_ready (rs := [3]) (by kernel_rfl) (by simp) ?_
      refine (AllReadyH.cons rfl (fun K hK => ?_) AllReadyH.nil)
      have e0 := H.bfree 5 rfl 0
      have e1 := H.bfree 5 rfl 1
      have s0 := H.bat 5 rfl (j := 0) rfl
      have s1 := H.bat 5 rfl (j := 1) rfl
      replace H := (H.bput 5 rfl 0 (.int .i64 z)).bput 5 rfl 1 (.slice E1 q r1)
      go_simp
      refine hK.out _ _ ?_ (fun hHeld => ?_)
      · exact ⟨H.bat 3 rfl (j := 0) rfl, H.bat 3 rfl (j := 1) rfl, H.bat 4 rfl (j := 0) rfl, H.bat 4 rfl (j := 1) rfl⟩
      clear hK K
      try simp only [sA, sB, sC, Act.put, sD, sE, sF]
      refine wpAnyH_take (i := 4) (v := ?_) rfl (by kernel_rfl) (by kernel_rfl) (by kernel_rfl) (fun _ _ _ h => h) (Or.inl ⟨by kernel_rfl, ?_⟩) (by assumption) ?_
      rotate_left
      · (intro w hSw; (try dsimp only at hSw); go_simp; try (with_reducible rfl))
      try simp only [sA, sB, sC, Act.put, sD, sE, sF]
      refine wpAnyH_done (by kernel_rfl) ?_ _
      have x1 := H.bat 6 rfl (j := 0) rfl
      have x2 := H.bat 6 rfl (j := 1) rfl
      have x3 := H.bat 5 rfl (j := 0) rfl
      have x4 := H.bat 5 rfl (j := 1) rfl
      have H7 := Lib.hid H
      clear H
      go_wp2_with fail
      refine bodyPost_ret (v := .tuple #[.agg #[.slice A1 n c1, .slice B1 m d1], .agg #[.int .i64 z, .slice E1 q r1], .bool false]) (by simp [results, Try.results33, go_sem, x1, x2, x3, x4]) rfl ?_
      refine .of HE.out ⟨A1, c1, B1, d1, _, _, _, rfl, HL.out, ?_⟩
      exact H7.out.sub (l' := [.row 4 1 (.slice A1 n c1) n (bits.map Value.bool), .row 9 1 (.slice B1 m d1) m (data.map Value.string), .row 92 3 (.slice E1 q r1) q (l.flatMap cExt)]) (.cons_cons _ (.cons_cons _ (.cons_cons _ (List.nil_sublist _))))
    obtain ⟨o, rfl⟩ : ∃ u : Nat, off = u := ⟨off.toNat, by omega⟩
    by_cases ht0 : txt.size = 0
    · have HE := Lib.hid (show wrRes bits data z l o txt = (bits, data, z, l, true) by simp [wrRes, hok, ht0, show (o : Int) ≤ 48 by omega])
      have htb : toB txt = [] := List.eq_nil_of_length_eq_zero (by rw [toB_len]; exact ht0)
      have he1 : (txt.toList == (ByteArray.mk #[]).toList) = true := by rw [cmpB, htb]; rfl
      have he2 : (txt.toList == []) = true := by rw [toList_B, htb]; rfl
      clear hok htb
      go_wp2_with fail
      replace H := H.drew
      refine wp_region_held_drew (S := fun w' => w'.cell? ⟨g9, 0, none⟩ = some (.slice A1 n c1) ∧ w'.cell? ⟨g9, 1, none⟩ = some (.slice B1 m d1) ∧ w'.cell? ⟨g10, 0, none⟩ = some (.int .i64 z) ∧ w'.cell? ⟨g10, 1, none⟩ = some (.slice E1 q r1)) (by kernel_rfl) ?_ (fun hHeld => ?_)
      · exact ⟨H.bat 3 rfl (j := 0) rfl, H.bat 3 rfl (j := 1) rfl, H.bat 4 rfl (j := 0) rfl, H.bat 4 rfl (j := 1) rfl⟩
      obtain ⟨u0, hu0⟩ : ∃ uu : World, uu = w2.drew := ⟨_, rfl⟩
      rw [← hu0] at H hHeld ⊢
      clear hu0
      refine wpAnyH_take (i := 0) (v := ?_) rfl (by kernel_rfl) (by kernel_rfl) (by kernel_rfl) (fun _ _ _ h => h) (Or.inl ⟨by kernel_rfl, ?_⟩) (by assumption) ?_
      rotate_left
      · (intro w hSw; (try dsimp only at hSw); go_simp; try (with_reducible rfl))
      try simp only [sA, sB, sC, Act.put, sD, sE, sF]
      refine wpAnyH_take (i := 1) (v := ?_) rfl (by kernel_rfl) (by kernel_rfl) (by kernel_rfl) (fun _ _ _ h => h) (Or.inl ⟨by kernel_rfl, ?_⟩) (by assumption) ?_
      rotate_left
      · (intro w hSw; (try dsimp only at hSw); go_simp; try (with_reducible rfl))
      try simp only [sA, sB, sC, Act.put, sD, sE, sF]
      refine wpAnyH_ready (rs := [2]) (by kernel_rfl) (by simp) ?_
      refine (AllReadyH.cons rfl (fun K hK => ?_) AllReadyH.nil)
      have e0 := H.bfree 6 rfl 0
      have e1 := H.bfree 6 rfl 1
      have s0 := H.bat 6 rfl (j := 0) rfl
      have s1 := H.bat 6 rfl (j := 1) rfl
      replace H := (H.bput 6 rfl 0 (.slice A1 n c1)).bput 6 rfl 1 (.slice B1 m d1)
      go_simp
      refine hK.out _ _ ?_ (fun hHeld => ?_)
      · exact ⟨H.bat 3 rfl (j := 0) rfl, H.bat 3 rfl (j := 1) rfl, H.bat 4 rfl (j := 0) rfl, H.bat 4 rfl (j := 1) rfl⟩
      clear hK K
      try simp only [sA, sB, sC, Act.put, sD, sE, sF]
      refine wpAnyH_ready (rs := [3]) (by kernel_rfl) (by simp) ?_
      refine (AllReadyH.cons rfl (fun K hK => ?_) AllReadyH.nil)
      have e0 := H.bfree 5 rfl 0
      have e1 := H.bfree 5 rfl 1
      have s0 := H.bat 5 rfl (j := 0) rfl
      have s1 := H.bat 5 rfl (j := 1) rfl
      replace H := (H.bput 5 rfl 0 (.int .i64 z)).bput 5 rfl 1 (.slice E1 q r1)
      go_simp
      refine hK.out _ _ ?_ (fun hHeld => ?_)
      · exact ⟨H.bat 3 rfl (j := 0) rfl, H.bat 3 rfl (j := 1) rfl, H.bat 4 rfl (j := 0) rfl, H.bat 4 rfl (j := 1) rfl⟩
      clear hK K
      try simp only [sA, sB, sC, Act.put, sD, sE, sF]
      refine wpAnyH_take (i := 4) (v := ?_) rfl (by kernel_rfl) (by kernel_rfl) (by kernel_rfl) (fun _ _ _ h => h) (Or.inl ⟨by kernel_rfl, ?_⟩) (by assumption) ?_
      rotate_left
      · (intro w hSw; (try dsimp only at hSw); go_simp; try (with_reducible rfl))
      try simp only [sA, sB, sC, Act.put, sD, sE, sF]
      refine wpAnyH_done (by kernel_rfl) ?_ _
      have x1 := H.bat 6 rfl (j := 0) rfl
      have x2 := H.bat 6 rfl (j := 1) rfl
      have x3 := H.bat 5 rfl (j := 0) rfl
      have x4 := H.bat 5 rfl (j := 1) rfl
      have H7 := Lib.hid H
      clear H
      go_wp2_with fail
      refine bodyPost_ret (v := .tuple #[.agg #[.slice A1 n c1, .slice B1 m d1], .agg #[.int .i64 z, .slice E1 q r1], .bool true]) (by simp [results, Try.results33, go_sem, x1, x2, x3, x4]) rfl ?_
      refine .of HE.out ⟨A1, c1, B1, d1, _, _, _, rfl, HL.out, ?_⟩
      exact H7.out.sub (l' := [.row 4 1 (.slice A1 n c1) n (bits.map Value.bool), .row 9 1 (.slice B1 m d1) m (data.map Value.string), .row 92 3 (.slice E1 q r1) q (l.flatMap cExt)]) (.cons_cons _ (.cons_cons _ (.cons_cons _ (List.nil_sublist _))))
    have htb : toB txt ≠ [] := fun h => ht0 (by rw [← toB_len, h]; rfl)
    have he1 : (txt.toList == (ByteArray.mk #[]).toList) = false := by rw [cmpB]; exact decide_eq_false htb
    have he2 : (txt.toList == []) = false := by rw [toList_B]; simpa using htb
    obtain ⟨hst, _, _, _⟩ := filOk_parts hok
    have ST := Lib.hid (stOk_iff.1 hst)
    have hn24 : n = 24 := by have := h0.len1; rw [ST.out.1] at this; exact this.symm
    have hm24 : m = 24 := by have := h1.len1; rw [ST.out.2.1] at this; exact this.symm
    subst hn24 hm24
    have htx4 : txt.size ≤ 48 := by omega
    obtain ⟨en, hen⟩ : ∃ x, x = o + txt.size := ⟨_, rfl⟩
    have hwe : IntKind.i64.wrap ((o : Int) + (txt.size : Int)) = (en : Int) := by rw [IntWalk.i64_in _ (by omega)]; omega
    have hoe : o < en := by omega
    have hen48 : en ≤ 48 := by omega
    have HEN := Lib.hid hen
    obtain ⟨st, hst4⟩ : ∃ x, x = o / 4 := ⟨_, rfl⟩
    have hwo1 : IntKind.i64.wrap ((o : Int).tdiv 4) = (st : Int) := by rw [Int.tdiv_eq_ediv_of_nonneg (by omega), IntWalk.i64_in _ (by omega)]; omega
    have hwo2 : (o : Int) / 4 = (st : Int) := by omega
    obtain ⟨nd, hnd⟩ : ∃ x, x = (en + 3) / 4 := ⟨_, rfl⟩
    have hends : endsI (en : Int) = (nd : Int) := by unfold endsI; omega
    have hnd12 : nd ≤ 12 := by omega
    have hsn : st < nd := by omega
    have HST := Lib.hid hst4
    have HND := Lib.hid hnd
    have HRES := Lib.hid (show ∀ r, wFin bits data z l en (wTo o en txt (bits, data, l) (nd - st)) = r → wrRes bits data z l o txt = r from fun r hr => by
      rw [wrRes, if_pos (by simp [hok]; omega), if_neg ht0, Int.toNat_natCast, ← hr, wN, ← hen, ← hnd, ← hst4])
    have hen0 : (0 : Int) ≤ (en : Int) := by omega
    have hen1 : (en : Int) ≤ 1000 := by omega
    have HT := Lib.hid (show txt.size = en - o by omega)
    obtain ⟨gA, cA, e, _⟩ := H.form 0 rfl (by decide)
    injection e with e1 _ e2
    subst e1 e2
    obtain ⟨gB, cB, e, _⟩ := H.form 1 rfl (by decide)
    injection e with e1 _ e2
    subst e1 e2
    clear hok htb hst hen hst4 hnd
    go_wp2_with fail
    go_loopw [14] (fun kv wr => ∃ (k : Nat) (bs : List Bool) (ds : List ByteArray) (ls : List (Int × Int × Int)) (E2 : Option Addr) (q2 r2 : Nat), kv = .int .i64 ((st + k : Nat) : Int) ∧ st + k ≤ nd ∧ wTo o en txt (bits, data, l) k = some (bs, ds, ls) ∧ bs.length = 24 ∧ ds.length = 24 ∧ (∀ s ∈ ds, s.size = 4) ∧ ls.length = q2 ∧ q2 ≤ 1048576 ∧
      Hp [] w wr [.row 4 1 (.slice (some ⟨gA, 0, none⟩) 24 c1) 24 (bs.map Value.bool), .row 9 1 (.slice (some ⟨gB, 0, none⟩) 24 d1) 24 (ds.map Value.string), .row 92 3 (.slice E2 q2 r2) q2 (ls.flatMap cExt), .blk g9 31 [.slice (some ⟨gA, 0, none⟩) 24 c1, .slice (some ⟨gB, 0, none⟩) 24 d1], .blk g10 34 [.int .i64 z, .slice E2 q2 r2],
      .blk (w.heap.size + 1 + 1 + 1) 34 [.int .i64 0, .slice none 0 0], .blk (w.heap.size + 1 + 1) 31 [.slice none 0 0, .slice none 0 0], .blk (w.heap.size + 1) 34 [.int .i64 z, .slice E q r], .blk w.heap.size 31 [.slice A 24 c, .slice B 24 d]]) (fun kv _ => 24 - (intOf kv).toNat)
    case atStart => exact ⟨0, bits, data, l, E1, q, r1, by simp, by omega, rfl, ST.out.1, ST.out.2.1, ST.out.2.2, HL.out, by omega, H⟩
    case round =>
      clear H
      obtain ⟨k, bs, ds, ls, E2, q2, r2, rfl, hk, hTO, hb24, hd24, hd4, hls, hq2, H⟩ := hrel
      have HTO := Lib.hid hTO
      have HB24 := Lib.hid hb24
      have HD := Lib.hid (And.intro hd24 hd4)
      have HLS := Lib.hid hls
      clear hTO hb24 hd24 hd4 hls
      obtain ⟨i, hi⟩ : ∃ x, x = st + k := ⟨_, rfl⟩
      rw [← hi] at hk ⊢
      have hi12 : i ≤ 12 := by omega
      by_cases hlt : i < nd
      · have hfr : max o (i * 4) ≤ min en ((i + 1) * 4) := by have := HST.out; have := HND.out; omega
        obtain ⟨fr, hfr1⟩ : ∃ x, x = max o (i * 4) := ⟨_, rfl⟩
        obtain ⟨tt, htt1⟩ : ∃ x, x = min en ((i + 1) * 4) := ⟨_, rfl⟩
        have hb1 : o ≤ fr ∧ i * 4 ≤ fr ∧ fr ≤ tt ∧ tt ≤ en ∧ tt ≤ (i + 1) * 4 := by omega
        obtain ⟨p1, hp1⟩ : ∃ x, x = fr - i * 4 := ⟨_, rfl⟩
        obtain ⟨p2, hp2⟩ : ∃ x, x = fr - o := ⟨_, rfl⟩
        obtain ⟨p3, hp3⟩ : ∃ x, x = tt - o := ⟨_, rfl⟩
        have hts := HT.out
        have hp23 : p2 ≤ p3 ∧ p3 ≤ txt.size ∧ p1 + (p3 - p2) ≤ 4 := by omega
        have HPUT := Lib.hid (show ∀ (D : List ByteArray) (b : Nat), wPut D b o en i txt = D.set b (intoS (D.getD b ⟨#[]⟩) p1 (txt.extract p2 p3)) from fun D b => by rw [wPut, ← hfr1, ← htt1, ← hp1, ← hp2, ← hp3])
        have hwi1 : IntKind.i64.wrap ((i : Int) * 4) = ((i * 4 : Nat) : Int) := by rw [IntWalk.i64_in _ (by omega)]; omega
        have hwi2 : IntKind.i64.wrap ((i : Int) + 1) = ((i + 1 : Nat) : Int) := by rw [IntWalk.i64_in _ (by omega)]; omega
        have hwi3 : IntKind.i64.wrap (((i + 1 : Nat) : Int) * 4) = (((i + 1) * 4 : Nat) : Int) := by rw [IntWalk.i64_in _ (by omega)]; omega
        have hwi4 : IntKind.i64.wrap ((fr : Int) - ((i * 4 : Nat) : Int)) = (p1 : Int) := by rw [IntWalk.i64_in _ (by omega)]; omega
        have hwi5 : IntKind.i64.wrap ((fr : Int) - (o : Int)) = (p2 : Int) := by rw [IntWalk.i64_in _ (by omega)]; omega
        have hwi6 : IntKind.i64.wrap ((tt : Int) - (o : Int)) = (p3 : Int) := by rw [IntWalk.i64_in _ (by omega)]; omega
        have hmx : max (o : Int) ((i * 4 : Nat) : Int) = (fr : Int) := by omega
        have hmn : min (en : Int) (((i + 1) * 4 : Nat) : Int) = (tt : Int) := by omega
        have hv1 : (p2 : Int) ≤ (p3 : Int) := by omega
        have hv2 : (p3 : Int) ≤ (txt.size : Int) := by omega
        have hv3 : (0 : Int) ≤ (p2 : Int) := by omega
        have hv4 : (0 : Int) ≤ (p3 : Int) := by omega
        have HI := Lib.hid hi
        have HSUC := Lib.hid (wTo_succ HTO.out)
        rw [← HST.out, ← hi] at HSUC
        have HDEF := Lib.hid (And.intro hfr1 (And.intro htt1 (And.intro hp1 (And.intro hp2 hp3))))
        clear hfr hfr1 htt1 hp1 hp2 hp3 hts hi
        have g0 := H.bat 4 rfl (j := 1) rfl
        go_wp2_with fail
        refine (ends_any en hen0 hen1 _).mono ?_
        rintro e9 w9 ⟨rfl, rfl⟩
        rw [hends]
        have hil : decide ((i : Int) < (nd : Int)) = true := decide_eq_true (by omega)
        go_wp2_with fail
        refine (implBlockAt_any E2 q2 r2 ls i _ (H.rd 2 rfl) hq2).mono ?_
        rintro e w3 ⟨rfl, f3⟩
        replace H := H.go f3
        clear f3 g0
        have hb23 := blockAt_le (l := ls) (i : Int)
        by_cases hb0 : 0 ≤ blockAtL ls i
        · obtain ⟨b, hb⟩ : ∃ u : Nat, blockAtL ls i = u := ⟨(blockAtL ls i).toNat, by omega⟩
          have HSTEP := Lib.hid (HSUC.out.trans (wStep_old hb))
          rw [hb]
          have hb24 : b < 24 := by omega
          have hbn : decide ((b : Int) < 0) = false := decide_eq_false (by omega)
          clear hb hb0 hb23
          obtain ⟨s, hs⟩ := at_some HD.out.1 hb24
          have hs4 : s.size = 4 := HD.out.2 s hs.mem
          have hxs : (txt.extract p2 p3).size = p3 - p2 := by rw [ByteArray.size_extract]; omega
          have HPUT2 := Lib.hid (show wPut ds b o en i txt = ds.set b (intoS s p1 (txt.extract p2 p3)) by rw [HPUT.out, show (ds).getD b ⟨#[]⟩ = s by rw [List.getD_eq_getElem?_getD, show (ds)[b]? = some s from hs]; rfl])
          have HNEW := Lib.hid (wPut_ok (b := b) (o := o) (en := en) (i := i) (txt := txt) HD.out.1 HD.out.2 (by have := HST.out; have := HI.out; omega) hoe (by have := HND.out; omega))
          have HXS := Lib.hid hxs
          have HKV := Lib.hid (show (Value.int .i64 ((i + 1 : Nat) : Int)) = Value.int .i64 ((st + (k + 1) : Nat) : Int) by rw [HI.out]; rfl)
          have HKL := Lib.hid (show st + (k + 1) ≤ nd by have := HI.out; omega)
          clear hxs
          go_wp2_with fail
          all_goals (have hdf := HDEF.out; have hts := HT.out)
          all_goals first
            | (exfalso; clear hdf; omega)
            | skip
          all_goals
            refine calls_cast4 (x' := (p1 : Int)) (y' := p2) (z' := p3) (by omega) (by omega) (by omega) ?_
            clear hdf hts
            refine (store_any H 3 1 g9 gB 24 c1 24 d1 (some ⟨gA, 0, none⟩) ds rfl rfl b p1 s (txt.extract p2 p3) (by decide) hs hb24 (by rw [HXS.out, hs4]; omega) (by omega)).mono ?_
            rintro e w9 ⟨rfl, H9⟩
            clear H
            rw [← HPUT2.out] at H9
            have H9 := Lib.hid H9
            go_wp2_with fail
            go_roundw
            case rel => exact ⟨k + 1, bs, wPut ds b o en i txt, ls, _, _, _, by first | exact HKV.out | (rw [← HKV.out]; go_num), HKL.out, HSTEP.out, HB24.out, HNEW.out.1, HNEW.out.2, HLS.out, hq2, H9.out⟩
            case measure => simp [intOf]; omega
        · have hbn : decide (blockAtL ls i < 0) = true := decide_eq_true (by omega)
          have g1 := H.bat 3 rfl (j := 0) rfl
          go_wp2_with fail
          refine (implFindRun_any (some ⟨gA, 0, none⟩) 24 c1 bs 1 _ (H.rd 0 rfl)).mono ?_
          rintro e w4 ⟨rfl, f4⟩
          replace H := H.go f4
          clear f4 g1 hbn hb23
          rcases findR_one bs with hf | ⟨b, hf, hb24, hfree⟩
          · have HE := Lib.hid (HRES.out (bits, data, z, l, false) (by rw [wTo_none (HSUC.out.trans (wStep_full (by omega) hf)) _ (by have := HI.out; omega)]; rfl))
            rw [hf]
            go_wp2_with fail
            replace H := H.drew
            have t0 := H.bat 8 rfl (j := 0) rfl
            have t1 := H.bat 8 rfl (j := 1) rfl
            have t2 := H.bat 7 rfl (j := 0) rfl
            have t3 := H.bat 7 rfl (j := 1) rfl
            refine wp_region_held_drew (S := fun w' => w'.cell? ⟨w.heap.size, 0, none⟩ = some (.slice A 24 c) ∧ w'.cell? ⟨w.heap.size, 1, none⟩ = some (.slice B 24 d) ∧ w'.cell? ⟨w.heap.size + 1, 0, none⟩ = some (.int .i64 z) ∧ w'.cell? ⟨w.heap.size + 1, 1, none⟩ = some (.slice E q r)) (by kernel_rfl) ?_ (fun hHeld => ?_)
            · exact ⟨t0, t1, t2, t3⟩
            obtain ⟨u0, hu0⟩ : ∃ uu : World, uu = w4.drew := ⟨_, rfl⟩
            rw [← hu0] at H hHeld ⊢
            clear hu0
            refine wpAnyH_take (i := 0) (v := ?_) rfl (by kernel_rfl) (by kernel_rfl) (by kernel_rfl) (fun _ _ _ h => h) (Or.inl ⟨by kernel_rfl, ?_⟩) (by assumption) ?_
            rotate_left
            · (intro w hSw; (try dsimp only at hSw); go_simp; try (with_reducible rfl))
            try simp only [sA, sB, sC, Act.put, sD, sE, sF]
            refine wpAnyH_take (i := 2) (v := ?_) rfl (by kernel_rfl) (by kernel_rfl) (by kernel_rfl) (fun _ _ _ h => h) (Or.inl ⟨by kernel_rfl, ?_⟩) (by assumption) ?_
            rotate_left
            · (intro w hSw; (try dsimp only at hSw); go_simp; try (with_reducible rfl))
            try simp only [sA, sB, sC, Act.put, sD, sE, sF]
            refine wpAnyH_ready (rs := [1]) (by kernel_rfl) (by simp) ?_
            refine (AllReadyH.cons rfl (fun K hK => ?_) AllReadyH.nil)
            go_simp
            refine (copyStore_any A 24 c bits B 24 d data _ (H.old h0) (H.old h1) hcA hcB hn hm).mono ?_
            rintro e u1 ⟨A3, c3, B3, d3, rfl, K1⟩
            replace H := H.join K1
            clear K1
            go_wp2_with fail
            refine hK.out _ _ ?_ (fun hHeld => ?_)
            · exact ⟨H.bat 10 rfl (j := 0) rfl, H.bat 10 rfl (j := 1) rfl, H.bat 9 rfl (j := 0) rfl, H.bat 9 rfl (j := 1) rfl⟩
            clear hK K
            try simp only [sA, sB, sC, Act.put, sD, sE, sF]
            refine wpAnyH_ready (rs := [3]) (by kernel_rfl) (by simp) ?_
            refine (AllReadyH.cons rfl (fun K hK => ?_) AllReadyH.nil)
            go_simp
            refine (copyFil_any z E q r l _ (H.old h2) hcE hq).mono ?_
            rintro e u2 ⟨E3, r3, rfl, K1⟩
            replace H := H.join K1
            clear K1
            go_wp2_with fail
            refine hK.out _ _ ?_ (fun hHeld => ?_)
            · exact ⟨H.bat 11 rfl (j := 0) rfl, H.bat 11 rfl (j := 1) rfl, H.bat 10 rfl (j := 0) rfl, H.bat 10 rfl (j := 1) rfl⟩
            clear hK K
            try simp only [sA, sB, sC, Act.put, sD, sE, sF]
            refine wpAnyH_ready (rs := [4]) (by kernel_rfl) (by simp) ?_
            refine (AllReadyH.cons rfl (fun K hK => ?_) AllReadyH.nil)
            have e0 := H.bfree 9 rfl 0
            have e1 := H.bfree 9 rfl 1
            have s0 := H.bat 9 rfl (j := 0) rfl
            have s1 := H.bat 9 rfl (j := 1) rfl
            replace H := (H.bput 9 rfl 0 (.slice A3 24 c3)).bput 9 rfl 1 (.slice B3 24 d3)
            go_simp
            refine hK.out _ _ ?_ (fun hHeld => ?_)
            · exact ⟨H.bat 11 rfl (j := 0) rfl, H.bat 11 rfl (j := 1) rfl, H.bat 10 rfl (j := 0) rfl, H.bat 10 rfl (j := 1) rfl⟩
            clear hK K
            try simp only [sA, sB, sC, Act.put, sD, sE, sF]
            refine wpAnyH_ready (rs := [5]) (by kernel_rfl) (by simp) ?_
            refine (AllReadyH.cons rfl (fun K hK => ?_) AllReadyH.nil)
            have e0 := H.bfree 8 rfl 0
            have e1 := H.bfree 8 rfl 1
            have s0 := H.bat 8 rfl (j := 0) rfl
            have s1 := H.bat 8 rfl (j := 1) rfl
            replace H := (H.bput 8 rfl 0 (.int .i64 z)).bput 8 rfl 1 (.slice E3 q r3)
            go_simp
            refine hK.out _ _ ?_ (fun hHeld => ?_)
            · exact ⟨H.bat 11 rfl (j := 0) rfl, H.bat 11 rfl (j := 1) rfl, H.bat 10 rfl (j := 0) rfl, H.bat 10 rfl (j := 1) rfl⟩
            clear hK K
            try simp only [sA, sB, sC, Act.put, sD, sE, sF]
            refine wpAnyH_take (i := 6) (v := ?_) rfl (by kernel_rfl) (by kernel_rfl) (by kernel_rfl) (fun _ _ _ h => h) (Or.inl ⟨by kernel_rfl, ?_⟩) (by assumption) ?_
            rotate_left
            · (intro w hSw; (try dsimp only at hSw); go_simp; try (with_reducible rfl))
            try simp only [sA, sB, sC, Act.put, sD, sE, sF]
            refine wpAnyH_done (by kernel_rfl) ?_ _
            have x1 := H.bat 9 rfl (j := 0) rfl
            have x2 := H.bat 9 rfl (j := 1) rfl
            have x3 := H.bat 8 rfl (j := 0) rfl
            have x4 := H.bat 8 rfl (j := 1) rfl
            have H7 := Lib.hid (H.reord [1, 2, 0, 3, 4, 5, 6, 7, 8, 9, 10, 11] (n := 12) rfl (by decide))
            clear H
            go_wp2_with fail
            refine bodyPost_ret (v := .tuple #[.agg #[.slice A3 24 c3, .slice B3 24 d3], .agg #[.int .i64 z, .slice E3 q r3], .bool false]) (by simp [results, Try.results33, go_sem, x1, x2, x3, x4]) rfl ?_
            refine .of HE.out ⟨A3, c3, B3, d3, _, _, _, rfl, HL.out, ?_⟩
            exact H7.out.sub (l' := [.row 4 1 (.slice A3 24 c3) 24 (bits.map Value.bool), .row 9 1 (.slice B3 24 d3) 24 (data.map Value.string), .row 92 3 (.slice E3 q r3) q (l.flatMap cExt)]) (.cons_cons _ (.cons_cons _ (.cons_cons _ (List.nil_sublist _))))
          · have HSTEP := Lib.hid (HSUC.out.trans (wStep_new (by omega) hf))
            rw [hf]
            have hbn : decide ((b : Int) < 0) = false := decide_eq_false (by omega)
            have hb0' : (0 : Int) ≤ (b : Int) := by omega
            have hb1' : (b : Int) < 24 := by omega
            clear hf hb0
            have g1 := H.bat 3 rfl (j := 0) rfl
            have hfz := H.free 0 rfl b
            have hcz := H.atM (f1 := Value.bool) 0 rfl hfree
            replace H := H.putM (f1 := Value.bool) 0 rfl b true
            clear hfree
            go_wp2_with fail
            clear g1 hfz hcz
            replace H := H.drew
            obtain ⟨so, hso⟩ := at_some HD.out.1 hb24
            have HSO := Lib.hid hso
            have hz4a : (0 : Int) ≤ 4 := by decide
            have hz4b : (4 : Int) ≤ 1000 := by decide
            obtain ⟨s, hsz⟩ : ∃ s, s = ofB (zB 4) := ⟨_, rfl⟩
            have hs4 : s.size = 4 := by rw [hsz, ofB_size, zB, List.length_replicate]
            have HSZ := Lib.hid (show ofB (zB (4 : Int).toNat) = s by rw [hsz]; rfl)
            rw [← hsz] at HSTEP
            have hs : At (ds.set b s) b s := by rw [At, List.getElem?_set_self (by rw [HD.out.1]; exact hb24)]
            have HD' := Lib.hid (show (ds.set b s).length = 24 ∧ ∀ x ∈ ds.set b s, x.size = 4 by rw [hsz]; exact set4_ok HD.out.1 HD.out.2)
            have HB' := Lib.hid (show (bs.set b true).length = 24 by rw [List.length_set]; exact HB24.out)
            clear hso hsz
            refine wp_region_held_drew (S := fun w' => w'.cell? ⟨g9, 1, none⟩ = some (.slice (some ⟨gB, 0, none⟩) 24 d1)) (by kernel_rfl) ?_ (fun hHeld => ?_)
            · exact H.bat 3 rfl (j := 1) rfl
            obtain ⟨u0, hu0⟩ : ∃ uu : World, uu = (w4.setCell ⟨gA, b, none⟩ (.bool true)).drew := ⟨_, rfl⟩
            rw [← hu0] at H hHeld ⊢
            clear hu0
            refine wpAnyH_take (i := 0) (v := ?_) rfl (by kernel_rfl) (by kernel_rfl) (by kernel_rfl) (fun _ _ _ h => h) (Or.inl ⟨by kernel_rfl, ?_⟩) (by assumption) ?_
            rotate_left
            · (intro w hSw; (try dsimp only at hSw); go_simp; try (with_reducible rfl))
            try simp only [sA, sB, sC, Act.put, sD, sE, sF]
            refine wpAnyH_take (i := 1) (v := ?_) rfl (by kernel_rfl) (by kernel_rfl) (by kernel_rfl) (fun _ _ _ h => h) (Or.inl ⟨by kernel_rfl, ?_⟩) (by assumption) ?_
            rotate_left
            · (intro w hSw; (try dsimp only at hSw); go_simp; try (with_reducible rfl))
            try simp only [sA, sB, sC, Act.put, sD, sE, sF]
            refine wpAnyH_take (i := 2) (v := ?_) rfl (by kernel_rfl) (by kernel_rfl) (by kernel_rfl) (fun _ _ _ h => h) (Or.inl ⟨by kernel_rfl, ?_⟩) (by assumption) ?_
            rotate_left
            · (intro w hSw; (try dsimp only at hSw); go_simp; try (with_reducible rfl))
            try simp only [sA, sB, sC, Act.put, sD, sE, sF]
            refine wpAnyH_ready (rs := [3]) (by kernel_rfl) (by simp) ?_
            refine (AllReadyH.cons rfl (fun K hK => ?_) AllReadyH.nil)
            go_simp
            refine (implZeros_any 4 hz4a hz4b _).mono ?_
            rintro e u1 ⟨rfl, f8⟩
            replace H := H.go f8
            clear f8
            rw [HSZ.out]
            go_wp2_with fail
            refine hK.out _ _ ?_ (fun hHeld => ?_)
            · exact H.bat 3 rfl (j := 1) rfl
            clear hK K
            try simp only [sA, sB, sC, Act.put, sD, sE, sF]
            refine wpAnyH_take (i := 4) (v := ?_) rfl (by kernel_rfl) (by kernel_rfl) (by kernel_rfl) (fun _ _ _ h => h) (Or.inl ⟨by kernel_rfl, ?_⟩) (by assumption) ?_
            rotate_left
            · (intro w hSw; (try dsimp only at hSw); go_simp; try (with_reducible rfl))
            try simp only [sA, sB, sC, Act.put, sD, sE, sF]
            refine wpAnyH_ready (rs := [5]) (by kernel_rfl) (by simp) ?_
            refine (AllReadyH.cons rfl (fun K hK => ?_) AllReadyH.nil)
            have hf := H.free 1 rfl b
            have hcu := H.atM (f1 := Value.string) 1 rfl HSO.out
            replace H := H.putM (f1 := Value.string) 1 rfl b s
            go_simp
            refine hK.out _ _ ?_ (fun hHeld => ?_)
            · exact H.bat 3 rfl (j := 1) rfl
            clear hK K
            try simp only [sA, sB, sC, Act.put, sD, sE, sF]
            refine wpAnyH_done (by kernel_rfl) ?_ _
            have g3 := H.bat 4 rfl (j := 1) rfl
            have hnc := own_nc (H.row 2 rfl)
            go_wp2_with fail
            refine (implPutBlock_any E2 q2 r2 ls i b _ (H.rd 2 rfl) hnc hq2).mono ?_
            rintro e w6 ⟨E3, k3, r3, rfl, hk3, K⟩
            replace H := ((H.join K).reord [3, 1, 2, 0, 4, 5, 6, 7, 8, 9] (n := 10) rfl (by decide)).tail
            have hk3q : k3 ≤ 1048576 := by rw [← hk3]; exact putExts_le (by rw [HLS.out]; exact hq2) (by decide)
            have HK3 := Lib.hid hk3
            clear K hk3 g3 hnc
            have e1 := H.bfree 4 rfl 1
            have s1 := H.bat 4 rfl (j := 1) rfl
            replace H := H.bput 4 rfl 1 (.slice E3 k3 r3)
            have hxs : (txt.extract p2 p3).size = p3 - p2 := by rw [ByteArray.size_extract]; omega
            have HPUT2 := Lib.hid (show wPut (ds.set b s) b o en i txt = (ds.set b s).set b (intoS s p1 (txt.extract p2 p3)) by rw [HPUT.out, show ((ds.set b s)).getD b ⟨#[]⟩ = s by rw [List.getD_eq_getElem?_getD, show ((ds.set b s))[b]? = some s from hs]; rfl])
            have HNEW := Lib.hid (wPut_ok (b := b) (o := o) (en := en) (i := i) (txt := txt) HD'.out.1 HD'.out.2 (by have := HST.out; have := HI.out; omega) hoe (by have := HND.out; omega))
            have HXS := Lib.hid hxs
            have HKV := Lib.hid (show (Value.int .i64 ((i + 1 : Nat) : Int)) = Value.int .i64 ((st + (k + 1) : Nat) : Int) by rw [HI.out]; rfl)
            have HKL := Lib.hid (show st + (k + 1) ≤ nd by have := HI.out; omega)
            clear hxs
            go_wp2_with fail
            all_goals (have hdf := HDEF.out; have hts := HT.out)
            all_goals first
              | (exfalso; clear hdf; omega)
              | skip
            all_goals
              refine calls_cast4 (x' := (p1 : Int)) (y' := p2) (z' := p3) (by omega) (by omega) (by omega) ?_
              clear hdf hts
              refine (store_any H 3 1 g9 gB 24 c1 24 d1 (some ⟨gA, 0, none⟩) (ds.set b s) rfl rfl b p1 s (txt.extract p2 p3) (by decide) hs hb24 (by rw [HXS.out, hs4]; omega) (by omega)).mono ?_
              rintro e w9 ⟨rfl, H9⟩
              clear H
              rw [← HPUT2.out] at H9
              have H9 := Lib.hid H9
              go_wp2_with fail
              go_roundw
              case rel => exact ⟨k + 1, (bs.set b true), wPut (ds.set b s) b o en i txt, (putExts ls i b), _, _, _, by first | exact HKV.out | (rw [← HKV.out]; go_num), HKL.out, HSTEP.out, HB'.out, HNEW.out.1, HNEW.out.2, HK3.out, hk3q, H9.out⟩
              case measure => simp [intOf]; omega
      · have hil : decide ((i : Int) < (nd : Int)) = false := decide_eq_false (by omega)
        have HE0 := Lib.hid (HRES.out (bs, ds, max z (en : Int), ls, true) (by rw [show nd - st = k by omega, HTO.out]; rfl))
        clear hi
        go_wp2_with fail
        refine (ends_any en hen0 hen1 _).mono ?_
        rintro e9 w9 ⟨rfl, rfl⟩
        rw [hends]
        have t2 := H.bat 7 rfl (j := 0) rfl
        have e0 := H.bfree 4 rfl 0
        have s0 := H.bat 4 rfl (j := 0) rfl
        by_cases hzz : z < (en : Int)
        · have HE := Lib.hid (HE0.out.trans (by rw [show max z (en : Int) = en by omega] : _ = (bs, ds, (en : Int), ls, true)))
          replace H := H.bput 4 rfl 0 (.int .i64 en)
          go_wp2_with fail
          clear t2 e0 s0
          replace H := H.drew
          refine wp_region_held_drew (S := fun w' => w'.cell? ⟨g9, 0, none⟩ = some (.slice (some ⟨gA, 0, none⟩) 24 c1) ∧ w'.cell? ⟨g9, 1, none⟩ = some (.slice (some ⟨gB, 0, none⟩) 24 d1) ∧ w'.cell? ⟨g10, 0, none⟩ = some (.int .i64 en) ∧ w'.cell? ⟨g10, 1, none⟩ = some (.slice E2 q2 r2)) (by kernel_rfl) ?_ (fun hHeld => ?_)
          · exact ⟨H.bat 3 rfl (j := 0) rfl, H.bat 3 rfl (j := 1) rfl, H.bat 4 rfl (j := 0) rfl, H.bat 4 rfl (j := 1) rfl⟩
          obtain ⟨u0, hu0⟩ : ∃ uu : World, uu = (w9.setCell ⟨g10, 0, none⟩ (.int .i64 en)).drew := ⟨_, rfl⟩
          rw [← hu0] at H hHeld ⊢
          clear hu0
          refine wpAnyH_take (i := 0) (v := ?_) rfl (by kernel_rfl) (by kernel_rfl) (by kernel_rfl) (fun _ _ _ h => h) (Or.inl ⟨by kernel_rfl, ?_⟩) (by assumption) ?_
          rotate_left
          · (intro w hSw; (try dsimp only at hSw); go_simp; try (with_reducible rfl))
          try simp only [sA, sB, sC, Act.put, sD, sE, sF]
          refine wpAnyH_take (i := 1) (v := ?_) rfl (by kernel_rfl) (by kernel_rfl) (by kernel_rfl) (fun _ _ _ h => h) (Or.inl ⟨by kernel_rfl, ?_⟩) (by assumption) ?_
          rotate_left
          · (intro w hSw; (try dsimp only at hSw); go_simp; try (with_reducible rfl))
          try simp only [sA, sB, sC, Act.put, sD, sE, sF]
          refine wpAnyH_ready (rs := [2]) (by kernel_rfl) (by simp) ?_
          refine (AllReadyH.cons rfl (fun K hK => ?_) AllReadyH.nil)
          have e0 := H.bfree 6 rfl 0
          have e1 := H.bfree 6 rfl 1
          have s0 := H.bat 6 rfl (j := 0) rfl
          have s1 := H.bat 6 rfl (j := 1) rfl
          replace H := (H.bput 6 rfl 0 (.slice (some ⟨gA, 0, none⟩) 24 c1)).bput 6 rfl 1 (.slice (some ⟨gB, 0, none⟩) 24 d1)
          go_simp
          refine hK.out _ _ ?_ (fun hHeld => ?_)
          · exact ⟨H.bat 3 rfl (j := 0) rfl, H.bat 3 rfl (j := 1) rfl, H.bat 4 rfl (j := 0) rfl, H.bat 4 rfl (j := 1) rfl⟩
          clear hK K
          try simp only [sA, sB, sC, Act.put, sD, sE, sF]
          refine wpAnyH_ready (rs := [3]) (by kernel_rfl) (by simp) ?_
          refine (AllReadyH.cons rfl (fun K hK => ?_) AllReadyH.nil)
          have e0 := H.bfree 5 rfl 0
          have e1 := H.bfree 5 rfl 1
          have s0 := H.bat 5 rfl (j := 0) rfl
          have s1 := H.bat 5 rfl (j := 1) rfl
          replace H := (H.bput 5 rfl 0 (.int .i64 en)).bput 5 rfl 1 (.slice E2 q2 r2)
          go_simp
          refine hK.out _ _ ?_ (fun hHeld => ?_)
          · exact ⟨H.bat 3 rfl (j := 0) rfl, H.bat 3 rfl (j := 1) rfl, H.bat 4 rfl (j := 0) rfl, H.bat 4 rfl (j := 1) rfl⟩
          clear hK K
          try simp only [sA, sB, sC, Act.put, sD, sE, sF]
          refine wpAnyH_take (i := 4) (v := ?_) rfl (by kernel_rfl) (by kernel_rfl) (by kernel_rfl) (fun _ _ _ h => h) (Or.inl ⟨by kernel_rfl, ?_⟩) (by assumption) ?_
          rotate_left
          · (intro w hSw; (try dsimp only at hSw); go_simp; try (with_reducible rfl))
          try simp only [sA, sB, sC, Act.put, sD, sE, sF]
          refine wpAnyH_done (by kernel_rfl) ?_ _
          have x1 := H.bat 6 rfl (j := 0) rfl
          have x2 := H.bat 6 rfl (j := 1) rfl
          have x3 := H.bat 5 rfl (j := 0) rfl
          have x4 := H.bat 5 rfl (j := 1) rfl
          have H7 := Lib.hid H
          clear H
          go_wp2_with fail
          refine bodyPost_ret (v := .tuple #[.agg #[.slice (some ⟨gA, 0, none⟩) 24 c1, .slice (some ⟨gB, 0, none⟩) 24 d1], .agg #[.int .i64 en, .slice E2 q2 r2], .bool true]) (by simp [results, Try.results33, go_sem, x1, x2, x3, x4]) rfl ?_
          refine .of HE.out ⟨(some ⟨gA, 0, none⟩), c1, (some ⟨gB, 0, none⟩), d1, _, _, _, rfl, HLS.out, ?_⟩
          exact H7.out.sub (l' := [.row 4 1 (.slice (some ⟨gA, 0, none⟩) 24 c1) 24 (bs.map Value.bool), .row 9 1 (.slice (some ⟨gB, 0, none⟩) 24 d1) 24 (ds.map Value.string), .row 92 3 (.slice E2 q2 r2) q2 (ls.flatMap cExt)]) (.cons_cons _ (.cons_cons _ (.cons_cons _ (List.nil_sublist _))))
        · have HE := Lib.hid (HE0.out.trans (by rw [show max z (en : Int) = z by omega] : _ = (bs, ds, z, ls, true)))
          replace H := H.bput 4 rfl 0 (.int .i64 z)
          go_wp2_with fail
          clear t2 e0 s0
          replace H := H.drew
          refine wp_region_held_drew (S := fun w' => w'.cell? ⟨g9, 0, none⟩ = some (.slice (some ⟨gA, 0, none⟩) 24 c1) ∧ w'.cell? ⟨g9, 1, none⟩ = some (.slice (some ⟨gB, 0, none⟩) 24 d1) ∧ w'.cell? ⟨g10, 0, none⟩ = some (.int .i64 z) ∧ w'.cell? ⟨g10, 1, none⟩ = some (.slice E2 q2 r2)) (by kernel_rfl) ?_ (fun hHeld => ?_)
          · exact ⟨H.bat 3 rfl (j := 0) rfl, H.bat 3 rfl (j := 1) rfl, H.bat 4 rfl (j := 0) rfl, H.bat 4 rfl (j := 1) rfl⟩
          obtain ⟨u0, hu0⟩ : ∃ uu : World, uu = (w9.setCell ⟨g10, 0, none⟩ (.int .i64 z)).drew := ⟨_, rfl⟩
          rw [← hu0] at H hHeld ⊢
          clear hu0
          refine wpAnyH_take (i := 0) (v := ?_) rfl (by kernel_rfl) (by kernel_rfl) (by kernel_rfl) (fun _ _ _ h => h) (Or.inl ⟨by kernel_rfl, ?_⟩) (by assumption) ?_
          rotate_left
          · (intro w hSw; (try dsimp only at hSw); go_simp; try (with_reducible rfl))
          try simp only [sA, sB, sC, Act.put, sD, sE, sF]
          refine wpAnyH_take (i := 1) (v := ?_) rfl (by kernel_rfl) (by kernel_rfl) (by kernel_rfl) (fun _ _ _ h => h) (Or.inl ⟨by kernel_rfl, ?_⟩) (by assumption) ?_
          rotate_left
          · (intro w hSw; (try dsimp only at hSw); go_simp; try (with_reducible rfl))
          try simp only [sA, sB, sC, Act.put, sD, sE, sF]
          refine wpAnyH_ready (rs := [2]) (by kernel_rfl) (by simp) ?_
          refine (AllReadyH.cons rfl (fun K hK => ?_) AllReadyH.nil)
          have e0 := H.bfree 6 rfl 0
          have e1 := H.bfree 6 rfl 1
          have s0 := H.bat 6 rfl (j := 0) rfl
          have s1 := H.bat 6 rfl (j := 1) rfl
          replace H := (H.bput 6 rfl 0 (.slice (some ⟨gA, 0, none⟩) 24 c1)).bput 6 rfl 1 (.slice (some ⟨gB, 0, none⟩) 24 d1)
          go_simp
          refine hK.out _ _ ?_ (fun hHeld => ?_)
          · exact ⟨H.bat 3 rfl (j := 0) rfl, H.bat 3 rfl (j := 1) rfl, H.bat 4 rfl (j := 0) rfl, H.bat 4 rfl (j := 1) rfl⟩
          clear hK K
          try simp only [sA, sB, sC, Act.put, sD, sE, sF]
          refine wpAnyH_ready (rs := [3]) (by kernel_rfl) (by simp) ?_
          refine (AllReadyH.cons rfl (fun K hK => ?_) AllReadyH.nil)
          have e0 := H.bfree 5 rfl 0
          have e1 := H.bfree 5 rfl 1
          have s0 := H.bat 5 rfl (j := 0) rfl
          have s1 := H.bat 5 rfl (j := 1) rfl
          replace H := (H.bput 5 rfl 0 (.int .i64 z)).bput 5 rfl 1 (.slice E2 q2 r2)
          go_simp
          refine hK.out _ _ ?_ (fun hHeld => ?_)
          · exact ⟨H.bat 3 rfl (j := 0) rfl, H.bat 3 rfl (j := 1) rfl, H.bat 4 rfl (j := 0) rfl, H.bat 4 rfl (j := 1) rfl⟩
          clear hK K
          try simp only [sA, sB, sC, Act.put, sD, sE, sF]
          refine wpAnyH_take (i := 4) (v := ?_) rfl (by kernel_rfl) (by kernel_rfl) (by kernel_rfl) (fun _ _ _ h => h) (Or.inl ⟨by kernel_rfl, ?_⟩) (by assumption) ?_
          rotate_left
          · (intro w hSw; (try dsimp only at hSw); go_simp; try (with_reducible rfl))
          try simp only [sA, sB, sC, Act.put, sD, sE, sF]
          refine wpAnyH_done (by kernel_rfl) ?_ _
          have x1 := H.bat 6 rfl (j := 0) rfl
          have x2 := H.bat 6 rfl (j := 1) rfl
          have x3 := H.bat 5 rfl (j := 0) rfl
          have x4 := H.bat 5 rfl (j := 1) rfl
          have H7 := Lib.hid H
          clear H
          go_wp2_with fail
          refine bodyPost_ret (v := .tuple #[.agg #[.slice (some ⟨gA, 0, none⟩) 24 c1, .slice (some ⟨gB, 0, none⟩) 24 d1], .agg #[.int .i64 z, .slice E2 q2 r2], .bool true]) (by simp [results, Try.results33, go_sem, x1, x2, x3, x4]) rfl ?_
          refine .of HE.out ⟨(some ⟨gA, 0, none⟩), c1, (some ⟨gB, 0, none⟩), d1, _, _, _, rfl, HLS.out, ?_⟩
          exact H7.out.sub (l' := [.row 4 1 (.slice (some ⟨gA, 0, none⟩) 24 c1) 24 (bs.map Value.bool), .row 9 1 (.slice (some ⟨gB, 0, none⟩) 24 d1) 24 (ds.map Value.string), .row 92 3 (.slice E2 q2 r2) q2 (ls.flatMap cExt)]) (.cons_cons _ (.cons_cons _ (.cons_cons _ (List.nil_sublist _))))
end Go.Proofs.Ytbmoolmgfpcnkaa
