/-
  The law FnExactFilCut, walked.
-/
import Derived.Test.YtbmoolmgfpcnkaaFilCutA
import Derived.Test.YtbmoolmgfpcnkaaStore
import Derived.Test.YtbmoolmgfpcnkaaLaw
import Derived.Deep.RegionHeld3
namespace Go.Proofs.Ytbmoolmgfpcnkaa
open Go.RowKit

set_option linter.unusedVariables false
set_option linter.unusedSimpArgs false
set_option maxRecDepth 100000 in
set_option maxHeartbeats 60000000 in
theorem lawFnExactFilCut_walk (A0_0 : Option Addr) (n0_0 c0_0 : Nat) (l0_0 : List Bool) (A0_1 : Option Addr) (n0_1 c0_1 : Nat) (l0_1 : List ByteArray) (a1_0 : Int) (A1_1 : Option Addr) (n1_1 c1_1 : Nat) (l1_1 : List (Int × Int × Int)) (a2 : Int) (w : World) (h0_0 : Rd w A0_0 n0_0 1 ((l0_0).map Value.bool)) (hcap0_0 : n0_0 ≤ 9223372036854775807) (h0_1 : Rd w A0_1 n0_1 1 ((l0_1).map Value.string)) (ok0_1 : ∀ s ∈ l0_1, s.size ≤ 9223372036854775807) (hcap0_1 : n0_1 ≤ 9223372036854775807) (i1_0 : I64 a1_0) (h1_1 : Rd w A1_1 n1_1 3 ((l1_1).flatMap cExt)) (ok1_1 : ∀ r ∈ l1_1, I64 r.1 ∧ I64 r.2.1 ∧ I64 r.2.2) (hcap1_1 : n1_1 ≤ 9223372036854775807) (i2 : I64 a2) :
    Calls Try.prog 3 #[.agg #[.slice A0_0 n0_0 c0_0, .slice A0_1 n0_1 c0_1], .agg #[.int .i64 a1_0, .slice A1_1 n1_1 c1_1], .int .i64 a2] w fun e w' => e = .returned (.bool true) ∧ Fr w w' := by
  by_cases hbig0 : (1048576 : Int) < ((n0_0 + strTot l0_1) : Nat)
  ·
    have H := Hp.start w
    go_enter Try.func3, Try.ntmps3
    go_wp2_with fail
    have H1 := H.lay_ 25 [.slice A0_0 n0_0 c0_0, .slice A0_1 n0_1 c0_1] (g := w.heap.size) (by simp)
    have H2 := H1.lay_ 28 [.int .i64 a1_0, .slice A1_1 n1_1 c1_1] (g := w.heap.size + 1) (by simp)
    refine (szStore_any A0_0 n0_0 c0_0 l0_0 A0_1 n0_1 c0_1 l0_1 _ _ hcap0_0 (H2.old h0_1) ok0_1 hcap0_1 (by omega) (by omega)).mono ?_
    rintro e w3 ⟨rfl, f3⟩
    have H3 := H2.go f3
    rw [szOf_no (by omega)]
    go_wp2_with fail
    go_ret
    exact ⟨rfl, H3.fr⟩
  by_cases hbig1 : (1048576 : Int) - (n0_0 + strTot l0_1) < (n1_1 : Nat)
  ·
    have H := Hp.start w
    go_enter Try.func3, Try.ntmps3
    go_wp2_with fail
    have H1 := H.lay_ 25 [.slice A0_0 n0_0 c0_0, .slice A0_1 n0_1 c0_1] (g := w.heap.size) (by simp)
    have H2 := H1.lay_ 28 [.int .i64 a1_0, .slice A1_1 n1_1 c1_1] (g := w.heap.size + 1) (by simp)
    refine (szStore_any A0_0 n0_0 c0_0 l0_0 A0_1 n0_1 c0_1 l0_1 _ _ hcap0_0 (H2.old h0_1) ok0_1 hcap0_1 (by omega) (by omega)).mono ?_
    rintro e w3 ⟨rfl, f3⟩
    have H3 := H2.go f3
    rw [szOf_yes (by omega)]
    have cf0 := H3.bat 0 rfl (j := 0) rfl
    have cf1 := H3.bat 0 rfl (j := 1) rfl
    have cf2 := H3.lt 0 rfl rfl
    go_wp2_with fail
    clear cf0 cf1 cf2
    refine (szFil_any A1_1 n1_1 c1_1 l1_1 a1_0 _ _ hcap1_1 (by omega) (by omega)).mono ?_
    rintro e w4 ⟨rfl, f4⟩
    have H4 := H3.go f4
    rw [szOf_no (by omega)]
    go_wp2_with fail
    go_ret
    exact ⟨rfl, H4.fr⟩
  have hs0_0 : n0_0 ≤ 1048576 := by omega
  have hs0_1 : n0_1 ≤ 1048576 := by have q1 := strTot_len l0_1; have q2 := h0_1.len1; omega
  have hz0_1 : ∀ s ∈ l0_1, s.size ≤ 1048576 := fun s hs => by have q1 := strTot_mem hs; omega
  have hs1_1 : n1_1 ≤ 1048576 := by omega
  have lr0_0 : n0_0 ≤ 1048576 := by exact hs0_0
  have lr0_1 : n0_1 ≤ 1048576 := by exact hs0_1
  have lr1_0 : (cutL l0_0 l0_1 a1_0 l1_1 a2).length ≤ 1048576 := by have q2 := h1_1.lenk cExt_len (by omega); rcases cutL_len l0_0 l0_1 a1_0 l1_1 a2 with q1 | q1 <;> omega
  have H := Hp.start w
  go_enter Try.func3, Try.ntmps3
  go_wp2_with fail
  have H1 := H.lay_ 25 [.slice A0_0 n0_0 c0_0, .slice A0_1 n0_1 c0_1] (g := w.heap.size) (by simp)
  have H2 := H1.lay_ 28 [.int .i64 a1_0, .slice A1_1 n1_1 c1_1] (g := w.heap.size + 1) (by simp)
  refine (szStore_any A0_0 n0_0 c0_0 l0_0 A0_1 n0_1 c0_1 l0_1 _ _ hcap0_0 (H2.old h0_1) ok0_1 hcap0_1 (by omega) (by omega)).mono ?_
  rintro e w3 ⟨rfl, f3⟩
  have H3 := H2.go f3
  rw [szOf_yes (by omega)]
  have cf0 := H3.bat 0 rfl (j := 0) rfl
  have cf1 := H3.bat 0 rfl (j := 1) rfl
  have cf2 := H3.lt 0 rfl rfl
  go_wp2_with fail
  clear cf0 cf1 cf2
  refine (szFil_any A1_1 n1_1 c1_1 l1_1 a1_0 _ _ hcap1_1 (by omega) (by omega)).mono ?_
  rintro e w4 ⟨rfl, f4⟩
  have H4 := H3.go f4
  rw [szOf_yes (by omega)]
  have cf0 := H4.bat 1 rfl (j := 0) rfl
  have cf1 := H4.bat 1 rfl (j := 1) rfl
  have cf2 := H4.lt 1 rfl rfl
  have cf3 := H4.bat 0 rfl (j := 0) rfl
  have cf4 := H4.bat 0 rfl (j := 1) rfl
  have cf5 := H4.lt 0 rfl rfl
  go_wp2_with fail
  clear cf0 cf1 cf2 cf3 cf4 cf5
  obtain ⟨l0, hl0, _⟩ : ∃ l0, l0 = _ ∧ Hp [] w _ l0 := ⟨_, rfl, H4⟩
  refine wp_jointH (fun a a' w' => ∃ (ga0 : Nat) (ga1 : Nat) (gb0 : Nat) (Ac0_0 : Option Addr) (cc0_0 : Nat) (Ac0_1 : Option Addr) (cc0_1 : Nat) (Ac1_0 : Option Addr) (cc1_0 : Nat) (hd : Nat) (he : Nat), a' = (((((((((((((a).put (some 33) (.agg #[.slice A0_0 n0_0 c0_0, .slice A0_1 n0_1 c0_1])).put (some 34) (.agg #[.slice (some ⟨ga0, 0, none⟩) n0_0 n0_0, .slice (some ⟨ga1, 0, none⟩) n0_1 n0_1])).put (some 35) (.agg #[.int .i64 a1_0, .slice A1_1 n1_1 c1_1])).put (some 36) (.agg #[.int .i64 a1_0, .slice (some ⟨gb0, 0, none⟩) n1_1 n1_1])).put (some 37) (.int .i64 a2)).put (some 38) (.tuple #[.agg #[.slice Ac0_0 (n0_0) cc0_0, .slice Ac0_1 (n0_1) cc0_1], .agg #[.int .i64 (cutZ l0_0 l0_1 a1_0 l1_1 a2), .slice Ac1_0 ((cutL l0_0 l0_1 a1_0 l1_1 a2).length) cc1_0], .bool (cutOk l0_0 l0_1 a1_0 l1_1 a2)])).put (some 32) (.tuple #[.agg #[.slice Ac0_0 (n0_0) cc0_0, .slice Ac0_1 (n0_1) cc0_1], .agg #[.int .i64 (cutZ l0_0 l0_1 a1_0 l1_1 a2), .slice Ac1_0 ((cutL l0_0 l0_1 a1_0 l1_1 a2).length) cc1_0], .bool (cutOk l0_0 l0_1 a1_0 l1_1 a2)])).put (some 39) (.agg #[.slice Ac0_0 (n0_0) cc0_0, .slice Ac0_1 (n0_1) cc0_1])).put (some 40) (.agg #[.int .i64 (cutZ l0_0 l0_1 a1_0 l1_1 a2), .slice Ac1_0 ((cutL l0_0 l0_1 a1_0 l1_1 a2).length) cc1_0])).put (some 41) (.bool (cutOk l0_0 l0_1 a1_0 l1_1 a2))).put (some 8) (.pointer (some ⟨hd, 0, none⟩))).put (some 9) (.pointer (some ⟨he, 0, none⟩))).put (some 10) (.bool (cutOk l0_0 l0_1 a1_0 l1_1 a2)) ∧
    Hp [] w w' (.row 4 1 (.slice (some ⟨ga0, 0, none⟩) n0_0 n0_0) n0_0 ((l0_0).map Value.bool) ::
      .row 9 1 (.slice (some ⟨ga1, 0, none⟩) n0_1 n0_1) n0_1 ((l0_1).map Value.string) ::
      .row 92 3 (.slice (some ⟨gb0, 0, none⟩) n1_1 n1_1) n1_1 ((l1_1).flatMap cExt) ::
      .row 4 1 (.slice Ac0_0 (n0_0) cc0_0) (n0_0) ((cutBits l0_0 l0_1 a1_0 l1_1 a2).map Value.bool) ::
      .row 9 1 (.slice Ac0_1 (n0_1) cc0_1) (n0_1) ((cutData l0_0 l0_1 a1_0 l1_1 a2).map Value.string) ::
      .row 92 3 (.slice Ac1_0 ((cutL l0_0 l0_1 a1_0 l1_1 a2).length) cc1_0) ((cutL l0_0 l0_1 a1_0 l1_1 a2).length) ((cutL l0_0 l0_1 a1_0 l1_1 a2).flatMap cExt) ::
      .blk hd 31 [.slice Ac0_0 (n0_0) cc0_0, .slice Ac0_1 (n0_1) cc0_1] ::
      .blk he 34 [.int .i64 (cutZ l0_0 l0_1 a1_0 l1_1 a2), .slice Ac1_0 ((cutL l0_0 l0_1 a1_0 l1_1 a2).length) cc1_0] :: l0)) ?_ ?_
  ·
    have H := H4.drew
    intro R_ hR_
    refine wp_region_held_drew (S := fun w' => w'.cell? ⟨w.heap.size, 0, none⟩ = some (.slice A0_0 n0_0 c0_0) ∧ w'.cell? ⟨w.heap.size, 1, none⟩ = some (.slice A0_1 n0_1 c0_1) ∧ w'.cell? ⟨w.heap.size + 1, 0, none⟩ = some (.int .i64 a1_0) ∧ w'.cell? ⟨w.heap.size + 1, 1, none⟩ = some (.slice A1_1 n1_1 c1_1)) (by kernel_rfl) ?_ (fun hHeld => ?_)
    · exact ⟨H.bat 1 rfl (j := 0) rfl, H.bat 1 rfl (j := 1) rfl, H.bat 0 rfl (j := 0) rfl, H.bat 0 rfl (j := 1) rfl⟩
    obtain ⟨u0, hu0⟩ : ∃ uu : World, uu = w4.drew := ⟨_, rfl⟩
    rw [← hu0] at H hHeld ⊢
    clear hu0
    refine wpAnyH_join (fun k => ∀ (ga0 : Nat) (ga1 : Nat) (gb0 : Nat) (Ac0_0 : Option Addr) (cc0_0 : Nat) (Ac0_1 : Option Addr) (cc0_1 : Nat) (Ac1_0 : Option Addr) (cc1_0 : Nat) (hd : Nat) (he : Nat) (u : World), Hp [] w u (.row 4 1 (.slice (some ⟨ga0, 0, none⟩) n0_0 n0_0) n0_0 ((l0_0).map Value.bool) :: .row 9 1 (.slice (some ⟨ga1, 0, none⟩) n0_1 n0_1) n0_1 ((l0_1).map Value.string) :: .row 92 3 (.slice (some ⟨gb0, 0, none⟩) n1_1 n1_1) n1_1 ((l1_1).flatMap cExt) :: .row 4 1 (.slice Ac0_0 (n0_0) cc0_0) (n0_0) ((cutBits l0_0 l0_1 a1_0 l1_1 a2).map Value.bool) :: .row 9 1 (.slice Ac0_1 (n0_1) cc0_1) (n0_1) ((cutData l0_0 l0_1 a1_0 l1_1 a2).map Value.string) :: .row 92 3 (.slice Ac1_0 ((cutL l0_0 l0_1 a1_0 l1_1 a2).length) cc1_0) ((cutL l0_0 l0_1 a1_0 l1_1 a2).length) ((cutL l0_0 l0_1 a1_0 l1_1 a2).flatMap cExt) :: .blk hd 31 [.slice none 0 0, .slice none 0 0] :: .blk he 34 [.int .i64 0, .slice none 0 0] :: l0) → k ((?A1 : Nat → Nat → Nat → Option Addr → Nat → Option Addr → Nat → Option Addr → Nat → Nat → Nat → Act) ga0 ga1 gb0 Ac0_0 cc0_0 Ac0_1 cc0_1 Ac1_0 cc1_0 hd he) u) 3 #[true, true, true, true, true, true, true, true, true, true, true, true, false, false, false] (fun hJ => ?_) ?_
    rotate_left
    · refine wpAnyH_take (i := 0) (v := ?_) rfl (by kernel_rfl) (by kernel_rfl) (by kernel_rfl) (fun _ _ _ h => nomatch h.1) (Or.inl ⟨by kernel_rfl, ?_⟩) (by assumption) ?_
      rotate_left
      · (intro w hSw; (try dsimp only at hSw); go_simp; try (with_reducible rfl))
      try simp only [sA, sB, sC, Act.put, sD, sE, sF]
      refine wpAnyH_take (i := 2) (v := ?_) rfl (by kernel_rfl) (by kernel_rfl) (by kernel_rfl) (fun _ _ _ h => nomatch h.1) (Or.inl ⟨by kernel_rfl, ?_⟩) (by assumption) ?_
      rotate_left
      · (intro w hSw; (try dsimp only at hSw); go_simp; try (with_reducible rfl))
      try simp only [sA, sB, sC, Act.put, sD, sE, sF]
      refine wpAnyH_take (i := 4) (v := ?_) rfl (by kernel_rfl) (by kernel_rfl) (by kernel_rfl) (fun _ _ _ h => nomatch h.1) (Or.inl ⟨by kernel_rfl, ?_⟩) (by assumption) ?_
      rotate_left
      · (intro w hSw; (try dsimp only at hSw); go_simp; try (with_reducible rfl))
      try simp only [sA, sB, sC, Act.put, sD, sE, sF]
      refine wpAnyH_ready (rs := [1, 10, 11]) (by kernel_rfl) (by simp) ?_
      refine (AllReadyH.cons rfl (fun K hK => ?_) (AllReadyH.cons rfl (fun K hK => ?_) (AllReadyH.cons rfl (fun K hK => ?_) AllReadyH.nil)))
      · go_simp
        refine (toStore_any A0_0 n0_0 c0_0 l0_0 A0_1 n0_1 c0_1 l0_1 _ (H.old h0_0) (H.old h0_1) hs0_0 hs0_1).mono ?_
        rintro e u1 ⟨ga0, ga1, rfl, oa0, oa1, fa⟩
        replace H := H.made2 oa0 oa1 fa (by decide)
        clear oa0 oa1 fa
        go_wp2_with fail
        refine hK.out _ _ ?_ (fun hHeld => ?_)
        · exact ⟨H.bat 3 rfl (j := 0) rfl, H.bat 3 rfl (j := 1) rfl, H.bat 2 rfl (j := 0) rfl, H.bat 2 rfl (j := 1) rfl⟩
        clear hK K
        try simp only [sA, sB, sC, Act.put, sD, sE, sF]
        refine wpAnyH_ready (rs := [3, 10, 11]) (by kernel_rfl) (by simp) ?_
        refine (AllReadyH.cons rfl (fun K hK => ?_) (AllReadyH.cons rfl (fun K hK => ?_) (AllReadyH.cons rfl (fun K hK => ?_) AllReadyH.nil)))
        · go_simp
          refine (toFil_any a1_0 A1_1 n1_1 c1_1 l1_1 _ (H.old h1_1) hs1_1).mono ?_
          rintro e u2 ⟨gb0, rfl, ob0, fb⟩
          replace H := H.made ob0 fb
          clear ob0 fb
          go_wp2_with fail
          refine hK.out _ _ ?_ (fun hHeld => ?_)
          · exact ⟨H.bat 4 rfl (j := 0) rfl, H.bat 4 rfl (j := 1) rfl, H.bat 3 rfl (j := 0) rfl, H.bat 3 rfl (j := 1) rfl⟩
          clear hK K
          try simp only [sA, sB, sC, Act.put, sD, sE, sF]
          refine wpAnyH_ready (rs := [5, 10, 11]) (by kernel_rfl) (by simp) ?_
          refine (AllReadyH.cons rfl (fun K hK => ?_) (AllReadyH.cons rfl (fun K hK => ?_) (AllReadyH.cons rfl (fun K hK => ?_) AllReadyH.nil)))
          · go_simp
            refine (specFilCut_c _ _ _ l0_0 _ _ _ l0_1 a1_0 _ _ _ l1_1 a2 _ (H.rd 1 rfl) (H.rd 2 rfl) (H.rd 0 rfl) (fun e => nomatch e) (fun e => nomatch e) (fun e => nomatch e) hs0_0 hs0_1 hz0_1 hs1_1).mono ?_
            rintro e u3 ⟨Ac0_0, cc0_0, Ac0_1, cc0_1, Ac1_0, cc1_0, rfl, Kc⟩
            replace H := H.join Kc
            clear Kc
            go_wp2_with fail
            refine hK.out _ _ ?_ (fun hHeld => ?_)
            · exact ⟨H.bat 7 rfl (j := 0) rfl, H.bat 7 rfl (j := 1) rfl, H.bat 6 rfl (j := 0) rfl, H.bat 6 rfl (j := 1) rfl⟩
            clear hK K
            try simp only [sA, sB, sC, Act.put, sD, sE, sF]
            refine wpAnyH_take (i := 6) (v := ?_) rfl (by kernel_rfl) (by kernel_rfl) (by kernel_rfl) (fun _ _ _ h => nomatch h.1) (Or.inl ⟨by kernel_rfl, ?_⟩) (by assumption) ?_
            rotate_left
            · (intro w hSw; (try dsimp only at hSw); go_simp; try (with_reducible rfl))
            try simp only [sA, sB, sC, Act.put, sD, sE, sF]
            refine wpAnyH_take (i := 7) (v := ?_) rfl (by kernel_rfl) (by kernel_rfl) (by kernel_rfl) (fun _ _ _ h => nomatch h.1) (Or.inl ⟨by kernel_rfl, ?_⟩) (by assumption) ?_
            rotate_left
            · (intro w hSw; (try dsimp only at hSw); go_simp; try (with_reducible rfl))
            try simp only [sA, sB, sC, Act.put, sD, sE, sF]
            refine wpAnyH_take (i := 8) (v := ?_) rfl (by kernel_rfl) (by kernel_rfl) (by kernel_rfl) (fun _ _ _ h => nomatch h.1) (Or.inl ⟨by kernel_rfl, ?_⟩) (by assumption) ?_
            rotate_left
            · (intro w hSw; (try dsimp only at hSw); go_simp; try (with_reducible rfl))
            try simp only [sA, sB, sC, Act.put, sD, sE, sF]
            refine wpAnyH_take (i := 9) (v := ?_) rfl (by kernel_rfl) (by kernel_rfl) (by kernel_rfl) (fun _ _ _ h => nomatch h.1) (Or.inl ⟨by kernel_rfl, ?_⟩) (by assumption) ?_
            rotate_left
            · (intro w hSw; (try dsimp only at hSw); go_simp; try (with_reducible rfl))
            try simp only [sA, sB, sC, Act.put, sD, sE, sF]
            refine wpAnyH_ready (rs := [10, 11]) (by kernel_rfl) (by simp) ?_
            refine (AllReadyH.cons rfl (fun K hK => ?_) (AllReadyH.cons rfl (fun K hK => ?_) AllReadyH.nil))
            · replace H := H.lay 31 [.slice none 0 0, .slice none 0 0]
              go_simp
              obtain ⟨hd, hhd⟩ : ∃ x, x = u3.heap.size := ⟨_, rfl⟩
              rw [← hhd] at H ⊢
              clear hhd
              obtain ⟨u4, hv⟩ : ∃ uu : World, uu = u3.alloc (.cells #[.slice none 0 0, .slice none 0 0] 31) := ⟨_, rfl⟩
              rw [← hv] at H ⊢
              clear hv
              refine hK.out _ _ ?_ (fun hHeld => ?_)
              · exact ⟨H.bat 8 rfl (j := 0) rfl, H.bat 8 rfl (j := 1) rfl, H.bat 7 rfl (j := 0) rfl, H.bat 7 rfl (j := 1) rfl⟩
              clear hK K
              try simp only [sA, sB, sC, Act.put, sD, sE, sF]
              refine wpAnyH_ready (rs := [11]) (by kernel_rfl) (by simp) ?_
              refine (AllReadyH.cons rfl (fun K hK => ?_) AllReadyH.nil)
              replace H := H.lay 34 [.int .i64 0, .slice none 0 0]
              go_simp
              obtain ⟨he, hhe⟩ : ∃ x, x = u4.heap.size := ⟨_, rfl⟩
              rw [← hhe] at H ⊢
              clear hhe
              obtain ⟨u5, hv⟩ : ∃ uu : World, uu = u4.alloc (.cells #[.int .i64 0, .slice none 0 0] 34) := ⟨_, rfl⟩
              rw [← hv] at H ⊢
              clear hv
              refine hK.out _ _ ?_ (fun hHeld => ?_)
              · exact ⟨H.bat 9 rfl (j := 0) rfl, H.bat 9 rfl (j := 1) rfl, H.bat 8 rfl (j := 0) rfl, H.bat 8 rfl (j := 1) rfl⟩
              clear hK K
              try simp only [sA, sB, sC, Act.put, sD, sE, sF]
              replace H := H.reord [6, 7, 5, 2, 3, 4, 1, 0, 8, 9] (n := 10) rfl (by decide)
              exact hJ.out ga0 ga1 gb0 Ac0_0 cc0_0 Ac0_1 cc0_1 Ac1_0 cc1_0 hd he _ (by rw [hl0]; exact H) hHeld
            · replace H := H.lay 34 [.int .i64 0, .slice none 0 0]
              go_simp
              obtain ⟨he, hhe⟩ : ∃ x, x = u3.heap.size := ⟨_, rfl⟩
              rw [← hhe] at H ⊢
              clear hhe
              obtain ⟨u4, hv⟩ : ∃ uu : World, uu = u3.alloc (.cells #[.int .i64 0, .slice none 0 0] 34) := ⟨_, rfl⟩
              rw [← hv] at H ⊢
              clear hv
              refine hK.out _ _ ?_ (fun hHeld => ?_)
              · exact ⟨H.bat 8 rfl (j := 0) rfl, H.bat 8 rfl (j := 1) rfl, H.bat 7 rfl (j := 0) rfl, H.bat 7 rfl (j := 1) rfl⟩
              clear hK K
              try simp only [sA, sB, sC, Act.put, sD, sE, sF]
              refine wpAnyH_ready (rs := [10]) (by kernel_rfl) (by simp) ?_
              refine (AllReadyH.cons rfl (fun K hK => ?_) AllReadyH.nil)
              replace H := H.lay 31 [.slice none 0 0, .slice none 0 0]
              go_simp
              obtain ⟨hd, hhd⟩ : ∃ x, x = u4.heap.size := ⟨_, rfl⟩
              rw [← hhd] at H ⊢
              clear hhd
              obtain ⟨u5, hv⟩ : ∃ uu : World, uu = u4.alloc (.cells #[.slice none 0 0, .slice none 0 0] 31) := ⟨_, rfl⟩
              rw [← hv] at H ⊢
              clear hv
              refine hK.out _ _ ?_ (fun hHeld => ?_)
              · exact ⟨H.bat 9 rfl (j := 0) rfl, H.bat 9 rfl (j := 1) rfl, H.bat 8 rfl (j := 0) rfl, H.bat 8 rfl (j := 1) rfl⟩
              clear hK K
              try simp only [sA, sB, sC, Act.put, sD, sE, sF]
              replace H := H.reord [6, 7, 5, 2, 3, 4, 0, 1, 8, 9] (n := 10) rfl (by decide)
              exact hJ.out ga0 ga1 gb0 Ac0_0 cc0_0 Ac0_1 cc0_1 Ac1_0 cc1_0 hd he _ (by rw [hl0]; exact H) hHeld
          · replace H := H.lay 31 [.slice none 0 0, .slice none 0 0]
            go_simp
            obtain ⟨hd, hhd⟩ : ∃ x, x = u2.heap.size := ⟨_, rfl⟩
            rw [← hhd] at H ⊢
            clear hhd
            obtain ⟨u3, hv⟩ : ∃ uu : World, uu = u2.alloc (.cells #[.slice none 0 0, .slice none 0 0] 31) := ⟨_, rfl⟩
            rw [← hv] at H ⊢
            clear hv
            refine hK.out _ _ ?_ (fun hHeld => ?_)
            · exact ⟨H.bat 5 rfl (j := 0) rfl, H.bat 5 rfl (j := 1) rfl, H.bat 4 rfl (j := 0) rfl, H.bat 4 rfl (j := 1) rfl⟩
            clear hK K
            try simp only [sA, sB, sC, Act.put, sD, sE, sF]
            refine wpAnyH_ready (rs := [5, 11]) (by kernel_rfl) (by simp) ?_
            refine (AllReadyH.cons rfl (fun K hK => ?_) (AllReadyH.cons rfl (fun K hK => ?_) AllReadyH.nil))
            · go_simp
              refine (specFilCut_c _ _ _ l0_0 _ _ _ l0_1 a1_0 _ _ _ l1_1 a2 _ (H.rd 2 rfl) (H.rd 3 rfl) (H.rd 1 rfl) (fun e => nomatch e) (fun e => nomatch e) (fun e => nomatch e) hs0_0 hs0_1 hz0_1 hs1_1).mono ?_
              rintro e u4 ⟨Ac0_0, cc0_0, Ac0_1, cc0_1, Ac1_0, cc1_0, rfl, Kc⟩
              replace H := H.join Kc
              clear Kc
              go_wp2_with fail
              refine hK.out _ _ ?_ (fun hHeld => ?_)
              · exact ⟨H.bat 8 rfl (j := 0) rfl, H.bat 8 rfl (j := 1) rfl, H.bat 7 rfl (j := 0) rfl, H.bat 7 rfl (j := 1) rfl⟩
              clear hK K
              try simp only [sA, sB, sC, Act.put, sD, sE, sF]
              refine wpAnyH_take (i := 6) (v := ?_) rfl (by kernel_rfl) (by kernel_rfl) (by kernel_rfl) (fun _ _ _ h => nomatch h.1) (Or.inl ⟨by kernel_rfl, ?_⟩) (by assumption) ?_
              rotate_left
              · (intro w hSw; (try dsimp only at hSw); go_simp; try (with_reducible rfl))
              try simp only [sA, sB, sC, Act.put, sD, sE, sF]
              refine wpAnyH_take (i := 7) (v := ?_) rfl (by kernel_rfl) (by kernel_rfl) (by kernel_rfl) (fun _ _ _ h => nomatch h.1) (Or.inl ⟨by kernel_rfl, ?_⟩) (by assumption) ?_
              rotate_left
              · (intro w hSw; (try dsimp only at hSw); go_simp; try (with_reducible rfl))
              try simp only [sA, sB, sC, Act.put, sD, sE, sF]
              refine wpAnyH_take (i := 8) (v := ?_) rfl (by kernel_rfl) (by kernel_rfl) (by kernel_rfl) (fun _ _ _ h => nomatch h.1) (Or.inl ⟨by kernel_rfl, ?_⟩) (by assumption) ?_
              rotate_left
              · (intro w hSw; (try dsimp only at hSw); go_simp; try (with_reducible rfl))
              try simp only [sA, sB, sC, Act.put, sD, sE, sF]
              refine wpAnyH_take (i := 9) (v := ?_) rfl (by kernel_rfl) (by kernel_rfl) (by kernel_rfl) (fun _ _ _ h => nomatch h.1) (Or.inl ⟨by kernel_rfl, ?_⟩) (by assumption) ?_
              rotate_left
              · (intro w hSw; (try dsimp only at hSw); go_simp; try (with_reducible rfl))
              try simp only [sA, sB, sC, Act.put, sD, sE, sF]
              refine wpAnyH_ready (rs := [11]) (by kernel_rfl) (by simp) ?_
              refine (AllReadyH.cons rfl (fun K hK => ?_) AllReadyH.nil)
              replace H := H.lay 34 [.int .i64 0, .slice none 0 0]
              go_simp
              obtain ⟨he, hhe⟩ : ∃ x, x = u4.heap.size := ⟨_, rfl⟩
              rw [← hhe] at H ⊢
              clear hhe
              obtain ⟨u5, hv⟩ : ∃ uu : World, uu = u4.alloc (.cells #[.int .i64 0, .slice none 0 0] 34) := ⟨_, rfl⟩
              rw [← hv] at H ⊢
              clear hv
              refine hK.out _ _ ?_ (fun hHeld => ?_)
              · exact ⟨H.bat 9 rfl (j := 0) rfl, H.bat 9 rfl (j := 1) rfl, H.bat 8 rfl (j := 0) rfl, H.bat 8 rfl (j := 1) rfl⟩
              clear hK K
              try simp only [sA, sB, sC, Act.put, sD, sE, sF]
              replace H := H.reord [6, 7, 5, 1, 2, 3, 4, 0, 8, 9] (n := 10) rfl (by decide)
              exact hJ.out ga0 ga1 gb0 Ac0_0 cc0_0 Ac0_1 cc0_1 Ac1_0 cc1_0 hd he _ (by rw [hl0]; exact H) hHeld
            · replace H := H.lay 34 [.int .i64 0, .slice none 0 0]
              go_simp
              obtain ⟨he, hhe⟩ : ∃ x, x = u3.heap.size := ⟨_, rfl⟩
              rw [← hhe] at H ⊢
              clear hhe
              obtain ⟨u4, hv⟩ : ∃ uu : World, uu = u3.alloc (.cells #[.int .i64 0, .slice none 0 0] 34) := ⟨_, rfl⟩
              rw [← hv] at H ⊢
              clear hv
              refine hK.out _ _ ?_ (fun hHeld => ?_)
              · exact ⟨H.bat 6 rfl (j := 0) rfl, H.bat 6 rfl (j := 1) rfl, H.bat 5 rfl (j := 0) rfl, H.bat 5 rfl (j := 1) rfl⟩
              clear hK K
              try simp only [sA, sB, sC, Act.put, sD, sE, sF]
              refine wpAnyH_ready (rs := [5]) (by kernel_rfl) (by simp) ?_
              refine (AllReadyH.cons rfl (fun K hK => ?_) AllReadyH.nil)
              go_simp
              refine (specFilCut_c _ _ _ l0_0 _ _ _ l0_1 a1_0 _ _ _ l1_1 a2 _ (H.rd 3 rfl) (H.rd 4 rfl) (H.rd 2 rfl) (fun e => nomatch e) (fun e => nomatch e) (fun e => nomatch e) hs0_0 hs0_1 hz0_1 hs1_1).mono ?_
              rintro e u5 ⟨Ac0_0, cc0_0, Ac0_1, cc0_1, Ac1_0, cc1_0, rfl, Kc⟩
              replace H := H.join Kc
              clear Kc
              go_wp2_with fail
              refine hK.out _ _ ?_ (fun hHeld => ?_)
              · exact ⟨H.bat 9 rfl (j := 0) rfl, H.bat 9 rfl (j := 1) rfl, H.bat 8 rfl (j := 0) rfl, H.bat 8 rfl (j := 1) rfl⟩
              clear hK K
              try simp only [sA, sB, sC, Act.put, sD, sE, sF]
              refine wpAnyH_take (i := 6) (v := ?_) rfl (by kernel_rfl) (by kernel_rfl) (by kernel_rfl) (fun _ _ _ h => nomatch h.1) (Or.inl ⟨by kernel_rfl, ?_⟩) (by assumption) ?_
              rotate_left
              · (intro w hSw; (try dsimp only at hSw); go_simp; try (with_reducible rfl))
              try simp only [sA, sB, sC, Act.put, sD, sE, sF]
              refine wpAnyH_take (i := 7) (v := ?_) rfl (by kernel_rfl) (by kernel_rfl) (by kernel_rfl) (fun _ _ _ h => nomatch h.1) (Or.inl ⟨by kernel_rfl, ?_⟩) (by assumption) ?_
              rotate_left
              · (intro w hSw; (try dsimp only at hSw); go_simp; try (with_reducible rfl))
              try simp only [sA, sB, sC, Act.put, sD, sE, sF]
              refine wpAnyH_take (i := 8) (v := ?_) rfl (by kernel_rfl) (by kernel_rfl) (by kernel_rfl) (fun _ _ _ h => nomatch h.1) (Or.inl ⟨by kernel_rfl, ?_⟩) (by assumption) ?_
              rotate_left
              · (intro w hSw; (try dsimp only at hSw); go_simp; try (with_reducible rfl))
              try simp only [sA, sB, sC, Act.put, sD, sE, sF]
              refine wpAnyH_take (i := 9) (v := ?_) rfl (by kernel_rfl) (by kernel_rfl) (by kernel_rfl) (fun _ _ _ h => nomatch h.1) (Or.inl ⟨by kernel_rfl, ?_⟩) (by assumption) ?_
              rotate_left
              · (intro w hSw; (try dsimp only at hSw); go_simp; try (with_reducible rfl))
              try simp only [sA, sB, sC, Act.put, sD, sE, sF]
              replace H := H.reord [6, 7, 5, 0, 1, 2, 4, 3, 8, 9] (n := 10) rfl (by decide)
              exact hJ.out ga0 ga1 gb0 Ac0_0 cc0_0 Ac0_1 cc0_1 Ac1_0 cc1_0 hd he _ (by rw [hl0]; exact H) hHeld
          · replace H := H.lay 34 [.int .i64 0, .slice none 0 0]
            go_simp
            obtain ⟨he, hhe⟩ : ∃ x, x = u2.heap.size := ⟨_, rfl⟩
            rw [← hhe] at H ⊢
            clear hhe
            obtain ⟨u3, hv⟩ : ∃ uu : World, uu = u2.alloc (.cells #[.int .i64 0, .slice none 0 0] 34) := ⟨_, rfl⟩
            rw [← hv] at H ⊢
            clear hv
            refine hK.out _ _ ?_ (fun hHeld => ?_)
            · exact ⟨H.bat 5 rfl (j := 0) rfl, H.bat 5 rfl (j := 1) rfl, H.bat 4 rfl (j := 0) rfl, H.bat 4 rfl (j := 1) rfl⟩
            clear hK K
            try simp only [sA, sB, sC, Act.put, sD, sE, sF]
            refine wpAnyH_ready (rs := [5, 10]) (by kernel_rfl) (by simp) ?_
            refine (AllReadyH.cons rfl (fun K hK => ?_) (AllReadyH.cons rfl (fun K hK => ?_) AllReadyH.nil))
            · go_simp
              refine (specFilCut_c _ _ _ l0_0 _ _ _ l0_1 a1_0 _ _ _ l1_1 a2 _ (H.rd 2 rfl) (H.rd 3 rfl) (H.rd 1 rfl) (fun e => nomatch e) (fun e => nomatch e) (fun e => nomatch e) hs0_0 hs0_1 hz0_1 hs1_1).mono ?_
              rintro e u4 ⟨Ac0_0, cc0_0, Ac0_1, cc0_1, Ac1_0, cc1_0, rfl, Kc⟩
              replace H := H.join Kc
              clear Kc
              go_wp2_with fail
              refine hK.out _ _ ?_ (fun hHeld => ?_)
              · exact ⟨H.bat 8 rfl (j := 0) rfl, H.bat 8 rfl (j := 1) rfl, H.bat 7 rfl (j := 0) rfl, H.bat 7 rfl (j := 1) rfl⟩
              clear hK K
              try simp only [sA, sB, sC, Act.put, sD, sE, sF]
              refine wpAnyH_take (i := 6) (v := ?_) rfl (by kernel_rfl) (by kernel_rfl) (by kernel_rfl) (fun _ _ _ h => nomatch h.1) (Or.inl ⟨by kernel_rfl, ?_⟩) (by assumption) ?_
              rotate_left
              · (intro w hSw; (try dsimp only at hSw); go_simp; try (with_reducible rfl))
              try simp only [sA, sB, sC, Act.put, sD, sE, sF]
              refine wpAnyH_take (i := 7) (v := ?_) rfl (by kernel_rfl) (by kernel_rfl) (by kernel_rfl) (fun _ _ _ h => nomatch h.1) (Or.inl ⟨by kernel_rfl, ?_⟩) (by assumption) ?_
              rotate_left
              · (intro w hSw; (try dsimp only at hSw); go_simp; try (with_reducible rfl))
              try simp only [sA, sB, sC, Act.put, sD, sE, sF]
              refine wpAnyH_take (i := 8) (v := ?_) rfl (by kernel_rfl) (by kernel_rfl) (by kernel_rfl) (fun _ _ _ h => nomatch h.1) (Or.inl ⟨by kernel_rfl, ?_⟩) (by assumption) ?_
              rotate_left
              · (intro w hSw; (try dsimp only at hSw); go_simp; try (with_reducible rfl))
              try simp only [sA, sB, sC, Act.put, sD, sE, sF]
              refine wpAnyH_take (i := 9) (v := ?_) rfl (by kernel_rfl) (by kernel_rfl) (by kernel_rfl) (fun _ _ _ h => nomatch h.1) (Or.inl ⟨by kernel_rfl, ?_⟩) (by assumption) ?_
              rotate_left
              · (intro w hSw; (try dsimp only at hSw); go_simp; try (with_reducible rfl))
              try simp only [sA, sB, sC, Act.put, sD, sE, sF]
              refine wpAnyH_ready (rs := [10]) (by kernel_rfl) (by simp) ?_
              refine (AllReadyH.cons rfl (fun K hK => ?_) AllReadyH.nil)
              replace H := H.lay 31 [.slice none 0 0, .slice none 0 0]
              go_simp
              obtain ⟨hd, hhd⟩ : ∃ x, x = u4.heap.size := ⟨_, rfl⟩
              rw [← hhd] at H ⊢
              clear hhd
              obtain ⟨u5, hv⟩ : ∃ uu : World, uu = u4.alloc (.cells #[.slice none 0 0, .slice none 0 0] 31) := ⟨_, rfl⟩
              rw [← hv] at H ⊢
              clear hv
              refine hK.out _ _ ?_ (fun hHeld => ?_)
              · exact ⟨H.bat 9 rfl (j := 0) rfl, H.bat 9 rfl (j := 1) rfl, H.bat 8 rfl (j := 0) rfl, H.bat 8 rfl (j := 1) rfl⟩
              clear hK K
              try simp only [sA, sB, sC, Act.put, sD, sE, sF]
              replace H := H.reord [6, 7, 5, 1, 2, 3, 0, 4, 8, 9] (n := 10) rfl (by decide)
              exact hJ.out ga0 ga1 gb0 Ac0_0 cc0_0 Ac0_1 cc0_1 Ac1_0 cc1_0 hd he _ (by rw [hl0]; exact H) hHeld
            · replace H := H.lay 31 [.slice none 0 0, .slice none 0 0]
              go_simp
              obtain ⟨hd, hhd⟩ : ∃ x, x = u3.heap.size := ⟨_, rfl⟩
              rw [← hhd] at H ⊢
              clear hhd
              obtain ⟨u4, hv⟩ : ∃ uu : World, uu = u3.alloc (.cells #[.slice none 0 0, .slice none 0 0] 31) := ⟨_, rfl⟩
              rw [← hv] at H ⊢
              clear hv
              refine hK.out _ _ ?_ (fun hHeld => ?_)
              · exact ⟨H.bat 6 rfl (j := 0) rfl, H.bat 6 rfl (j := 1) rfl, H.bat 5 rfl (j := 0) rfl, H.bat 5 rfl (j := 1) rfl⟩
              clear hK K
              try simp only [sA, sB, sC, Act.put, sD, sE, sF]
              refine wpAnyH_ready (rs := [5]) (by kernel_rfl) (by simp) ?_
              refine (AllReadyH.cons rfl (fun K hK => ?_) AllReadyH.nil)
              go_simp
              refine (specFilCut_c _ _ _ l0_0 _ _ _ l0_1 a1_0 _ _ _ l1_1 a2 _ (H.rd 3 rfl) (H.rd 4 rfl) (H.rd 2 rfl) (fun e => nomatch e) (fun e => nomatch e) (fun e => nomatch e) hs0_0 hs0_1 hz0_1 hs1_1).mono ?_
              rintro e u5 ⟨Ac0_0, cc0_0, Ac0_1, cc0_1, Ac1_0, cc1_0, rfl, Kc⟩
              replace H := H.join Kc
              clear Kc
              go_wp2_with fail
              refine hK.out _ _ ?_ (fun hHeld => ?_)
              · exact ⟨H.bat 9 rfl (j := 0) rfl, H.bat 9 rfl (j := 1) rfl, H.bat 8 rfl (j := 0) rfl, H.bat 8 rfl (j := 1) rfl⟩
              clear hK K
              try simp only [sA, sB, sC, Act.put, sD, sE, sF]
              refine wpAnyH_take (i := 6) (v := ?_) rfl (by kernel_rfl) (by kernel_rfl) (by kernel_rfl) (fun _ _ _ h => nomatch h.1) (Or.inl ⟨by kernel_rfl, ?_⟩) (by assumption) ?_
              rotate_left
              · (intro w hSw; (try dsimp only at hSw); go_simp; try (with_reducible rfl))
              try simp only [sA, sB, sC, Act.put, sD, sE, sF]
              refine wpAnyH_take (i := 7) (v := ?_) rfl (by kernel_rfl) (by kernel_rfl) (by kernel_rfl) (fun _ _ _ h => nomatch h.1) (Or.inl ⟨by kernel_rfl, ?_⟩) (by assumption) ?_
              rotate_left
              · (intro w hSw; (try dsimp only at hSw); go_simp; try (with_reducible rfl))
              try simp only [sA, sB, sC, Act.put, sD, sE, sF]
              refine wpAnyH_take (i := 8) (v := ?_) rfl (by kernel_rfl) (by kernel_rfl) (by kernel_rfl) (fun _ _ _ h => nomatch h.1) (Or.inl ⟨by kernel_rfl, ?_⟩) (by assumption) ?_
              rotate_left
              · (intro w hSw; (try dsimp only at hSw); go_simp; try (with_reducible rfl))
              try simp only [sA, sB, sC, Act.put, sD, sE, sF]
              refine wpAnyH_take (i := 9) (v := ?_) rfl (by kernel_rfl) (by kernel_rfl) (by kernel_rfl) (fun _ _ _ h => nomatch h.1) (Or.inl ⟨by kernel_rfl, ?_⟩) (by assumption) ?_
              rotate_left
              · (intro w hSw; (try dsimp only at hSw); go_simp; try (with_reducible rfl))
              try simp only [sA, sB, sC, Act.put, sD, sE, sF]
              replace H := H.reord [6, 7, 5, 0, 1, 2, 3, 4, 8, 9] (n := 10) rfl (by decide)
              exact hJ.out ga0 ga1 gb0 Ac0_0 cc0_0 Ac0_1 cc0_1 Ac1_0 cc1_0 hd he _ (by rw [hl0]; exact H) hHeld
        · replace H := H.lay 31 [.slice none 0 0, .slice none 0 0]
          go_simp
          obtain ⟨hd, hhd⟩ : ∃ x, x = u1.heap.size := ⟨_, rfl⟩
          rw [← hhd] at H ⊢
          clear hhd
          obtain ⟨u2, hv⟩ : ∃ uu : World, uu = u1.alloc (.cells #[.slice none 0 0, .slice none 0 0] 31) := ⟨_, rfl⟩
          rw [← hv] at H ⊢
          clear hv
          refine hK.out _ _ ?_ (fun hHeld => ?_)
          · exact ⟨H.bat 4 rfl (j := 0) rfl, H.bat 4 rfl (j := 1) rfl, H.bat 3 rfl (j := 0) rfl, H.bat 3 rfl (j := 1) rfl⟩
          clear hK K
          try simp only [sA, sB, sC, Act.put, sD, sE, sF]
          refine wpAnyH_ready (rs := [3, 11]) (by kernel_rfl) (by simp) ?_
          refine (AllReadyH.cons rfl (fun K hK => ?_) (AllReadyH.cons rfl (fun K hK => ?_) AllReadyH.nil))
          · go_simp
            refine (toFil_any a1_0 A1_1 n1_1 c1_1 l1_1 _ (H.old h1_1) hs1_1).mono ?_
            rintro e u3 ⟨gb0, rfl, ob0, fb⟩
            replace H := H.made ob0 fb
            clear ob0 fb
            go_wp2_with fail
            refine hK.out _ _ ?_ (fun hHeld => ?_)
            · exact ⟨H.bat 5 rfl (j := 0) rfl, H.bat 5 rfl (j := 1) rfl, H.bat 4 rfl (j := 0) rfl, H.bat 4 rfl (j := 1) rfl⟩
            clear hK K
            try simp only [sA, sB, sC, Act.put, sD, sE, sF]
            refine wpAnyH_ready (rs := [5, 11]) (by kernel_rfl) (by simp) ?_
            refine (AllReadyH.cons rfl (fun K hK => ?_) (AllReadyH.cons rfl (fun K hK => ?_) AllReadyH.nil))
            · go_simp
              refine (specFilCut_c _ _ _ l0_0 _ _ _ l0_1 a1_0 _ _ _ l1_1 a2 _ (H.rd 2 rfl) (H.rd 3 rfl) (H.rd 0 rfl) (fun e => nomatch e) (fun e => nomatch e) (fun e => nomatch e) hs0_0 hs0_1 hz0_1 hs1_1).mono ?_
              rintro e u4 ⟨Ac0_0, cc0_0, Ac0_1, cc0_1, Ac1_0, cc1_0, rfl, Kc⟩
              replace H := H.join Kc
              clear Kc
              go_wp2_with fail
              refine hK.out _ _ ?_ (fun hHeld => ?_)
              · exact ⟨H.bat 8 rfl (j := 0) rfl, H.bat 8 rfl (j := 1) rfl, H.bat 7 rfl (j := 0) rfl, H.bat 7 rfl (j := 1) rfl⟩
              clear hK K
              try simp only [sA, sB, sC, Act.put, sD, sE, sF]
              refine wpAnyH_take (i := 6) (v := ?_) rfl (by kernel_rfl) (by kernel_rfl) (by kernel_rfl) (fun _ _ _ h => nomatch h.1) (Or.inl ⟨by kernel_rfl, ?_⟩) (by assumption) ?_
              rotate_left
              · (intro w hSw; (try dsimp only at hSw); go_simp; try (with_reducible rfl))
              try simp only [sA, sB, sC, Act.put, sD, sE, sF]
              refine wpAnyH_take (i := 7) (v := ?_) rfl (by kernel_rfl) (by kernel_rfl) (by kernel_rfl) (fun _ _ _ h => nomatch h.1) (Or.inl ⟨by kernel_rfl, ?_⟩) (by assumption) ?_
              rotate_left
              · (intro w hSw; (try dsimp only at hSw); go_simp; try (with_reducible rfl))
              try simp only [sA, sB, sC, Act.put, sD, sE, sF]
              refine wpAnyH_take (i := 8) (v := ?_) rfl (by kernel_rfl) (by kernel_rfl) (by kernel_rfl) (fun _ _ _ h => nomatch h.1) (Or.inl ⟨by kernel_rfl, ?_⟩) (by assumption) ?_
              rotate_left
              · (intro w hSw; (try dsimp only at hSw); go_simp; try (with_reducible rfl))
              try simp only [sA, sB, sC, Act.put, sD, sE, sF]
              refine wpAnyH_take (i := 9) (v := ?_) rfl (by kernel_rfl) (by kernel_rfl) (by kernel_rfl) (fun _ _ _ h => nomatch h.1) (Or.inl ⟨by kernel_rfl, ?_⟩) (by assumption) ?_
              rotate_left
              · (intro w hSw; (try dsimp only at hSw); go_simp; try (with_reducible rfl))
              try simp only [sA, sB, sC, Act.put, sD, sE, sF]
              refine wpAnyH_ready (rs := [11]) (by kernel_rfl) (by simp) ?_
              refine (AllReadyH.cons rfl (fun K hK => ?_) AllReadyH.nil)
              replace H := H.lay 34 [.int .i64 0, .slice none 0 0]
              go_simp
              obtain ⟨he, hhe⟩ : ∃ x, x = u4.heap.size := ⟨_, rfl⟩
              rw [← hhe] at H ⊢
              clear hhe
              obtain ⟨u5, hv⟩ : ∃ uu : World, uu = u4.alloc (.cells #[.int .i64 0, .slice none 0 0] 34) := ⟨_, rfl⟩
              rw [← hv] at H ⊢
              clear hv
              refine hK.out _ _ ?_ (fun hHeld => ?_)
              · exact ⟨H.bat 9 rfl (j := 0) rfl, H.bat 9 rfl (j := 1) rfl, H.bat 8 rfl (j := 0) rfl, H.bat 8 rfl (j := 1) rfl⟩
              clear hK K
              try simp only [sA, sB, sC, Act.put, sD, sE, sF]
              replace H := H.reord [6, 7, 4, 1, 2, 3, 5, 0, 8, 9] (n := 10) rfl (by decide)
              exact hJ.out ga0 ga1 gb0 Ac0_0 cc0_0 Ac0_1 cc0_1 Ac1_0 cc1_0 hd he _ (by rw [hl0]; exact H) hHeld
            · replace H := H.lay 34 [.int .i64 0, .slice none 0 0]
              go_simp
              obtain ⟨he, hhe⟩ : ∃ x, x = u3.heap.size := ⟨_, rfl⟩
              rw [← hhe] at H ⊢
              clear hhe
              obtain ⟨u4, hv⟩ : ∃ uu : World, uu = u3.alloc (.cells #[.int .i64 0, .slice none 0 0] 34) := ⟨_, rfl⟩
              rw [← hv] at H ⊢
              clear hv
              refine hK.out _ _ ?_ (fun hHeld => ?_)
              · exact ⟨H.bat 6 rfl (j := 0) rfl, H.bat 6 rfl (j := 1) rfl, H.bat 5 rfl (j := 0) rfl, H.bat 5 rfl (j := 1) rfl⟩
              clear hK K
              try simp only [sA, sB, sC, Act.put, sD, sE, sF]
              refine wpAnyH_ready (rs := [5]) (by kernel_rfl) (by simp) ?_
              refine (AllReadyH.cons rfl (fun K hK => ?_) AllReadyH.nil)
              go_simp
              refine (specFilCut_c _ _ _ l0_0 _ _ _ l0_1 a1_0 _ _ _ l1_1 a2 _ (H.rd 3 rfl) (H.rd 4 rfl) (H.rd 1 rfl) (fun e => nomatch e) (fun e => nomatch e) (fun e => nomatch e) hs0_0 hs0_1 hz0_1 hs1_1).mono ?_
              rintro e u5 ⟨Ac0_0, cc0_0, Ac0_1, cc0_1, Ac1_0, cc1_0, rfl, Kc⟩
              replace H := H.join Kc
              clear Kc
              go_wp2_with fail
              refine hK.out _ _ ?_ (fun hHeld => ?_)
              · exact ⟨H.bat 9 rfl (j := 0) rfl, H.bat 9 rfl (j := 1) rfl, H.bat 8 rfl (j := 0) rfl, H.bat 8 rfl (j := 1) rfl⟩
              clear hK K
              try simp only [sA, sB, sC, Act.put, sD, sE, sF]
              refine wpAnyH_take (i := 6) (v := ?_) rfl (by kernel_rfl) (by kernel_rfl) (by kernel_rfl) (fun _ _ _ h => nomatch h.1) (Or.inl ⟨by kernel_rfl, ?_⟩) (by assumption) ?_
              rotate_left
              · (intro w hSw; (try dsimp only at hSw); go_simp; try (with_reducible rfl))
              try simp only [sA, sB, sC, Act.put, sD, sE, sF]
              refine wpAnyH_take (i := 7) (v := ?_) rfl (by kernel_rfl) (by kernel_rfl) (by kernel_rfl) (fun _ _ _ h => nomatch h.1) (Or.inl ⟨by kernel_rfl, ?_⟩) (by assumption) ?_
              rotate_left
              · (intro w hSw; (try dsimp only at hSw); go_simp; try (with_reducible rfl))
              try simp only [sA, sB, sC, Act.put, sD, sE, sF]
              refine wpAnyH_take (i := 8) (v := ?_) rfl (by kernel_rfl) (by kernel_rfl) (by kernel_rfl) (fun _ _ _ h => nomatch h.1) (Or.inl ⟨by kernel_rfl, ?_⟩) (by assumption) ?_
              rotate_left
              · (intro w hSw; (try dsimp only at hSw); go_simp; try (with_reducible rfl))
              try simp only [sA, sB, sC, Act.put, sD, sE, sF]
              refine wpAnyH_take (i := 9) (v := ?_) rfl (by kernel_rfl) (by kernel_rfl) (by kernel_rfl) (fun _ _ _ h => nomatch h.1) (Or.inl ⟨by kernel_rfl, ?_⟩) (by assumption) ?_
              rotate_left
              · (intro w hSw; (try dsimp only at hSw); go_simp; try (with_reducible rfl))
              try simp only [sA, sB, sC, Act.put, sD, sE, sF]
              replace H := H.reord [6, 7, 4, 0, 1, 2, 5, 3, 8, 9] (n := 10) rfl (by decide)
              exact hJ.out ga0 ga1 gb0 Ac0_0 cc0_0 Ac0_1 cc0_1 Ac1_0 cc1_0 hd he _ (by rw [hl0]; exact H) hHeld
          · replace H := H.lay 34 [.int .i64 0, .slice none 0 0]
            go_simp
            obtain ⟨he, hhe⟩ : ∃ x, x = u2.heap.size := ⟨_, rfl⟩
            rw [← hhe] at H ⊢
            clear hhe
            obtain ⟨u3, hv⟩ : ∃ uu : World, uu = u2.alloc (.cells #[.int .i64 0, .slice none 0 0] 34) := ⟨_, rfl⟩
            rw [← hv] at H ⊢
            clear hv
            refine hK.out _ _ ?_ (fun hHeld => ?_)
            · exact ⟨H.bat 5 rfl (j := 0) rfl, H.bat 5 rfl (j := 1) rfl, H.bat 4 rfl (j := 0) rfl, H.bat 4 rfl (j := 1) rfl⟩
            clear hK K
            try simp only [sA, sB, sC, Act.put, sD, sE, sF]
            refine wpAnyH_ready (rs := [3]) (by kernel_rfl) (by simp) ?_
            refine (AllReadyH.cons rfl (fun K hK => ?_) AllReadyH.nil)
            go_simp
            refine (toFil_any a1_0 A1_1 n1_1 c1_1 l1_1 _ (H.old h1_1) hs1_1).mono ?_
            rintro e u4 ⟨gb0, rfl, ob0, fb⟩
            replace H := H.made ob0 fb
            clear ob0 fb
            go_wp2_with fail
            refine hK.out _ _ ?_ (fun hHeld => ?_)
            · exact ⟨H.bat 6 rfl (j := 0) rfl, H.bat 6 rfl (j := 1) rfl, H.bat 5 rfl (j := 0) rfl, H.bat 5 rfl (j := 1) rfl⟩
            clear hK K
            try simp only [sA, sB, sC, Act.put, sD, sE, sF]
            refine wpAnyH_ready (rs := [5]) (by kernel_rfl) (by simp) ?_
            refine (AllReadyH.cons rfl (fun K hK => ?_) AllReadyH.nil)
            go_simp
            refine (specFilCut_c _ _ _ l0_0 _ _ _ l0_1 a1_0 _ _ _ l1_1 a2 _ (H.rd 3 rfl) (H.rd 4 rfl) (H.rd 0 rfl) (fun e => nomatch e) (fun e => nomatch e) (fun e => nomatch e) hs0_0 hs0_1 hz0_1 hs1_1).mono ?_
            rintro e u5 ⟨Ac0_0, cc0_0, Ac0_1, cc0_1, Ac1_0, cc1_0, rfl, Kc⟩
            replace H := H.join Kc
            clear Kc
            go_wp2_with fail
            refine hK.out _ _ ?_ (fun hHeld => ?_)
            · exact ⟨H.bat 9 rfl (j := 0) rfl, H.bat 9 rfl (j := 1) rfl, H.bat 8 rfl (j := 0) rfl, H.bat 8 rfl (j := 1) rfl⟩
            clear hK K
            try simp only [sA, sB, sC, Act.put, sD, sE, sF]
            refine wpAnyH_take (i := 6) (v := ?_) rfl (by kernel_rfl) (by kernel_rfl) (by kernel_rfl) (fun _ _ _ h => nomatch h.1) (Or.inl ⟨by kernel_rfl, ?_⟩) (by assumption) ?_
            rotate_left
            · (intro w hSw; (try dsimp only at hSw); go_simp; try (with_reducible rfl))
            try simp only [sA, sB, sC, Act.put, sD, sE, sF]
            refine wpAnyH_take (i := 7) (v := ?_) rfl (by kernel_rfl) (by kernel_rfl) (by kernel_rfl) (fun _ _ _ h => nomatch h.1) (Or.inl ⟨by kernel_rfl, ?_⟩) (by assumption) ?_
            rotate_left
            · (intro w hSw; (try dsimp only at hSw); go_simp; try (with_reducible rfl))
            try simp only [sA, sB, sC, Act.put, sD, sE, sF]
            refine wpAnyH_take (i := 8) (v := ?_) rfl (by kernel_rfl) (by kernel_rfl) (by kernel_rfl) (fun _ _ _ h => nomatch h.1) (Or.inl ⟨by kernel_rfl, ?_⟩) (by assumption) ?_
            rotate_left
            · (intro w hSw; (try dsimp only at hSw); go_simp; try (with_reducible rfl))
            try simp only [sA, sB, sC, Act.put, sD, sE, sF]
            refine wpAnyH_take (i := 9) (v := ?_) rfl (by kernel_rfl) (by kernel_rfl) (by kernel_rfl) (fun _ _ _ h => nomatch h.1) (Or.inl ⟨by kernel_rfl, ?_⟩) (by assumption) ?_
            rotate_left
            · (intro w hSw; (try dsimp only at hSw); go_simp; try (with_reducible rfl))
            try simp only [sA, sB, sC, Act.put, sD, sE, sF]
            replace H := H.reord [6, 7, 3, 0, 1, 2, 5, 4, 8, 9] (n := 10) rfl (by decide)
            exact hJ.out ga0 ga1 gb0 Ac0_0 cc0_0 Ac0_1 cc0_1 Ac1_0 cc1_0 hd he _ (by rw [hl0]; exact H) hHeld
        · replace H := H.lay 34 [.int .i64 0, .slice none 0 0]
          go_simp
          obtain ⟨he, hhe⟩ : ∃ x, x = u1.heap.size := ⟨_, rfl⟩
          rw [← hhe] at H ⊢
          clear hhe
          obtain ⟨u2, hv⟩ : ∃ uu : World, uu = u1.alloc (.cells #[.int .i64 0, .slice none 0 0] 34) := ⟨_, rfl⟩
          rw [← hv] at H ⊢
          clear hv
          refine hK.out _ _ ?_ (fun hHeld => ?_)
          · exact ⟨H.bat 4 rfl (j := 0) rfl, H.bat 4 rfl (j := 1) rfl, H.bat 3 rfl (j := 0) rfl, H.bat 3 rfl (j := 1) rfl⟩
          clear hK K
          try simp only [sA, sB, sC, Act.put, sD, sE, sF]
          refine wpAnyH_ready (rs := [3, 10]) (by kernel_rfl) (by simp) ?_
          refine (AllReadyH.cons rfl (fun K hK => ?_) (AllReadyH.cons rfl (fun K hK => ?_) AllReadyH.nil))
          · go_simp
            refine (toFil_any a1_0 A1_1 n1_1 c1_1 l1_1 _ (H.old h1_1) hs1_1).mono ?_
            rintro e u3 ⟨gb0, rfl, ob0, fb⟩
            replace H := H.made ob0 fb
            clear ob0 fb
            go_wp2_with fail
            refine hK.out _ _ ?_ (fun hHeld => ?_)
            · exact ⟨H.bat 5 rfl (j := 0) rfl, H.bat 5 rfl (j := 1) rfl, H.bat 4 rfl (j := 0) rfl, H.bat 4 rfl (j := 1) rfl⟩
            clear hK K
            try simp only [sA, sB, sC, Act.put, sD, sE, sF]
            refine wpAnyH_ready (rs := [5, 10]) (by kernel_rfl) (by simp) ?_
            refine (AllReadyH.cons rfl (fun K hK => ?_) (AllReadyH.cons rfl (fun K hK => ?_) AllReadyH.nil))
            · go_simp
              refine (specFilCut_c _ _ _ l0_0 _ _ _ l0_1 a1_0 _ _ _ l1_1 a2 _ (H.rd 2 rfl) (H.rd 3 rfl) (H.rd 0 rfl) (fun e => nomatch e) (fun e => nomatch e) (fun e => nomatch e) hs0_0 hs0_1 hz0_1 hs1_1).mono ?_
              rintro e u4 ⟨Ac0_0, cc0_0, Ac0_1, cc0_1, Ac1_0, cc1_0, rfl, Kc⟩
              replace H := H.join Kc
              clear Kc
              go_wp2_with fail
              refine hK.out _ _ ?_ (fun hHeld => ?_)
              · exact ⟨H.bat 8 rfl (j := 0) rfl, H.bat 8 rfl (j := 1) rfl, H.bat 7 rfl (j := 0) rfl, H.bat 7 rfl (j := 1) rfl⟩
              clear hK K
              try simp only [sA, sB, sC, Act.put, sD, sE, sF]
              refine wpAnyH_take (i := 6) (v := ?_) rfl (by kernel_rfl) (by kernel_rfl) (by kernel_rfl) (fun _ _ _ h => nomatch h.1) (Or.inl ⟨by kernel_rfl, ?_⟩) (by assumption) ?_
              rotate_left
              · (intro w hSw; (try dsimp only at hSw); go_simp; try (with_reducible rfl))
              try simp only [sA, sB, sC, Act.put, sD, sE, sF]
              refine wpAnyH_take (i := 7) (v := ?_) rfl (by kernel_rfl) (by kernel_rfl) (by kernel_rfl) (fun _ _ _ h => nomatch h.1) (Or.inl ⟨by kernel_rfl, ?_⟩) (by assumption) ?_
              rotate_left
              · (intro w hSw; (try dsimp only at hSw); go_simp; try (with_reducible rfl))
              try simp only [sA, sB, sC, Act.put, sD, sE, sF]
              refine wpAnyH_take (i := 8) (v := ?_) rfl (by kernel_rfl) (by kernel_rfl) (by kernel_rfl) (fun _ _ _ h => nomatch h.1) (Or.inl ⟨by kernel_rfl, ?_⟩) (by assumption) ?_
              rotate_left
              · (intro w hSw; (try dsimp only at hSw); go_simp; try (with_reducible rfl))
              try simp only [sA, sB, sC, Act.put, sD, sE, sF]
              refine wpAnyH_take (i := 9) (v := ?_) rfl (by kernel_rfl) (by kernel_rfl) (by kernel_rfl) (fun _ _ _ h => nomatch h.1) (Or.inl ⟨by kernel_rfl, ?_⟩) (by assumption) ?_
              rotate_left
              · (intro w hSw; (try dsimp only at hSw); go_simp; try (with_reducible rfl))
              try simp only [sA, sB, sC, Act.put, sD, sE, sF]
              refine wpAnyH_ready (rs := [10]) (by kernel_rfl) (by simp) ?_
              refine (AllReadyH.cons rfl (fun K hK => ?_) AllReadyH.nil)
              replace H := H.lay 31 [.slice none 0 0, .slice none 0 0]
              go_simp
              obtain ⟨hd, hhd⟩ : ∃ x, x = u4.heap.size := ⟨_, rfl⟩
              rw [← hhd] at H ⊢
              clear hhd
              obtain ⟨u5, hv⟩ : ∃ uu : World, uu = u4.alloc (.cells #[.slice none 0 0, .slice none 0 0] 31) := ⟨_, rfl⟩
              rw [← hv] at H ⊢
              clear hv
              refine hK.out _ _ ?_ (fun hHeld => ?_)
              · exact ⟨H.bat 9 rfl (j := 0) rfl, H.bat 9 rfl (j := 1) rfl, H.bat 8 rfl (j := 0) rfl, H.bat 8 rfl (j := 1) rfl⟩
              clear hK K
              try simp only [sA, sB, sC, Act.put, sD, sE, sF]
              replace H := H.reord [6, 7, 4, 1, 2, 3, 0, 5, 8, 9] (n := 10) rfl (by decide)
              exact hJ.out ga0 ga1 gb0 Ac0_0 cc0_0 Ac0_1 cc0_1 Ac1_0 cc1_0 hd he _ (by rw [hl0]; exact H) hHeld
            · replace H := H.lay 31 [.slice none 0 0, .slice none 0 0]
              go_simp
              obtain ⟨hd, hhd⟩ : ∃ x, x = u3.heap.size := ⟨_, rfl⟩
              rw [← hhd] at H ⊢
              clear hhd
              obtain ⟨u4, hv⟩ : ∃ uu : World, uu = u3.alloc (.cells #[.slice none 0 0, .slice none 0 0] 31) := ⟨_, rfl⟩
              rw [← hv] at H ⊢
              clear hv
              refine hK.out _ _ ?_ (fun hHeld => ?_)
              · exact ⟨H.bat 6 rfl (j := 0) rfl, H.bat 6 rfl (j := 1) rfl, H.bat 5 rfl (j := 0) rfl, H.bat 5 rfl (j := 1) rfl⟩
              clear hK K
              try simp only [sA, sB, sC, Act.put, sD, sE, sF]
              refine wpAnyH_ready (rs := [5]) (by kernel_rfl) (by simp) ?_
              refine (AllReadyH.cons rfl (fun K hK => ?_) AllReadyH.nil)
              go_simp
              refine (specFilCut_c _ _ _ l0_0 _ _ _ l0_1 a1_0 _ _ _ l1_1 a2 _ (H.rd 3 rfl) (H.rd 4 rfl) (H.rd 1 rfl) (fun e => nomatch e) (fun e => nomatch e) (fun e => nomatch e) hs0_0 hs0_1 hz0_1 hs1_1).mono ?_
              rintro e u5 ⟨Ac0_0, cc0_0, Ac0_1, cc0_1, Ac1_0, cc1_0, rfl, Kc⟩
              replace H := H.join Kc
              clear Kc
              go_wp2_with fail
              refine hK.out _ _ ?_ (fun hHeld => ?_)
              · exact ⟨H.bat 9 rfl (j := 0) rfl, H.bat 9 rfl (j := 1) rfl, H.bat 8 rfl (j := 0) rfl, H.bat 8 rfl (j := 1) rfl⟩
              clear hK K
              try simp only [sA, sB, sC, Act.put, sD, sE, sF]
              refine wpAnyH_take (i := 6) (v := ?_) rfl (by kernel_rfl) (by kernel_rfl) (by kernel_rfl) (fun _ _ _ h => nomatch h.1) (Or.inl ⟨by kernel_rfl, ?_⟩) (by assumption) ?_
              rotate_left
              · (intro w hSw; (try dsimp only at hSw); go_simp; try (with_reducible rfl))
              try simp only [sA, sB, sC, Act.put, sD, sE, sF]
              refine wpAnyH_take (i := 7) (v := ?_) rfl (by kernel_rfl) (by kernel_rfl) (by kernel_rfl) (fun _ _ _ h => nomatch h.1) (Or.inl ⟨by kernel_rfl, ?_⟩) (by assumption) ?_
              rotate_left
              · (intro w hSw; (try dsimp only at hSw); go_simp; try (with_reducible rfl))
              try simp only [sA, sB, sC, Act.put, sD, sE, sF]
              refine wpAnyH_take (i := 8) (v := ?_) rfl (by kernel_rfl) (by kernel_rfl) (by kernel_rfl) (fun _ _ _ h => nomatch h.1) (Or.inl ⟨by kernel_rfl, ?_⟩) (by assumption) ?_
              rotate_left
              · (intro w hSw; (try dsimp only at hSw); go_simp; try (with_reducible rfl))
              try simp only [sA, sB, sC, Act.put, sD, sE, sF]
              refine wpAnyH_take (i := 9) (v := ?_) rfl (by kernel_rfl) (by kernel_rfl) (by kernel_rfl) (fun _ _ _ h => nomatch h.1) (Or.inl ⟨by kernel_rfl, ?_⟩) (by assumption) ?_
              rotate_left
              · (intro w hSw; (try dsimp only at hSw); go_simp; try (with_reducible rfl))
              try simp only [sA, sB, sC, Act.put, sD, sE, sF]
              replace H := H.reord [6, 7, 4, 0, 1, 2, 3, 5, 8, 9] (n := 10) rfl (by decide)
              exact hJ.out ga0 ga1 gb0 Ac0_0 cc0_0 Ac0_1 cc0_1 Ac1_0 cc1_0 hd he _ (by rw [hl0]; exact H) hHeld
          · replace H := H.lay 31 [.slice none 0 0, .slice none 0 0]
            go_simp
            obtain ⟨hd, hhd⟩ : ∃ x, x = u2.heap.size := ⟨_, rfl⟩
            rw [← hhd] at H ⊢
            clear hhd
            obtain ⟨u3, hv⟩ : ∃ uu : World, uu = u2.alloc (.cells #[.slice none 0 0, .slice none 0 0] 31) := ⟨_, rfl⟩
            rw [← hv] at H ⊢
            clear hv
            refine hK.out _ _ ?_ (fun hHeld => ?_)
            · exact ⟨H.bat 5 rfl (j := 0) rfl, H.bat 5 rfl (j := 1) rfl, H.bat 4 rfl (j := 0) rfl, H.bat 4 rfl (j := 1) rfl⟩
            clear hK K
            try simp only [sA, sB, sC, Act.put, sD, sE, sF]
            refine wpAnyH_ready (rs := [3]) (by kernel_rfl) (by simp) ?_
            refine (AllReadyH.cons rfl (fun K hK => ?_) AllReadyH.nil)
            go_simp
            refine (toFil_any a1_0 A1_1 n1_1 c1_1 l1_1 _ (H.old h1_1) hs1_1).mono ?_
            rintro e u4 ⟨gb0, rfl, ob0, fb⟩
            replace H := H.made ob0 fb
            clear ob0 fb
            go_wp2_with fail
            refine hK.out _ _ ?_ (fun hHeld => ?_)
            · exact ⟨H.bat 6 rfl (j := 0) rfl, H.bat 6 rfl (j := 1) rfl, H.bat 5 rfl (j := 0) rfl, H.bat 5 rfl (j := 1) rfl⟩
            clear hK K
            try simp only [sA, sB, sC, Act.put, sD, sE, sF]
            refine wpAnyH_ready (rs := [5]) (by kernel_rfl) (by simp) ?_
            refine (AllReadyH.cons rfl (fun K hK => ?_) AllReadyH.nil)
            go_simp
            refine (specFilCut_c _ _ _ l0_0 _ _ _ l0_1 a1_0 _ _ _ l1_1 a2 _ (H.rd 3 rfl) (H.rd 4 rfl) (H.rd 0 rfl) (fun e => nomatch e) (fun e => nomatch e) (fun e => nomatch e) hs0_0 hs0_1 hz0_1 hs1_1).mono ?_
            rintro e u5 ⟨Ac0_0, cc0_0, Ac0_1, cc0_1, Ac1_0, cc1_0, rfl, Kc⟩
            replace H := H.join Kc
            clear Kc
            go_wp2_with fail
            refine hK.out _ _ ?_ (fun hHeld => ?_)
            · exact ⟨H.bat 9 rfl (j := 0) rfl, H.bat 9 rfl (j := 1) rfl, H.bat 8 rfl (j := 0) rfl, H.bat 8 rfl (j := 1) rfl⟩
            clear hK K
            try simp only [sA, sB, sC, Act.put, sD, sE, sF]
            refine wpAnyH_take (i := 6) (v := ?_) rfl (by kernel_rfl) (by kernel_rfl) (by kernel_rfl) (fun _ _ _ h => nomatch h.1) (Or.inl ⟨by kernel_rfl, ?_⟩) (by assumption) ?_
            rotate_left
            · (intro w hSw; (try dsimp only at hSw); go_simp; try (with_reducible rfl))
            try simp only [sA, sB, sC, Act.put, sD, sE, sF]
            refine wpAnyH_take (i := 7) (v := ?_) rfl (by kernel_rfl) (by kernel_rfl) (by kernel_rfl) (fun _ _ _ h => nomatch h.1) (Or.inl ⟨by kernel_rfl, ?_⟩) (by assumption) ?_
            rotate_left
            · (intro w hSw; (try dsimp only at hSw); go_simp; try (with_reducible rfl))
            try simp only [sA, sB, sC, Act.put, sD, sE, sF]
            refine wpAnyH_take (i := 8) (v := ?_) rfl (by kernel_rfl) (by kernel_rfl) (by kernel_rfl) (fun _ _ _ h => nomatch h.1) (Or.inl ⟨by kernel_rfl, ?_⟩) (by assumption) ?_
            rotate_left
            · (intro w hSw; (try dsimp only at hSw); go_simp; try (with_reducible rfl))
            try simp only [sA, sB, sC, Act.put, sD, sE, sF]
            refine wpAnyH_take (i := 9) (v := ?_) rfl (by kernel_rfl) (by kernel_rfl) (by kernel_rfl) (fun _ _ _ h => nomatch h.1) (Or.inl ⟨by kernel_rfl, ?_⟩) (by assumption) ?_
            rotate_left
            · (intro w hSw; (try dsimp only at hSw); go_simp; try (with_reducible rfl))
            try simp only [sA, sB, sC, Act.put, sD, sE, sF]
            replace H := H.reord [6, 7, 3, 0, 1, 2, 4, 5, 8, 9] (n := 10) rfl (by decide)
            exact hJ.out ga0 ga1 gb0 Ac0_0 cc0_0 Ac0_1 cc0_1 Ac1_0 cc1_0 hd he _ (by rw [hl0]; exact H) hHeld
      · replace H := H.lay 31 [.slice none 0 0, .slice none 0 0]
        go_simp
        obtain ⟨hd, hhd⟩ : ∃ x, x = u0.heap.size := ⟨_, rfl⟩
        rw [← hhd] at H ⊢
        clear hhd
        obtain ⟨u1, hv⟩ : ∃ uu : World, uu = u0.alloc (.cells #[.slice none 0 0, .slice none 0 0] 31) := ⟨_, rfl⟩
        rw [← hv] at H ⊢
        clear hv
        refine hK.out _ _ ?_ (fun hHeld => ?_)
        · exact ⟨H.bat 2 rfl (j := 0) rfl, H.bat 2 rfl (j := 1) rfl, H.bat 1 rfl (j := 0) rfl, H.bat 1 rfl (j := 1) rfl⟩
        clear hK K
        try simp only [sA, sB, sC, Act.put, sD, sE, sF]
        refine wpAnyH_ready (rs := [1, 11]) (by kernel_rfl) (by simp) ?_
        refine (AllReadyH.cons rfl (fun K hK => ?_) (AllReadyH.cons rfl (fun K hK => ?_) AllReadyH.nil))
        · go_simp
          refine (toStore_any A0_0 n0_0 c0_0 l0_0 A0_1 n0_1 c0_1 l0_1 _ (H.old h0_0) (H.old h0_1) hs0_0 hs0_1).mono ?_
          rintro e u2 ⟨ga0, ga1, rfl, oa0, oa1, fa⟩
          replace H := H.made2 oa0 oa1 fa (by decide)
          clear oa0 oa1 fa
          go_wp2_with fail
          refine hK.out _ _ ?_ (fun hHeld => ?_)
          · exact ⟨H.bat 4 rfl (j := 0) rfl, H.bat 4 rfl (j := 1) rfl, H.bat 3 rfl (j := 0) rfl, H.bat 3 rfl (j := 1) rfl⟩
          clear hK K
          try simp only [sA, sB, sC, Act.put, sD, sE, sF]
          refine wpAnyH_ready (rs := [3, 11]) (by kernel_rfl) (by simp) ?_
          refine (AllReadyH.cons rfl (fun K hK => ?_) (AllReadyH.cons rfl (fun K hK => ?_) AllReadyH.nil))
          · go_simp
            refine (toFil_any a1_0 A1_1 n1_1 c1_1 l1_1 _ (H.old h1_1) hs1_1).mono ?_
            rintro e u3 ⟨gb0, rfl, ob0, fb⟩
            replace H := H.made ob0 fb
            clear ob0 fb
            go_wp2_with fail
            refine hK.out _ _ ?_ (fun hHeld => ?_)
            · exact ⟨H.bat 5 rfl (j := 0) rfl, H.bat 5 rfl (j := 1) rfl, H.bat 4 rfl (j := 0) rfl, H.bat 4 rfl (j := 1) rfl⟩
            clear hK K
            try simp only [sA, sB, sC, Act.put, sD, sE, sF]
            refine wpAnyH_ready (rs := [5, 11]) (by kernel_rfl) (by simp) ?_
            refine (AllReadyH.cons rfl (fun K hK => ?_) (AllReadyH.cons rfl (fun K hK => ?_) AllReadyH.nil))
            · go_simp
              refine (specFilCut_c _ _ _ l0_0 _ _ _ l0_1 a1_0 _ _ _ l1_1 a2 _ (H.rd 1 rfl) (H.rd 2 rfl) (H.rd 0 rfl) (fun e => nomatch e) (fun e => nomatch e) (fun e => nomatch e) hs0_0 hs0_1 hz0_1 hs1_1).mono ?_
              rintro e u4 ⟨Ac0_0, cc0_0, Ac0_1, cc0_1, Ac1_0, cc1_0, rfl, Kc⟩
              replace H := H.join Kc
              clear Kc
              go_wp2_with fail
              refine hK.out _ _ ?_ (fun hHeld => ?_)
              · exact ⟨H.bat 8 rfl (j := 0) rfl, H.bat 8 rfl (j := 1) rfl, H.bat 7 rfl (j := 0) rfl, H.bat 7 rfl (j := 1) rfl⟩
              clear hK K
              try simp only [sA, sB, sC, Act.put, sD, sE, sF]
              refine wpAnyH_take (i := 6) (v := ?_) rfl (by kernel_rfl) (by kernel_rfl) (by kernel_rfl) (fun _ _ _ h => nomatch h.1) (Or.inl ⟨by kernel_rfl, ?_⟩) (by assumption) ?_
              rotate_left
              · (intro w hSw; (try dsimp only at hSw); go_simp; try (with_reducible rfl))
              try simp only [sA, sB, sC, Act.put, sD, sE, sF]
              refine wpAnyH_take (i := 7) (v := ?_) rfl (by kernel_rfl) (by kernel_rfl) (by kernel_rfl) (fun _ _ _ h => nomatch h.1) (Or.inl ⟨by kernel_rfl, ?_⟩) (by assumption) ?_
              rotate_left
              · (intro w hSw; (try dsimp only at hSw); go_simp; try (with_reducible rfl))
              try simp only [sA, sB, sC, Act.put, sD, sE, sF]
              refine wpAnyH_take (i := 8) (v := ?_) rfl (by kernel_rfl) (by kernel_rfl) (by kernel_rfl) (fun _ _ _ h => nomatch h.1) (Or.inl ⟨by kernel_rfl, ?_⟩) (by assumption) ?_
              rotate_left
              · (intro w hSw; (try dsimp only at hSw); go_simp; try (with_reducible rfl))
              try simp only [sA, sB, sC, Act.put, sD, sE, sF]
              refine wpAnyH_take (i := 9) (v := ?_) rfl (by kernel_rfl) (by kernel_rfl) (by kernel_rfl) (fun _ _ _ h => nomatch h.1) (Or.inl ⟨by kernel_rfl, ?_⟩) (by assumption) ?_
              rotate_left
              · (intro w hSw; (try dsimp only at hSw); go_simp; try (with_reducible rfl))
              try simp only [sA, sB, sC, Act.put, sD, sE, sF]
              refine wpAnyH_ready (rs := [11]) (by kernel_rfl) (by simp) ?_
              refine (AllReadyH.cons rfl (fun K hK => ?_) AllReadyH.nil)
              replace H := H.lay 34 [.int .i64 0, .slice none 0 0]
              go_simp
              obtain ⟨he, hhe⟩ : ∃ x, x = u4.heap.size := ⟨_, rfl⟩
              rw [← hhe] at H ⊢
              clear hhe
              obtain ⟨u5, hv⟩ : ∃ uu : World, uu = u4.alloc (.cells #[.int .i64 0, .slice none 0 0] 34) := ⟨_, rfl⟩
              rw [← hv] at H ⊢
              clear hv
              refine hK.out _ _ ?_ (fun hHeld => ?_)
              · exact ⟨H.bat 9 rfl (j := 0) rfl, H.bat 9 rfl (j := 1) rfl, H.bat 8 rfl (j := 0) rfl, H.bat 8 rfl (j := 1) rfl⟩
              clear hK K
              try simp only [sA, sB, sC, Act.put, sD, sE, sF]
              replace H := H.reord [5, 6, 4, 1, 2, 3, 7, 0, 8, 9] (n := 10) rfl (by decide)
              exact hJ.out ga0 ga1 gb0 Ac0_0 cc0_0 Ac0_1 cc0_1 Ac1_0 cc1_0 hd he _ (by rw [hl0]; exact H) hHeld
            · replace H := H.lay 34 [.int .i64 0, .slice none 0 0]
              go_simp
              obtain ⟨he, hhe⟩ : ∃ x, x = u3.heap.size := ⟨_, rfl⟩
              rw [← hhe] at H ⊢
              clear hhe
              obtain ⟨u4, hv⟩ : ∃ uu : World, uu = u3.alloc (.cells #[.int .i64 0, .slice none 0 0] 34) := ⟨_, rfl⟩
              rw [← hv] at H ⊢
              clear hv
              refine hK.out _ _ ?_ (fun hHeld => ?_)
              · exact ⟨H.bat 6 rfl (j := 0) rfl, H.bat 6 rfl (j := 1) rfl, H.bat 5 rfl (j := 0) rfl, H.bat 5 rfl (j := 1) rfl⟩
              clear hK K
              try simp only [sA, sB, sC, Act.put, sD, sE, sF]
              refine wpAnyH_ready (rs := [5]) (by kernel_rfl) (by simp) ?_
              refine (AllReadyH.cons rfl (fun K hK => ?_) AllReadyH.nil)
              go_simp
              refine (specFilCut_c _ _ _ l0_0 _ _ _ l0_1 a1_0 _ _ _ l1_1 a2 _ (H.rd 2 rfl) (H.rd 3 rfl) (H.rd 1 rfl) (fun e => nomatch e) (fun e => nomatch e) (fun e => nomatch e) hs0_0 hs0_1 hz0_1 hs1_1).mono ?_
              rintro e u5 ⟨Ac0_0, cc0_0, Ac0_1, cc0_1, Ac1_0, cc1_0, rfl, Kc⟩
              replace H := H.join Kc
              clear Kc
              go_wp2_with fail
              refine hK.out _ _ ?_ (fun hHeld => ?_)
              · exact ⟨H.bat 9 rfl (j := 0) rfl, H.bat 9 rfl (j := 1) rfl, H.bat 8 rfl (j := 0) rfl, H.bat 8 rfl (j := 1) rfl⟩
              clear hK K
              try simp only [sA, sB, sC, Act.put, sD, sE, sF]
              refine wpAnyH_take (i := 6) (v := ?_) rfl (by kernel_rfl) (by kernel_rfl) (by kernel_rfl) (fun _ _ _ h => nomatch h.1) (Or.inl ⟨by kernel_rfl, ?_⟩) (by assumption) ?_
              rotate_left
              · (intro w hSw; (try dsimp only at hSw); go_simp; try (with_reducible rfl))
              try simp only [sA, sB, sC, Act.put, sD, sE, sF]
              refine wpAnyH_take (i := 7) (v := ?_) rfl (by kernel_rfl) (by kernel_rfl) (by kernel_rfl) (fun _ _ _ h => nomatch h.1) (Or.inl ⟨by kernel_rfl, ?_⟩) (by assumption) ?_
              rotate_left
              · (intro w hSw; (try dsimp only at hSw); go_simp; try (with_reducible rfl))
              try simp only [sA, sB, sC, Act.put, sD, sE, sF]
              refine wpAnyH_take (i := 8) (v := ?_) rfl (by kernel_rfl) (by kernel_rfl) (by kernel_rfl) (fun _ _ _ h => nomatch h.1) (Or.inl ⟨by kernel_rfl, ?_⟩) (by assumption) ?_
              rotate_left
              · (intro w hSw; (try dsimp only at hSw); go_simp; try (with_reducible rfl))
              try simp only [sA, sB, sC, Act.put, sD, sE, sF]
              refine wpAnyH_take (i := 9) (v := ?_) rfl (by kernel_rfl) (by kernel_rfl) (by kernel_rfl) (fun _ _ _ h => nomatch h.1) (Or.inl ⟨by kernel_rfl, ?_⟩) (by assumption) ?_
              rotate_left
              · (intro w hSw; (try dsimp only at hSw); go_simp; try (with_reducible rfl))
              try simp only [sA, sB, sC, Act.put, sD, sE, sF]
              replace H := H.reord [5, 6, 4, 0, 1, 2, 7, 3, 8, 9] (n := 10) rfl (by decide)
              exact hJ.out ga0 ga1 gb0 Ac0_0 cc0_0 Ac0_1 cc0_1 Ac1_0 cc1_0 hd he _ (by rw [hl0]; exact H) hHeld
          · replace H := H.lay 34 [.int .i64 0, .slice none 0 0]
            go_simp
            obtain ⟨he, hhe⟩ : ∃ x, x = u2.heap.size := ⟨_, rfl⟩
            rw [← hhe] at H ⊢
            clear hhe
            obtain ⟨u3, hv⟩ : ∃ uu : World, uu = u2.alloc (.cells #[.int .i64 0, .slice none 0 0] 34) := ⟨_, rfl⟩
            rw [← hv] at H ⊢
            clear hv
            refine hK.out _ _ ?_ (fun hHeld => ?_)
            · exact ⟨H.bat 5 rfl (j := 0) rfl, H.bat 5 rfl (j := 1) rfl, H.bat 4 rfl (j := 0) rfl, H.bat 4 rfl (j := 1) rfl⟩
            clear hK K
            try simp only [sA, sB, sC, Act.put, sD, sE, sF]
            refine wpAnyH_ready (rs := [3]) (by kernel_rfl) (by simp) ?_
            refine (AllReadyH.cons rfl (fun K hK => ?_) AllReadyH.nil)
            go_simp
            refine (toFil_any a1_0 A1_1 n1_1 c1_1 l1_1 _ (H.old h1_1) hs1_1).mono ?_
            rintro e u4 ⟨gb0, rfl, ob0, fb⟩
            replace H := H.made ob0 fb
            clear ob0 fb
            go_wp2_with fail
            refine hK.out _ _ ?_ (fun hHeld => ?_)
            · exact ⟨H.bat 6 rfl (j := 0) rfl, H.bat 6 rfl (j := 1) rfl, H.bat 5 rfl (j := 0) rfl, H.bat 5 rfl (j := 1) rfl⟩
            clear hK K
            try simp only [sA, sB, sC, Act.put, sD, sE, sF]
            refine wpAnyH_ready (rs := [5]) (by kernel_rfl) (by simp) ?_
            refine (AllReadyH.cons rfl (fun K hK => ?_) AllReadyH.nil)
            go_simp
            refine (specFilCut_c _ _ _ l0_0 _ _ _ l0_1 a1_0 _ _ _ l1_1 a2 _ (H.rd 2 rfl) (H.rd 3 rfl) (H.rd 0 rfl) (fun e => nomatch e) (fun e => nomatch e) (fun e => nomatch e) hs0_0 hs0_1 hz0_1 hs1_1).mono ?_
            rintro e u5 ⟨Ac0_0, cc0_0, Ac0_1, cc0_1, Ac1_0, cc1_0, rfl, Kc⟩
            replace H := H.join Kc
            clear Kc
            go_wp2_with fail
            refine hK.out _ _ ?_ (fun hHeld => ?_)
            · exact ⟨H.bat 9 rfl (j := 0) rfl, H.bat 9 rfl (j := 1) rfl, H.bat 8 rfl (j := 0) rfl, H.bat 8 rfl (j := 1) rfl⟩
            clear hK K
            try simp only [sA, sB, sC, Act.put, sD, sE, sF]
            refine wpAnyH_take (i := 6) (v := ?_) rfl (by kernel_rfl) (by kernel_rfl) (by kernel_rfl) (fun _ _ _ h => nomatch h.1) (Or.inl ⟨by kernel_rfl, ?_⟩) (by assumption) ?_
            rotate_left
            · (intro w hSw; (try dsimp only at hSw); go_simp; try (with_reducible rfl))
            try simp only [sA, sB, sC, Act.put, sD, sE, sF]
            refine wpAnyH_take (i := 7) (v := ?_) rfl (by kernel_rfl) (by kernel_rfl) (by kernel_rfl) (fun _ _ _ h => nomatch h.1) (Or.inl ⟨by kernel_rfl, ?_⟩) (by assumption) ?_
            rotate_left
            · (intro w hSw; (try dsimp only at hSw); go_simp; try (with_reducible rfl))
            try simp only [sA, sB, sC, Act.put, sD, sE, sF]
            refine wpAnyH_take (i := 8) (v := ?_) rfl (by kernel_rfl) (by kernel_rfl) (by kernel_rfl) (fun _ _ _ h => nomatch h.1) (Or.inl ⟨by kernel_rfl, ?_⟩) (by assumption) ?_
            rotate_left
            · (intro w hSw; (try dsimp only at hSw); go_simp; try (with_reducible rfl))
            try simp only [sA, sB, sC, Act.put, sD, sE, sF]
            refine wpAnyH_take (i := 9) (v := ?_) rfl (by kernel_rfl) (by kernel_rfl) (by kernel_rfl) (fun _ _ _ h => nomatch h.1) (Or.inl ⟨by kernel_rfl, ?_⟩) (by assumption) ?_
            rotate_left
            · (intro w hSw; (try dsimp only at hSw); go_simp; try (with_reducible rfl))
            try simp only [sA, sB, sC, Act.put, sD, sE, sF]
            replace H := H.reord [5, 6, 3, 0, 1, 2, 7, 4, 8, 9] (n := 10) rfl (by decide)
            exact hJ.out ga0 ga1 gb0 Ac0_0 cc0_0 Ac0_1 cc0_1 Ac1_0 cc1_0 hd he _ (by rw [hl0]; exact H) hHeld
        · replace H := H.lay 34 [.int .i64 0, .slice none 0 0]
          go_simp
          obtain ⟨he, hhe⟩ : ∃ x, x = u1.heap.size := ⟨_, rfl⟩
          rw [← hhe] at H ⊢
          clear hhe
          obtain ⟨u2, hv⟩ : ∃ uu : World, uu = u1.alloc (.cells #[.int .i64 0, .slice none 0 0] 34) := ⟨_, rfl⟩
          rw [← hv] at H ⊢
          clear hv
          refine hK.out _ _ ?_ (fun hHeld => ?_)
          · exact ⟨H.bat 3 rfl (j := 0) rfl, H.bat 3 rfl (j := 1) rfl, H.bat 2 rfl (j := 0) rfl, H.bat 2 rfl (j := 1) rfl⟩
          clear hK K
          try simp only [sA, sB, sC, Act.put, sD, sE, sF]
          refine wpAnyH_ready (rs := [1]) (by kernel_rfl) (by simp) ?_
          refine (AllReadyH.cons rfl (fun K hK => ?_) AllReadyH.nil)
          go_simp
          refine (toStore_any A0_0 n0_0 c0_0 l0_0 A0_1 n0_1 c0_1 l0_1 _ (H.old h0_0) (H.old h0_1) hs0_0 hs0_1).mono ?_
          rintro e u3 ⟨ga0, ga1, rfl, oa0, oa1, fa⟩
          replace H := H.made2 oa0 oa1 fa (by decide)
          clear oa0 oa1 fa
          go_wp2_with fail
          refine hK.out _ _ ?_ (fun hHeld => ?_)
          · exact ⟨H.bat 5 rfl (j := 0) rfl, H.bat 5 rfl (j := 1) rfl, H.bat 4 rfl (j := 0) rfl, H.bat 4 rfl (j := 1) rfl⟩
          clear hK K
          try simp only [sA, sB, sC, Act.put, sD, sE, sF]
          refine wpAnyH_ready (rs := [3]) (by kernel_rfl) (by simp) ?_
          refine (AllReadyH.cons rfl (fun K hK => ?_) AllReadyH.nil)
          go_simp
          refine (toFil_any a1_0 A1_1 n1_1 c1_1 l1_1 _ (H.old h1_1) hs1_1).mono ?_
          rintro e u4 ⟨gb0, rfl, ob0, fb⟩
          replace H := H.made ob0 fb
          clear ob0 fb
          go_wp2_with fail
          refine hK.out _ _ ?_ (fun hHeld => ?_)
          · exact ⟨H.bat 6 rfl (j := 0) rfl, H.bat 6 rfl (j := 1) rfl, H.bat 5 rfl (j := 0) rfl, H.bat 5 rfl (j := 1) rfl⟩
          clear hK K
          try simp only [sA, sB, sC, Act.put, sD, sE, sF]
          refine wpAnyH_ready (rs := [5]) (by kernel_rfl) (by simp) ?_
          refine (AllReadyH.cons rfl (fun K hK => ?_) AllReadyH.nil)
          go_simp
          refine (specFilCut_c _ _ _ l0_0 _ _ _ l0_1 a1_0 _ _ _ l1_1 a2 _ (H.rd 1 rfl) (H.rd 2 rfl) (H.rd 0 rfl) (fun e => nomatch e) (fun e => nomatch e) (fun e => nomatch e) hs0_0 hs0_1 hz0_1 hs1_1).mono ?_
          rintro e u5 ⟨Ac0_0, cc0_0, Ac0_1, cc0_1, Ac1_0, cc1_0, rfl, Kc⟩
          replace H := H.join Kc
          clear Kc
          go_wp2_with fail
          refine hK.out _ _ ?_ (fun hHeld => ?_)
          · exact ⟨H.bat 9 rfl (j := 0) rfl, H.bat 9 rfl (j := 1) rfl, H.bat 8 rfl (j := 0) rfl, H.bat 8 rfl (j := 1) rfl⟩
          clear hK K
          try simp only [sA, sB, sC, Act.put, sD, sE, sF]
          refine wpAnyH_take (i := 6) (v := ?_) rfl (by kernel_rfl) (by kernel_rfl) (by kernel_rfl) (fun _ _ _ h => nomatch h.1) (Or.inl ⟨by kernel_rfl, ?_⟩) (by assumption) ?_
          rotate_left
          · (intro w hSw; (try dsimp only at hSw); go_simp; try (with_reducible rfl))
          try simp only [sA, sB, sC, Act.put, sD, sE, sF]
          refine wpAnyH_take (i := 7) (v := ?_) rfl (by kernel_rfl) (by kernel_rfl) (by kernel_rfl) (fun _ _ _ h => nomatch h.1) (Or.inl ⟨by kernel_rfl, ?_⟩) (by assumption) ?_
          rotate_left
          · (intro w hSw; (try dsimp only at hSw); go_simp; try (with_reducible rfl))
          try simp only [sA, sB, sC, Act.put, sD, sE, sF]
          refine wpAnyH_take (i := 8) (v := ?_) rfl (by kernel_rfl) (by kernel_rfl) (by kernel_rfl) (fun _ _ _ h => nomatch h.1) (Or.inl ⟨by kernel_rfl, ?_⟩) (by assumption) ?_
          rotate_left
          · (intro w hSw; (try dsimp only at hSw); go_simp; try (with_reducible rfl))
          try simp only [sA, sB, sC, Act.put, sD, sE, sF]
          refine wpAnyH_take (i := 9) (v := ?_) rfl (by kernel_rfl) (by kernel_rfl) (by kernel_rfl) (fun _ _ _ h => nomatch h.1) (Or.inl ⟨by kernel_rfl, ?_⟩) (by assumption) ?_
          rotate_left
          · (intro w hSw; (try dsimp only at hSw); go_simp; try (with_reducible rfl))
          try simp only [sA, sB, sC, Act.put, sD, sE, sF]
          replace H := H.reord [4, 5, 3, 0, 1, 2, 7, 6, 8, 9] (n := 10) rfl (by decide)
          exact hJ.out ga0 ga1 gb0 Ac0_0 cc0_0 Ac0_1 cc0_1 Ac1_0 cc1_0 hd he _ (by rw [hl0]; exact H) hHeld
      · replace H := H.lay 34 [.int .i64 0, .slice none 0 0]
        go_simp
        obtain ⟨he, hhe⟩ : ∃ x, x = u0.heap.size := ⟨_, rfl⟩
        rw [← hhe] at H ⊢
        clear hhe
        obtain ⟨u1, hv⟩ : ∃ uu : World, uu = u0.alloc (.cells #[.int .i64 0, .slice none 0 0] 34) := ⟨_, rfl⟩
        rw [← hv] at H ⊢
        clear hv
        refine hK.out _ _ ?_ (fun hHeld => ?_)
        · exact ⟨H.bat 2 rfl (j := 0) rfl, H.bat 2 rfl (j := 1) rfl, H.bat 1 rfl (j := 0) rfl, H.bat 1 rfl (j := 1) rfl⟩
        clear hK K
        try simp only [sA, sB, sC, Act.put, sD, sE, sF]
        refine wpAnyH_ready (rs := [1, 10]) (by kernel_rfl) (by simp) ?_
        refine (AllReadyH.cons rfl (fun K hK => ?_) (AllReadyH.cons rfl (fun K hK => ?_) AllReadyH.nil))
        · go_simp
          refine (toStore_any A0_0 n0_0 c0_0 l0_0 A0_1 n0_1 c0_1 l0_1 _ (H.old h0_0) (H.old h0_1) hs0_0 hs0_1).mono ?_
          rintro e u2 ⟨ga0, ga1, rfl, oa0, oa1, fa⟩
          replace H := H.made2 oa0 oa1 fa (by decide)
          clear oa0 oa1 fa
          go_wp2_with fail
          refine hK.out _ _ ?_ (fun hHeld => ?_)
          · exact ⟨H.bat 4 rfl (j := 0) rfl, H.bat 4 rfl (j := 1) rfl, H.bat 3 rfl (j := 0) rfl, H.bat 3 rfl (j := 1) rfl⟩
          clear hK K
          try simp only [sA, sB, sC, Act.put, sD, sE, sF]
          refine wpAnyH_ready (rs := [3, 10]) (by kernel_rfl) (by simp) ?_
          refine (AllReadyH.cons rfl (fun K hK => ?_) (AllReadyH.cons rfl (fun K hK => ?_) AllReadyH.nil))
          · go_simp
            refine (toFil_any a1_0 A1_1 n1_1 c1_1 l1_1 _ (H.old h1_1) hs1_1).mono ?_
            rintro e u3 ⟨gb0, rfl, ob0, fb⟩
            replace H := H.made ob0 fb
            clear ob0 fb
            go_wp2_with fail
            refine hK.out _ _ ?_ (fun hHeld => ?_)
            · exact ⟨H.bat 5 rfl (j := 0) rfl, H.bat 5 rfl (j := 1) rfl, H.bat 4 rfl (j := 0) rfl, H.bat 4 rfl (j := 1) rfl⟩
            clear hK K
            try simp only [sA, sB, sC, Act.put, sD, sE, sF]
            refine wpAnyH_ready (rs := [5, 10]) (by kernel_rfl) (by simp) ?_
            refine (AllReadyH.cons rfl (fun K hK => ?_) (AllReadyH.cons rfl (fun K hK => ?_) AllReadyH.nil))
            · go_simp
              refine (specFilCut_c _ _ _ l0_0 _ _ _ l0_1 a1_0 _ _ _ l1_1 a2 _ (H.rd 1 rfl) (H.rd 2 rfl) (H.rd 0 rfl) (fun e => nomatch e) (fun e => nomatch e) (fun e => nomatch e) hs0_0 hs0_1 hz0_1 hs1_1).mono ?_
              rintro e u4 ⟨Ac0_0, cc0_0, Ac0_1, cc0_1, Ac1_0, cc1_0, rfl, Kc⟩
              replace H := H.join Kc
              clear Kc
              go_wp2_with fail
              refine hK.out _ _ ?_ (fun hHeld => ?_)
              · exact ⟨H.bat 8 rfl (j := 0) rfl, H.bat 8 rfl (j := 1) rfl, H.bat 7 rfl (j := 0) rfl, H.bat 7 rfl (j := 1) rfl⟩
              clear hK K
              try simp only [sA, sB, sC, Act.put, sD, sE, sF]
              refine wpAnyH_take (i := 6) (v := ?_) rfl (by kernel_rfl) (by kernel_rfl) (by kernel_rfl) (fun _ _ _ h => nomatch h.1) (Or.inl ⟨by kernel_rfl, ?_⟩) (by assumption) ?_
              rotate_left
              · (intro w hSw; (try dsimp only at hSw); go_simp; try (with_reducible rfl))
              try simp only [sA, sB, sC, Act.put, sD, sE, sF]
              refine wpAnyH_take (i := 7) (v := ?_) rfl (by kernel_rfl) (by kernel_rfl) (by kernel_rfl) (fun _ _ _ h => nomatch h.1) (Or.inl ⟨by kernel_rfl, ?_⟩) (by assumption) ?_
              rotate_left
              · (intro w hSw; (try dsimp only at hSw); go_simp; try (with_reducible rfl))
              try simp only [sA, sB, sC, Act.put, sD, sE, sF]
              refine wpAnyH_take (i := 8) (v := ?_) rfl (by kernel_rfl) (by kernel_rfl) (by kernel_rfl) (fun _ _ _ h => nomatch h.1) (Or.inl ⟨by kernel_rfl, ?_⟩) (by assumption) ?_
              rotate_left
              · (intro w hSw; (try dsimp only at hSw); go_simp; try (with_reducible rfl))
              try simp only [sA, sB, sC, Act.put, sD, sE, sF]
              refine wpAnyH_take (i := 9) (v := ?_) rfl (by kernel_rfl) (by kernel_rfl) (by kernel_rfl) (fun _ _ _ h => nomatch h.1) (Or.inl ⟨by kernel_rfl, ?_⟩) (by assumption) ?_
              rotate_left
              · (intro w hSw; (try dsimp only at hSw); go_simp; try (with_reducible rfl))
              try simp only [sA, sB, sC, Act.put, sD, sE, sF]
              refine wpAnyH_ready (rs := [10]) (by kernel_rfl) (by simp) ?_
              refine (AllReadyH.cons rfl (fun K hK => ?_) AllReadyH.nil)
              replace H := H.lay 31 [.slice none 0 0, .slice none 0 0]
              go_simp
              obtain ⟨hd, hhd⟩ : ∃ x, x = u4.heap.size := ⟨_, rfl⟩
              rw [← hhd] at H ⊢
              clear hhd
              obtain ⟨u5, hv⟩ : ∃ uu : World, uu = u4.alloc (.cells #[.slice none 0 0, .slice none 0 0] 31) := ⟨_, rfl⟩
              rw [← hv] at H ⊢
              clear hv
              refine hK.out _ _ ?_ (fun hHeld => ?_)
              · exact ⟨H.bat 9 rfl (j := 0) rfl, H.bat 9 rfl (j := 1) rfl, H.bat 8 rfl (j := 0) rfl, H.bat 8 rfl (j := 1) rfl⟩
              clear hK K
              try simp only [sA, sB, sC, Act.put, sD, sE, sF]
              replace H := H.reord [5, 6, 4, 1, 2, 3, 0, 7, 8, 9] (n := 10) rfl (by decide)
              exact hJ.out ga0 ga1 gb0 Ac0_0 cc0_0 Ac0_1 cc0_1 Ac1_0 cc1_0 hd he _ (by rw [hl0]; exact H) hHeld
            · replace H := H.lay 31 [.slice none 0 0, .slice none 0 0]
              go_simp
              obtain ⟨hd, hhd⟩ : ∃ x, x = u3.heap.size := ⟨_, rfl⟩
              rw [← hhd] at H ⊢
              clear hhd
              obtain ⟨u4, hv⟩ : ∃ uu : World, uu = u3.alloc (.cells #[.slice none 0 0, .slice none 0 0] 31) := ⟨_, rfl⟩
              rw [← hv] at H ⊢
              clear hv
              refine hK.out _ _ ?_ (fun hHeld => ?_)
              · exact ⟨H.bat 6 rfl (j := 0) rfl, H.bat 6 rfl (j := 1) rfl, H.bat 5 rfl (j := 0) rfl, H.bat 5 rfl (j := 1) rfl⟩
              clear hK K
              try simp only [sA, sB, sC, Act.put, sD, sE, sF]
              refine wpAnyH_ready (rs := [5]) (by kernel_rfl) (by simp) ?_
              refine (AllReadyH.cons rfl (fun K hK => ?_) AllReadyH.nil)
              go_simp
              refine (specFilCut_c _ _ _ l0_0 _ _ _ l0_1 a1_0 _ _ _ l1_1 a2 _ (H.rd 2 rfl) (H.rd 3 rfl) (H.rd 1 rfl) (fun e => nomatch e) (fun e => nomatch e) (fun e => nomatch e) hs0_0 hs0_1 hz0_1 hs1_1).mono ?_
              rintro e u5 ⟨Ac0_0, cc0_0, Ac0_1, cc0_1, Ac1_0, cc1_0, rfl, Kc⟩
              replace H := H.join Kc
              clear Kc
              go_wp2_with fail
              refine hK.out _ _ ?_ (fun hHeld => ?_)
              · exact ⟨H.bat 9 rfl (j := 0) rfl, H.bat 9 rfl (j := 1) rfl, H.bat 8 rfl (j := 0) rfl, H.bat 8 rfl (j := 1) rfl⟩
              clear hK K
              try simp only [sA, sB, sC, Act.put, sD, sE, sF]
              refine wpAnyH_take (i := 6) (v := ?_) rfl (by kernel_rfl) (by kernel_rfl) (by kernel_rfl) (fun _ _ _ h => nomatch h.1) (Or.inl ⟨by kernel_rfl, ?_⟩) (by assumption) ?_
              rotate_left
              · (intro w hSw; (try dsimp only at hSw); go_simp; try (with_reducible rfl))
              try simp only [sA, sB, sC, Act.put, sD, sE, sF]
              refine wpAnyH_take (i := 7) (v := ?_) rfl (by kernel_rfl) (by kernel_rfl) (by kernel_rfl) (fun _ _ _ h => nomatch h.1) (Or.inl ⟨by kernel_rfl, ?_⟩) (by assumption) ?_
              rotate_left
              · (intro w hSw; (try dsimp only at hSw); go_simp; try (with_reducible rfl))
              try simp only [sA, sB, sC, Act.put, sD, sE, sF]
              refine wpAnyH_take (i := 8) (v := ?_) rfl (by kernel_rfl) (by kernel_rfl) (by kernel_rfl) (fun _ _ _ h => nomatch h.1) (Or.inl ⟨by kernel_rfl, ?_⟩) (by assumption) ?_
              rotate_left
              · (intro w hSw; (try dsimp only at hSw); go_simp; try (with_reducible rfl))
              try simp only [sA, sB, sC, Act.put, sD, sE, sF]
              refine wpAnyH_take (i := 9) (v := ?_) rfl (by kernel_rfl) (by kernel_rfl) (by kernel_rfl) (fun _ _ _ h => nomatch h.1) (Or.inl ⟨by kernel_rfl, ?_⟩) (by assumption) ?_
              rotate_left
              · (intro w hSw; (try dsimp only at hSw); go_simp; try (with_reducible rfl))
              try simp only [sA, sB, sC, Act.put, sD, sE, sF]
              replace H := H.reord [5, 6, 4, 0, 1, 2, 3, 7, 8, 9] (n := 10) rfl (by decide)
              exact hJ.out ga0 ga1 gb0 Ac0_0 cc0_0 Ac0_1 cc0_1 Ac1_0 cc1_0 hd he _ (by rw [hl0]; exact H) hHeld
          · replace H := H.lay 31 [.slice none 0 0, .slice none 0 0]
            go_simp
            obtain ⟨hd, hhd⟩ : ∃ x, x = u2.heap.size := ⟨_, rfl⟩
            rw [← hhd] at H ⊢
            clear hhd
            obtain ⟨u3, hv⟩ : ∃ uu : World, uu = u2.alloc (.cells #[.slice none 0 0, .slice none 0 0] 31) := ⟨_, rfl⟩
            rw [← hv] at H ⊢
            clear hv
            refine hK.out _ _ ?_ (fun hHeld => ?_)
            · exact ⟨H.bat 5 rfl (j := 0) rfl, H.bat 5 rfl (j := 1) rfl, H.bat 4 rfl (j := 0) rfl, H.bat 4 rfl (j := 1) rfl⟩
            clear hK K
            try simp only [sA, sB, sC, Act.put, sD, sE, sF]
            refine wpAnyH_ready (rs := [3]) (by kernel_rfl) (by simp) ?_
            refine (AllReadyH.cons rfl (fun K hK => ?_) AllReadyH.nil)
            go_simp
            refine (toFil_any a1_0 A1_1 n1_1 c1_1 l1_1 _ (H.old h1_1) hs1_1).mono ?_
            rintro e u4 ⟨gb0, rfl, ob0, fb⟩
            replace H := H.made ob0 fb
            clear ob0 fb
            go_wp2_with fail
            refine hK.out _ _ ?_ (fun hHeld => ?_)
            · exact ⟨H.bat 6 rfl (j := 0) rfl, H.bat 6 rfl (j := 1) rfl, H.bat 5 rfl (j := 0) rfl, H.bat 5 rfl (j := 1) rfl⟩
            clear hK K
            try simp only [sA, sB, sC, Act.put, sD, sE, sF]
            refine wpAnyH_ready (rs := [5]) (by kernel_rfl) (by simp) ?_
            refine (AllReadyH.cons rfl (fun K hK => ?_) AllReadyH.nil)
            go_simp
            refine (specFilCut_c _ _ _ l0_0 _ _ _ l0_1 a1_0 _ _ _ l1_1 a2 _ (H.rd 2 rfl) (H.rd 3 rfl) (H.rd 0 rfl) (fun e => nomatch e) (fun e => nomatch e) (fun e => nomatch e) hs0_0 hs0_1 hz0_1 hs1_1).mono ?_
            rintro e u5 ⟨Ac0_0, cc0_0, Ac0_1, cc0_1, Ac1_0, cc1_0, rfl, Kc⟩
            replace H := H.join Kc
            clear Kc
            go_wp2_with fail
            refine hK.out _ _ ?_ (fun hHeld => ?_)
            · exact ⟨H.bat 9 rfl (j := 0) rfl, H.bat 9 rfl (j := 1) rfl, H.bat 8 rfl (j := 0) rfl, H.bat 8 rfl (j := 1) rfl⟩
            clear hK K
            try simp only [sA, sB, sC, Act.put, sD, sE, sF]
            refine wpAnyH_take (i := 6) (v := ?_) rfl (by kernel_rfl) (by kernel_rfl) (by kernel_rfl) (fun _ _ _ h => nomatch h.1) (Or.inl ⟨by kernel_rfl, ?_⟩) (by assumption) ?_
            rotate_left
            · (intro w hSw; (try dsimp only at hSw); go_simp; try (with_reducible rfl))
            try simp only [sA, sB, sC, Act.put, sD, sE, sF]
            refine wpAnyH_take (i := 7) (v := ?_) rfl (by kernel_rfl) (by kernel_rfl) (by kernel_rfl) (fun _ _ _ h => nomatch h.1) (Or.inl ⟨by kernel_rfl, ?_⟩) (by assumption) ?_
            rotate_left
            · (intro w hSw; (try dsimp only at hSw); go_simp; try (with_reducible rfl))
            try simp only [sA, sB, sC, Act.put, sD, sE, sF]
            refine wpAnyH_take (i := 8) (v := ?_) rfl (by kernel_rfl) (by kernel_rfl) (by kernel_rfl) (fun _ _ _ h => nomatch h.1) (Or.inl ⟨by kernel_rfl, ?_⟩) (by assumption) ?_
            rotate_left
            · (intro w hSw; (try dsimp only at hSw); go_simp; try (with_reducible rfl))
            try simp only [sA, sB, sC, Act.put, sD, sE, sF]
            refine wpAnyH_take (i := 9) (v := ?_) rfl (by kernel_rfl) (by kernel_rfl) (by kernel_rfl) (fun _ _ _ h => nomatch h.1) (Or.inl ⟨by kernel_rfl, ?_⟩) (by assumption) ?_
            rotate_left
            · (intro w hSw; (try dsimp only at hSw); go_simp; try (with_reducible rfl))
            try simp only [sA, sB, sC, Act.put, sD, sE, sF]
            replace H := H.reord [5, 6, 3, 0, 1, 2, 4, 7, 8, 9] (n := 10) rfl (by decide)
            exact hJ.out ga0 ga1 gb0 Ac0_0 cc0_0 Ac0_1 cc0_1 Ac1_0 cc1_0 hd he _ (by rw [hl0]; exact H) hHeld
        · replace H := H.lay 31 [.slice none 0 0, .slice none 0 0]
          go_simp
          obtain ⟨hd, hhd⟩ : ∃ x, x = u1.heap.size := ⟨_, rfl⟩
          rw [← hhd] at H ⊢
          clear hhd
          obtain ⟨u2, hv⟩ : ∃ uu : World, uu = u1.alloc (.cells #[.slice none 0 0, .slice none 0 0] 31) := ⟨_, rfl⟩
          rw [← hv] at H ⊢
          clear hv
          refine hK.out _ _ ?_ (fun hHeld => ?_)
          · exact ⟨H.bat 3 rfl (j := 0) rfl, H.bat 3 rfl (j := 1) rfl, H.bat 2 rfl (j := 0) rfl, H.bat 2 rfl (j := 1) rfl⟩
          clear hK K
          try simp only [sA, sB, sC, Act.put, sD, sE, sF]
          refine wpAnyH_ready (rs := [1]) (by kernel_rfl) (by simp) ?_
          refine (AllReadyH.cons rfl (fun K hK => ?_) AllReadyH.nil)
          go_simp
          refine (toStore_any A0_0 n0_0 c0_0 l0_0 A0_1 n0_1 c0_1 l0_1 _ (H.old h0_0) (H.old h0_1) hs0_0 hs0_1).mono ?_
          rintro e u3 ⟨ga0, ga1, rfl, oa0, oa1, fa⟩
          replace H := H.made2 oa0 oa1 fa (by decide)
          clear oa0 oa1 fa
          go_wp2_with fail
          refine hK.out _ _ ?_ (fun hHeld => ?_)
          · exact ⟨H.bat 5 rfl (j := 0) rfl, H.bat 5 rfl (j := 1) rfl, H.bat 4 rfl (j := 0) rfl, H.bat 4 rfl (j := 1) rfl⟩
          clear hK K
          try simp only [sA, sB, sC, Act.put, sD, sE, sF]
          refine wpAnyH_ready (rs := [3]) (by kernel_rfl) (by simp) ?_
          refine (AllReadyH.cons rfl (fun K hK => ?_) AllReadyH.nil)
          go_simp
          refine (toFil_any a1_0 A1_1 n1_1 c1_1 l1_1 _ (H.old h1_1) hs1_1).mono ?_
          rintro e u4 ⟨gb0, rfl, ob0, fb⟩
          replace H := H.made ob0 fb
          clear ob0 fb
          go_wp2_with fail
          refine hK.out _ _ ?_ (fun hHeld => ?_)
          · exact ⟨H.bat 6 rfl (j := 0) rfl, H.bat 6 rfl (j := 1) rfl, H.bat 5 rfl (j := 0) rfl, H.bat 5 rfl (j := 1) rfl⟩
          clear hK K
          try simp only [sA, sB, sC, Act.put, sD, sE, sF]
          refine wpAnyH_ready (rs := [5]) (by kernel_rfl) (by simp) ?_
          refine (AllReadyH.cons rfl (fun K hK => ?_) AllReadyH.nil)
          go_simp
          refine (specFilCut_c _ _ _ l0_0 _ _ _ l0_1 a1_0 _ _ _ l1_1 a2 _ (H.rd 1 rfl) (H.rd 2 rfl) (H.rd 0 rfl) (fun e => nomatch e) (fun e => nomatch e) (fun e => nomatch e) hs0_0 hs0_1 hz0_1 hs1_1).mono ?_
          rintro e u5 ⟨Ac0_0, cc0_0, Ac0_1, cc0_1, Ac1_0, cc1_0, rfl, Kc⟩
          replace H := H.join Kc
          clear Kc
          go_wp2_with fail
          refine hK.out _ _ ?_ (fun hHeld => ?_)
          · exact ⟨H.bat 9 rfl (j := 0) rfl, H.bat 9 rfl (j := 1) rfl, H.bat 8 rfl (j := 0) rfl, H.bat 8 rfl (j := 1) rfl⟩
          clear hK K
          try simp only [sA, sB, sC, Act.put, sD, sE, sF]
          refine wpAnyH_take (i := 6) (v := ?_) rfl (by kernel_rfl) (by kernel_rfl) (by kernel_rfl) (fun _ _ _ h => nomatch h.1) (Or.inl ⟨by kernel_rfl, ?_⟩) (by assumption) ?_
          rotate_left
          · (intro w hSw; (try dsimp only at hSw); go_simp; try (with_reducible rfl))
          try simp only [sA, sB, sC, Act.put, sD, sE, sF]
          refine wpAnyH_take (i := 7) (v := ?_) rfl (by kernel_rfl) (by kernel_rfl) (by kernel_rfl) (fun _ _ _ h => nomatch h.1) (Or.inl ⟨by kernel_rfl, ?_⟩) (by assumption) ?_
          rotate_left
          · (intro w hSw; (try dsimp only at hSw); go_simp; try (with_reducible rfl))
          try simp only [sA, sB, sC, Act.put, sD, sE, sF]
          refine wpAnyH_take (i := 8) (v := ?_) rfl (by kernel_rfl) (by kernel_rfl) (by kernel_rfl) (fun _ _ _ h => nomatch h.1) (Or.inl ⟨by kernel_rfl, ?_⟩) (by assumption) ?_
          rotate_left
          · (intro w hSw; (try dsimp only at hSw); go_simp; try (with_reducible rfl))
          try simp only [sA, sB, sC, Act.put, sD, sE, sF]
          refine wpAnyH_take (i := 9) (v := ?_) rfl (by kernel_rfl) (by kernel_rfl) (by kernel_rfl) (fun _ _ _ h => nomatch h.1) (Or.inl ⟨by kernel_rfl, ?_⟩) (by assumption) ?_
          rotate_left
          · (intro w hSw; (try dsimp only at hSw); go_simp; try (with_reducible rfl))
          try simp only [sA, sB, sC, Act.put, sD, sE, sF]
          replace H := H.reord [4, 5, 3, 0, 1, 2, 6, 7, 8, 9] (n := 10) rfl (by decide)
          exact hJ.out ga0 ga1 gb0 Ac0_0 cc0_0 Ac0_1 cc0_1 Ac1_0 cc1_0 hd he _ (by rw [hl0]; exact H) hHeld
    intro ga0 ga1 gb0 Ac0_0 cc0_0 Ac0_1 cc0_1 Ac1_0 cc1_0 hd he u0 H hHeld
    rw [hl0] at H
    refine wpAnyH_ready (rs := [12]) (by kernel_rfl) (by simp) ?_
    refine (AllReadyH.cons rfl (fun K hK => ?_) AllReadyH.nil)
    have e0 := H.bfree 6 rfl 0
    have e1 := H.bfree 6 rfl 1
    have s0 := H.bat 6 rfl (j := 0) rfl
    have s1 := H.bat 6 rfl (j := 1) rfl
    replace H := (H.bput 6 rfl 0 (.slice Ac0_0 (n0_0) cc0_0)).bput 6 rfl 1 (.slice Ac0_1 (n0_1) cc0_1)
    go_simp
    refine hK.out _ _ ?_ (fun hHeld => ?_)
    · exact ⟨H.bat 9 rfl (j := 0) rfl, H.bat 9 rfl (j := 1) rfl, H.bat 8 rfl (j := 0) rfl, H.bat 8 rfl (j := 1) rfl⟩
    clear hK K
    try simp only [sA, sB, sC, Act.put, sD, sE, sF]
    refine wpAnyH_ready (rs := [13]) (by kernel_rfl) (by simp) ?_
    refine (AllReadyH.cons rfl (fun K hK => ?_) AllReadyH.nil)
    have e0 := H.bfree 7 rfl 0
    have e1 := H.bfree 7 rfl 1
    have s0 := H.bat 7 rfl (j := 0) rfl
    have s1 := H.bat 7 rfl (j := 1) rfl
    replace H := (H.bput 7 rfl 0 (.int .i64 (cutZ l0_0 l0_1 a1_0 l1_1 a2))).bput 7 rfl 1 (.slice Ac1_0 ((cutL l0_0 l0_1 a1_0 l1_1 a2).length) cc1_0)
    go_simp
    refine hK.out _ _ ?_ (fun hHeld => ?_)
    · exact ⟨H.bat 9 rfl (j := 0) rfl, H.bat 9 rfl (j := 1) rfl, H.bat 8 rfl (j := 0) rfl, H.bat 8 rfl (j := 1) rfl⟩
    clear hK K
    try simp only [sA, sB, sC, Act.put, sD, sE, sF]
    refine wpAnyH_take (i := 14) (v := ?_) rfl (by kernel_rfl) (by kernel_rfl) (by kernel_rfl) (fun _ _ _ h => nomatch h.1) (Or.inl ⟨by kernel_rfl, ?_⟩) (by assumption) ?_
    rotate_left
    · (intro w hSw; (try dsimp only at hSw); go_simp; try (with_reducible rfl))
    try simp only [sA, sB, sC, Act.put, sD, sE, sF]
    refine wpAnyH_done (by kernel_rfl) ?_ _
    exact ⟨rfl, hR_.out _ _ ⟨ga0, ga1, gb0, Ac0_0, cc0_0, Ac0_1, cc0_1, Ac1_0, cc1_0, hd, he, by simp only [sA, sB, sC, Act.put, sD, sE, sF], by rw [hl0]; exact H⟩⟩
  clear H4
  rintro a' w5 ⟨ga0_5, ga1_5, gb0_5, Ac0_0_5, cc0_0_5, Ac0_1_5, cc0_1_5, Ac1_0_5, cc1_0_5, hd_5, he_5, rfl, H5⟩
  rw [hl0] at H5
  clear hl0
  simp only [List.getElem_toArray, List.getElem_cons_succ, List.getElem_cons_zero, Act.put, List.setIfInBounds_toArray, List.set_cons_zero, List.set_cons_succ]
  have cf0 := H5.bat 9 rfl (j := 0) rfl
  have cf1 := H5.bat 9 rfl (j := 1) rfl
  have cf2 := H5.lt 9 rfl rfl
  go_wp2_with fail
  clear cf0 cf1 cf2
  refine (toStore_any A0_0 n0_0 c0_0 l0_0 A0_1 n0_1 c0_1 l0_1 _ (H5.old h0_0) (H5.old h0_1) hs0_0 hs0_1).mono ?_
  rintro e w6 ⟨g6_0, g6_1, rfl, o6_0, o6_1, f6⟩
  have H6 := H5.made2 o6_0 o6_1 f6 (by decide)
  have cf0 := H6.bat 10 rfl (j := 0) rfl
  have cf1 := H6.bat 10 rfl (j := 1) rfl
  have cf2 := H6.lt 10 rfl rfl
  go_wp2_with fail
  clear cf0 cf1 cf2
  have H7 := H6.lay_ 31 [.slice (some ⟨g6_0, 0, none⟩) n0_0 n0_0, .slice (some ⟨g6_1, 0, none⟩) n0_1 n0_1] (g := w6.heap.size) (by simp)
  refine (toFil_any a1_0 A1_1 n1_1 c1_1 l1_1 _ (H7.old h1_1) hs1_1).mono ?_
  rintro e w8 ⟨g8_0, rfl, o8_0, f8⟩
  have H8 := H7.made o8_0 f8
  have cf0 := H8.bat 1 rfl (j := 0) rfl
  have cf1 := H8.bat 1 rfl (j := 1) rfl
  have cf2 := H8.lt 1 rfl rfl
  go_wp2_with fail
  clear cf0 cf1 cf2
  have H9 := H8.lay_ 34 [.int .i64 a1_0, .slice (some ⟨g8_0, 0, none⟩) n1_1 n1_1] (g := w8.heap.size) (by simp)
  refine (implFilCut_c _ _ _ l0_0 _ _ _ l0_1 a1_0 _ _ _ l1_1 a2 _ (H9.rd 3 rfl) (H9.rd 4 rfl) (H9.rd 1 rfl) (fun e => nomatch e) (fun e => nomatch e) (fun e => nomatch e) hs0_0 hs0_1 hz0_1 hs1_1).mono ?_
  rintro e w10 ⟨A10_0_0, c10_0_0, A10_0_1, c10_0_1, A10_1_0, c10_1_0, rfl, d10⟩
  have H10 := H9.join d10
  have cf0 := H10.bat 14 rfl (j := 0) rfl
  have cf1 := H10.bat 14 rfl (j := 1) rfl
  have cf2 := H10.lt 14 rfl rfl
  go_wp2_with fail
  clear cf0 cf1 cf2
  have H11 := H10.lay_ 31 [.slice A10_0_0 (n0_0) c10_0_0, .slice A10_0_1 (n0_1) c10_0_1] (g := w10.heap.size) (by simp)
  have H12 := H11.lay_ 34 [.int .i64 (cutZ l0_0 l0_1 a1_0 l1_1 a2), .slice A10_1_0 ((cutL l0_0 l0_1 a1_0 l1_1 a2).length) c10_1_0] (g := w10.heap.size + 1) (by simp)
  refine (eqStore_yes _ _ _ _ _ _ _ _ _ _ _ _ (cutBits l0_0 l0_1 a1_0 l1_1 a2) (cutData l0_0 l0_1 a1_0 l1_1 a2) _ (H12.rd 2 rfl) (H12.rd 3 rfl) (H12.rd 13 rfl) (H12.rd 14 rfl) (Nat.le_trans lr0_0 (by omega)) (Nat.le_trans lr0_1 (by omega))).mono ?_
  rintro e w13 ⟨rfl, d13⟩
  have H13 := H12.go d13
  have cf0 := H13.bat 0 rfl (j := 0) rfl
  have cf1 := H13.bat 0 rfl (j := 1) rfl
  have cf2 := H13.lt 0 rfl rfl
  have cf3 := H13.bat 17 rfl (j := 0) rfl
  have cf4 := H13.bat 17 rfl (j := 1) rfl
  have cf5 := H13.lt 17 rfl rfl
  go_wp2_with fail
  clear cf0 cf1 cf2 cf3 cf4 cf5
  refine (eqFil_yes _ _ _ _ _ _ _ (cutL l0_0 l0_1 a1_0 l1_1 a2) _ (H13.rd 4 rfl) (H13.rd 15 rfl) (Nat.le_trans lr1_0 (by omega))).mono ?_
  rintro e w14 ⟨rfl, d14⟩
  have H14 := H13.go d14
  have cf0 := H14.bat 19 rfl (j := 0) rfl
  have cf1 := H14.bat 19 rfl (j := 1) rfl
  have cf2 := H14.lt 19 rfl rfl
  have cf3 := H14.bat 7 rfl (j := 0) rfl
  have cf4 := H14.bat 7 rfl (j := 1) rfl
  have cf5 := H14.lt 7 rfl rfl
  go_wp2_with fail
  clear cf0 cf1 cf2 cf3 cf4 cf5
  go_region_held3 (fun w' => w'.cell? ⟨w.heap.size, 0, none⟩ = some (.slice A0_0 n0_0 c0_0) ∧ w'.cell? ⟨w.heap.size, 1, none⟩ = some (.slice A0_1 n0_1 c0_1) ∧ w'.cell? ⟨w6.heap.size, 0, none⟩ = some (.slice (some ⟨g6_0, 0, none⟩) n0_0 n0_0) ∧ w'.cell? ⟨w6.heap.size, 1, none⟩ = some (.slice (some ⟨g6_1, 0, none⟩) n0_1 n0_1))
    (first
      | exact ⟨H14.bat 19 rfl (j := 0) rfl, H14.bat 19 rfl (j := 1) rfl, H14.bat 7 rfl (j := 0) rfl, H14.bat 7 rfl (j := 1) rfl⟩
      | exact ⟨H15.bat 21 rfl (j := 0) rfl, H15.bat 21 rfl (j := 1) rfl, H15.bat 9 rfl (j := 0) rfl, H15.bat 9 rfl (j := 1) rfl⟩
      | exact ⟨H16.bat 21 rfl (j := 0) rfl, H16.bat 21 rfl (j := 1) rfl, H16.bat 9 rfl (j := 0) rfl, H16.bat 9 rfl (j := 1) rfl⟩)
    ((first
     | (go_at_call 10
        refine (toStore_any A0_0 n0_0 c0_0 l0_0 A0_1 n0_1 c0_1 l0_1 _ (H14.drew.old h0_0) (H14.drew.old h0_1) hs0_0 hs0_1).mono ?_
        rintro e w15 ⟨g15_0, g15_1, rfl, o15_0, o15_1, f15⟩
        have H15 := H14.drew.made2 o15_0 o15_1 f15 (by decide))
     | (go_at_call 13
        refine (eqStore_yes _ _ _ _ _ _ _ _ _ _ _ _ (l0_0) (l0_1) _ (H15.rd 10 rfl) (H15.rd 11 rfl) (H15.rd 0 rfl) (H15.rd 1 rfl) (Nat.le_trans hs0_0 (by omega)) (Nat.le_trans hs0_1 (by omega))).mono ?_
        rintro e w16 ⟨rfl, d16⟩
        have H16 := H15.go d16)))
  have cf0 := H16.bat 20 rfl (j := 0) rfl
  have cf1 := H16.bat 20 rfl (j := 1) rfl
  have cf2 := H16.lt 20 rfl rfl
  have cf3 := H16.bat 7 rfl (j := 0) rfl
  have cf4 := H16.bat 7 rfl (j := 1) rfl
  have cf5 := H16.lt 7 rfl rfl
  go_wp2_with fail
  clear cf0 cf1 cf2 cf3 cf4 cf5
  go_region_held3 (fun w' => w'.cell? ⟨w.heap.size + 1, 0, none⟩ = some (.int .i64 a1_0) ∧ w'.cell? ⟨w.heap.size + 1, 1, none⟩ = some (.slice A1_1 n1_1 c1_1) ∧ w'.cell? ⟨w8.heap.size, 0, none⟩ = some (.int .i64 a1_0) ∧ w'.cell? ⟨w8.heap.size, 1, none⟩ = some (.slice (some ⟨g8_0, 0, none⟩) n1_1 n1_1))
    (first
      | exact ⟨H16.bat 20 rfl (j := 0) rfl, H16.bat 20 rfl (j := 1) rfl, H16.bat 7 rfl (j := 0) rfl, H16.bat 7 rfl (j := 1) rfl⟩
      | exact ⟨H17.bat 21 rfl (j := 0) rfl, H17.bat 21 rfl (j := 1) rfl, H17.bat 8 rfl (j := 0) rfl, H17.bat 8 rfl (j := 1) rfl⟩
      | exact ⟨H18.bat 21 rfl (j := 0) rfl, H18.bat 21 rfl (j := 1) rfl, H18.bat 8 rfl (j := 0) rfl, H18.bat 8 rfl (j := 1) rfl⟩)
    ((first
     | (go_at_call 11
        refine (toFil_any a1_0 A1_1 n1_1 c1_1 l1_1 _ (H16.drew.old h1_1) hs1_1).mono ?_
        rintro e w17 ⟨g17_0, rfl, o17_0, f17⟩
        have H17 := H16.drew.made o17_0 f17)
     | (go_at_call 14
        refine (eqFil_yes _ _ _ _ _ _ _ (l1_1) _ (H17.rd 9 rfl) (H17.rd 0 rfl) (Nat.le_trans hs1_1 (by omega))).mono ?_
        rintro e w18 ⟨rfl, d18⟩
        have H18 := H17.go d18)))
  have cf0 := H18.bat 10 rfl (j := 0) rfl
  have cf1 := H18.bat 10 rfl (j := 1) rfl
  have cf2 := H18.lt 10 rfl rfl
  go_wp2_with fail
  clear cf0 cf1 cf2
  refine (markStore_any _ _ _ _ _ _ 1 _ _ 11 12 H18 rfl rfl (by decide) (Nat.le_trans hs0_0 (by omega)) (Nat.le_trans hs0_1 (by omega)) (by omega)).mono ?_
  rintro e w19 ⟨rfl, H19⟩
  obtain ⟨k19, ek19⟩ : ∃ q : Nat, q = 1 + n0_0 + n0_1 := ⟨_, rfl⟩
  rw [← ek19]
  have bk19 : k19 ≤ 16777217 := by have q0 : n0_0 ≤ 1048576 := hs0_0; have q1 : n0_1 ≤ 1048576 := hs0_1; omega
  have Ek19 := Lib.hid ek19
  clear ek19
  have cf0 := H19.bat 8 rfl (j := 0) rfl
  have cf1 := H19.bat 8 rfl (j := 1) rfl
  have cf2 := H19.lt 8 rfl rfl
  go_wp2_with fail
  clear cf0 cf1 cf2
  refine (markFil_any _ _ _ _ k19 _ 9 H19 rfl (Nat.le_trans hs1_1 (by omega)) (by omega)).mono ?_
  rintro e w20 ⟨rfl, H20⟩
  obtain ⟨k20, ek20⟩ : ∃ q : Nat, q = k19 + n1_1 * 3 := ⟨_, rfl⟩
  rw [← ek20]
  have bk20 : k20 ≤ 33554433 := by have q0 : n1_1 ≤ 1048576 := hs1_1; omega
  have Ek20 := Lib.hid ek20
  clear ek20
  have cf0 := H20.bat 4 rfl (j := 0) rfl
  have cf1 := H20.bat 4 rfl (j := 1) rfl
  have cf2 := H20.lt 4 rfl rfl
  have cf3 := H20.bat 19 rfl (j := 0) rfl
  have cf4 := H20.bat 19 rfl (j := 1) rfl
  have cf5 := H20.lt 19 rfl rfl
  go_wp2_with fail
  clear cf0 cf1 cf2 cf3 cf4 cf5
  refine (eqStore_yes _ _ _ _ _ _ _ _ _ _ _ _ (cutBits l0_0 l0_1 a1_0 l1_1 a2) (cutData l0_0 l0_1 a1_0 l1_1 a2) _ (H20.rd 5 rfl) (H20.rd 6 rfl) (H20.rd 16 rfl) (H20.rd 17 rfl) (Nat.le_trans lr0_0 (by omega)) (Nat.le_trans lr0_1 (by omega))).mono ?_
  rintro e w21 ⟨rfl, d21⟩
  have H21 := H20.go d21
  have cf0 := H21.bat 3 rfl (j := 0) rfl
  have cf1 := H21.bat 3 rfl (j := 1) rfl
  have cf2 := H21.lt 3 rfl rfl
  have cf3 := H21.bat 20 rfl (j := 0) rfl
  have cf4 := H21.bat 20 rfl (j := 1) rfl
  have cf5 := H21.lt 20 rfl rfl
  go_wp2_with fail
  clear cf0 cf1 cf2 cf3 cf4 cf5
  refine (eqFil_yes _ _ _ _ _ _ _ (cutL l0_0 l0_1 a1_0 l1_1 a2) _ (H21.rd 7 rfl) (H21.rd 18 rfl) (Nat.le_trans lr1_0 (by omega))).mono ?_
  rintro e w22 ⟨rfl, d22⟩
  have H22 := H21.go d22
  have cf0 := H22.bat 4 rfl (j := 0) rfl
  have cf1 := H22.bat 4 rfl (j := 1) rfl
  have cf2 := H22.lt 4 rfl rfl
  go_wp2_with fail
  clear cf0 cf1 cf2
  refine (markStore_any _ _ _ _ _ _ 1 _ _ 5 6 H22 rfl rfl (by decide) (Nat.le_trans lr0_0 (by omega)) (Nat.le_trans lr0_1 (by omega)) (by omega)).mono ?_
  rintro e w23 ⟨rfl, H23⟩
  obtain ⟨k23, ek23⟩ : ∃ q : Nat, q = 1 + n0_0 + n0_1 := ⟨_, rfl⟩
  rw [← ek23]
  have bk23 : k23 ≤ 16777217 := by have q0 : n0_0 ≤ 1048576 := lr0_0; have q1 : n0_1 ≤ 1048576 := lr0_1; omega
  have Ek23 := Lib.hid ek23
  clear ek23
  have cf0 := H23.bat 3 rfl (j := 0) rfl
  have cf1 := H23.bat 3 rfl (j := 1) rfl
  have cf2 := H23.lt 3 rfl rfl
  go_wp2_with fail
  clear cf0 cf1 cf2
  refine (markFil_any _ _ _ _ k23 _ 7 H23 rfl (Nat.le_trans lr1_0 (by omega)) (by omega)).mono ?_
  rintro e w24 ⟨rfl, H24⟩
  obtain ⟨k24, ek24⟩ : ∃ q : Nat, q = k23 + (cutL l0_0 l0_1 a1_0 l1_1 a2).length * 3 := ⟨_, rfl⟩
  rw [← ek24]
  have bk24 : k24 ≤ 33554433 := by have q0 : (cutL l0_0 l0_1 a1_0 l1_1 a2).length ≤ 1048576 := lr1_0; omega
  have Ek24 := Lib.hid ek24
  clear ek24
  have cf0 := H24.bat 4 rfl (j := 0) rfl
  have cf1 := H24.bat 4 rfl (j := 1) rfl
  have cf2 := H24.lt 4 rfl rfl
  go_wp2_with fail
  clear cf0 cf1 cf2
  refine (heldStore_any _ (n0_0) _ _ (n0_1) _ 1 _ (H24.rd 5 rfl) (H24.rd 6 rfl) (Nat.le_trans lr0_0 (by omega)) (Nat.le_trans lr0_1 (by omega)) (by omega)).mono ?_
  rintro e w25 ⟨rfl, f25⟩
  rw [← Ek23.out]
  have H25 := H24.go f25
  have cf0 := H25.bat 3 rfl (j := 0) rfl
  have cf1 := H25.bat 3 rfl (j := 1) rfl
  have cf2 := H25.lt 3 rfl rfl
  go_wp2_with fail
  clear cf0 cf1 cf2
  refine (heldFil_any _ ((cutL l0_0 l0_1 a1_0 l1_1 a2).length) _ k23 _ (H25.rd 7 rfl) (Nat.le_trans lr1_0 (by omega)) (by omega)).mono ?_
  rintro e w26 ⟨rfl, f26⟩
  rw [← Ek24.out]
  have H26 := H25.go f26
  have cf0 := H26.bat 22 rfl (j := 0) rfl
  have cf1 := H26.bat 22 rfl (j := 1) rfl
  have cf2 := H26.lt 22 rfl rfl
  have cf3 := H26.bat 21 rfl (j := 0) rfl
  have cf4 := H26.bat 21 rfl (j := 1) rfl
  have cf5 := H26.lt 21 rfl rfl
  go_wp2_with fail
  clear cf0 cf1 cf2 cf3 cf4 cf5
  obtain ⟨l0, hl0, _⟩ : ∃ l0, l0 = _ ∧ Hp [] w _ l0 := ⟨_, rfl, H26⟩
  refine wp_jointH (fun a a' w' => ∃ (ga0 : Nat) (ga1 : Nat) (gb0 : Nat) (Ac0_0 : Option Addr) (cc0_0 : Nat) (Ac0_1 : Option Addr) (cc0_1 : Nat) (Ac1_0 : Option Addr) (cc1_0 : Nat) (hd : Nat) (he : Nat), a' = (((((((((((((a).put (some 124) (.agg #[.slice A0_0 n0_0 c0_0, .slice A0_1 n0_1 c0_1])).put (some 125) (.agg #[.slice (some ⟨ga0, 0, none⟩) n0_0 n0_0, .slice (some ⟨ga1, 0, none⟩) n0_1 n0_1])).put (some 126) (.agg #[.int .i64 a1_0, .slice A1_1 n1_1 c1_1])).put (some 127) (.agg #[.int .i64 a1_0, .slice (some ⟨gb0, 0, none⟩) n1_1 n1_1])).put (some 128) (.int .i64 a2)).put (some 129) (.tuple #[.agg #[.slice Ac0_0 (n0_0) cc0_0, .slice Ac0_1 (n0_1) cc0_1], .agg #[.int .i64 (cutZ l0_0 l0_1 a1_0 l1_1 a2), .slice Ac1_0 ((cutL l0_0 l0_1 a1_0 l1_1 a2).length) cc1_0], .bool (cutOk l0_0 l0_1 a1_0 l1_1 a2)])).put (some 123) (.tuple #[.agg #[.slice Ac0_0 (n0_0) cc0_0, .slice Ac0_1 (n0_1) cc0_1], .agg #[.int .i64 (cutZ l0_0 l0_1 a1_0 l1_1 a2), .slice Ac1_0 ((cutL l0_0 l0_1 a1_0 l1_1 a2).length) cc1_0], .bool (cutOk l0_0 l0_1 a1_0 l1_1 a2)])).put (some 130) (.agg #[.slice Ac0_0 (n0_0) cc0_0, .slice Ac0_1 (n0_1) cc0_1])).put (some 131) (.agg #[.int .i64 (cutZ l0_0 l0_1 a1_0 l1_1 a2), .slice Ac1_0 ((cutL l0_0 l0_1 a1_0 l1_1 a2).length) cc1_0])).put (some 132) (.bool (cutOk l0_0 l0_1 a1_0 l1_1 a2))).put (some 19) (.pointer (some ⟨hd, 0, none⟩))).put (some 20) (.pointer (some ⟨he, 0, none⟩))).put (some 21) (.bool (cutOk l0_0 l0_1 a1_0 l1_1 a2)) ∧
    Hp [] w w' (.row 4 1 (.slice (some ⟨ga0, 0, none⟩) n0_0 n0_0) n0_0 ((l0_0).map Value.bool) ::
      .row 9 1 (.slice (some ⟨ga1, 0, none⟩) n0_1 n0_1) n0_1 ((l0_1).map Value.string) ::
      .row 92 3 (.slice (some ⟨gb0, 0, none⟩) n1_1 n1_1) n1_1 ((l1_1).flatMap cExt) ::
      .row 4 1 (.slice Ac0_0 (n0_0) cc0_0) (n0_0) ((cutBits l0_0 l0_1 a1_0 l1_1 a2).map Value.bool) ::
      .row 9 1 (.slice Ac0_1 (n0_1) cc0_1) (n0_1) ((cutData l0_0 l0_1 a1_0 l1_1 a2).map Value.string) ::
      .row 92 3 (.slice Ac1_0 ((cutL l0_0 l0_1 a1_0 l1_1 a2).length) cc1_0) ((cutL l0_0 l0_1 a1_0 l1_1 a2).length) ((cutL l0_0 l0_1 a1_0 l1_1 a2).flatMap cExt) ::
      .blk hd 31 [.slice Ac0_0 (n0_0) cc0_0, .slice Ac0_1 (n0_1) cc0_1] ::
      .blk he 34 [.int .i64 (cutZ l0_0 l0_1 a1_0 l1_1 a2), .slice Ac1_0 ((cutL l0_0 l0_1 a1_0 l1_1 a2).length) cc1_0] :: l0)) ?_ ?_
  ·
    have H := H26.drew
    intro R_ hR_
    refine wp_region_held_drew (S := fun w' => w'.cell? ⟨w.heap.size, 0, none⟩ = some (.slice A0_0 n0_0 c0_0) ∧ w'.cell? ⟨w.heap.size, 1, none⟩ = some (.slice A0_1 n0_1 c0_1) ∧ w'.cell? ⟨w.heap.size + 1, 0, none⟩ = some (.int .i64 a1_0) ∧ w'.cell? ⟨w.heap.size + 1, 1, none⟩ = some (.slice A1_1 n1_1 c1_1)) (by kernel_rfl) ?_ (fun hHeld => ?_)
    · exact ⟨H.bat 22 rfl (j := 0) rfl, H.bat 22 rfl (j := 1) rfl, H.bat 21 rfl (j := 0) rfl, H.bat 21 rfl (j := 1) rfl⟩
    obtain ⟨u0, hu0⟩ : ∃ uu : World, uu = w26.drew := ⟨_, rfl⟩
    rw [← hu0] at H hHeld ⊢
    clear hu0
    refine wpAnyH_join (fun k => ∀ (ga0 : Nat) (ga1 : Nat) (gb0 : Nat) (Ac0_0 : Option Addr) (cc0_0 : Nat) (Ac0_1 : Option Addr) (cc0_1 : Nat) (Ac1_0 : Option Addr) (cc1_0 : Nat) (hd : Nat) (he : Nat) (u : World), Hp [] w u (.row 4 1 (.slice (some ⟨ga0, 0, none⟩) n0_0 n0_0) n0_0 ((l0_0).map Value.bool) :: .row 9 1 (.slice (some ⟨ga1, 0, none⟩) n0_1 n0_1) n0_1 ((l0_1).map Value.string) :: .row 92 3 (.slice (some ⟨gb0, 0, none⟩) n1_1 n1_1) n1_1 ((l1_1).flatMap cExt) :: .row 4 1 (.slice Ac0_0 (n0_0) cc0_0) (n0_0) ((cutBits l0_0 l0_1 a1_0 l1_1 a2).map Value.bool) :: .row 9 1 (.slice Ac0_1 (n0_1) cc0_1) (n0_1) ((cutData l0_0 l0_1 a1_0 l1_1 a2).map Value.string) :: .row 92 3 (.slice Ac1_0 ((cutL l0_0 l0_1 a1_0 l1_1 a2).length) cc1_0) ((cutL l0_0 l0_1 a1_0 l1_1 a2).length) ((cutL l0_0 l0_1 a1_0 l1_1 a2).flatMap cExt) :: .blk hd 31 [.slice none 0 0, .slice none 0 0] :: .blk he 34 [.int .i64 0, .slice none 0 0] :: l0) → k ((?A2 : Nat → Nat → Nat → Option Addr → Nat → Option Addr → Nat → Option Addr → Nat → Nat → Nat → Act) ga0 ga1 gb0 Ac0_0 cc0_0 Ac0_1 cc0_1 Ac1_0 cc1_0 hd he) u) 3 #[true, true, true, true, true, true, true, true, true, true, true, true, false, false, false] (fun hJ => ?_) ?_
    rotate_left
    · refine wpAnyH_take (i := 0) (v := ?_) rfl (by kernel_rfl) (by kernel_rfl) (by kernel_rfl) (fun _ _ _ h => nomatch h.1) (Or.inl ⟨by kernel_rfl, ?_⟩) (by assumption) ?_
      rotate_left
      · (intro w hSw; (try dsimp only at hSw); go_simp; try (with_reducible rfl))
      try simp only [sA, sB, sC, Act.put, sD, sE, sF]
      refine wpAnyH_take (i := 2) (v := ?_) rfl (by kernel_rfl) (by kernel_rfl) (by kernel_rfl) (fun _ _ _ h => nomatch h.1) (Or.inl ⟨by kernel_rfl, ?_⟩) (by assumption) ?_
      rotate_left
      · (intro w hSw; (try dsimp only at hSw); go_simp; try (with_reducible rfl))
      try simp only [sA, sB, sC, Act.put, sD, sE, sF]
      refine wpAnyH_take (i := 4) (v := ?_) rfl (by kernel_rfl) (by kernel_rfl) (by kernel_rfl) (fun _ _ _ h => nomatch h.1) (Or.inl ⟨by kernel_rfl, ?_⟩) (by assumption) ?_
      rotate_left
      · (intro w hSw; (try dsimp only at hSw); go_simp; try (with_reducible rfl))
      try simp only [sA, sB, sC, Act.put, sD, sE, sF]
      refine wpAnyH_ready (rs := [1, 10, 11]) (by kernel_rfl) (by simp) ?_
      refine (AllReadyH.cons rfl (fun K hK => ?_) (AllReadyH.cons rfl (fun K hK => ?_) (AllReadyH.cons rfl (fun K hK => ?_) AllReadyH.nil)))
      · go_simp
        refine (toStore_any A0_0 n0_0 c0_0 l0_0 A0_1 n0_1 c0_1 l0_1 _ (H.old h0_0) (H.old h0_1) hs0_0 hs0_1).mono ?_
        rintro e u1 ⟨ga0, ga1, rfl, oa0, oa1, fa⟩
        replace H := H.made2 oa0 oa1 fa (by decide)
        clear oa0 oa1 fa
        go_wp2_with fail
        refine hK.out _ _ ?_ (fun hHeld => ?_)
        · exact ⟨H.bat 24 rfl (j := 0) rfl, H.bat 24 rfl (j := 1) rfl, H.bat 23 rfl (j := 0) rfl, H.bat 23 rfl (j := 1) rfl⟩
        clear hK K
        try simp only [sA, sB, sC, Act.put, sD, sE, sF]
        refine wpAnyH_ready (rs := [3, 10, 11]) (by kernel_rfl) (by simp) ?_
        refine (AllReadyH.cons rfl (fun K hK => ?_) (AllReadyH.cons rfl (fun K hK => ?_) (AllReadyH.cons rfl (fun K hK => ?_) AllReadyH.nil)))
        · go_simp
          refine (toFil_any a1_0 A1_1 n1_1 c1_1 l1_1 _ (H.old h1_1) hs1_1).mono ?_
          rintro e u2 ⟨gb0, rfl, ob0, fb⟩
          replace H := H.made ob0 fb
          clear ob0 fb
          go_wp2_with fail
          refine hK.out _ _ ?_ (fun hHeld => ?_)
          · exact ⟨H.bat 25 rfl (j := 0) rfl, H.bat 25 rfl (j := 1) rfl, H.bat 24 rfl (j := 0) rfl, H.bat 24 rfl (j := 1) rfl⟩
          clear hK K
          try simp only [sA, sB, sC, Act.put, sD, sE, sF]
          refine wpAnyH_ready (rs := [5, 10, 11]) (by kernel_rfl) (by simp) ?_
          refine (AllReadyH.cons rfl (fun K hK => ?_) (AllReadyH.cons rfl (fun K hK => ?_) (AllReadyH.cons rfl (fun K hK => ?_) AllReadyH.nil)))
          · go_simp
            refine (implFilCut_c _ _ _ l0_0 _ _ _ l0_1 a1_0 _ _ _ l1_1 a2 _ (H.rd 1 rfl) (H.rd 2 rfl) (H.rd 0 rfl) (fun e => nomatch e) (fun e => nomatch e) (fun e => nomatch e) hs0_0 hs0_1 hz0_1 hs1_1).mono ?_
            rintro e u3 ⟨Ac0_0, cc0_0, Ac0_1, cc0_1, Ac1_0, cc1_0, rfl, Kc⟩
            replace H := H.join Kc
            clear Kc
            go_wp2_with fail
            refine hK.out _ _ ?_ (fun hHeld => ?_)
            · exact ⟨H.bat 28 rfl (j := 0) rfl, H.bat 28 rfl (j := 1) rfl, H.bat 27 rfl (j := 0) rfl, H.bat 27 rfl (j := 1) rfl⟩
            clear hK K
            try simp only [sA, sB, sC, Act.put, sD, sE, sF]
            refine wpAnyH_take (i := 6) (v := ?_) rfl (by kernel_rfl) (by kernel_rfl) (by kernel_rfl) (fun _ _ _ h => nomatch h.1) (Or.inl ⟨by kernel_rfl, ?_⟩) (by assumption) ?_
            rotate_left
            · (intro w hSw; (try dsimp only at hSw); go_simp; try (with_reducible rfl))
            try simp only [sA, sB, sC, Act.put, sD, sE, sF]
            refine wpAnyH_take (i := 7) (v := ?_) rfl (by kernel_rfl) (by kernel_rfl) (by kernel_rfl) (fun _ _ _ h => nomatch h.1) (Or.inl ⟨by kernel_rfl, ?_⟩) (by assumption) ?_
            rotate_left
            · (intro w hSw; (try dsimp only at hSw); go_simp; try (with_reducible rfl))
            try simp only [sA, sB, sC, Act.put, sD, sE, sF]
            refine wpAnyH_take (i := 8) (v := ?_) rfl (by kernel_rfl) (by kernel_rfl) (by kernel_rfl) (fun _ _ _ h => nomatch h.1) (Or.inl ⟨by kernel_rfl, ?_⟩) (by assumption) ?_
            rotate_left
            · (intro w hSw; (try dsimp only at hSw); go_simp; try (with_reducible rfl))
            try simp only [sA, sB, sC, Act.put, sD, sE, sF]
            refine wpAnyH_take (i := 9) (v := ?_) rfl (by kernel_rfl) (by kernel_rfl) (by kernel_rfl) (fun _ _ _ h => nomatch h.1) (Or.inl ⟨by kernel_rfl, ?_⟩) (by assumption) ?_
            rotate_left
            · (intro w hSw; (try dsimp only at hSw); go_simp; try (with_reducible rfl))
            try simp only [sA, sB, sC, Act.put, sD, sE, sF]
            refine wpAnyH_ready (rs := [10, 11]) (by kernel_rfl) (by simp) ?_
            refine (AllReadyH.cons rfl (fun K hK => ?_) (AllReadyH.cons rfl (fun K hK => ?_) AllReadyH.nil))
            · replace H := H.lay 31 [.slice none 0 0, .slice none 0 0]
              go_simp
              obtain ⟨hd, hhd⟩ : ∃ x, x = u3.heap.size := ⟨_, rfl⟩
              rw [← hhd] at H ⊢
              clear hhd
              obtain ⟨u4, hv⟩ : ∃ uu : World, uu = u3.alloc (.cells #[.slice none 0 0, .slice none 0 0] 31) := ⟨_, rfl⟩
              rw [← hv] at H ⊢
              clear hv
              refine hK.out _ _ ?_ (fun hHeld => ?_)
              · exact ⟨H.bat 29 rfl (j := 0) rfl, H.bat 29 rfl (j := 1) rfl, H.bat 28 rfl (j := 0) rfl, H.bat 28 rfl (j := 1) rfl⟩
              clear hK K
              try simp only [sA, sB, sC, Act.put, sD, sE, sF]
              refine wpAnyH_ready (rs := [11]) (by kernel_rfl) (by simp) ?_
              refine (AllReadyH.cons rfl (fun K hK => ?_) AllReadyH.nil)
              replace H := H.lay 34 [.int .i64 0, .slice none 0 0]
              go_simp
              obtain ⟨he, hhe⟩ : ∃ x, x = u4.heap.size := ⟨_, rfl⟩
              rw [← hhe] at H ⊢
              clear hhe
              obtain ⟨u5, hv⟩ : ∃ uu : World, uu = u4.alloc (.cells #[.int .i64 0, .slice none 0 0] 34) := ⟨_, rfl⟩
              rw [← hv] at H ⊢
              clear hv
              refine hK.out _ _ ?_ (fun hHeld => ?_)
              · exact ⟨H.bat 30 rfl (j := 0) rfl, H.bat 30 rfl (j := 1) rfl, H.bat 29 rfl (j := 0) rfl, H.bat 29 rfl (j := 1) rfl⟩
              clear hK K
              try simp only [sA, sB, sC, Act.put, sD, sE, sF]
              replace H := H.reord [6, 7, 5, 2, 3, 4, 1, 0, 8, 9, 10, 11, 12, 13, 14, 15, 16, 17, 18, 19, 20, 21, 22, 23, 24, 25, 26, 27, 28, 29, 30] (n := 31) rfl (by decide)
              exact hJ.out ga0 ga1 gb0 Ac0_0 cc0_0 Ac0_1 cc0_1 Ac1_0 cc1_0 hd he _ (by rw [hl0]; exact H) hHeld
            · replace H := H.lay 34 [.int .i64 0, .slice none 0 0]
              go_simp
              obtain ⟨he, hhe⟩ : ∃ x, x = u3.heap.size := ⟨_, rfl⟩
              rw [← hhe] at H ⊢
              clear hhe
              obtain ⟨u4, hv⟩ : ∃ uu : World, uu = u3.alloc (.cells #[.int .i64 0, .slice none 0 0] 34) := ⟨_, rfl⟩
              rw [← hv] at H ⊢
              clear hv
              refine hK.out _ _ ?_ (fun hHeld => ?_)
              · exact ⟨H.bat 29 rfl (j := 0) rfl, H.bat 29 rfl (j := 1) rfl, H.bat 28 rfl (j := 0) rfl, H.bat 28 rfl (j := 1) rfl⟩
              clear hK K
              try simp only [sA, sB, sC, Act.put, sD, sE, sF]
              refine wpAnyH_ready (rs := [10]) (by kernel_rfl) (by simp) ?_
              refine (AllReadyH.cons rfl (fun K hK => ?_) AllReadyH.nil)
              replace H := H.lay 31 [.slice none 0 0, .slice none 0 0]
              go_simp
              obtain ⟨hd, hhd⟩ : ∃ x, x = u4.heap.size := ⟨_, rfl⟩
              rw [← hhd] at H ⊢
              clear hhd
              obtain ⟨u5, hv⟩ : ∃ uu : World, uu = u4.alloc (.cells #[.slice none 0 0, .slice none 0 0] 31) := ⟨_, rfl⟩
              rw [← hv] at H ⊢
              clear hv
              refine hK.out _ _ ?_ (fun hHeld => ?_)
              · exact ⟨H.bat 30 rfl (j := 0) rfl, H.bat 30 rfl (j := 1) rfl, H.bat 29 rfl (j := 0) rfl, H.bat 29 rfl (j := 1) rfl⟩
              clear hK K
              try simp only [sA, sB, sC, Act.put, sD, sE, sF]
              replace H := H.reord [6, 7, 5, 2, 3, 4, 0, 1, 8, 9, 10, 11, 12, 13, 14, 15, 16, 17, 18, 19, 20, 21, 22, 23, 24, 25, 26, 27, 28, 29, 30] (n := 31) rfl (by decide)
              exact hJ.out ga0 ga1 gb0 Ac0_0 cc0_0 Ac0_1 cc0_1 Ac1_0 cc1_0 hd he _ (by rw [hl0]; exact H) hHeld
          · replace H := H.lay 31 [.slice none 0 0, .slice none 0 0]
            go_simp
            obtain ⟨hd, hhd⟩ : ∃ x, x = u2.heap.size := ⟨_, rfl⟩
            rw [← hhd] at H ⊢
            clear hhd
            obtain ⟨u3, hv⟩ : ∃ uu : World, uu = u2.alloc (.cells #[.slice none 0 0, .slice none 0 0] 31) := ⟨_, rfl⟩
            rw [← hv] at H ⊢
            clear hv
            refine hK.out _ _ ?_ (fun hHeld => ?_)
            · exact ⟨H.bat 26 rfl (j := 0) rfl, H.bat 26 rfl (j := 1) rfl, H.bat 25 rfl (j := 0) rfl, H.bat 25 rfl (j := 1) rfl⟩
            clear hK K
            try simp only [sA, sB, sC, Act.put, sD, sE, sF]
            refine wpAnyH_ready (rs := [5, 11]) (by kernel_rfl) (by simp) ?_
            refine (AllReadyH.cons rfl (fun K hK => ?_) (AllReadyH.cons rfl (fun K hK => ?_) AllReadyH.nil))
            · go_simp
              refine (implFilCut_c _ _ _ l0_0 _ _ _ l0_1 a1_0 _ _ _ l1_1 a2 _ (H.rd 2 rfl) (H.rd 3 rfl) (H.rd 1 rfl) (fun e => nomatch e) (fun e => nomatch e) (fun e => nomatch e) hs0_0 hs0_1 hz0_1 hs1_1).mono ?_
              rintro e u4 ⟨Ac0_0, cc0_0, Ac0_1, cc0_1, Ac1_0, cc1_0, rfl, Kc⟩
              replace H := H.join Kc
              clear Kc
              go_wp2_with fail
              refine hK.out _ _ ?_ (fun hHeld => ?_)
              · exact ⟨H.bat 29 rfl (j := 0) rfl, H.bat 29 rfl (j := 1) rfl, H.bat 28 rfl (j := 0) rfl, H.bat 28 rfl (j := 1) rfl⟩
              clear hK K
              try simp only [sA, sB, sC, Act.put, sD, sE, sF]
              refine wpAnyH_take (i := 6) (v := ?_) rfl (by kernel_rfl) (by kernel_rfl) (by kernel_rfl) (fun _ _ _ h => nomatch h.1) (Or.inl ⟨by kernel_rfl, ?_⟩) (by assumption) ?_
              rotate_left
              · (intro w hSw; (try dsimp only at hSw); go_simp; try (with_reducible rfl))
              try simp only [sA, sB, sC, Act.put, sD, sE, sF]
              refine wpAnyH_take (i := 7) (v := ?_) rfl (by kernel_rfl) (by kernel_rfl) (by kernel_rfl) (fun _ _ _ h => nomatch h.1) (Or.inl ⟨by kernel_rfl, ?_⟩) (by assumption) ?_
              rotate_left
              · (intro w hSw; (try dsimp only at hSw); go_simp; try (with_reducible rfl))
              try simp only [sA, sB, sC, Act.put, sD, sE, sF]
              refine wpAnyH_take (i := 8) (v := ?_) rfl (by kernel_rfl) (by kernel_rfl) (by kernel_rfl) (fun _ _ _ h => nomatch h.1) (Or.inl ⟨by kernel_rfl, ?_⟩) (by assumption) ?_
              rotate_left
              · (intro w hSw; (try dsimp only at hSw); go_simp; try (with_reducible rfl))
              try simp only [sA, sB, sC, Act.put, sD, sE, sF]
              refine wpAnyH_take (i := 9) (v := ?_) rfl (by kernel_rfl) (by kernel_rfl) (by kernel_rfl) (fun _ _ _ h => nomatch h.1) (Or.inl ⟨by kernel_rfl, ?_⟩) (by assumption) ?_
              rotate_left
              · (intro w hSw; (try dsimp only at hSw); go_simp; try (with_reducible rfl))
              try simp only [sA, sB, sC, Act.put, sD, sE, sF]
              refine wpAnyH_ready (rs := [11]) (by kernel_rfl) (by simp) ?_
              refine (AllReadyH.cons rfl (fun K hK => ?_) AllReadyH.nil)
              replace H := H.lay 34 [.int .i64 0, .slice none 0 0]
              go_simp
              obtain ⟨he, hhe⟩ : ∃ x, x = u4.heap.size := ⟨_, rfl⟩
              rw [← hhe] at H ⊢
              clear hhe
              obtain ⟨u5, hv⟩ : ∃ uu : World, uu = u4.alloc (.cells #[.int .i64 0, .slice none 0 0] 34) := ⟨_, rfl⟩
              rw [← hv] at H ⊢
              clear hv
              refine hK.out _ _ ?_ (fun hHeld => ?_)
              · exact ⟨H.bat 30 rfl (j := 0) rfl, H.bat 30 rfl (j := 1) rfl, H.bat 29 rfl (j := 0) rfl, H.bat 29 rfl (j := 1) rfl⟩
              clear hK K
              try simp only [sA, sB, sC, Act.put, sD, sE, sF]
              replace H := H.reord [6, 7, 5, 1, 2, 3, 4, 0, 8, 9, 10, 11, 12, 13, 14, 15, 16, 17, 18, 19, 20, 21, 22, 23, 24, 25, 26, 27, 28, 29, 30] (n := 31) rfl (by decide)
              exact hJ.out ga0 ga1 gb0 Ac0_0 cc0_0 Ac0_1 cc0_1 Ac1_0 cc1_0 hd he _ (by rw [hl0]; exact H) hHeld
            · replace H := H.lay 34 [.int .i64 0, .slice none 0 0]
              go_simp
              obtain ⟨he, hhe⟩ : ∃ x, x = u3.heap.size := ⟨_, rfl⟩
              rw [← hhe] at H ⊢
              clear hhe
              obtain ⟨u4, hv⟩ : ∃ uu : World, uu = u3.alloc (.cells #[.int .i64 0, .slice none 0 0] 34) := ⟨_, rfl⟩
              rw [← hv] at H ⊢
              clear hv
              refine hK.out _ _ ?_ (fun hHeld => ?_)
              · exact ⟨H.bat 27 rfl (j := 0) rfl, H.bat 27 rfl (j := 1) rfl, H.bat 26 rfl (j := 0) rfl, H.bat 26 rfl (j := 1) rfl⟩
              clear hK K
              try simp only [sA, sB, sC, Act.put, sD, sE, sF]
              refine wpAnyH_ready (rs := [5]) (by kernel_rfl) (by simp) ?_
              refine (AllReadyH.cons rfl (fun K hK => ?_) AllReadyH.nil)
              go_simp
              refine (implFilCut_c _ _ _ l0_0 _ _ _ l0_1 a1_0 _ _ _ l1_1 a2 _ (H.rd 3 rfl) (H.rd 4 rfl) (H.rd 2 rfl) (fun e => nomatch e) (fun e => nomatch e) (fun e => nomatch e) hs0_0 hs0_1 hz0_1 hs1_1).mono ?_
              rintro e u5 ⟨Ac0_0, cc0_0, Ac0_1, cc0_1, Ac1_0, cc1_0, rfl, Kc⟩
              replace H := H.join Kc
              clear Kc
              go_wp2_with fail
              refine hK.out _ _ ?_ (fun hHeld => ?_)
              · exact ⟨H.bat 30 rfl (j := 0) rfl, H.bat 30 rfl (j := 1) rfl, H.bat 29 rfl (j := 0) rfl, H.bat 29 rfl (j := 1) rfl⟩
              clear hK K
              try simp only [sA, sB, sC, Act.put, sD, sE, sF]
              refine wpAnyH_take (i := 6) (v := ?_) rfl (by kernel_rfl) (by kernel_rfl) (by kernel_rfl) (fun _ _ _ h => nomatch h.1) (Or.inl ⟨by kernel_rfl, ?_⟩) (by assumption) ?_
              rotate_left
              · (intro w hSw; (try dsimp only at hSw); go_simp; try (with_reducible rfl))
              try simp only [sA, sB, sC, Act.put, sD, sE, sF]
              refine wpAnyH_take (i := 7) (v := ?_) rfl (by kernel_rfl) (by kernel_rfl) (by kernel_rfl) (fun _ _ _ h => nomatch h.1) (Or.inl ⟨by kernel_rfl, ?_⟩) (by assumption) ?_
              rotate_left
              · (intro w hSw; (try dsimp only at hSw); go_simp; try (with_reducible rfl))
              try simp only [sA, sB, sC, Act.put, sD, sE, sF]
              refine wpAnyH_take (i := 8) (v := ?_) rfl (by kernel_rfl) (by kernel_rfl) (by kernel_rfl) (fun _ _ _ h => nomatch h.1) (Or.inl ⟨by kernel_rfl, ?_⟩) (by assumption) ?_
              rotate_left
              · (intro w hSw; (try dsimp only at hSw); go_simp; try (with_reducible rfl))
              try simp only [sA, sB, sC, Act.put, sD, sE, sF]
              refine wpAnyH_take (i := 9) (v := ?_) rfl (by kernel_rfl) (by kernel_rfl) (by kernel_rfl) (fun _ _ _ h => nomatch h.1) (Or.inl ⟨by kernel_rfl, ?_⟩) (by assumption) ?_
              rotate_left
              · (intro w hSw; (try dsimp only at hSw); go_simp; try (with_reducible rfl))
              try simp only [sA, sB, sC, Act.put, sD, sE, sF]
              replace H := H.reord [6, 7, 5, 0, 1, 2, 4, 3, 8, 9, 10, 11, 12, 13, 14, 15, 16, 17, 18, 19, 20, 21, 22, 23, 24, 25, 26, 27, 28, 29, 30] (n := 31) rfl (by decide)
              exact hJ.out ga0 ga1 gb0 Ac0_0 cc0_0 Ac0_1 cc0_1 Ac1_0 cc1_0 hd he _ (by rw [hl0]; exact H) hHeld
          · replace H := H.lay 34 [.int .i64 0, .slice none 0 0]
            go_simp
            obtain ⟨he, hhe⟩ : ∃ x, x = u2.heap.size := ⟨_, rfl⟩
            rw [← hhe] at H ⊢
            clear hhe
            obtain ⟨u3, hv⟩ : ∃ uu : World, uu = u2.alloc (.cells #[.int .i64 0, .slice none 0 0] 34) := ⟨_, rfl⟩
            rw [← hv] at H ⊢
            clear hv
            refine hK.out _ _ ?_ (fun hHeld => ?_)
            · exact ⟨H.bat 26 rfl (j := 0) rfl, H.bat 26 rfl (j := 1) rfl, H.bat 25 rfl (j := 0) rfl, H.bat 25 rfl (j := 1) rfl⟩
            clear hK K
            try simp only [sA, sB, sC, Act.put, sD, sE, sF]
            refine wpAnyH_ready (rs := [5, 10]) (by kernel_rfl) (by simp) ?_
            refine (AllReadyH.cons rfl (fun K hK => ?_) (AllReadyH.cons rfl (fun K hK => ?_) AllReadyH.nil))
            · go_simp
              refine (implFilCut_c _ _ _ l0_0 _ _ _ l0_1 a1_0 _ _ _ l1_1 a2 _ (H.rd 2 rfl) (H.rd 3 rfl) (H.rd 1 rfl) (fun e => nomatch e) (fun e => nomatch e) (fun e => nomatch e) hs0_0 hs0_1 hz0_1 hs1_1).mono ?_
              rintro e u4 ⟨Ac0_0, cc0_0, Ac0_1, cc0_1, Ac1_0, cc1_0, rfl, Kc⟩
              replace H := H.join Kc
              clear Kc
              go_wp2_with fail
              refine hK.out _ _ ?_ (fun hHeld => ?_)
              · exact ⟨H.bat 29 rfl (j := 0) rfl, H.bat 29 rfl (j := 1) rfl, H.bat 28 rfl (j := 0) rfl, H.bat 28 rfl (j := 1) rfl⟩
              clear hK K
              try simp only [sA, sB, sC, Act.put, sD, sE, sF]
              refine wpAnyH_take (i := 6) (v := ?_) rfl (by kernel_rfl) (by kernel_rfl) (by kernel_rfl) (fun _ _ _ h => nomatch h.1) (Or.inl ⟨by kernel_rfl, ?_⟩) (by assumption) ?_
              rotate_left
              · (intro w hSw; (try dsimp only at hSw); go_simp; try (with_reducible rfl))
              try simp only [sA, sB, sC, Act.put, sD, sE, sF]
              refine wpAnyH_take (i := 7) (v := ?_) rfl (by kernel_rfl) (by kernel_rfl) (by kernel_rfl) (fun _ _ _ h => nomatch h.1) (Or.inl ⟨by kernel_rfl, ?_⟩) (by assumption) ?_
              rotate_left
              · (intro w hSw; (try dsimp only at hSw); go_simp; try (with_reducible rfl))
              try simp only [sA, sB, sC, Act.put, sD, sE, sF]
              refine wpAnyH_take (i := 8) (v := ?_) rfl (by kernel_rfl) (by kernel_rfl) (by kernel_rfl) (fun _ _ _ h => nomatch h.1) (Or.inl ⟨by kernel_rfl, ?_⟩) (by assumption) ?_
              rotate_left
              · (intro w hSw; (try dsimp only at hSw); go_simp; try (with_reducible rfl))
              try simp only [sA, sB, sC, Act.put, sD, sE, sF]
              refine wpAnyH_take (i := 9) (v := ?_) rfl (by kernel_rfl) (by kernel_rfl) (by kernel_rfl) (fun _ _ _ h => nomatch h.1) (Or.inl ⟨by kernel_rfl, ?_⟩) (by assumption) ?_
              rotate_left
              · (intro w hSw; (try dsimp only at hSw); go_simp; try (with_reducible rfl))
              try simp only [sA, sB, sC, Act.put, sD, sE, sF]
              refine wpAnyH_ready (rs := [10]) (by kernel_rfl) (by simp) ?_
              refine (AllReadyH.cons rfl (fun K hK => ?_) AllReadyH.nil)
              replace H := H.lay 31 [.slice none 0 0, .slice none 0 0]
              go_simp
              obtain ⟨hd, hhd⟩ : ∃ x, x = u4.heap.size := ⟨_, rfl⟩
              rw [← hhd] at H ⊢
              clear hhd
              obtain ⟨u5, hv⟩ : ∃ uu : World, uu = u4.alloc (.cells #[.slice none 0 0, .slice none 0 0] 31) := ⟨_, rfl⟩
              rw [← hv] at H ⊢
              clear hv
              refine hK.out _ _ ?_ (fun hHeld => ?_)
              · exact ⟨H.bat 30 rfl (j := 0) rfl, H.bat 30 rfl (j := 1) rfl, H.bat 29 rfl (j := 0) rfl, H.bat 29 rfl (j := 1) rfl⟩
              clear hK K
              try simp only [sA, sB, sC, Act.put, sD, sE, sF]
              replace H := H.reord [6, 7, 5, 1, 2, 3, 0, 4, 8, 9, 10, 11, 12, 13, 14, 15, 16, 17, 18, 19, 20, 21, 22, 23, 24, 25, 26, 27, 28, 29, 30] (n := 31) rfl (by decide)
              exact hJ.out ga0 ga1 gb0 Ac0_0 cc0_0 Ac0_1 cc0_1 Ac1_0 cc1_0 hd he _ (by rw [hl0]; exact H) hHeld
            · replace H := H.lay 31 [.slice none 0 0, .slice none 0 0]
              go_simp
              obtain ⟨hd, hhd⟩ : ∃ x, x = u3.heap.size := ⟨_, rfl⟩
              rw [← hhd] at H ⊢
              clear hhd
              obtain ⟨u4, hv⟩ : ∃ uu : World, uu = u3.alloc (.cells #[.slice none 0 0, .slice none 0 0] 31) := ⟨_, rfl⟩
              rw [← hv] at H ⊢
              clear hv
              refine hK.out _ _ ?_ (fun hHeld => ?_)
              · exact ⟨H.bat 27 rfl (j := 0) rfl, H.bat 27 rfl (j := 1) rfl, H.bat 26 rfl (j := 0) rfl, H.bat 26 rfl (j := 1) rfl⟩
              clear hK K
              try simp only [sA, sB, sC, Act.put, sD, sE, sF]
              refine wpAnyH_ready (rs := [5]) (by kernel_rfl) (by simp) ?_
              refine (AllReadyH.cons rfl (fun K hK => ?_) AllReadyH.nil)
              go_simp
              refine (implFilCut_c _ _ _ l0_0 _ _ _ l0_1 a1_0 _ _ _ l1_1 a2 _ (H.rd 3 rfl) (H.rd 4 rfl) (H.rd 2 rfl) (fun e => nomatch e) (fun e => nomatch e) (fun e => nomatch e) hs0_0 hs0_1 hz0_1 hs1_1).mono ?_
              rintro e u5 ⟨Ac0_0, cc0_0, Ac0_1, cc0_1, Ac1_0, cc1_0, rfl, Kc⟩
              replace H := H.join Kc
              clear Kc
              go_wp2_with fail
              refine hK.out _ _ ?_ (fun hHeld => ?_)
              · exact ⟨H.bat 30 rfl (j := 0) rfl, H.bat 30 rfl (j := 1) rfl, H.bat 29 rfl (j := 0) rfl, H.bat 29 rfl (j := 1) rfl⟩
              clear hK K
              try simp only [sA, sB, sC, Act.put, sD, sE, sF]
              refine wpAnyH_take (i := 6) (v := ?_) rfl (by kernel_rfl) (by kernel_rfl) (by kernel_rfl) (fun _ _ _ h => nomatch h.1) (Or.inl ⟨by kernel_rfl, ?_⟩) (by assumption) ?_
              rotate_left
              · (intro w hSw; (try dsimp only at hSw); go_simp; try (with_reducible rfl))
              try simp only [sA, sB, sC, Act.put, sD, sE, sF]
              refine wpAnyH_take (i := 7) (v := ?_) rfl (by kernel_rfl) (by kernel_rfl) (by kernel_rfl) (fun _ _ _ h => nomatch h.1) (Or.inl ⟨by kernel_rfl, ?_⟩) (by assumption) ?_
              rotate_left
              · (intro w hSw; (try dsimp only at hSw); go_simp; try (with_reducible rfl))
              try simp only [sA, sB, sC, Act.put, sD, sE, sF]
              refine wpAnyH_take (i := 8) (v := ?_) rfl (by kernel_rfl) (by kernel_rfl) (by kernel_rfl) (fun _ _ _ h => nomatch h.1) (Or.inl ⟨by kernel_rfl, ?_⟩) (by assumption) ?_
              rotate_left
              · (intro w hSw; (try dsimp only at hSw); go_simp; try (with_reducible rfl))
              try simp only [sA, sB, sC, Act.put, sD, sE, sF]
              refine wpAnyH_take (i := 9) (v := ?_) rfl (by kernel_rfl) (by kernel_rfl) (by kernel_rfl) (fun _ _ _ h => nomatch h.1) (Or.inl ⟨by kernel_rfl, ?_⟩) (by assumption) ?_
              rotate_left
              · (intro w hSw; (try dsimp only at hSw); go_simp; try (with_reducible rfl))
              try simp only [sA, sB, sC, Act.put, sD, sE, sF]
              replace H := H.reord [6, 7, 5, 0, 1, 2, 3, 4, 8, 9, 10, 11, 12, 13, 14, 15, 16, 17, 18, 19, 20, 21, 22, 23, 24, 25, 26, 27, 28, 29, 30] (n := 31) rfl (by decide)
              exact hJ.out ga0 ga1 gb0 Ac0_0 cc0_0 Ac0_1 cc0_1 Ac1_0 cc1_0 hd he _ (by rw [hl0]; exact H) hHeld
        · replace H := H.lay 31 [.slice none 0 0, .slice none 0 0]
          go_simp
          obtain ⟨hd, hhd⟩ : ∃ x, x = u1.heap.size := ⟨_, rfl⟩
          rw [← hhd] at H ⊢
          clear hhd
          obtain ⟨u2, hv⟩ : ∃ uu : World, uu = u1.alloc (.cells #[.slice none 0 0, .slice none 0 0] 31) := ⟨_, rfl⟩
          rw [← hv] at H ⊢
          clear hv
          refine hK.out _ _ ?_ (fun hHeld => ?_)
          · exact ⟨H.bat 25 rfl (j := 0) rfl, H.bat 25 rfl (j := 1) rfl, H.bat 24 rfl (j := 0) rfl, H.bat 24 rfl (j := 1) rfl⟩
          clear hK K
          try simp only [sA, sB, sC, Act.put, sD, sE, sF]
          refine wpAnyH_ready (rs := [3, 11]) (by kernel_rfl) (by simp) ?_
          refine (AllReadyH.cons rfl (fun K hK => ?_) (AllReadyH.cons rfl (fun K hK => ?_) AllReadyH.nil))
          · go_simp
            refine (toFil_any a1_0 A1_1 n1_1 c1_1 l1_1 _ (H.old h1_1) hs1_1).mono ?_
            rintro e u3 ⟨gb0, rfl, ob0, fb⟩
            replace H := H.made ob0 fb
            clear ob0 fb
            go_wp2_with fail
            refine hK.out _ _ ?_ (fun hHeld => ?_)
            · exact ⟨H.bat 26 rfl (j := 0) rfl, H.bat 26 rfl (j := 1) rfl, H.bat 25 rfl (j := 0) rfl, H.bat 25 rfl (j := 1) rfl⟩
            clear hK K
            try simp only [sA, sB, sC, Act.put, sD, sE, sF]
            refine wpAnyH_ready (rs := [5, 11]) (by kernel_rfl) (by simp) ?_
            refine (AllReadyH.cons rfl (fun K hK => ?_) (AllReadyH.cons rfl (fun K hK => ?_) AllReadyH.nil))
            · go_simp
              refine (implFilCut_c _ _ _ l0_0 _ _ _ l0_1 a1_0 _ _ _ l1_1 a2 _ (H.rd 2 rfl) (H.rd 3 rfl) (H.rd 0 rfl) (fun e => nomatch e) (fun e => nomatch e) (fun e => nomatch e) hs0_0 hs0_1 hz0_1 hs1_1).mono ?_
              rintro e u4 ⟨Ac0_0, cc0_0, Ac0_1, cc0_1, Ac1_0, cc1_0, rfl, Kc⟩
              replace H := H.join Kc
              clear Kc
              go_wp2_with fail
              refine hK.out _ _ ?_ (fun hHeld => ?_)
              · exact ⟨H.bat 29 rfl (j := 0) rfl, H.bat 29 rfl (j := 1) rfl, H.bat 28 rfl (j := 0) rfl, H.bat 28 rfl (j := 1) rfl⟩
              clear hK K
              try simp only [sA, sB, sC, Act.put, sD, sE, sF]
              refine wpAnyH_take (i := 6) (v := ?_) rfl (by kernel_rfl) (by kernel_rfl) (by kernel_rfl) (fun _ _ _ h => nomatch h.1) (Or.inl ⟨by kernel_rfl, ?_⟩) (by assumption) ?_
              rotate_left
              · (intro w hSw; (try dsimp only at hSw); go_simp; try (with_reducible rfl))
              try simp only [sA, sB, sC, Act.put, sD, sE, sF]
              refine wpAnyH_take (i := 7) (v := ?_) rfl (by kernel_rfl) (by kernel_rfl) (by kernel_rfl) (fun _ _ _ h => nomatch h.1) (Or.inl ⟨by kernel_rfl, ?_⟩) (by assumption) ?_
              rotate_left
              · (intro w hSw; (try dsimp only at hSw); go_simp; try (with_reducible rfl))
              try simp only [sA, sB, sC, Act.put, sD, sE, sF]
              refine wpAnyH_take (i := 8) (v := ?_) rfl (by kernel_rfl) (by kernel_rfl) (by kernel_rfl) (fun _ _ _ h => nomatch h.1) (Or.inl ⟨by kernel_rfl, ?_⟩) (by assumption) ?_
              rotate_left
              · (intro w hSw; (try dsimp only at hSw); go_simp; try (with_reducible rfl))
              try simp only [sA, sB, sC, Act.put, sD, sE, sF]
              refine wpAnyH_take (i := 9) (v := ?_) rfl (by kernel_rfl) (by kernel_rfl) (by kernel_rfl) (fun _ _ _ h => nomatch h.1) (Or.inl ⟨by kernel_rfl, ?_⟩) (by assumption) ?_
              rotate_left
              · (intro w hSw; (try dsimp only at hSw); go_simp; try (with_reducible rfl))
              try simp only [sA, sB, sC, Act.put, sD, sE, sF]
              refine wpAnyH_ready (rs := [11]) (by kernel_rfl) (by simp) ?_
              refine (AllReadyH.cons rfl (fun K hK => ?_) AllReadyH.nil)
              replace H := H.lay 34 [.int .i64 0, .slice none 0 0]
              go_simp
              obtain ⟨he, hhe⟩ : ∃ x, x = u4.heap.size := ⟨_, rfl⟩
              rw [← hhe] at H ⊢
              clear hhe
              obtain ⟨u5, hv⟩ : ∃ uu : World, uu = u4.alloc (.cells #[.int .i64 0, .slice none 0 0] 34) := ⟨_, rfl⟩
              rw [← hv] at H ⊢
              clear hv
              refine hK.out _ _ ?_ (fun hHeld => ?_)
              · exact ⟨H.bat 30 rfl (j := 0) rfl, H.bat 30 rfl (j := 1) rfl, H.bat 29 rfl (j := 0) rfl, H.bat 29 rfl (j := 1) rfl⟩
              clear hK K
              try simp only [sA, sB, sC, Act.put, sD, sE, sF]
              replace H := H.reord [6, 7, 4, 1, 2, 3, 5, 0, 8, 9, 10, 11, 12, 13, 14, 15, 16, 17, 18, 19, 20, 21, 22, 23, 24, 25, 26, 27, 28, 29, 30] (n := 31) rfl (by decide)
              exact hJ.out ga0 ga1 gb0 Ac0_0 cc0_0 Ac0_1 cc0_1 Ac1_0 cc1_0 hd he _ (by rw [hl0]; exact H) hHeld
            · replace H := H.lay 34 [.int .i64 0, .slice none 0 0]
              go_simp
              obtain ⟨he, hhe⟩ : ∃ x, x = u3.heap.size := ⟨_, rfl⟩
              rw [← hhe] at H ⊢
              clear hhe
              obtain ⟨u4, hv⟩ : ∃ uu : World, uu = u3.alloc (.cells #[.int .i64 0, .slice none 0 0] 34) := ⟨_, rfl⟩
              rw [← hv] at H ⊢
              clear hv
              refine hK.out _ _ ?_ (fun hHeld => ?_)
              · exact ⟨H.bat 27 rfl (j := 0) rfl, H.bat 27 rfl (j := 1) rfl, H.bat 26 rfl (j := 0) rfl, H.bat 26 rfl (j := 1) rfl⟩
              clear hK K
              try simp only [sA, sB, sC, Act.put, sD, sE, sF]
              refine wpAnyH_ready (rs := [5]) (by kernel_rfl) (by simp) ?_
              refine (AllReadyH.cons rfl (fun K hK => ?_) AllReadyH.nil)
              go_simp
              refine (implFilCut_c _ _ _ l0_0 _ _ _ l0_1 a1_0 _ _ _ l1_1 a2 _ (H.rd 3 rfl) (H.rd 4 rfl) (H.rd 1 rfl) (fun e => nomatch e) (fun e => nomatch e) (fun e => nomatch e) hs0_0 hs0_1 hz0_1 hs1_1).mono ?_
              rintro e u5 ⟨Ac0_0, cc0_0, Ac0_1, cc0_1, Ac1_0, cc1_0, rfl, Kc⟩
              replace H := H.join Kc
              clear Kc
              go_wp2_with fail
              refine hK.out _ _ ?_ (fun hHeld => ?_)
              · exact ⟨H.bat 30 rfl (j := 0) rfl, H.bat 30 rfl (j := 1) rfl, H.bat 29 rfl (j := 0) rfl, H.bat 29 rfl (j := 1) rfl⟩
              clear hK K
              try simp only [sA, sB, sC, Act.put, sD, sE, sF]
              refine wpAnyH_take (i := 6) (v := ?_) rfl (by kernel_rfl) (by kernel_rfl) (by kernel_rfl) (fun _ _ _ h => nomatch h.1) (Or.inl ⟨by kernel_rfl, ?_⟩) (by assumption) ?_
              rotate_left
              · (intro w hSw; (try dsimp only at hSw); go_simp; try (with_reducible rfl))
              try simp only [sA, sB, sC, Act.put, sD, sE, sF]
              refine wpAnyH_take (i := 7) (v := ?_) rfl (by kernel_rfl) (by kernel_rfl) (by kernel_rfl) (fun _ _ _ h => nomatch h.1) (Or.inl ⟨by kernel_rfl, ?_⟩) (by assumption) ?_
              rotate_left
              · (intro w hSw; (try dsimp only at hSw); go_simp; try (with_reducible rfl))
              try simp only [sA, sB, sC, Act.put, sD, sE, sF]
              refine wpAnyH_take (i := 8) (v := ?_) rfl (by kernel_rfl) (by kernel_rfl) (by kernel_rfl) (fun _ _ _ h => nomatch h.1) (Or.inl ⟨by kernel_rfl, ?_⟩) (by assumption) ?_
              rotate_left
              · (intro w hSw; (try dsimp only at hSw); go_simp; try (with_reducible rfl))
              try simp only [sA, sB, sC, Act.put, sD, sE, sF]
              refine wpAnyH_take (i := 9) (v := ?_) rfl (by kernel_rfl) (by kernel_rfl) (by kernel_rfl) (fun _ _ _ h => nomatch h.1) (Or.inl ⟨by kernel_rfl, ?_⟩) (by assumption) ?_
              rotate_left
              · (intro w hSw; (try dsimp only at hSw); go_simp; try (with_reducible rfl))
              try simp only [sA, sB, sC, Act.put, sD, sE, sF]
              replace H := H.reord [6, 7, 4, 0, 1, 2, 5, 3, 8, 9, 10, 11, 12, 13, 14, 15, 16, 17, 18, 19, 20, 21, 22, 23, 24, 25, 26, 27, 28, 29, 30] (n := 31) rfl (by decide)
              exact hJ.out ga0 ga1 gb0 Ac0_0 cc0_0 Ac0_1 cc0_1 Ac1_0 cc1_0 hd he _ (by rw [hl0]; exact H) hHeld
          · replace H := H.lay 34 [.int .i64 0, .slice none 0 0]
            go_simp
            obtain ⟨he, hhe⟩ : ∃ x, x = u2.heap.size := ⟨_, rfl⟩
            rw [← hhe] at H ⊢
            clear hhe
            obtain ⟨u3, hv⟩ : ∃ uu : World, uu = u2.alloc (.cells #[.int .i64 0, .slice none 0 0] 34) := ⟨_, rfl⟩
            rw [← hv] at H ⊢
            clear hv
            refine hK.out _ _ ?_ (fun hHeld => ?_)
            · exact ⟨H.bat 26 rfl (j := 0) rfl, H.bat 26 rfl (j := 1) rfl, H.bat 25 rfl (j := 0) rfl, H.bat 25 rfl (j := 1) rfl⟩
            clear hK K
            try simp only [sA, sB, sC, Act.put, sD, sE, sF]
            refine wpAnyH_ready (rs := [3]) (by kernel_rfl) (by simp) ?_
            refine (AllReadyH.cons rfl (fun K hK => ?_) AllReadyH.nil)
            go_simp
            refine (toFil_any a1_0 A1_1 n1_1 c1_1 l1_1 _ (H.old h1_1) hs1_1).mono ?_
            rintro e u4 ⟨gb0, rfl, ob0, fb⟩
            replace H := H.made ob0 fb
            clear ob0 fb
            go_wp2_with fail
            refine hK.out _ _ ?_ (fun hHeld => ?_)
            · exact ⟨H.bat 27 rfl (j := 0) rfl, H.bat 27 rfl (j := 1) rfl, H.bat 26 rfl (j := 0) rfl, H.bat 26 rfl (j := 1) rfl⟩
            clear hK K
            try simp only [sA, sB, sC, Act.put, sD, sE, sF]
            refine wpAnyH_ready (rs := [5]) (by kernel_rfl) (by simp) ?_
            refine (AllReadyH.cons rfl (fun K hK => ?_) AllReadyH.nil)
            go_simp
            refine (implFilCut_c _ _ _ l0_0 _ _ _ l0_1 a1_0 _ _ _ l1_1 a2 _ (H.rd 3 rfl) (H.rd 4 rfl) (H.rd 0 rfl) (fun e => nomatch e) (fun e => nomatch e) (fun e => nomatch e) hs0_0 hs0_1 hz0_1 hs1_1).mono ?_
            rintro e u5 ⟨Ac0_0, cc0_0, Ac0_1, cc0_1, Ac1_0, cc1_0, rfl, Kc⟩
            replace H := H.join Kc
            clear Kc
            go_wp2_with fail
            refine hK.out _ _ ?_ (fun hHeld => ?_)
            · exact ⟨H.bat 30 rfl (j := 0) rfl, H.bat 30 rfl (j := 1) rfl, H.bat 29 rfl (j := 0) rfl, H.bat 29 rfl (j := 1) rfl⟩
            clear hK K
            try simp only [sA, sB, sC, Act.put, sD, sE, sF]
            refine wpAnyH_take (i := 6) (v := ?_) rfl (by kernel_rfl) (by kernel_rfl) (by kernel_rfl) (fun _ _ _ h => nomatch h.1) (Or.inl ⟨by kernel_rfl, ?_⟩) (by assumption) ?_
            rotate_left
            · (intro w hSw; (try dsimp only at hSw); go_simp; try (with_reducible rfl))
            try simp only [sA, sB, sC, Act.put, sD, sE, sF]
            refine wpAnyH_take (i := 7) (v := ?_) rfl (by kernel_rfl) (by kernel_rfl) (by kernel_rfl) (fun _ _ _ h => nomatch h.1) (Or.inl ⟨by kernel_rfl, ?_⟩) (by assumption) ?_
            rotate_left
            · (intro w hSw; (try dsimp only at hSw); go_simp; try (with_reducible rfl))
            try simp only [sA, sB, sC, Act.put, sD, sE, sF]
            refine wpAnyH_take (i := 8) (v := ?_) rfl (by kernel_rfl) (by kernel_rfl) (by kernel_rfl) (fun _ _ _ h => nomatch h.1) (Or.inl ⟨by kernel_rfl, ?_⟩) (by assumption) ?_
            rotate_left
            · (intro w hSw; (try dsimp only at hSw); go_simp; try (with_reducible rfl))
            try simp only [sA, sB, sC, Act.put, sD, sE, sF]
            refine wpAnyH_take (i := 9) (v := ?_) rfl (by kernel_rfl) (by kernel_rfl) (by kernel_rfl) (fun _ _ _ h => nomatch h.1) (Or.inl ⟨by kernel_rfl, ?_⟩) (by assumption) ?_
            rotate_left
            · (intro w hSw; (try dsimp only at hSw); go_simp; try (with_reducible rfl))
            try simp only [sA, sB, sC, Act.put, sD, sE, sF]
            replace H := H.reord [6, 7, 3, 0, 1, 2, 5, 4, 8, 9, 10, 11, 12, 13, 14, 15, 16, 17, 18, 19, 20, 21, 22, 23, 24, 25, 26, 27, 28, 29, 30] (n := 31) rfl (by decide)
            exact hJ.out ga0 ga1 gb0 Ac0_0 cc0_0 Ac0_1 cc0_1 Ac1_0 cc1_0 hd he _ (by rw [hl0]; exact H) hHeld
        · replace H := H.lay 34 [.int .i64 0, .slice none 0 0]
          go_simp
          obtain ⟨he, hhe⟩ : ∃ x, x = u1.heap.size := ⟨_, rfl⟩
          rw [← hhe] at H ⊢
          clear hhe
          obtain ⟨u2, hv⟩ : ∃ uu : World, uu = u1.alloc (.cells #[.int .i64 0, .slice none 0 0] 34) := ⟨_, rfl⟩
          rw [← hv] at H ⊢
          clear hv
          refine hK.out _ _ ?_ (fun hHeld => ?_)
          · exact ⟨H.bat 25 rfl (j := 0) rfl, H.bat 25 rfl (j := 1) rfl, H.bat 24 rfl (j := 0) rfl, H.bat 24 rfl (j := 1) rfl⟩
          clear hK K
          try simp only [sA, sB, sC, Act.put, sD, sE, sF]
          refine wpAnyH_ready (rs := [3, 10]) (by kernel_rfl) (by simp) ?_
          refine (AllReadyH.cons rfl (fun K hK => ?_) (AllReadyH.cons rfl (fun K hK => ?_) AllReadyH.nil))
          · go_simp
            refine (toFil_any a1_0 A1_1 n1_1 c1_1 l1_1 _ (H.old h1_1) hs1_1).mono ?_
            rintro e u3 ⟨gb0, rfl, ob0, fb⟩
            replace H := H.made ob0 fb
            clear ob0 fb
            go_wp2_with fail
            refine hK.out _ _ ?_ (fun hHeld => ?_)
            · exact ⟨H.bat 26 rfl (j := 0) rfl, H.bat 26 rfl (j := 1) rfl, H.bat 25 rfl (j := 0) rfl, H.bat 25 rfl (j := 1) rfl⟩
            clear hK K
            try simp only [sA, sB, sC, Act.put, sD, sE, sF]
            refine wpAnyH_ready (rs := [5, 10]) (by kernel_rfl) (by simp) ?_
            refine (AllReadyH.cons rfl (fun K hK => ?_) (AllReadyH.cons rfl (fun K hK => ?_) AllReadyH.nil))
            · go_simp
              refine (implFilCut_c _ _ _ l0_0 _ _ _ l0_1 a1_0 _ _ _ l1_1 a2 _ (H.rd 2 rfl) (H.rd 3 rfl) (H.rd 0 rfl) (fun e => nomatch e) (fun e => nomatch e) (fun e => nomatch e) hs0_0 hs0_1 hz0_1 hs1_1).mono ?_
              rintro e u4 ⟨Ac0_0, cc0_0, Ac0_1, cc0_1, Ac1_0, cc1_0, rfl, Kc⟩
              replace H := H.join Kc
              clear Kc
              go_wp2_with fail
              refine hK.out _ _ ?_ (fun hHeld => ?_)
              · exact ⟨H.bat 29 rfl (j := 0) rfl, H.bat 29 rfl (j := 1) rfl, H.bat 28 rfl (j := 0) rfl, H.bat 28 rfl (j := 1) rfl⟩
              clear hK K
              try simp only [sA, sB, sC, Act.put, sD, sE, sF]
              refine wpAnyH_take (i := 6) (v := ?_) rfl (by kernel_rfl) (by kernel_rfl) (by kernel_rfl) (fun _ _ _ h => nomatch h.1) (Or.inl ⟨by kernel_rfl, ?_⟩) (by assumption) ?_
              rotate_left
              · (intro w hSw; (try dsimp only at hSw); go_simp; try (with_reducible rfl))
              try simp only [sA, sB, sC, Act.put, sD, sE, sF]
              refine wpAnyH_take (i := 7) (v := ?_) rfl (by kernel_rfl) (by kernel_rfl) (by kernel_rfl) (fun _ _ _ h => nomatch h.1) (Or.inl ⟨by kernel_rfl, ?_⟩) (by assumption) ?_
              rotate_left
              · (intro w hSw; (try dsimp only at hSw); go_simp; try (with_reducible rfl))
              try simp only [sA, sB, sC, Act.put, sD, sE, sF]
              refine wpAnyH_take (i := 8) (v := ?_) rfl (by kernel_rfl) (by kernel_rfl) (by kernel_rfl) (fun _ _ _ h => nomatch h.1) (Or.inl ⟨by kernel_rfl, ?_⟩) (by assumption) ?_
              rotate_left
              · (intro w hSw; (try dsimp only at hSw); go_simp; try (with_reducible rfl))
              try simp only [sA, sB, sC, Act.put, sD, sE, sF]
              refine wpAnyH_take (i := 9) (v := ?_) rfl (by kernel_rfl) (by kernel_rfl) (by kernel_rfl) (fun _ _ _ h => nomatch h.1) (Or.inl ⟨by kernel_rfl, ?_⟩) (by assumption) ?_
              rotate_left
              · (intro w hSw; (try dsimp only at hSw); go_simp; try (with_reducible rfl))
              try simp only [sA, sB, sC, Act.put, sD, sE, sF]
              refine wpAnyH_ready (rs := [10]) (by kernel_rfl) (by simp) ?_
              refine (AllReadyH.cons rfl (fun K hK => ?_) AllReadyH.nil)
              replace H := H.lay 31 [.slice none 0 0, .slice none 0 0]
              go_simp
              obtain ⟨hd, hhd⟩ : ∃ x, x = u4.heap.size := ⟨_, rfl⟩
              rw [← hhd] at H ⊢
              clear hhd
              obtain ⟨u5, hv⟩ : ∃ uu : World, uu = u4.alloc (.cells #[.slice none 0 0, .slice none 0 0] 31) := ⟨_, rfl⟩
              rw [← hv] at H ⊢
              clear hv
              refine hK.out _ _ ?_ (fun hHeld => ?_)
              · exact ⟨H.bat 30 rfl (j := 0) rfl, H.bat 30 rfl (j := 1) rfl, H.bat 29 rfl (j := 0) rfl, H.bat 29 rfl (j := 1) rfl⟩
              clear hK K
              try simp only [sA, sB, sC, Act.put, sD, sE, sF]
              replace H := H.reord [6, 7, 4, 1, 2, 3, 0, 5, 8, 9, 10, 11, 12, 13, 14, 15, 16, 17, 18, 19, 20, 21, 22, 23, 24, 25, 26, 27, 28, 29, 30] (n := 31) rfl (by decide)
              exact hJ.out ga0 ga1 gb0 Ac0_0 cc0_0 Ac0_1 cc0_1 Ac1_0 cc1_0 hd he _ (by rw [hl0]; exact H) hHeld
            · replace H := H.lay 31 [.slice none 0 0, .slice none 0 0]
              go_simp
              obtain ⟨hd, hhd⟩ : ∃ x, x = u3.heap.size := ⟨_, rfl⟩
              rw [← hhd] at H ⊢
              clear hhd
              obtain ⟨u4, hv⟩ : ∃ uu : World, uu = u3.alloc (.cells #[.slice none 0 0, .slice none 0 0] 31) := ⟨_, rfl⟩
              rw [← hv] at H ⊢
              clear hv
              refine hK.out _ _ ?_ (fun hHeld => ?_)
              · exact ⟨H.bat 27 rfl (j := 0) rfl, H.bat 27 rfl (j := 1) rfl, H.bat 26 rfl (j := 0) rfl, H.bat 26 rfl (j := 1) rfl⟩
              clear hK K
              try simp only [sA, sB, sC, Act.put, sD, sE, sF]
              refine wpAnyH_ready (rs := [5]) (by kernel_rfl) (by simp) ?_
              refine (AllReadyH.cons rfl (fun K hK => ?_) AllReadyH.nil)
              go_simp
              refine (implFilCut_c _ _ _ l0_0 _ _ _ l0_1 a1_0 _ _ _ l1_1 a2 _ (H.rd 3 rfl) (H.rd 4 rfl) (H.rd 1 rfl) (fun e => nomatch e) (fun e => nomatch e) (fun e => nomatch e) hs0_0 hs0_1 hz0_1 hs1_1).mono ?_
              rintro e u5 ⟨Ac0_0, cc0_0, Ac0_1, cc0_1, Ac1_0, cc1_0, rfl, Kc⟩
              replace H := H.join Kc
              clear Kc
              go_wp2_with fail
              refine hK.out _ _ ?_ (fun hHeld => ?_)
              · exact ⟨H.bat 30 rfl (j := 0) rfl, H.bat 30 rfl (j := 1) rfl, H.bat 29 rfl (j := 0) rfl, H.bat 29 rfl (j := 1) rfl⟩
              clear hK K
              try simp only [sA, sB, sC, Act.put, sD, sE, sF]
              refine wpAnyH_take (i := 6) (v := ?_) rfl (by kernel_rfl) (by kernel_rfl) (by kernel_rfl) (fun _ _ _ h => nomatch h.1) (Or.inl ⟨by kernel_rfl, ?_⟩) (by assumption) ?_
              rotate_left
              · (intro w hSw; (try dsimp only at hSw); go_simp; try (with_reducible rfl))
              try simp only [sA, sB, sC, Act.put, sD, sE, sF]
              refine wpAnyH_take (i := 7) (v := ?_) rfl (by kernel_rfl) (by kernel_rfl) (by kernel_rfl) (fun _ _ _ h => nomatch h.1) (Or.inl ⟨by kernel_rfl, ?_⟩) (by assumption) ?_
              rotate_left
              · (intro w hSw; (try dsimp only at hSw); go_simp; try (with_reducible rfl))
              try simp only [sA, sB, sC, Act.put, sD, sE, sF]
              refine wpAnyH_take (i := 8) (v := ?_) rfl (by kernel_rfl) (by kernel_rfl) (by kernel_rfl) (fun _ _ _ h => nomatch h.1) (Or.inl ⟨by kernel_rfl, ?_⟩) (by assumption) ?_
              rotate_left
              · (intro w hSw; (try dsimp only at hSw); go_simp; try (with_reducible rfl))
              try simp only [sA, sB, sC, Act.put, sD, sE, sF]
              refine wpAnyH_take (i := 9) (v := ?_) rfl (by kernel_rfl) (by kernel_rfl) (by kernel_rfl) (fun _ _ _ h => nomatch h.1) (Or.inl ⟨by kernel_rfl, ?_⟩) (by assumption) ?_
              rotate_left
              · (intro w hSw; (try dsimp only at hSw); go_simp; try (with_reducible rfl))
              try simp only [sA, sB, sC, Act.put, sD, sE, sF]
              replace H := H.reord [6, 7, 4, 0, 1, 2, 3, 5, 8, 9, 10, 11, 12, 13, 14, 15, 16, 17, 18, 19, 20, 21, 22, 23, 24, 25, 26, 27, 28, 29, 30] (n := 31) rfl (by decide)
              exact hJ.out ga0 ga1 gb0 Ac0_0 cc0_0 Ac0_1 cc0_1 Ac1_0 cc1_0 hd he _ (by rw [hl0]; exact H) hHeld
          · replace H := H.lay 31 [.slice none 0 0, .slice none 0 0]
            go_simp
            obtain ⟨hd, hhd⟩ : ∃ x, x = u2.heap.size := ⟨_, rfl⟩
            rw [← hhd] at H ⊢
            clear hhd
            obtain ⟨u3, hv⟩ : ∃ uu : World, uu = u2.alloc (.cells #[.slice none 0 0, .slice none 0 0] 31) := ⟨_, rfl⟩
            rw [← hv] at H ⊢
            clear hv
            refine hK.out _ _ ?_ (fun hHeld => ?_)
            · exact ⟨H.bat 26 rfl (j := 0) rfl, H.bat 26 rfl (j := 1) rfl, H.bat 25 rfl (j := 0) rfl, H.bat 25 rfl (j := 1) rfl⟩
            clear hK K
            try simp only [sA, sB, sC, Act.put, sD, sE, sF]
            refine wpAnyH_ready (rs := [3]) (by kernel_rfl) (by simp) ?_
            refine (AllReadyH.cons rfl (fun K hK => ?_) AllReadyH.nil)
            go_simp
            refine (toFil_any a1_0 A1_1 n1_1 c1_1 l1_1 _ (H.old h1_1) hs1_1).mono ?_
            rintro e u4 ⟨gb0, rfl, ob0, fb⟩
            replace H := H.made ob0 fb
            clear ob0 fb
            go_wp2_with fail
            refine hK.out _ _ ?_ (fun hHeld => ?_)
            · exact ⟨H.bat 27 rfl (j := 0) rfl, H.bat 27 rfl (j := 1) rfl, H.bat 26 rfl (j := 0) rfl, H.bat 26 rfl (j := 1) rfl⟩
            clear hK K
            try simp only [sA, sB, sC, Act.put, sD, sE, sF]
            refine wpAnyH_ready (rs := [5]) (by kernel_rfl) (by simp) ?_
            refine (AllReadyH.cons rfl (fun K hK => ?_) AllReadyH.nil)
            go_simp
            refine (implFilCut_c _ _ _ l0_0 _ _ _ l0_1 a1_0 _ _ _ l1_1 a2 _ (H.rd 3 rfl) (H.rd 4 rfl) (H.rd 0 rfl) (fun e => nomatch e) (fun e => nomatch e) (fun e => nomatch e) hs0_0 hs0_1 hz0_1 hs1_1).mono ?_
            rintro e u5 ⟨Ac0_0, cc0_0, Ac0_1, cc0_1, Ac1_0, cc1_0, rfl, Kc⟩
            replace H := H.join Kc
            clear Kc
            go_wp2_with fail
            refine hK.out _ _ ?_ (fun hHeld => ?_)
            · exact ⟨H.bat 30 rfl (j := 0) rfl, H.bat 30 rfl (j := 1) rfl, H.bat 29 rfl (j := 0) rfl, H.bat 29 rfl (j := 1) rfl⟩
            clear hK K
            try simp only [sA, sB, sC, Act.put, sD, sE, sF]
            refine wpAnyH_take (i := 6) (v := ?_) rfl (by kernel_rfl) (by kernel_rfl) (by kernel_rfl) (fun _ _ _ h => nomatch h.1) (Or.inl ⟨by kernel_rfl, ?_⟩) (by assumption) ?_
            rotate_left
            · (intro w hSw; (try dsimp only at hSw); go_simp; try (with_reducible rfl))
            try simp only [sA, sB, sC, Act.put, sD, sE, sF]
            refine wpAnyH_take (i := 7) (v := ?_) rfl (by kernel_rfl) (by kernel_rfl) (by kernel_rfl) (fun _ _ _ h => nomatch h.1) (Or.inl ⟨by kernel_rfl, ?_⟩) (by assumption) ?_
            rotate_left
            · (intro w hSw; (try dsimp only at hSw); go_simp; try (with_reducible rfl))
            try simp only [sA, sB, sC, Act.put, sD, sE, sF]
            refine wpAnyH_take (i := 8) (v := ?_) rfl (by kernel_rfl) (by kernel_rfl) (by kernel_rfl) (fun _ _ _ h => nomatch h.1) (Or.inl ⟨by kernel_rfl, ?_⟩) (by assumption) ?_
            rotate_left
            · (intro w hSw; (try dsimp only at hSw); go_simp; try (with_reducible rfl))
            try simp only [sA, sB, sC, Act.put, sD, sE, sF]
            refine wpAnyH_take (i := 9) (v := ?_) rfl (by kernel_rfl) (by kernel_rfl) (by kernel_rfl) (fun _ _ _ h => nomatch h.1) (Or.inl ⟨by kernel_rfl, ?_⟩) (by assumption) ?_
            rotate_left
            · (intro w hSw; (try dsimp only at hSw); go_simp; try (with_reducible rfl))
            try simp only [sA, sB, sC, Act.put, sD, sE, sF]
            replace H := H.reord [6, 7, 3, 0, 1, 2, 4, 5, 8, 9, 10, 11, 12, 13, 14, 15, 16, 17, 18, 19, 20, 21, 22, 23, 24, 25, 26, 27, 28, 29, 30] (n := 31) rfl (by decide)
            exact hJ.out ga0 ga1 gb0 Ac0_0 cc0_0 Ac0_1 cc0_1 Ac1_0 cc1_0 hd he _ (by rw [hl0]; exact H) hHeld
      · replace H := H.lay 31 [.slice none 0 0, .slice none 0 0]
        go_simp
        obtain ⟨hd, hhd⟩ : ∃ x, x = u0.heap.size := ⟨_, rfl⟩
        rw [← hhd] at H ⊢
        clear hhd
        obtain ⟨u1, hv⟩ : ∃ uu : World, uu = u0.alloc (.cells #[.slice none 0 0, .slice none 0 0] 31) := ⟨_, rfl⟩
        rw [← hv] at H ⊢
        clear hv
        refine hK.out _ _ ?_ (fun hHeld => ?_)
        · exact ⟨H.bat 23 rfl (j := 0) rfl, H.bat 23 rfl (j := 1) rfl, H.bat 22 rfl (j := 0) rfl, H.bat 22 rfl (j := 1) rfl⟩
        clear hK K
        try simp only [sA, sB, sC, Act.put, sD, sE, sF]
        refine wpAnyH_ready (rs := [1, 11]) (by kernel_rfl) (by simp) ?_
        refine (AllReadyH.cons rfl (fun K hK => ?_) (AllReadyH.cons rfl (fun K hK => ?_) AllReadyH.nil))
        · go_simp
          refine (toStore_any A0_0 n0_0 c0_0 l0_0 A0_1 n0_1 c0_1 l0_1 _ (H.old h0_0) (H.old h0_1) hs0_0 hs0_1).mono ?_
          rintro e u2 ⟨ga0, ga1, rfl, oa0, oa1, fa⟩
          replace H := H.made2 oa0 oa1 fa (by decide)
          clear oa0 oa1 fa
          go_wp2_with fail
          refine hK.out _ _ ?_ (fun hHeld => ?_)
          · exact ⟨H.bat 25 rfl (j := 0) rfl, H.bat 25 rfl (j := 1) rfl, H.bat 24 rfl (j := 0) rfl, H.bat 24 rfl (j := 1) rfl⟩
          clear hK K
          try simp only [sA, sB, sC, Act.put, sD, sE, sF]
          refine wpAnyH_ready (rs := [3, 11]) (by kernel_rfl) (by simp) ?_
          refine (AllReadyH.cons rfl (fun K hK => ?_) (AllReadyH.cons rfl (fun K hK => ?_) AllReadyH.nil))
          · go_simp
            refine (toFil_any a1_0 A1_1 n1_1 c1_1 l1_1 _ (H.old h1_1) hs1_1).mono ?_
            rintro e u3 ⟨gb0, rfl, ob0, fb⟩
            replace H := H.made ob0 fb
            clear ob0 fb
            go_wp2_with fail
            refine hK.out _ _ ?_ (fun hHeld => ?_)
            · exact ⟨H.bat 26 rfl (j := 0) rfl, H.bat 26 rfl (j := 1) rfl, H.bat 25 rfl (j := 0) rfl, H.bat 25 rfl (j := 1) rfl⟩
            clear hK K
            try simp only [sA, sB, sC, Act.put, sD, sE, sF]
            refine wpAnyH_ready (rs := [5, 11]) (by kernel_rfl) (by simp) ?_
            refine (AllReadyH.cons rfl (fun K hK => ?_) (AllReadyH.cons rfl (fun K hK => ?_) AllReadyH.nil))
            · go_simp
              refine (implFilCut_c _ _ _ l0_0 _ _ _ l0_1 a1_0 _ _ _ l1_1 a2 _ (H.rd 1 rfl) (H.rd 2 rfl) (H.rd 0 rfl) (fun e => nomatch e) (fun e => nomatch e) (fun e => nomatch e) hs0_0 hs0_1 hz0_1 hs1_1).mono ?_
              rintro e u4 ⟨Ac0_0, cc0_0, Ac0_1, cc0_1, Ac1_0, cc1_0, rfl, Kc⟩
              replace H := H.join Kc
              clear Kc
              go_wp2_with fail
              refine hK.out _ _ ?_ (fun hHeld => ?_)
              · exact ⟨H.bat 29 rfl (j := 0) rfl, H.bat 29 rfl (j := 1) rfl, H.bat 28 rfl (j := 0) rfl, H.bat 28 rfl (j := 1) rfl⟩
              clear hK K
              try simp only [sA, sB, sC, Act.put, sD, sE, sF]
              refine wpAnyH_take (i := 6) (v := ?_) rfl (by kernel_rfl) (by kernel_rfl) (by kernel_rfl) (fun _ _ _ h => nomatch h.1) (Or.inl ⟨by kernel_rfl, ?_⟩) (by assumption) ?_
              rotate_left
              · (intro w hSw; (try dsimp only at hSw); go_simp; try (with_reducible rfl))
              try simp only [sA, sB, sC, Act.put, sD, sE, sF]
              refine wpAnyH_take (i := 7) (v := ?_) rfl (by kernel_rfl) (by kernel_rfl) (by kernel_rfl) (fun _ _ _ h => nomatch h.1) (Or.inl ⟨by kernel_rfl, ?_⟩) (by assumption) ?_
              rotate_left
              · (intro w hSw; (try dsimp only at hSw); go_simp; try (with_reducible rfl))
              try simp only [sA, sB, sC, Act.put, sD, sE, sF]
              refine wpAnyH_take (i := 8) (v := ?_) rfl (by kernel_rfl) (by kernel_rfl) (by kernel_rfl) (fun _ _ _ h => nomatch h.1) (Or.inl ⟨by kernel_rfl, ?_⟩) (by assumption) ?_
              rotate_left
              · (intro w hSw; (try dsimp only at hSw); go_simp; try (with_reducible rfl))
              try simp only [sA, sB, sC, Act.put, sD, sE, sF]
              refine wpAnyH_take (i := 9) (v := ?_) rfl (by kernel_rfl) (by kernel_rfl) (by kernel_rfl) (fun _ _ _ h => nomatch h.1) (Or.inl ⟨by kernel_rfl, ?_⟩) (by assumption) ?_
              rotate_left
              · (intro w hSw; (try dsimp only at hSw); go_simp; try (with_reducible rfl))
              try simp only [sA, sB, sC, Act.put, sD, sE, sF]
              refine wpAnyH_ready (rs := [11]) (by kernel_rfl) (by simp) ?_
              refine (AllReadyH.cons rfl (fun K hK => ?_) AllReadyH.nil)
              replace H := H.lay 34 [.int .i64 0, .slice none 0 0]
              go_simp
              obtain ⟨he, hhe⟩ : ∃ x, x = u4.heap.size := ⟨_, rfl⟩
              rw [← hhe] at H ⊢
              clear hhe
              obtain ⟨u5, hv⟩ : ∃ uu : World, uu = u4.alloc (.cells #[.int .i64 0, .slice none 0 0] 34) := ⟨_, rfl⟩
              rw [← hv] at H ⊢
              clear hv
              refine hK.out _ _ ?_ (fun hHeld => ?_)
              · exact ⟨H.bat 30 rfl (j := 0) rfl, H.bat 30 rfl (j := 1) rfl, H.bat 29 rfl (j := 0) rfl, H.bat 29 rfl (j := 1) rfl⟩
              clear hK K
              try simp only [sA, sB, sC, Act.put, sD, sE, sF]
              replace H := H.reord [5, 6, 4, 1, 2, 3, 7, 0, 8, 9, 10, 11, 12, 13, 14, 15, 16, 17, 18, 19, 20, 21, 22, 23, 24, 25, 26, 27, 28, 29, 30] (n := 31) rfl (by decide)
              exact hJ.out ga0 ga1 gb0 Ac0_0 cc0_0 Ac0_1 cc0_1 Ac1_0 cc1_0 hd he _ (by rw [hl0]; exact H) hHeld
            · replace H := H.lay 34 [.int .i64 0, .slice none 0 0]
              go_simp
              obtain ⟨he, hhe⟩ : ∃ x, x = u3.heap.size := ⟨_, rfl⟩
              rw [← hhe] at H ⊢
              clear hhe
              obtain ⟨u4, hv⟩ : ∃ uu : World, uu = u3.alloc (.cells #[.int .i64 0, .slice none 0 0] 34) := ⟨_, rfl⟩
              rw [← hv] at H ⊢
              clear hv
              refine hK.out _ _ ?_ (fun hHeld => ?_)
              · exact ⟨H.bat 27 rfl (j := 0) rfl, H.bat 27 rfl (j := 1) rfl, H.bat 26 rfl (j := 0) rfl, H.bat 26 rfl (j := 1) rfl⟩
              clear hK K
              try simp only [sA, sB, sC, Act.put, sD, sE, sF]
              refine wpAnyH_ready (rs := [5]) (by kernel_rfl) (by simp) ?_
              refine (AllReadyH.cons rfl (fun K hK => ?_) AllReadyH.nil)
              go_simp
              refine (implFilCut_c _ _ _ l0_0 _ _ _ l0_1 a1_0 _ _ _ l1_1 a2 _ (H.rd 2 rfl) (H.rd 3 rfl) (H.rd 1 rfl) (fun e => nomatch e) (fun e => nomatch e) (fun e => nomatch e) hs0_0 hs0_1 hz0_1 hs1_1).mono ?_
              rintro e u5 ⟨Ac0_0, cc0_0, Ac0_1, cc0_1, Ac1_0, cc1_0, rfl, Kc⟩
              replace H := H.join Kc
              clear Kc
              go_wp2_with fail
              refine hK.out _ _ ?_ (fun hHeld => ?_)
              · exact ⟨H.bat 30 rfl (j := 0) rfl, H.bat 30 rfl (j := 1) rfl, H.bat 29 rfl (j := 0) rfl, H.bat 29 rfl (j := 1) rfl⟩
              clear hK K
              try simp only [sA, sB, sC, Act.put, sD, sE, sF]
              refine wpAnyH_take (i := 6) (v := ?_) rfl (by kernel_rfl) (by kernel_rfl) (by kernel_rfl) (fun _ _ _ h => nomatch h.1) (Or.inl ⟨by kernel_rfl, ?_⟩) (by assumption) ?_
              rotate_left
              · (intro w hSw; (try dsimp only at hSw); go_simp; try (with_reducible rfl))
              try simp only [sA, sB, sC, Act.put, sD, sE, sF]
              refine wpAnyH_take (i := 7) (v := ?_) rfl (by kernel_rfl) (by kernel_rfl) (by kernel_rfl) (fun _ _ _ h => nomatch h.1) (Or.inl ⟨by kernel_rfl, ?_⟩) (by assumption) ?_
              rotate_left
              · (intro w hSw; (try dsimp only at hSw); go_simp; try (with_reducible rfl))
              try simp only [sA, sB, sC, Act.put, sD, sE, sF]
              refine wpAnyH_take (i := 8) (v := ?_) rfl (by kernel_rfl) (by kernel_rfl) (by kernel_rfl) (fun _ _ _ h => nomatch h.1) (Or.inl ⟨by kernel_rfl, ?_⟩) (by assumption) ?_
              rotate_left
              · (intro w hSw; (try dsimp only at hSw); go_simp; try (with_reducible rfl))
              try simp only [sA, sB, sC, Act.put, sD, sE, sF]
              refine wpAnyH_take (i := 9) (v := ?_) rfl (by kernel_rfl) (by kernel_rfl) (by kernel_rfl) (fun _ _ _ h => nomatch h.1) (Or.inl ⟨by kernel_rfl, ?_⟩) (by assumption) ?_
              rotate_left
              · (intro w hSw; (try dsimp only at hSw); go_simp; try (with_reducible rfl))
              try simp only [sA, sB, sC, Act.put, sD, sE, sF]
              replace H := H.reord [5, 6, 4, 0, 1, 2, 7, 3, 8, 9, 10, 11, 12, 13, 14, 15, 16, 17, 18, 19, 20, 21, 22, 23, 24, 25, 26, 27, 28, 29, 30] (n := 31) rfl (by decide)
              exact hJ.out ga0 ga1 gb0 Ac0_0 cc0_0 Ac0_1 cc0_1 Ac1_0 cc1_0 hd he _ (by rw [hl0]; exact H) hHeld
          · replace H := H.lay 34 [.int .i64 0, .slice none 0 0]
            go_simp
            obtain ⟨he, hhe⟩ : ∃ x, x = u2.heap.size := ⟨_, rfl⟩
            rw [← hhe] at H ⊢
            clear hhe
            obtain ⟨u3, hv⟩ : ∃ uu : World, uu = u2.alloc (.cells #[.int .i64 0, .slice none 0 0] 34) := ⟨_, rfl⟩
            rw [← hv] at H ⊢
            clear hv
            refine hK.out _ _ ?_ (fun hHeld => ?_)
            · exact ⟨H.bat 26 rfl (j := 0) rfl, H.bat 26 rfl (j := 1) rfl, H.bat 25 rfl (j := 0) rfl, H.bat 25 rfl (j := 1) rfl⟩
            clear hK K
            try simp only [sA, sB, sC, Act.put, sD, sE, sF]
            refine wpAnyH_ready (rs := [3]) (by kernel_rfl) (by simp) ?_
            refine (AllReadyH.cons rfl (fun K hK => ?_) AllReadyH.nil)
            go_simp
            refine (toFil_any a1_0 A1_1 n1_1 c1_1 l1_1 _ (H.old h1_1) hs1_1).mono ?_
            rintro e u4 ⟨gb0, rfl, ob0, fb⟩
            replace H := H.made ob0 fb
            clear ob0 fb
            go_wp2_with fail
            refine hK.out _ _ ?_ (fun hHeld => ?_)
            · exact ⟨H.bat 27 rfl (j := 0) rfl, H.bat 27 rfl (j := 1) rfl, H.bat 26 rfl (j := 0) rfl, H.bat 26 rfl (j := 1) rfl⟩
            clear hK K
            try simp only [sA, sB, sC, Act.put, sD, sE, sF]
            refine wpAnyH_ready (rs := [5]) (by kernel_rfl) (by simp) ?_
            refine (AllReadyH.cons rfl (fun K hK => ?_) AllReadyH.nil)
            go_simp
            refine (implFilCut_c _ _ _ l0_0 _ _ _ l0_1 a1_0 _ _ _ l1_1 a2 _ (H.rd 2 rfl) (H.rd 3 rfl) (H.rd 0 rfl) (fun e => nomatch e) (fun e => nomatch e) (fun e => nomatch e) hs0_0 hs0_1 hz0_1 hs1_1).mono ?_
            rintro e u5 ⟨Ac0_0, cc0_0, Ac0_1, cc0_1, Ac1_0, cc1_0, rfl, Kc⟩
            replace H := H.join Kc
            clear Kc
            go_wp2_with fail
            refine hK.out _ _ ?_ (fun hHeld => ?_)
            · exact ⟨H.bat 30 rfl (j := 0) rfl, H.bat 30 rfl (j := 1) rfl, H.bat 29 rfl (j := 0) rfl, H.bat 29 rfl (j := 1) rfl⟩
            clear hK K
            try simp only [sA, sB, sC, Act.put, sD, sE, sF]
            refine wpAnyH_take (i := 6) (v := ?_) rfl (by kernel_rfl) (by kernel_rfl) (by kernel_rfl) (fun _ _ _ h => nomatch h.1) (Or.inl ⟨by kernel_rfl, ?_⟩) (by assumption) ?_
            rotate_left
            · (intro w hSw; (try dsimp only at hSw); go_simp; try (with_reducible rfl))
            try simp only [sA, sB, sC, Act.put, sD, sE, sF]
            refine wpAnyH_take (i := 7) (v := ?_) rfl (by kernel_rfl) (by kernel_rfl) (by kernel_rfl) (fun _ _ _ h => nomatch h.1) (Or.inl ⟨by kernel_rfl, ?_⟩) (by assumption) ?_
            rotate_left
            · (intro w hSw; (try dsimp only at hSw); go_simp; try (with_reducible rfl))
            try simp only [sA, sB, sC, Act.put, sD, sE, sF]
            refine wpAnyH_take (i := 8) (v := ?_) rfl (by kernel_rfl) (by kernel_rfl) (by kernel_rfl) (fun _ _ _ h => nomatch h.1) (Or.inl ⟨by kernel_rfl, ?_⟩) (by assumption) ?_
            rotate_left
            · (intro w hSw; (try dsimp only at hSw); go_simp; try (with_reducible rfl))
            try simp only [sA, sB, sC, Act.put, sD, sE, sF]
            refine wpAnyH_take (i := 9) (v := ?_) rfl (by kernel_rfl) (by kernel_rfl) (by kernel_rfl) (fun _ _ _ h => nomatch h.1) (Or.inl ⟨by kernel_rfl, ?_⟩) (by assumption) ?_
            rotate_left
            · (intro w hSw; (try dsimp only at hSw); go_simp; try (with_reducible rfl))
            try simp only [sA, sB, sC, Act.put, sD, sE, sF]
            replace H := H.reord [5, 6, 3, 0, 1, 2, 7, 4, 8, 9, 10, 11, 12, 13, 14, 15, 16, 17, 18, 19, 20, 21, 22, 23, 24, 25, 26, 27, 28, 29, 30] (n := 31) rfl (by decide)
            exact hJ.out ga0 ga1 gb0 Ac0_0 cc0_0 Ac0_1 cc0_1 Ac1_0 cc1_0 hd he _ (by rw [hl0]; exact H) hHeld
        · replace H := H.lay 34 [.int .i64 0, .slice none 0 0]
          go_simp
          obtain ⟨he, hhe⟩ : ∃ x, x = u1.heap.size := ⟨_, rfl⟩
          rw [← hhe] at H ⊢
          clear hhe
          obtain ⟨u2, hv⟩ : ∃ uu : World, uu = u1.alloc (.cells #[.int .i64 0, .slice none 0 0] 34) := ⟨_, rfl⟩
          rw [← hv] at H ⊢
          clear hv
          refine hK.out _ _ ?_ (fun hHeld => ?_)
          · exact ⟨H.bat 24 rfl (j := 0) rfl, H.bat 24 rfl (j := 1) rfl, H.bat 23 rfl (j := 0) rfl, H.bat 23 rfl (j := 1) rfl⟩
          clear hK K
          try simp only [sA, sB, sC, Act.put, sD, sE, sF]
          refine wpAnyH_ready (rs := [1]) (by kernel_rfl) (by simp) ?_
          refine (AllReadyH.cons rfl (fun K hK => ?_) AllReadyH.nil)
          go_simp
          refine (toStore_any A0_0 n0_0 c0_0 l0_0 A0_1 n0_1 c0_1 l0_1 _ (H.old h0_0) (H.old h0_1) hs0_0 hs0_1).mono ?_
          rintro e u3 ⟨ga0, ga1, rfl, oa0, oa1, fa⟩
          replace H := H.made2 oa0 oa1 fa (by decide)
          clear oa0 oa1 fa
          go_wp2_with fail
          refine hK.out _ _ ?_ (fun hHeld => ?_)
          · exact ⟨H.bat 26 rfl (j := 0) rfl, H.bat 26 rfl (j := 1) rfl, H.bat 25 rfl (j := 0) rfl, H.bat 25 rfl (j := 1) rfl⟩
          clear hK K
          try simp only [sA, sB, sC, Act.put, sD, sE, sF]
          refine wpAnyH_ready (rs := [3]) (by kernel_rfl) (by simp) ?_
          refine (AllReadyH.cons rfl (fun K hK => ?_) AllReadyH.nil)
          go_simp
          refine (toFil_any a1_0 A1_1 n1_1 c1_1 l1_1 _ (H.old h1_1) hs1_1).mono ?_
          rintro e u4 ⟨gb0, rfl, ob0, fb⟩
          replace H := H.made ob0 fb
          clear ob0 fb
          go_wp2_with fail
          refine hK.out _ _ ?_ (fun hHeld => ?_)
          · exact ⟨H.bat 27 rfl (j := 0) rfl, H.bat 27 rfl (j := 1) rfl, H.bat 26 rfl (j := 0) rfl, H.bat 26 rfl (j := 1) rfl⟩
          clear hK K
          try simp only [sA, sB, sC, Act.put, sD, sE, sF]
          refine wpAnyH_ready (rs := [5]) (by kernel_rfl) (by simp) ?_
          refine (AllReadyH.cons rfl (fun K hK => ?_) AllReadyH.nil)
          go_simp
          refine (implFilCut_c _ _ _ l0_0 _ _ _ l0_1 a1_0 _ _ _ l1_1 a2 _ (H.rd 1 rfl) (H.rd 2 rfl) (H.rd 0 rfl) (fun e => nomatch e) (fun e => nomatch e) (fun e => nomatch e) hs0_0 hs0_1 hz0_1 hs1_1).mono ?_
          rintro e u5 ⟨Ac0_0, cc0_0, Ac0_1, cc0_1, Ac1_0, cc1_0, rfl, Kc⟩
          replace H := H.join Kc
          clear Kc
          go_wp2_with fail
          refine hK.out _ _ ?_ (fun hHeld => ?_)
          · exact ⟨H.bat 30 rfl (j := 0) rfl, H.bat 30 rfl (j := 1) rfl, H.bat 29 rfl (j := 0) rfl, H.bat 29 rfl (j := 1) rfl⟩
          clear hK K
          try simp only [sA, sB, sC, Act.put, sD, sE, sF]
          refine wpAnyH_take (i := 6) (v := ?_) rfl (by kernel_rfl) (by kernel_rfl) (by kernel_rfl) (fun _ _ _ h => nomatch h.1) (Or.inl ⟨by kernel_rfl, ?_⟩) (by assumption) ?_
          rotate_left
          · (intro w hSw; (try dsimp only at hSw); go_simp; try (with_reducible rfl))
          try simp only [sA, sB, sC, Act.put, sD, sE, sF]
          refine wpAnyH_take (i := 7) (v := ?_) rfl (by kernel_rfl) (by kernel_rfl) (by kernel_rfl) (fun _ _ _ h => nomatch h.1) (Or.inl ⟨by kernel_rfl, ?_⟩) (by assumption) ?_
          rotate_left
          · (intro w hSw; (try dsimp only at hSw); go_simp; try (with_reducible rfl))
          try simp only [sA, sB, sC, Act.put, sD, sE, sF]
          refine wpAnyH_take (i := 8) (v := ?_) rfl (by kernel_rfl) (by kernel_rfl) (by kernel_rfl) (fun _ _ _ h => nomatch h.1) (Or.inl ⟨by kernel_rfl, ?_⟩) (by assumption) ?_
          rotate_left
          · (intro w hSw; (try dsimp only at hSw); go_simp; try (with_reducible rfl))
          try simp only [sA, sB, sC, Act.put, sD, sE, sF]
          refine wpAnyH_take (i := 9) (v := ?_) rfl (by kernel_rfl) (by kernel_rfl) (by kernel_rfl) (fun _ _ _ h => nomatch h.1) (Or.inl ⟨by kernel_rfl, ?_⟩) (by assumption) ?_
          rotate_left
          · (intro w hSw; (try dsimp only at hSw); go_simp; try (with_reducible rfl))
          try simp only [sA, sB, sC, Act.put, sD, sE, sF]
          replace H := H.reord [4, 5, 3, 0, 1, 2, 7, 6, 8, 9, 10, 11, 12, 13, 14, 15, 16, 17, 18, 19, 20, 21, 22, 23, 24, 25, 26, 27, 28, 29, 30] (n := 31) rfl (by decide)
          exact hJ.out ga0 ga1 gb0 Ac0_0 cc0_0 Ac0_1 cc0_1 Ac1_0 cc1_0 hd he _ (by rw [hl0]; exact H) hHeld
      · replace H := H.lay 34 [.int .i64 0, .slice none 0 0]
        go_simp
        obtain ⟨he, hhe⟩ : ∃ x, x = u0.heap.size := ⟨_, rfl⟩
        rw [← hhe] at H ⊢
        clear hhe
        obtain ⟨u1, hv⟩ : ∃ uu : World, uu = u0.alloc (.cells #[.int .i64 0, .slice none 0 0] 34) := ⟨_, rfl⟩
        rw [← hv] at H ⊢
        clear hv
        refine hK.out _ _ ?_ (fun hHeld => ?_)
        · exact ⟨H.bat 23 rfl (j := 0) rfl, H.bat 23 rfl (j := 1) rfl, H.bat 22 rfl (j := 0) rfl, H.bat 22 rfl (j := 1) rfl⟩
        clear hK K
        try simp only [sA, sB, sC, Act.put, sD, sE, sF]
        refine wpAnyH_ready (rs := [1, 10]) (by kernel_rfl) (by simp) ?_
        refine (AllReadyH.cons rfl (fun K hK => ?_) (AllReadyH.cons rfl (fun K hK => ?_) AllReadyH.nil))
        · go_simp
          refine (toStore_any A0_0 n0_0 c0_0 l0_0 A0_1 n0_1 c0_1 l0_1 _ (H.old h0_0) (H.old h0_1) hs0_0 hs0_1).mono ?_
          rintro e u2 ⟨ga0, ga1, rfl, oa0, oa1, fa⟩
          replace H := H.made2 oa0 oa1 fa (by decide)
          clear oa0 oa1 fa
          go_wp2_with fail
          refine hK.out _ _ ?_ (fun hHeld => ?_)
          · exact ⟨H.bat 25 rfl (j := 0) rfl, H.bat 25 rfl (j := 1) rfl, H.bat 24 rfl (j := 0) rfl, H.bat 24 rfl (j := 1) rfl⟩
          clear hK K
          try simp only [sA, sB, sC, Act.put, sD, sE, sF]
          refine wpAnyH_ready (rs := [3, 10]) (by kernel_rfl) (by simp) ?_
          refine (AllReadyH.cons rfl (fun K hK => ?_) (AllReadyH.cons rfl (fun K hK => ?_) AllReadyH.nil))
          · go_simp
            refine (toFil_any a1_0 A1_1 n1_1 c1_1 l1_1 _ (H.old h1_1) hs1_1).mono ?_
            rintro e u3 ⟨gb0, rfl, ob0, fb⟩
            replace H := H.made ob0 fb
            clear ob0 fb
            go_wp2_with fail
            refine hK.out _ _ ?_ (fun hHeld => ?_)
            · exact ⟨H.bat 26 rfl (j := 0) rfl, H.bat 26 rfl (j := 1) rfl, H.bat 25 rfl (j := 0) rfl, H.bat 25 rfl (j := 1) rfl⟩
            clear hK K
            try simp only [sA, sB, sC, Act.put, sD, sE, sF]
            refine wpAnyH_ready (rs := [5, 10]) (by kernel_rfl) (by simp) ?_
            refine (AllReadyH.cons rfl (fun K hK => ?_) (AllReadyH.cons rfl (fun K hK => ?_) AllReadyH.nil))
            · go_simp
              refine (implFilCut_c _ _ _ l0_0 _ _ _ l0_1 a1_0 _ _ _ l1_1 a2 _ (H.rd 1 rfl) (H.rd 2 rfl) (H.rd 0 rfl) (fun e => nomatch e) (fun e => nomatch e) (fun e => nomatch e) hs0_0 hs0_1 hz0_1 hs1_1).mono ?_
              rintro e u4 ⟨Ac0_0, cc0_0, Ac0_1, cc0_1, Ac1_0, cc1_0, rfl, Kc⟩
              replace H := H.join Kc
              clear Kc
              go_wp2_with fail
              refine hK.out _ _ ?_ (fun hHeld => ?_)
              · exact ⟨H.bat 29 rfl (j := 0) rfl, H.bat 29 rfl (j := 1) rfl, H.bat 28 rfl (j := 0) rfl, H.bat 28 rfl (j := 1) rfl⟩
              clear hK K
              try simp only [sA, sB, sC, Act.put, sD, sE, sF]
              refine wpAnyH_take (i := 6) (v := ?_) rfl (by kernel_rfl) (by kernel_rfl) (by kernel_rfl) (fun _ _ _ h => nomatch h.1) (Or.inl ⟨by kernel_rfl, ?_⟩) (by assumption) ?_
              rotate_left
              · (intro w hSw; (try dsimp only at hSw); go_simp; try (with_reducible rfl))
              try simp only [sA, sB, sC, Act.put, sD, sE, sF]
              refine wpAnyH_take (i := 7) (v := ?_) rfl (by kernel_rfl) (by kernel_rfl) (by kernel_rfl) (fun _ _ _ h => nomatch h.1) (Or.inl ⟨by kernel_rfl, ?_⟩) (by assumption) ?_
              rotate_left
              · (intro w hSw; (try dsimp only at hSw); go_simp; try (with_reducible rfl))
              try simp only [sA, sB, sC, Act.put, sD, sE, sF]
              refine wpAnyH_take (i := 8) (v := ?_) rfl (by kernel_rfl) (by kernel_rfl) (by kernel_rfl) (fun _ _ _ h => nomatch h.1) (Or.inl ⟨by kernel_rfl, ?_⟩) (by assumption) ?_
              rotate_left
              · (intro w hSw; (try dsimp only at hSw); go_simp; try (with_reducible rfl))
              try simp only [sA, sB, sC, Act.put, sD, sE, sF]
              refine wpAnyH_take (i := 9) (v := ?_) rfl (by kernel_rfl) (by kernel_rfl) (by kernel_rfl) (fun _ _ _ h => nomatch h.1) (Or.inl ⟨by kernel_rfl, ?_⟩) (by assumption) ?_
              rotate_left
              · (intro w hSw; (try dsimp only at hSw); go_simp; try (with_reducible rfl))
              try simp only [sA, sB, sC, Act.put, sD, sE, sF]
              refine wpAnyH_ready (rs := [10]) (by kernel_rfl) (by simp) ?_
              refine (AllReadyH.cons rfl (fun K hK => ?_) AllReadyH.nil)
              replace H := H.lay 31 [.slice none 0 0, .slice none 0 0]
              go_simp
              obtain ⟨hd, hhd⟩ : ∃ x, x = u4.heap.size := ⟨_, rfl⟩
              rw [← hhd] at H ⊢
              clear hhd
              obtain ⟨u5, hv⟩ : ∃ uu : World, uu = u4.alloc (.cells #[.slice none 0 0, .slice none 0 0] 31) := ⟨_, rfl⟩
              rw [← hv] at H ⊢
              clear hv
              refine hK.out _ _ ?_ (fun hHeld => ?_)
              · exact ⟨H.bat 30 rfl (j := 0) rfl, H.bat 30 rfl (j := 1) rfl, H.bat 29 rfl (j := 0) rfl, H.bat 29 rfl (j := 1) rfl⟩
              clear hK K
              try simp only [sA, sB, sC, Act.put, sD, sE, sF]
              replace H := H.reord [5, 6, 4, 1, 2, 3, 0, 7, 8, 9, 10, 11, 12, 13, 14, 15, 16, 17, 18, 19, 20, 21, 22, 23, 24, 25, 26, 27, 28, 29, 30] (n := 31) rfl (by decide)
              exact hJ.out ga0 ga1 gb0 Ac0_0 cc0_0 Ac0_1 cc0_1 Ac1_0 cc1_0 hd he _ (by rw [hl0]; exact H) hHeld
            · replace H := H.lay 31 [.slice none 0 0, .slice none 0 0]
              go_simp
              obtain ⟨hd, hhd⟩ : ∃ x, x = u3.heap.size := ⟨_, rfl⟩
              rw [← hhd] at H ⊢
              clear hhd
              obtain ⟨u4, hv⟩ : ∃ uu : World, uu = u3.alloc (.cells #[.slice none 0 0, .slice none 0 0] 31) := ⟨_, rfl⟩
              rw [← hv] at H ⊢
              clear hv
              refine hK.out _ _ ?_ (fun hHeld => ?_)
              · exact ⟨H.bat 27 rfl (j := 0) rfl, H.bat 27 rfl (j := 1) rfl, H.bat 26 rfl (j := 0) rfl, H.bat 26 rfl (j := 1) rfl⟩
              clear hK K
              try simp only [sA, sB, sC, Act.put, sD, sE, sF]
              refine wpAnyH_ready (rs := [5]) (by kernel_rfl) (by simp) ?_
              refine (AllReadyH.cons rfl (fun K hK => ?_) AllReadyH.nil)
              go_simp
              refine (implFilCut_c _ _ _ l0_0 _ _ _ l0_1 a1_0 _ _ _ l1_1 a2 _ (H.rd 2 rfl) (H.rd 3 rfl) (H.rd 1 rfl) (fun e => nomatch e) (fun e => nomatch e) (fun e => nomatch e) hs0_0 hs0_1 hz0_1 hs1_1).mono ?_
              rintro e u5 ⟨Ac0_0, cc0_0, Ac0_1, cc0_1, Ac1_0, cc1_0, rfl, Kc⟩
              replace H := H.join Kc
              clear Kc
              go_wp2_with fail
              refine hK.out _ _ ?_ (fun hHeld => ?_)
              · exact ⟨H.bat 30 rfl (j := 0) rfl, H.bat 30 rfl (j := 1) rfl, H.bat 29 rfl (j := 0) rfl, H.bat 29 rfl (j := 1) rfl⟩
              clear hK K
              try simp only [sA, sB, sC, Act.put, sD, sE, sF]
              refine wpAnyH_take (i := 6) (v := ?_) rfl (by kernel_rfl) (by kernel_rfl) (by kernel_rfl) (fun _ _ _ h => nomatch h.1) (Or.inl ⟨by kernel_rfl, ?_⟩) (by assumption) ?_
              rotate_left
              · (intro w hSw; (try dsimp only at hSw); go_simp; try (with_reducible rfl))
              try simp only [sA, sB, sC, Act.put, sD, sE, sF]
              refine wpAnyH_take (i := 7) (v := ?_) rfl (by kernel_rfl) (by kernel_rfl) (by kernel_rfl) (fun _ _ _ h => nomatch h.1) (Or.inl ⟨by kernel_rfl, ?_⟩) (by assumption) ?_
              rotate_left
              · (intro w hSw; (try dsimp only at hSw); go_simp; try (with_reducible rfl))
              try simp only [sA, sB, sC, Act.put, sD, sE, sF]
              refine wpAnyH_take (i := 8) (v := ?_) rfl (by kernel_rfl) (by kernel_rfl) (by kernel_rfl) (fun _ _ _ h => nomatch h.1) (Or.inl ⟨by kernel_rfl, ?_⟩) (by assumption) ?_
              rotate_left
              · (intro w hSw; (try dsimp only at hSw); go_simp; try (with_reducible rfl))
              try simp only [sA, sB, sC, Act.put, sD, sE, sF]
              refine wpAnyH_take (i := 9) (v := ?_) rfl (by kernel_rfl) (by kernel_rfl) (by kernel_rfl) (fun _ _ _ h => nomatch h.1) (Or.inl ⟨by kernel_rfl, ?_⟩) (by assumption) ?_
              rotate_left
              · (intro w hSw; (try dsimp only at hSw); go_simp; try (with_reducible rfl))
              try simp only [sA, sB, sC, Act.put, sD, sE, sF]
              replace H := H.reord [5, 6, 4, 0, 1, 2, 3, 7, 8, 9, 10, 11, 12, 13, 14, 15, 16, 17, 18, 19, 20, 21, 22, 23, 24, 25, 26, 27, 28, 29, 30] (n := 31) rfl (by decide)
              exact hJ.out ga0 ga1 gb0 Ac0_0 cc0_0 Ac0_1 cc0_1 Ac1_0 cc1_0 hd he _ (by rw [hl0]; exact H) hHeld
          · replace H := H.lay 31 [.slice none 0 0, .slice none 0 0]
            go_simp
            obtain ⟨hd, hhd⟩ : ∃ x, x = u2.heap.size := ⟨_, rfl⟩
            rw [← hhd] at H ⊢
            clear hhd
            obtain ⟨u3, hv⟩ : ∃ uu : World, uu = u2.alloc (.cells #[.slice none 0 0, .slice none 0 0] 31) := ⟨_, rfl⟩
            rw [← hv] at H ⊢
            clear hv
            refine hK.out _ _ ?_ (fun hHeld => ?_)
            · exact ⟨H.bat 26 rfl (j := 0) rfl, H.bat 26 rfl (j := 1) rfl, H.bat 25 rfl (j := 0) rfl, H.bat 25 rfl (j := 1) rfl⟩
            clear hK K
            try simp only [sA, sB, sC, Act.put, sD, sE, sF]
            refine wpAnyH_ready (rs := [3]) (by kernel_rfl) (by simp) ?_
            refine (AllReadyH.cons rfl (fun K hK => ?_) AllReadyH.nil)
            go_simp
            refine (toFil_any a1_0 A1_1 n1_1 c1_1 l1_1 _ (H.old h1_1) hs1_1).mono ?_
            rintro e u4 ⟨gb0, rfl, ob0, fb⟩
            replace H := H.made ob0 fb
            clear ob0 fb
            go_wp2_with fail
            refine hK.out _ _ ?_ (fun hHeld => ?_)
            · exact ⟨H.bat 27 rfl (j := 0) rfl, H.bat 27 rfl (j := 1) rfl, H.bat 26 rfl (j := 0) rfl, H.bat 26 rfl (j := 1) rfl⟩
            clear hK K
            try simp only [sA, sB, sC, Act.put, sD, sE, sF]
            refine wpAnyH_ready (rs := [5]) (by kernel_rfl) (by simp) ?_
            refine (AllReadyH.cons rfl (fun K hK => ?_) AllReadyH.nil)
            go_simp
            refine (implFilCut_c _ _ _ l0_0 _ _ _ l0_1 a1_0 _ _ _ l1_1 a2 _ (H.rd 2 rfl) (H.rd 3 rfl) (H.rd 0 rfl) (fun e => nomatch e) (fun e => nomatch e) (fun e => nomatch e) hs0_0 hs0_1 hz0_1 hs1_1).mono ?_
            rintro e u5 ⟨Ac0_0, cc0_0, Ac0_1, cc0_1, Ac1_0, cc1_0, rfl, Kc⟩
            replace H := H.join Kc
            clear Kc
            go_wp2_with fail
            refine hK.out _ _ ?_ (fun hHeld => ?_)
            · exact ⟨H.bat 30 rfl (j := 0) rfl, H.bat 30 rfl (j := 1) rfl, H.bat 29 rfl (j := 0) rfl, H.bat 29 rfl (j := 1) rfl⟩
            clear hK K
            try simp only [sA, sB, sC, Act.put, sD, sE, sF]
            refine wpAnyH_take (i := 6) (v := ?_) rfl (by kernel_rfl) (by kernel_rfl) (by kernel_rfl) (fun _ _ _ h => nomatch h.1) (Or.inl ⟨by kernel_rfl, ?_⟩) (by assumption) ?_
            rotate_left
            · (intro w hSw; (try dsimp only at hSw); go_simp; try (with_reducible rfl))
            try simp only [sA, sB, sC, Act.put, sD, sE, sF]
            refine wpAnyH_take (i := 7) (v := ?_) rfl (by kernel_rfl) (by kernel_rfl) (by kernel_rfl) (fun _ _ _ h => nomatch h.1) (Or.inl ⟨by kernel_rfl, ?_⟩) (by assumption) ?_
            rotate_left
            · (intro w hSw; (try dsimp only at hSw); go_simp; try (with_reducible rfl))
            try simp only [sA, sB, sC, Act.put, sD, sE, sF]
            refine wpAnyH_take (i := 8) (v := ?_) rfl (by kernel_rfl) (by kernel_rfl) (by kernel_rfl) (fun _ _ _ h => nomatch h.1) (Or.inl ⟨by kernel_rfl, ?_⟩) (by assumption) ?_
            rotate_left
            · (intro w hSw; (try dsimp only at hSw); go_simp; try (with_reducible rfl))
            try simp only [sA, sB, sC, Act.put, sD, sE, sF]
            refine wpAnyH_take (i := 9) (v := ?_) rfl (by kernel_rfl) (by kernel_rfl) (by kernel_rfl) (fun _ _ _ h => nomatch h.1) (Or.inl ⟨by kernel_rfl, ?_⟩) (by assumption) ?_
            rotate_left
            · (intro w hSw; (try dsimp only at hSw); go_simp; try (with_reducible rfl))
            try simp only [sA, sB, sC, Act.put, sD, sE, sF]
            replace H := H.reord [5, 6, 3, 0, 1, 2, 4, 7, 8, 9, 10, 11, 12, 13, 14, 15, 16, 17, 18, 19, 20, 21, 22, 23, 24, 25, 26, 27, 28, 29, 30] (n := 31) rfl (by decide)
            exact hJ.out ga0 ga1 gb0 Ac0_0 cc0_0 Ac0_1 cc0_1 Ac1_0 cc1_0 hd he _ (by rw [hl0]; exact H) hHeld
        · replace H := H.lay 31 [.slice none 0 0, .slice none 0 0]
          go_simp
          obtain ⟨hd, hhd⟩ : ∃ x, x = u1.heap.size := ⟨_, rfl⟩
          rw [← hhd] at H ⊢
          clear hhd
          obtain ⟨u2, hv⟩ : ∃ uu : World, uu = u1.alloc (.cells #[.slice none 0 0, .slice none 0 0] 31) := ⟨_, rfl⟩
          rw [← hv] at H ⊢
          clear hv
          refine hK.out _ _ ?_ (fun hHeld => ?_)
          · exact ⟨H.bat 24 rfl (j := 0) rfl, H.bat 24 rfl (j := 1) rfl, H.bat 23 rfl (j := 0) rfl, H.bat 23 rfl (j := 1) rfl⟩
          clear hK K
          try simp only [sA, sB, sC, Act.put, sD, sE, sF]
          refine wpAnyH_ready (rs := [1]) (by kernel_rfl) (by simp) ?_
          refine (AllReadyH.cons rfl (fun K hK => ?_) AllReadyH.nil)
          go_simp
          refine (toStore_any A0_0 n0_0 c0_0 l0_0 A0_1 n0_1 c0_1 l0_1 _ (H.old h0_0) (H.old h0_1) hs0_0 hs0_1).mono ?_
          rintro e u3 ⟨ga0, ga1, rfl, oa0, oa1, fa⟩
          replace H := H.made2 oa0 oa1 fa (by decide)
          clear oa0 oa1 fa
          go_wp2_with fail
          refine hK.out _ _ ?_ (fun hHeld => ?_)
          · exact ⟨H.bat 26 rfl (j := 0) rfl, H.bat 26 rfl (j := 1) rfl, H.bat 25 rfl (j := 0) rfl, H.bat 25 rfl (j := 1) rfl⟩
          clear hK K
          try simp only [sA, sB, sC, Act.put, sD, sE, sF]
          refine wpAnyH_ready (rs := [3]) (by kernel_rfl) (by simp) ?_
          refine (AllReadyH.cons rfl (fun K hK => ?_) AllReadyH.nil)
          go_simp
          refine (toFil_any a1_0 A1_1 n1_1 c1_1 l1_1 _ (H.old h1_1) hs1_1).mono ?_
          rintro e u4 ⟨gb0, rfl, ob0, fb⟩
          replace H := H.made ob0 fb
          clear ob0 fb
          go_wp2_with fail
          refine hK.out _ _ ?_ (fun hHeld => ?_)
          · exact ⟨H.bat 27 rfl (j := 0) rfl, H.bat 27 rfl (j := 1) rfl, H.bat 26 rfl (j := 0) rfl, H.bat 26 rfl (j := 1) rfl⟩
          clear hK K
          try simp only [sA, sB, sC, Act.put, sD, sE, sF]
          refine wpAnyH_ready (rs := [5]) (by kernel_rfl) (by simp) ?_
          refine (AllReadyH.cons rfl (fun K hK => ?_) AllReadyH.nil)
          go_simp
          refine (implFilCut_c _ _ _ l0_0 _ _ _ l0_1 a1_0 _ _ _ l1_1 a2 _ (H.rd 1 rfl) (H.rd 2 rfl) (H.rd 0 rfl) (fun e => nomatch e) (fun e => nomatch e) (fun e => nomatch e) hs0_0 hs0_1 hz0_1 hs1_1).mono ?_
          rintro e u5 ⟨Ac0_0, cc0_0, Ac0_1, cc0_1, Ac1_0, cc1_0, rfl, Kc⟩
          replace H := H.join Kc
          clear Kc
          go_wp2_with fail
          refine hK.out _ _ ?_ (fun hHeld => ?_)
          · exact ⟨H.bat 30 rfl (j := 0) rfl, H.bat 30 rfl (j := 1) rfl, H.bat 29 rfl (j := 0) rfl, H.bat 29 rfl (j := 1) rfl⟩
          clear hK K
          try simp only [sA, sB, sC, Act.put, sD, sE, sF]
          refine wpAnyH_take (i := 6) (v := ?_) rfl (by kernel_rfl) (by kernel_rfl) (by kernel_rfl) (fun _ _ _ h => nomatch h.1) (Or.inl ⟨by kernel_rfl, ?_⟩) (by assumption) ?_
          rotate_left
          · (intro w hSw; (try dsimp only at hSw); go_simp; try (with_reducible rfl))
          try simp only [sA, sB, sC, Act.put, sD, sE, sF]
          refine wpAnyH_take (i := 7) (v := ?_) rfl (by kernel_rfl) (by kernel_rfl) (by kernel_rfl) (fun _ _ _ h => nomatch h.1) (Or.inl ⟨by kernel_rfl, ?_⟩) (by assumption) ?_
          rotate_left
          · (intro w hSw; (try dsimp only at hSw); go_simp; try (with_reducible rfl))
          try simp only [sA, sB, sC, Act.put, sD, sE, sF]
          refine wpAnyH_take (i := 8) (v := ?_) rfl (by kernel_rfl) (by kernel_rfl) (by kernel_rfl) (fun _ _ _ h => nomatch h.1) (Or.inl ⟨by kernel_rfl, ?_⟩) (by assumption) ?_
          rotate_left
          · (intro w hSw; (try dsimp only at hSw); go_simp; try (with_reducible rfl))
          try simp only [sA, sB, sC, Act.put, sD, sE, sF]
          refine wpAnyH_take (i := 9) (v := ?_) rfl (by kernel_rfl) (by kernel_rfl) (by kernel_rfl) (fun _ _ _ h => nomatch h.1) (Or.inl ⟨by kernel_rfl, ?_⟩) (by assumption) ?_
          rotate_left
          · (intro w hSw; (try dsimp only at hSw); go_simp; try (with_reducible rfl))
          try simp only [sA, sB, sC, Act.put, sD, sE, sF]
          replace H := H.reord [4, 5, 3, 0, 1, 2, 6, 7, 8, 9, 10, 11, 12, 13, 14, 15, 16, 17, 18, 19, 20, 21, 22, 23, 24, 25, 26, 27, 28, 29, 30] (n := 31) rfl (by decide)
          exact hJ.out ga0 ga1 gb0 Ac0_0 cc0_0 Ac0_1 cc0_1 Ac1_0 cc1_0 hd he _ (by rw [hl0]; exact H) hHeld
    intro ga0 ga1 gb0 Ac0_0 cc0_0 Ac0_1 cc0_1 Ac1_0 cc1_0 hd he u0 H hHeld
    rw [hl0] at H
    refine wpAnyH_ready (rs := [12]) (by kernel_rfl) (by simp) ?_
    refine (AllReadyH.cons rfl (fun K hK => ?_) AllReadyH.nil)
    have e0 := H.bfree 6 rfl 0
    have e1 := H.bfree 6 rfl 1
    have s0 := H.bat 6 rfl (j := 0) rfl
    have s1 := H.bat 6 rfl (j := 1) rfl
    replace H := (H.bput 6 rfl 0 (.slice Ac0_0 (n0_0) cc0_0)).bput 6 rfl 1 (.slice Ac0_1 (n0_1) cc0_1)
    go_simp
    refine hK.out _ _ ?_ (fun hHeld => ?_)
    · exact ⟨H.bat 30 rfl (j := 0) rfl, H.bat 30 rfl (j := 1) rfl, H.bat 29 rfl (j := 0) rfl, H.bat 29 rfl (j := 1) rfl⟩
    clear hK K
    try simp only [sA, sB, sC, Act.put, sD, sE, sF]
    refine wpAnyH_ready (rs := [13]) (by kernel_rfl) (by simp) ?_
    refine (AllReadyH.cons rfl (fun K hK => ?_) AllReadyH.nil)
    have e0 := H.bfree 7 rfl 0
    have e1 := H.bfree 7 rfl 1
    have s0 := H.bat 7 rfl (j := 0) rfl
    have s1 := H.bat 7 rfl (j := 1) rfl
    replace H := (H.bput 7 rfl 0 (.int .i64 (cutZ l0_0 l0_1 a1_0 l1_1 a2))).bput 7 rfl 1 (.slice Ac1_0 ((cutL l0_0 l0_1 a1_0 l1_1 a2).length) cc1_0)
    go_simp
    refine hK.out _ _ ?_ (fun hHeld => ?_)
    · exact ⟨H.bat 30 rfl (j := 0) rfl, H.bat 30 rfl (j := 1) rfl, H.bat 29 rfl (j := 0) rfl, H.bat 29 rfl (j := 1) rfl⟩
    clear hK K
    try simp only [sA, sB, sC, Act.put, sD, sE, sF]
    refine wpAnyH_take (i := 14) (v := ?_) rfl (by kernel_rfl) (by kernel_rfl) (by kernel_rfl) (fun _ _ _ h => nomatch h.1) (Or.inl ⟨by kernel_rfl, ?_⟩) (by assumption) ?_
    rotate_left
    · (intro w hSw; (try dsimp only at hSw); go_simp; try (with_reducible rfl))
    try simp only [sA, sB, sC, Act.put, sD, sE, sF]
    refine wpAnyH_done (by kernel_rfl) ?_ _
    exact ⟨rfl, hR_.out _ _ ⟨ga0, ga1, gb0, Ac0_0, cc0_0, Ac0_1, cc0_1, Ac1_0, cc1_0, hd, he, by simp only [sA, sB, sC, Act.put, sD, sE, sF], by rw [hl0]; exact H⟩⟩
  clear H26
  rintro a' w27 ⟨ga0_27, ga1_27, gb0_27, Ac0_0_27, cc0_0_27, Ac0_1_27, cc0_1_27, Ac1_0_27, cc1_0_27, hd_27, he_27, rfl, H27⟩
  rw [hl0] at H27
  clear hl0
  simp only [List.getElem_toArray, List.getElem_cons_succ, List.getElem_cons_zero, Act.put, List.setIfInBounds_toArray, List.set_cons_zero, List.set_cons_succ]
  have cf0 := H27.bat 6 rfl (j := 0) rfl
  have cf1 := H27.bat 6 rfl (j := 1) rfl
  have cf2 := H27.lt 6 rfl rfl
  have cf3 := H27.bat 27 rfl (j := 0) rfl
  have cf4 := H27.bat 27 rfl (j := 1) rfl
  have cf5 := H27.lt 27 rfl rfl
  go_wp2_with fail
  clear cf0 cf1 cf2 cf3 cf4 cf5
  refine (eqStore_yes _ _ _ _ _ _ _ _ _ _ _ _ (cutBits l0_0 l0_1 a1_0 l1_1 a2) (cutData l0_0 l0_1 a1_0 l1_1 a2) _ (H27.rd 3 rfl) (H27.rd 4 rfl) (H27.rd 24 rfl) (H27.rd 25 rfl) (Nat.le_trans lr0_0 (by omega)) (Nat.le_trans lr0_1 (by omega))).mono ?_
  rintro e w28 ⟨rfl, d28⟩
  have H28 := H27.go d28
  have cf0 := H28.bat 7 rfl (j := 0) rfl
  have cf1 := H28.bat 7 rfl (j := 1) rfl
  have cf2 := H28.lt 7 rfl rfl
  have cf3 := H28.bat 28 rfl (j := 0) rfl
  have cf4 := H28.bat 28 rfl (j := 1) rfl
  have cf5 := H28.lt 28 rfl rfl
  go_wp2_with fail
  clear cf0 cf1 cf2 cf3 cf4 cf5
  refine (eqFil_yes _ _ _ _ _ _ _ (cutL l0_0 l0_1 a1_0 l1_1 a2) _ (H28.rd 5 rfl) (H28.rd 26 rfl) (Nat.le_trans lr1_0 (by omega))).mono ?_
  rintro e w29 ⟨rfl, d29⟩
  have H29 := H28.go d29
  have cf0 := H29.bat 12 rfl (j := 0) rfl
  have cf1 := H29.bat 12 rfl (j := 1) rfl
  have cf2 := H29.lt 12 rfl rfl
  go_wp2_with fail
  clear cf0 cf1 cf2
  refine (heldStore_any _ (n0_0) _ _ (n0_1) _ 1 _ (H29.rd 13 rfl) (H29.rd 14 rfl) (Nat.le_trans lr0_0 (by omega)) (Nat.le_trans lr0_1 (by omega)) (by omega)).mono ?_
  rintro e w30 ⟨rfl, f30⟩
  rw [← Ek23.out]
  have H30 := H29.go f30
  have cf0 := H30.bat 11 rfl (j := 0) rfl
  have cf1 := H30.bat 11 rfl (j := 1) rfl
  have cf2 := H30.lt 11 rfl rfl
  go_wp2_with fail
  clear cf0 cf1 cf2
  refine (heldFil_any _ ((cutL l0_0 l0_1 a1_0 l1_1 a2).length) _ k23 _ (H30.rd 15 rfl) (Nat.le_trans lr1_0 (by omega)) (by omega)).mono ?_
  rintro e w31 ⟨rfl, f31⟩
  rw [← Ek24.out]
  have H31 := H30.go f31
  go_wp2
  go_ret
  exact ⟨rfl, H31.fr⟩
end Go.Proofs.Ytbmoolmgfpcnkaa

