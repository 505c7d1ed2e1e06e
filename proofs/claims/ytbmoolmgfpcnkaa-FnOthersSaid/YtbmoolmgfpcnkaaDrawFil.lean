/-
  The reference draws a store with a file.
-/
import Derived.Test.YtbmoolmgfpcnkaaGb
import Derived.Test.YtbmoolmgfpcnkaaDrawExts
import Derived.Test.YtbmoolmgfpcnkaaDrawBits
import Derived.Test.YtbmoolmgfpcnkaaFilCutS
import Derived.Test.YtbmoolmgfpcnkaaFilWriteS
import Derived.Test.YtbmoolmgfpcnkaaGc
namespace Go.Proofs.Ytbmoolmgfpcnkaa
open Go.RowKit

set_option linter.unusedSimpArgs false
set_option linter.unusedVariables false
/-- A callee has made new things and has turned thing i. -/
theorem Hp.joinL {W : List Nat} {w0 w w' : World} {l l' : List Ob} {g : Nat} {t : TypeId} {cs cs' : List Value} (h : Hp W w0 w l) (i : Nat) (hi : l[i]? = some (.blk g t cs)) (k : Hp [g] w w' (l' ++ [.blk g t cs'])) : Hp W w0 w' (l' ++ l.set i (.blk g t cs')) := by
  have h2 := h.turn i hi k.gr (o' := .blk g t cs') (k.blk l'.length (by simp)) (fun _ h => .inl h)
  have ho : ∀ o ∈ l', ∀ b, o.has b → w.heap.size ≤ b := fun o hol b hb => by
    rcases k.own o (List.mem_append_left _ hol) b hb with h3 | h3
    · exact h3
    · exfalso
      have h4 := (List.pairwise_append.1 k.ap).2.2 o hol (.blk g t cs') (by simp) b hb
      simp only [List.mem_singleton] at h3
      subst h3
      exact h4 rfl
  refine ⟨h2.gr, ?_, ?_, List.pairwise_append.2 ⟨(List.pairwise_append.1 k.ap).1, h2.ap, fun o hol x hx b hb hxb => ?_⟩⟩
  · intro x hx
    rcases List.mem_append.1 hx with h1 | h1
    · exact k.ok _ (List.mem_append_left _ h1)
    · exact h2.ok x h1
  · intro x hx b hb
    rcases List.mem_append.1 hx with h1 | h1
    · exact .inl (Nat.le_trans h.size (ho x h1 b hb))
    · exact h2.own x h1 b hb
  · have h3 := ho o hol b hb
    rcases List.mem_or_eq_of_mem_set hx with h4 | h4
    · have := Ob.lt (h.ok x h4) hxb
      omega
    · subst h4
      have := Ob.lt (h.ok _ (List.mem_of_getElem? hi)) hxb
      omega
/-- A store and a file come back, beside the cursor. -/
def DrewSF (g : Nat) (A : Option Addr) (n c : Nat) (w : World) (e : Ending) (w' : World) : Prop :=
  ∃ (A1 : Option Addr) (n1 c1 : Nat) (bits : List Bool) (B1 : Option Addr) (d1 : Nat) (data : List ByteArray) (z : Int) (E1 : Option Addr) (q r1 : Nat) (l : List (Int × Int × Int)) (i' h' : Int),
    e = .returned (.tuple #[.agg #[.slice A1 n1 c1, .slice B1 24 d1], .agg #[.int .i64 z, .slice E1 q r1]]) ∧ n1 ≤ 24 ∧ (∀ s ∈ data, s.size ≤ 10) ∧ q ≤ 12 ∧ 0 ≤ i' ∧ i' ≤ n ∧
    Hp [g] w w' [.row 4 1 (.slice A1 n1 c1) n1 (bits.map Value.bool), .row 9 1 (.slice B1 24 d1) 24 (data.map Value.string), .row 92 3 (.slice E1 q r1) q (l.flatMap cExt), .blk g 109 [.slice A n c, .int .i64 i', .int .i64 h']]
set_option maxRecDepth 100000 in
set_option maxHeartbeats 8000000 in
theorem l17Some_any (g : Nat) (A : Option Addr) (n c : Nat) (bs : List UInt8) (i h : Int) (w : World) (hb : Bk w g 109 [.slice A n c, .int .i64 i, .int .i64 h])
    (hA : Rd w A n 1 (bs.map cU8)) (hne : 0 < n → ∀ ad, A = some ad → ad.block ≠ g) (h0 : 0 ≤ i) (h1 : i ≤ n) (hn : n ≤ 1048576) :
    Calls Try.prog 84 #[.pointer (some ⟨g, 0, none⟩)] w (DrewSF g A n c w) := by
  have hneW : 0 < n → ∀ ad, A = some ad → ad.block ∉ [g] := fun hn0 ad he => by simpa using hne hn0 ad he
  have H := ((Hp.start_blk hb).lay_ 31 [.slice none 0 0, .slice none 0 0] rfl).lay_ 34 [.int .i64 0, .slice none 0 0] (g := w.heap.size + 1) (by simp)
  obtain ⟨g2, hg2⟩ : ∃ x, x = w.heap.size := ⟨_, rfl⟩
  have HG2 := Lib.hid hg2
  rw [← hg2] at H
  obtain ⟨g3, hg3⟩ : ∃ x, x = g2 + 1 := ⟨_, rfl⟩
  have HG3 := Lib.hid hg3
  rw [← hg3] at H
  have G := Lib.hid hA
  have NE := Lib.hid hne
  have NW := Lib.hid hneW
  clear hb hA hne hneW hg2 hg3
  go_enter Try.func84, Try.ntmps84
  go_wp2_with fail
  rw [← HG2.out, ← HG3.out]
  refine (specNewStore_any _).mono ?_
  rintro e w1 ⟨A1, c1, B1, d1, rfl, K⟩
  have H1 := (H.join K).lay_ 31 [.slice A1 24 c1, .slice B1 24 d1] rfl
  obtain ⟨g4, hg4⟩ : ∃ x, x = w1.heap.size := ⟨_, rfl⟩
  have HG4 := Lib.hid hg4
  rw [← hg4] at H1
  have H2 := (H1.nil_ 92 3).lay_ 34 [.int .i64 0, .slice none 0 0] (g := g4 + 1) (by rw [hg4]; simp)
  obtain ⟨g5, hg5⟩ : ∃ x, x = g4 + 1 := ⟨_, rfl⟩
  have HG5 := Lib.hid hg5
  rw [← hg5] at H2
  clear H H1 K hg4 hg5
  have H3 := H2.reord [4, 3, 1, 2, 0, 7, 5, 6] (n := 8) rfl (by decide)
  clear H2
  go_wp2_with fail
  rw [← HG4.out, ← HG5.out]
  refine (l1Below_any g A n c bs i h 7 _ (H3.blk 5 rfl) (H3.oldN G.out NW.out) NE.out h0 h1 hn (by decide)).mono ?_
  rintro e w2 ⟨x1, rfl, x0, xm, _, C⟩
  obtain ⟨i2, hh2, a2, b2, H⟩ := H3.cur 5 rfl C
  have x2 := xm (by decide)
  obtain ⟨k0, rfl⟩ : ∃ q : Nat, x1 = q := ⟨x1.toNat, by omega⟩
  clear H3 C xm HG2 HG3 HG4 HG5
  have HSH0 := Lib.hid (show Sh newBits (newData 24) from ⟨by simp [newBits], newData_len 24, fun s hs => by
    rw [newData, List.mem_replicate] at hs
    rw [hs.2, ofB_size, zB, List.length_replicate]⟩)
  go_wp2_with fail
  go_loopw [6] (fun jv wr => ∃ (k : Nat) (bits : List Bool) (data : List ByteArray) (z : Int) (l : List (Int × Int × Int)) (A1 : Option Addr) (c1 : Nat) (B1 : Option Addr) (d1 : Nat) (E1 : Option Addr) (q r1 : Nat) (i' h' : Int), jv = .int .i64 k ∧ k ≤ 10 ∧ Sh bits data ∧ l.length = q ∧ q ≤ 12 ∧ 0 ≤ i' ∧ i' ≤ n ∧
    Hp [g] w wr [.row 4 1 (.slice A1 24 c1) 24 (bits.map Value.bool), .row 9 1 (.slice B1 24 d1) 24 (data.map Value.string), .row 92 3 (.slice E1 q r1) q (l.flatMap cExt), .blk g4 31 [.slice A1 24 c1, .slice B1 24 d1], .blk g5 34 [.int .i64 z, .slice E1 q r1],
      .blk g 109 [.slice A n c, .int .i64 i', .int .i64 h'], .blk g3 34 [.int .i64 0, .slice none 0 0], .blk g2 31 [.slice none 0 0, .slice none 0 0]]) (fun jv _ => (intOf jv).toNat)
  case atStart => exact ⟨k0, newBits, newData 24, 0, [], A1, c1, B1, d1, none, 0, 0, i2, hh2, rfl, by omega, HSH0.out, rfl, by omega, a2, b2, H⟩
  case round =>
    clear H a2 b2
    obtain ⟨k, bits, data, z, l, A1, c1, B1, d1, E1, q, r1, i3, h3, rfl, hk10, hsh, hl, hq, a3, b3, H⟩ := hrel
    have HSH := Lib.hid hsh
    have HL := Lib.hid hl
    clear hsh hl
    rcases Nat.eq_zero_or_pos k with hk | hk
    · subst hk
      go_wp2_with fail
      refine (l1Once_any g A n c bs i3 h3 10 _ (H.blk 5 rfl) (H.oldN G.out NW.out) NE.out a3 b3 hn (by decide)).mono ?_
      rintro e w4 ⟨x, rfl, C⟩
      obtain ⟨i4, h4, a4, b4, H'⟩ := H.cur 5 rfl C
      replace H := H'
      clear C H' a3 b3
      cases x with
      | false =>
        have HSZ := Lib.hid (show ∀ s ∈ data, s.size ≤ 10 from fun s hs => by have := HSH.out.2.2 s hs; omega)
        go_wp2_with fail
        replace H := H.drew
        have z0 := H.bat 3 rfl (j := 0) rfl
        have z1 := H.bat 3 rfl (j := 1) rfl
        have z2 := H.bat 4 rfl (j := 0) rfl
        have z3 := H.bat 4 rfl (j := 1) rfl
        refine wp_region_held_drew (S := fun w' => w'.cell? ⟨g4, 0, none⟩ = some (.slice A1 24 c1) ∧ w'.cell? ⟨g4, 1, none⟩ = some (.slice B1 24 d1) ∧ w'.cell? ⟨g5, 0, none⟩ = some (.int .i64 z) ∧ w'.cell? ⟨g5, 1, none⟩ = some (.slice E1 q r1)) (by kernel_rfl) ?_ (fun hHeld => ?_)
        · exact ⟨z0, z1, z2, z3⟩
        obtain ⟨u0, hu0⟩ : ∃ uu : World, uu = w4.drew := ⟨_, rfl⟩
        rw [← hu0] at H hHeld ⊢
        clear hu0
        refine wpAnyH_take (i := 0) (v := ?_) rfl (by kernel_rfl) (by kernel_rfl) (by kernel_rfl) (fun _ _ _ h => h) (Or.inl ⟨by kernel_rfl, ?_⟩) (by assumption) ?_
        rotate_left
        · (intro w hSw; (try dsimp only at hSw); go_simp; try (with_reducible rfl))
        try simp only [sA, sB, sC, Act.put, sD, sE, sF]
        refine wpAnyH_take (i := 1) (v := ?_) rfl (by kernel_rfl) (by kernel_rfl) (by kernel_rfl) (fun _ _ _ h => h) (Or.inl ⟨by kernel_rfl, ?_⟩) (by assumption) ?_
        rotate_left
        · (intro w hSw; (try dsimp only at hSw); go_simp; try (with_reducible rfl))
        try simp only [sA, sB, sC, Act.put, sD, sE, sF]
        refine wpAnyH_ready (rs := [2]) (by kernel_rfl) (by simp) ?_
        refine (AllReadyH.cons rfl (fun K hK => ?_) AllReadyH.nil)
        have e0 := H.bfree 7 rfl 0
        have e1 := H.bfree 7 rfl 1
        have s0 := H.bat 7 rfl (j := 0) rfl
        have s1 := H.bat 7 rfl (j := 1) rfl
        replace H := (H.bput 7 rfl 0 (.slice A1 24 c1)).bput 7 rfl 1 (.slice B1 24 d1)
        go_simp
        refine hK.out _ _ ?_ (fun hHeld => ?_)
        · exact ⟨H.bat 3 rfl (j := 0) rfl, H.bat 3 rfl (j := 1) rfl, H.bat 4 rfl (j := 0) rfl, H.bat 4 rfl (j := 1) rfl⟩
        clear hK K
        try simp only [sA, sB, sC, Act.put, sD, sE, sF]
        refine wpAnyH_ready (rs := [3]) (by kernel_rfl) (by simp) ?_
        refine (AllReadyH.cons rfl (fun K hK => ?_) AllReadyH.nil)
        have e0 := H.bfree 6 rfl 0
        have e1 := H.bfree 6 rfl 1
        have s0 := H.bat 6 rfl (j := 0) rfl
        have s1 := H.bat 6 rfl (j := 1) rfl
        replace H := (H.bput 6 rfl 0 (.int .i64 z)).bput 6 rfl 1 (.slice E1 q r1)
        go_simp
        refine hK.out _ _ ?_ (fun hHeld => ?_)
        · exact ⟨H.bat 3 rfl (j := 0) rfl, H.bat 3 rfl (j := 1) rfl, H.bat 4 rfl (j := 0) rfl, H.bat 4 rfl (j := 1) rfl⟩
        clear hK K
        try simp only [sA, sB, sC, Act.put, sD, sE, sF]
        refine wpAnyH_done (by kernel_rfl) ?_ _
        have x1 := H.bat 7 rfl (j := 0) rfl
        have x2 := H.bat 7 rfl (j := 1) rfl
        have x3 := H.bat 6 rfl (j := 0) rfl
        have x4 := H.bat 6 rfl (j := 1) rfl
        have H7 := Lib.hid (H.reord [0, 1, 2, 5, 3, 4, 6, 7] (n := 8) rfl (by decide))
        clear H
        go_wp2_with fail
        refine bodyPost_ret (v := .tuple #[.agg #[.slice A1 24 c1, .slice B1 24 d1], .agg #[.int .i64 z, .slice E1 q r1]]) (by simp [results, Try.results84, go_sem, x1, x2, x3, x4]) rfl ?_
        refine ⟨_, _, _, bits, _, _, data, _, _, _, _, l, i4, h4, rfl, (by decide), HSZ.out, hq, a4, b4, ?_⟩
        exact H7.out.sub (.cons_cons _ (.cons_cons _ (.cons_cons _ (.cons_cons _ (List.nil_sublist _)))))
      | true =>
        go_wp2_with fail
        refine (l1Below_any g A n c bs i4 h4 4 _ (H.blk 5 rfl) (H.oldN G.out NW.out) NE.out a4 b4 hn (by decide)).mono ?_
        rintro e w5 ⟨x, rfl, x0, xm, _, C⟩
        obtain ⟨i3, h3, a3, b3, H'⟩ := H.cur 5 rfl C
        replace H := H'
        have x4 := xm (by decide)
        clear C H' a4 b4 xm
        obtain rfl | rfl | rfl | rfl : x = 0 ∨ x = 1 ∨ x = 2 ∨ x = 3 := by omega
        · have HSZ := Lib.hid (show ∀ s ∈ data, s.size ≤ 10 from fun s hs => by have := HSH.out.2.2 s hs; omega)
          go_wp2_with fail
          refine (l1Below_any g A n c bs i3 h3 50 _ (H.blk 5 rfl) (H.oldN G.out NW.out) NE.out a3 b3 hn (by decide)).mono ?_
          rintro e w6 ⟨zz, rfl, _, _, _, C⟩
          obtain ⟨i4, h4, a4, b4, H'⟩ := H.cur 5 rfl C
          replace H := H'
          clear C H' a3 b3
          have e0 := H.bfree 4 rfl 0
          have s0 := H.bat 4 rfl (j := 0) rfl
          replace H := H.bput 4 rfl 0 (.int .i64 zz)
          go_wp2_with fail
          clear e0 s0
          replace H := H.drew
          have z0 := H.bat 3 rfl (j := 0) rfl
          have z1 := H.bat 3 rfl (j := 1) rfl
          have z2 := H.bat 4 rfl (j := 0) rfl
          have z3 := H.bat 4 rfl (j := 1) rfl
          refine wp_region_held_drew (S := fun w' => w'.cell? ⟨g4, 0, none⟩ = some (.slice A1 24 c1) ∧ w'.cell? ⟨g4, 1, none⟩ = some (.slice B1 24 d1) ∧ w'.cell? ⟨g5, 0, none⟩ = some (.int .i64 zz) ∧ w'.cell? ⟨g5, 1, none⟩ = some (.slice E1 q r1)) (by kernel_rfl) ?_ (fun hHeld => ?_)
          · exact ⟨z0, z1, z2, z3⟩
          obtain ⟨u0, hu0⟩ : ∃ uu : World, uu = (w6.setCell ⟨g5, 0, none⟩ (.int .i64 zz)).drew := ⟨_, rfl⟩
          rw [← hu0] at H hHeld ⊢
          clear hu0
          refine wpAnyH_take (i := 0) (v := ?_) rfl (by kernel_rfl) (by kernel_rfl) (by kernel_rfl) (fun _ _ _ h => h) (Or.inl ⟨by kernel_rfl, ?_⟩) (by assumption) ?_
          rotate_left
          · (intro w hSw; (try dsimp only at hSw); go_simp; try (with_reducible rfl))
          try simp only [sA, sB, sC, Act.put, sD, sE, sF]
          refine wpAnyH_take (i := 1) (v := ?_) rfl (by kernel_rfl) (by kernel_rfl) (by kernel_rfl) (fun _ _ _ h => h) (Or.inl ⟨by kernel_rfl, ?_⟩) (by assumption) ?_
          rotate_left
          · (intro w hSw; (try dsimp only at hSw); go_simp; try (with_reducible rfl))
          try simp only [sA, sB, sC, Act.put, sD, sE, sF]
          refine wpAnyH_ready (rs := [2]) (by kernel_rfl) (by simp) ?_
          refine (AllReadyH.cons rfl (fun K hK => ?_) AllReadyH.nil)
          have e0 := H.bfree 7 rfl 0
          have e1 := H.bfree 7 rfl 1
          have s0 := H.bat 7 rfl (j := 0) rfl
          have s1 := H.bat 7 rfl (j := 1) rfl
          replace H := (H.bput 7 rfl 0 (.slice A1 24 c1)).bput 7 rfl 1 (.slice B1 24 d1)
          go_simp
          refine hK.out _ _ ?_ (fun hHeld => ?_)
          · exact ⟨H.bat 3 rfl (j := 0) rfl, H.bat 3 rfl (j := 1) rfl, H.bat 4 rfl (j := 0) rfl, H.bat 4 rfl (j := 1) rfl⟩
          clear hK K
          try simp only [sA, sB, sC, Act.put, sD, sE, sF]
          refine wpAnyH_ready (rs := [3]) (by kernel_rfl) (by simp) ?_
          refine (AllReadyH.cons rfl (fun K hK => ?_) AllReadyH.nil)
          have e0 := H.bfree 6 rfl 0
          have e1 := H.bfree 6 rfl 1
          have s0 := H.bat 6 rfl (j := 0) rfl
          have s1 := H.bat 6 rfl (j := 1) rfl
          replace H := (H.bput 6 rfl 0 (.int .i64 zz)).bput 6 rfl 1 (.slice E1 q r1)
          go_simp
          refine hK.out _ _ ?_ (fun hHeld => ?_)
          · exact ⟨H.bat 3 rfl (j := 0) rfl, H.bat 3 rfl (j := 1) rfl, H.bat 4 rfl (j := 0) rfl, H.bat 4 rfl (j := 1) rfl⟩
          clear hK K
          try simp only [sA, sB, sC, Act.put, sD, sE, sF]
          refine wpAnyH_done (by kernel_rfl) ?_ _
          have x1 := H.bat 7 rfl (j := 0) rfl
          have x2 := H.bat 7 rfl (j := 1) rfl
          have x3 := H.bat 6 rfl (j := 0) rfl
          have x4 := H.bat 6 rfl (j := 1) rfl
          have H7 := Lib.hid (H.reord [0, 1, 2, 5, 3, 4, 6, 7] (n := 8) rfl (by decide))
          clear H
          go_wp2_with fail
          refine bodyPost_ret (v := .tuple #[.agg #[.slice A1 24 c1, .slice B1 24 d1], .agg #[.int .i64 zz, .slice E1 q r1]]) (by simp [results, Try.results84, go_sem, x1, x2, x3, x4]) rfl ?_
          refine ⟨_, _, _, bits, _, _, data, _, _, _, _, l, i4, h4, rfl, (by decide), HSZ.out, hq, a4, b4, ?_⟩
          exact H7.out.sub (.cons_cons _ (.cons_cons _ (.cons_cons _ (.cons_cons _ (List.nil_sublist _)))))
        · have HSZ := Lib.hid (show ∀ s ∈ data, s.size ≤ 10 from fun s hs => by have := HSH.out.2.2 s hs; omega)
          go_wp2_with fail
          refine (l16Some_any g A n c bs i3 h3 _ (H.blk 5 rfl) (H.oldN G.out NW.out) NE.out a3 b3 hn).mono ?_
          rintro e w6 ⟨E2, r2, L2, i4, h4, rfl, hL2, a4, b4, K⟩
          obtain ⟨q2, hq2⟩ : ∃ q, q = L2.length := ⟨_, rfl⟩
          rw [← hq2] at K hL2 ⊢
          replace H := ((H.joinV 5 rfl K).reord [3, 1, 2, 0, 4, 5, 6, 7, 8] (n := 9) rfl (by decide)).tail
          clear K a3 b3 hq2
          have e0 := H.bfree 4 rfl 1
          have s0 := H.bat 4 rfl (j := 1) rfl
          replace H := H.bput 4 rfl 1 (.slice E2 q2 r2)
          go_wp2_with fail
          clear e0 s0
          replace H := H.drew
          have z0 := H.bat 3 rfl (j := 0) rfl
          have z1 := H.bat 3 rfl (j := 1) rfl
          have z2 := H.bat 4 rfl (j := 0) rfl
          have z3 := H.bat 4 rfl (j := 1) rfl
          refine wp_region_held_drew (S := fun w' => w'.cell? ⟨g4, 0, none⟩ = some (.slice A1 24 c1) ∧ w'.cell? ⟨g4, 1, none⟩ = some (.slice B1 24 d1) ∧ w'.cell? ⟨g5, 0, none⟩ = some (.int .i64 z) ∧ w'.cell? ⟨g5, 1, none⟩ = some (.slice E2 q2 r2)) (by kernel_rfl) ?_ (fun hHeld => ?_)
          · exact ⟨z0, z1, z2, z3⟩
          obtain ⟨u0, hu0⟩ : ∃ uu : World, uu = (w6.setCell ⟨g5, 1, none⟩ (.slice E2 q2 r2)).drew := ⟨_, rfl⟩
          rw [← hu0] at H hHeld ⊢
          clear hu0
          refine wpAnyH_take (i := 0) (v := ?_) rfl (by kernel_rfl) (by kernel_rfl) (by kernel_rfl) (fun _ _ _ h => h) (Or.inl ⟨by kernel_rfl, ?_⟩) (by assumption) ?_
          rotate_left
          · (intro w hSw; (try dsimp only at hSw); go_simp; try (with_reducible rfl))
          try simp only [sA, sB, sC, Act.put, sD, sE, sF]
          refine wpAnyH_take (i := 1) (v := ?_) rfl (by kernel_rfl) (by kernel_rfl) (by kernel_rfl) (fun _ _ _ h => h) (Or.inl ⟨by kernel_rfl, ?_⟩) (by assumption) ?_
          rotate_left
          · (intro w hSw; (try dsimp only at hSw); go_simp; try (with_reducible rfl))
          try simp only [sA, sB, sC, Act.put, sD, sE, sF]
          refine wpAnyH_ready (rs := [2]) (by kernel_rfl) (by simp) ?_
          refine (AllReadyH.cons rfl (fun K hK => ?_) AllReadyH.nil)
          have e0 := H.bfree 7 rfl 0
          have e1 := H.bfree 7 rfl 1
          have s0 := H.bat 7 rfl (j := 0) rfl
          have s1 := H.bat 7 rfl (j := 1) rfl
          replace H := (H.bput 7 rfl 0 (.slice A1 24 c1)).bput 7 rfl 1 (.slice B1 24 d1)
          go_simp
          refine hK.out _ _ ?_ (fun hHeld => ?_)
          · exact ⟨H.bat 3 rfl (j := 0) rfl, H.bat 3 rfl (j := 1) rfl, H.bat 4 rfl (j := 0) rfl, H.bat 4 rfl (j := 1) rfl⟩
          clear hK K
          try simp only [sA, sB, sC, Act.put, sD, sE, sF]
          refine wpAnyH_ready (rs := [3]) (by kernel_rfl) (by simp) ?_
          refine (AllReadyH.cons rfl (fun K hK => ?_) AllReadyH.nil)
          have e0 := H.bfree 6 rfl 0
          have e1 := H.bfree 6 rfl 1
          have s0 := H.bat 6 rfl (j := 0) rfl
          have s1 := H.bat 6 rfl (j := 1) rfl
          replace H := (H.bput 6 rfl 0 (.int .i64 z)).bput 6 rfl 1 (.slice E2 q2 r2)
          go_simp
          refine hK.out _ _ ?_ (fun hHeld => ?_)
          · exact ⟨H.bat 3 rfl (j := 0) rfl, H.bat 3 rfl (j := 1) rfl, H.bat 4 rfl (j := 0) rfl, H.bat 4 rfl (j := 1) rfl⟩
          clear hK K
          try simp only [sA, sB, sC, Act.put, sD, sE, sF]
          refine wpAnyH_done (by kernel_rfl) ?_ _
          have x1 := H.bat 7 rfl (j := 0) rfl
          have x2 := H.bat 7 rfl (j := 1) rfl
          have x3 := H.bat 6 rfl (j := 0) rfl
          have x4 := H.bat 6 rfl (j := 1) rfl
          have H7 := Lib.hid (H.reord [0, 1, 2, 5, 3, 4, 6, 7] (n := 8) rfl (by decide))
          clear H
          go_wp2_with fail
          refine bodyPost_ret (v := .tuple #[.agg #[.slice A1 24 c1, .slice B1 24 d1], .agg #[.int .i64 z, .slice E2 q2 r2]]) (by simp [results, Try.results84, go_sem, x1, x2, x3, x4]) rfl ?_
          refine ⟨_, _, _, bits, _, _, data, _, _, _, _, L2, i4, h4, rfl, (by decide), HSZ.out, hL2, a4, b4, ?_⟩
          exact H7.out.sub (.cons_cons _ (.cons_cons _ (.cons_cons _ (.cons_cons _ (List.nil_sublist _)))))
        · have HSZ := Lib.hid (show ∀ s ∈ data, s.size ≤ 10 from fun s hs => by have := HSH.out.2.2 s hs; omega)
          go_wp2_with fail
          refine (l15Bits_any g A n c bs i3 h3 _ (H.blk 5 rfl) (H.oldN G.out NW.out) NE.out a3 b3 hn).mono ?_
          rintro e w6 ⟨A2, n2, c2, bits2, i4, h4, rfl, hn2, hn24, a4, b4, K⟩
          replace H := ((H.joinV 5 rfl K).reord [1, 0, 2, 3, 4, 5, 6, 7, 8] (n := 9) rfl (by decide)).tail
          have hn3 : n2 ≤ 24 := by omega
          clear K a3 b3 hn2 hn24
          have e0 := H.bfree 3 rfl 0
          have s0 := H.bat 3 rfl (j := 0) rfl
          replace H := H.bput 3 rfl 0 (.slice A2 n2 c2)
          go_wp2_with fail
          clear e0 s0
          replace H := H.drew
          have z0 := H.bat 3 rfl (j := 0) rfl
          have z1 := H.bat 3 rfl (j := 1) rfl
          have z2 := H.bat 4 rfl (j := 0) rfl
          have z3 := H.bat 4 rfl (j := 1) rfl
          refine wp_region_held_drew (S := fun w' => w'.cell? ⟨g4, 0, none⟩ = some (.slice A2 n2 c2) ∧ w'.cell? ⟨g4, 1, none⟩ = some (.slice B1 24 d1) ∧ w'.cell? ⟨g5, 0, none⟩ = some (.int .i64 z) ∧ w'.cell? ⟨g5, 1, none⟩ = some (.slice E1 q r1)) (by kernel_rfl) ?_ (fun hHeld => ?_)
          · exact ⟨z0, z1, z2, z3⟩
          obtain ⟨u0, hu0⟩ : ∃ uu : World, uu = (w6.setCell ⟨g4, 0, none⟩ (.slice A2 n2 c2)).drew := ⟨_, rfl⟩
          rw [← hu0] at H hHeld ⊢
          clear hu0
          refine wpAnyH_take (i := 0) (v := ?_) rfl (by kernel_rfl) (by kernel_rfl) (by kernel_rfl) (fun _ _ _ h => h) (Or.inl ⟨by kernel_rfl, ?_⟩) (by assumption) ?_
          rotate_left
          · (intro w hSw; (try dsimp only at hSw); go_simp; try (with_reducible rfl))
          try simp only [sA, sB, sC, Act.put, sD, sE, sF]
          refine wpAnyH_take (i := 1) (v := ?_) rfl (by kernel_rfl) (by kernel_rfl) (by kernel_rfl) (fun _ _ _ h => h) (Or.inl ⟨by kernel_rfl, ?_⟩) (by assumption) ?_
          rotate_left
          · (intro w hSw; (try dsimp only at hSw); go_simp; try (with_reducible rfl))
          try simp only [sA, sB, sC, Act.put, sD, sE, sF]
          refine wpAnyH_ready (rs := [2]) (by kernel_rfl) (by simp) ?_
          refine (AllReadyH.cons rfl (fun K hK => ?_) AllReadyH.nil)
          have e0 := H.bfree 7 rfl 0
          have e1 := H.bfree 7 rfl 1
          have s0 := H.bat 7 rfl (j := 0) rfl
          have s1 := H.bat 7 rfl (j := 1) rfl
          replace H := (H.bput 7 rfl 0 (.slice A2 n2 c2)).bput 7 rfl 1 (.slice B1 24 d1)
          go_simp
          refine hK.out _ _ ?_ (fun hHeld => ?_)
          · exact ⟨H.bat 3 rfl (j := 0) rfl, H.bat 3 rfl (j := 1) rfl, H.bat 4 rfl (j := 0) rfl, H.bat 4 rfl (j := 1) rfl⟩
          clear hK K
          try simp only [sA, sB, sC, Act.put, sD, sE, sF]
          refine wpAnyH_ready (rs := [3]) (by kernel_rfl) (by simp) ?_
          refine (AllReadyH.cons rfl (fun K hK => ?_) AllReadyH.nil)
          have e0 := H.bfree 6 rfl 0
          have e1 := H.bfree 6 rfl 1
          have s0 := H.bat 6 rfl (j := 0) rfl
          have s1 := H.bat 6 rfl (j := 1) rfl
          replace H := (H.bput 6 rfl 0 (.int .i64 z)).bput 6 rfl 1 (.slice E1 q r1)
          go_simp
          refine hK.out _ _ ?_ (fun hHeld => ?_)
          · exact ⟨H.bat 3 rfl (j := 0) rfl, H.bat 3 rfl (j := 1) rfl, H.bat 4 rfl (j := 0) rfl, H.bat 4 rfl (j := 1) rfl⟩
          clear hK K
          try simp only [sA, sB, sC, Act.put, sD, sE, sF]
          refine wpAnyH_done (by kernel_rfl) ?_ _
          have x1 := H.bat 7 rfl (j := 0) rfl
          have x2 := H.bat 7 rfl (j := 1) rfl
          have x3 := H.bat 6 rfl (j := 0) rfl
          have x4 := H.bat 6 rfl (j := 1) rfl
          have H7 := Lib.hid (H.reord [0, 1, 2, 5, 3, 4, 6, 7] (n := 8) rfl (by decide))
          clear H
          go_wp2_with fail
          refine bodyPost_ret (v := .tuple #[.agg #[.slice A2 n2 c2, .slice B1 24 d1], .agg #[.int .i64 z, .slice E1 q r1]]) (by simp [results, Try.results84, go_sem, x1, x2, x3, x4]) rfl ?_
          refine ⟨_, _, _, bits2, _, _, data, _, _, _, _, l, i4, h4, rfl, hn3, HSZ.out, hq, a4, b4, ?_⟩
          exact H7.out.sub (.cons_cons _ (.cons_cons _ (.cons_cons _ (.cons_cons _ (List.nil_sublist _)))))
        · go_wp2_with fail
          replace H := H.drew
          obtain ⟨gB, cB, e, _⟩ := H.form 1 rfl (by decide)
          injection e with e1 _ e2
          subst e1 e2
          have h50 : (5 : Nat) ≤ 100 := by decide
          refine wp_region_held_drew (S := fun w' => w'.cell? ⟨g4, 1, none⟩ = some (.slice (some ⟨gB, 0, none⟩) 24 d1)) (by kernel_rfl) ?_ (fun hHeld => ?_)
          · exact H.bat 3 rfl (j := 1) rfl
          obtain ⟨u0, hu0⟩ : ∃ uu : World, uu = w5.drew := ⟨_, rfl⟩
          rw [← hu0] at H hHeld ⊢
          clear hu0
          refine wpAnyH_take (i := 0) (v := ?_) rfl (by kernel_rfl) (by kernel_rfl) (by kernel_rfl) (fun _ _ _ h => h) (Or.inl ⟨by kernel_rfl, ?_⟩) (by assumption) ?_
          rotate_left
          · (intro w hSw; (try dsimp only at hSw); go_simp; try (with_reducible rfl))
          try simp only [sA, sB, sC, Act.put, sD, sE, sF]
          refine wpAnyH_take (i := 1) (v := ?_) rfl (by kernel_rfl) (by kernel_rfl) (by kernel_rfl) (fun _ _ _ h => h) (Or.inl ⟨by kernel_rfl, ?_⟩) (by assumption) ?_
          rotate_left
          · (intro w hSw; (try dsimp only at hSw); go_simp; try (with_reducible rfl))
          try simp only [sA, sB, sC, Act.put, sD, sE, sF]
          refine wpAnyH_take (i := 2) (v := ?_) rfl (by kernel_rfl) (by kernel_rfl) (by kernel_rfl) (fun _ _ _ h => h) (Or.inl ⟨by kernel_rfl, ?_⟩) (by assumption) ?_
          rotate_left
          · (intro w hSw; (try dsimp only at hSw); go_simp; try (with_reducible rfl))
          try simp only [sA, sB, sC, Act.put, sD, sE, sF]
          refine wpAnyH_take (i := 4) (v := ?_) rfl (by kernel_rfl) (by kernel_rfl) (by kernel_rfl) (fun _ _ _ h => h) (Or.inl ⟨by kernel_rfl, ?_⟩) (by assumption) ?_
          rotate_left
          · (intro w hSw; (try dsimp only at hSw); go_simp; try (with_reducible rfl))
          try simp only [sA, sB, sC, Act.put, sD, sE, sF]
          refine wpAnyH_ready (rs := [3]) (by kernel_rfl) (by simp) ?_
          refine (AllReadyH.cons rfl (fun K hK => ?_) AllReadyH.nil)
          go_simp
          refine (l1Below_any g A n c bs _ _ 24 _ (H.blk 5 rfl) (H.oldN G.out NW.out) NE.out a3 b3 hn (by decide)).mono ?_
          rintro e u1 ⟨x9, rfl, x0, x1, _, C⟩
          obtain ⟨i9, h9, a9, b9, H'⟩ := H.cur 5 rfl C
          replace H := H'
          have x2 := x1 (by decide)
          clear C H' x1
          obtain ⟨xn, rfl⟩ : ∃ qq : Nat, x9 = qq := ⟨x9.toNat, (Int.toNat_of_nonneg x0).symm⟩
          go_wp2_with fail
          refine hK.out _ _ ?_ (fun hHeld => ?_)
          · exact H.bat 3 rfl (j := 1) rfl
          clear hK K
          try simp only [sA, sB, sC, Act.put, sD, sE, sF]
          refine wpAnyH_ready (rs := [5]) (by kernel_rfl) (by simp) ?_
          refine (AllReadyH.cons rfl (fun K hK => ?_) AllReadyH.nil)
          go_simp
          refine (l1Text_any g A n c bs _ _ 5 _ (H.blk 5 rfl) (H.oldN G.out NW.out) NE.out a9 b9 hn h50).mono ?_
          rintro e u2 ⟨tx, rfl, htx, C⟩
          obtain ⟨i4, h4, a4, b4, H'⟩ := H.cur 5 rfl C
          replace H := H'
          clear C H'
          go_wp2_with fail
          refine hK.out _ _ ?_ (fun hHeld => ?_)
          · exact H.bat 3 rfl (j := 1) rfl
          clear hK K
          try simp only [sA, sB, sC, Act.put, sD, sE, sF]
          refine wpAnyH_take (i := 6) (v := ?_) rfl (by kernel_rfl) (by kernel_rfl) (by kernel_rfl) (fun _ _ _ h => h) (Or.inl ⟨by kernel_rfl, ?_⟩) (by assumption) ?_
          rotate_left
          · (intro w hSw; (try dsimp only at hSw); go_simp; try (with_reducible rfl))
          try simp only [sA, sB, sC, Act.put, sD, sE, sF]
          refine wpAnyH_ready (rs := [7]) (by kernel_rfl) (by simp) ?_
          refine (AllReadyH.cons rfl (fun K hK => ?_) AllReadyH.nil)
          have hf := H.free 1 rfl xn
          obtain ⟨u, hu⟩ := at_some HSH.out.2.1 (Int.ofNat_lt.1 x2)
          have hcu := H.atM (f1 := Value.string) 1 rfl hu
          replace H := H.putM (f1 := Value.string) 1 rfl xn tx
          go_simp
          refine hK.out _ _ ?_ (fun hHeld => ?_)
          · exact H.bat 3 rfl (j := 1) rfl
          clear hK K
          try simp only [sA, sB, sC, Act.put, sD, sE, sF]
          refine wpAnyH_done (by kernel_rfl) ?_ _
          have HSZ := Lib.hid (show ∀ s ∈ data.set xn tx, s.size ≤ 10 from fun s hs => by
            rcases List.mem_or_eq_of_mem_set hs with h5 | rfl
            · have := HSH.out.2.2 s h5; omega
            · omega)
          go_wp2_with fail
          replace H := H.drew
          have z0 := H.bat 3 rfl (j := 0) rfl
          have z1 := H.bat 3 rfl (j := 1) rfl
          have z2 := H.bat 4 rfl (j := 0) rfl
          have z3 := H.bat 4 rfl (j := 1) rfl
          refine wp_region_held_drew (S := fun w' => w'.cell? ⟨g4, 0, none⟩ = some (.slice A1 24 c1) ∧ w'.cell? ⟨g4, 1, none⟩ = some (.slice (some ⟨gB, 0, none⟩) 24 d1) ∧ w'.cell? ⟨g5, 0, none⟩ = some (.int .i64 z) ∧ w'.cell? ⟨g5, 1, none⟩ = some (.slice E1 q r1)) (by kernel_rfl) ?_ (fun hHeld => ?_)
          · exact ⟨z0, z1, z2, z3⟩
          obtain ⟨u0, hu0⟩ : ∃ uu : World, uu = (u2.setCell ⟨gB, xn, none⟩ (.string tx)).drew := ⟨_, rfl⟩
          rw [← hu0] at H hHeld ⊢
          clear hu0
          refine wpAnyH_take (i := 0) (v := ?_) rfl (by kernel_rfl) (by kernel_rfl) (by kernel_rfl) (fun _ _ _ h => h) (Or.inl ⟨by kernel_rfl, ?_⟩) (by assumption) ?_
          rotate_left
          · (intro w hSw; (try dsimp only at hSw); go_simp; try (with_reducible rfl))
          try simp only [sA, sB, sC, Act.put, sD, sE, sF]
          refine wpAnyH_take (i := 1) (v := ?_) rfl (by kernel_rfl) (by kernel_rfl) (by kernel_rfl) (fun _ _ _ h => h) (Or.inl ⟨by kernel_rfl, ?_⟩) (by assumption) ?_
          rotate_left
          · (intro w hSw; (try dsimp only at hSw); go_simp; try (with_reducible rfl))
          try simp only [sA, sB, sC, Act.put, sD, sE, sF]
          refine wpAnyH_ready (rs := [2]) (by kernel_rfl) (by simp) ?_
          refine (AllReadyH.cons rfl (fun K hK => ?_) AllReadyH.nil)
          have e0 := H.bfree 7 rfl 0
          have e1 := H.bfree 7 rfl 1
          have s0 := H.bat 7 rfl (j := 0) rfl
          have s1 := H.bat 7 rfl (j := 1) rfl
          replace H := (H.bput 7 rfl 0 (.slice A1 24 c1)).bput 7 rfl 1 (.slice (some ⟨gB, 0, none⟩) 24 d1)
          go_simp
          refine hK.out _ _ ?_ (fun hHeld => ?_)
          · exact ⟨H.bat 3 rfl (j := 0) rfl, H.bat 3 rfl (j := 1) rfl, H.bat 4 rfl (j := 0) rfl, H.bat 4 rfl (j := 1) rfl⟩
          clear hK K
          try simp only [sA, sB, sC, Act.put, sD, sE, sF]
          refine wpAnyH_ready (rs := [3]) (by kernel_rfl) (by simp) ?_
          refine (AllReadyH.cons rfl (fun K hK => ?_) AllReadyH.nil)
          have e0 := H.bfree 6 rfl 0
          have e1 := H.bfree 6 rfl 1
          have s0 := H.bat 6 rfl (j := 0) rfl
          have s1 := H.bat 6 rfl (j := 1) rfl
          replace H := (H.bput 6 rfl 0 (.int .i64 z)).bput 6 rfl 1 (.slice E1 q r1)
          go_simp
          refine hK.out _ _ ?_ (fun hHeld => ?_)
          · exact ⟨H.bat 3 rfl (j := 0) rfl, H.bat 3 rfl (j := 1) rfl, H.bat 4 rfl (j := 0) rfl, H.bat 4 rfl (j := 1) rfl⟩
          clear hK K
          try simp only [sA, sB, sC, Act.put, sD, sE, sF]
          refine wpAnyH_done (by kernel_rfl) ?_ _
          have x1 := H.bat 7 rfl (j := 0) rfl
          have x2 := H.bat 7 rfl (j := 1) rfl
          have x3 := H.bat 6 rfl (j := 0) rfl
          have x4 := H.bat 6 rfl (j := 1) rfl
          have H7 := Lib.hid (H.reord [0, 1, 2, 5, 3, 4, 6, 7] (n := 8) rfl (by decide))
          clear H
          go_wp2_with fail
          refine bodyPost_ret (v := .tuple #[.agg #[.slice A1 24 c1, .slice (some ⟨gB, 0, none⟩) 24 d1], .agg #[.int .i64 z, .slice E1 q r1]]) (by simp [results, Try.results84, go_sem, x1, x2, x3, x4]) rfl ?_
          refine ⟨_, _, _, bits, _, _, (data.set xn tx), _, _, _, _, l, i4, h4, rfl, (by decide), HSZ.out, hq, a4, b4, ?_⟩
          exact H7.out.sub (.cons_cons _ (.cons_cons _ (.cons_cons _ (.cons_cons _ (List.nil_sublist _)))))
    · have hkk : (0 : Int) < (k : Int) := by omega
      go_wp2_with fail
      refine (l1Once_any g A n c bs i3 h3 3 _ (H.blk 5 rfl) (H.oldN G.out NW.out) NE.out a3 b3 hn (by decide)).mono ?_
      rintro e w4 ⟨x, rfl, C⟩
      obtain ⟨i4, h4, a4, b4, H'⟩ := H.cur 5 rfl C
      replace H := H'
      clear C H' a3 b3
      have hcA := own_nc (H.row 0 rfl)
      have hcB := own_nc (H.row 1 rfl)
      have hcE := own_nc (H.row 2 rfl)
      have hn24 : (24 : Nat) ≤ 1048576 := by decide
      have hq24 : q ≤ 1048576 := by omega
      have HSH0' := HSH
      have HL0 := HL
      have HZ4 := Lib.hid (show ∀ s ∈ data, s.size ≤ 1048576 from fun s hs => by have := HSH.out.2.2 s hs; omega)
      clear HSH HL
      cases x with
      | true =>
        go_wp2_with fail
        replace H := H.drew
        refine wp_joint (fun a a' w' => ∃ (xv : Int) (A2 : Option Addr) (c2 : Nat) (B2 : Option Addr) (d2 : Nat) (E2 : Option Addr) (q2 r2 : Nat) (i9 h9 : Int), 0 ≤ i9 ∧ i9 ≤ n ∧ (cutL bits data z l xv).length = q2 ∧ a' = (((((((((a.put (some 19) (.agg #[.slice A1 24 c1, .slice B1 24 d1])).put (some 20) (.agg #[.int .i64 z, .slice E1 q r1])).put (some 21) (.pointer (some ⟨g, 0, none⟩))).put (some 22) (.int .i64 xv)).put (some 23) (.tuple #[.agg #[.slice A2 24 c2, .slice B2 24 d2], .agg #[.int .i64 (cutZ bits data z l xv), .slice E2 q2 r2], .bool (cutOk bits data z l xv)])).put (some 18) (.tuple #[.agg #[.slice A2 24 c2, .slice B2 24 d2], .agg #[.int .i64 (cutZ bits data z l xv), .slice E2 q2 r2], .bool (cutOk bits data z l xv)])).put (some 24) (.agg #[.slice A2 24 c2, .slice B2 24 d2])).put (some 25) (.agg #[.int .i64 (cutZ bits data z l xv), .slice E2 q2 r2])).put (some 26) (.bool (cutOk bits data z l xv))) ∧
          Hp [g] w w' [.row 4 1 (.slice A2 24 c2) 24 ((cutBits bits data z l xv).map Value.bool), .row 9 1 (.slice B2 24 d2) 24 ((cutData bits data z l xv).map Value.string), .row 92 3 (.slice E2 q2 r2) q2 ((cutL bits data z l xv).flatMap cExt), .blk g4 31 [.slice A2 24 c2, .slice B2 24 d2], .blk g5 34 [.int .i64 (cutZ bits data z l xv), .slice E2 q2 r2],
      .blk g 109 [.slice A n c, .int .i64 i9, .int .i64 h9], .blk g3 34 [.int .i64 0, .slice none 0 0], .blk g2 31 [.slice none 0 0, .slice none 0 0]]) ?_ ?_
        ·
          refine wp_region_held_drew (S := fun _ => True) (by kernel_rfl) ?_ (fun hHeld => ?_)
          · exact trivial
          obtain ⟨u0, hu0⟩ : ∃ uu : World, uu = w4.drew := ⟨_, rfl⟩
          rw [← hu0] at H ⊢
          clear hu0
          refine wpAnyH_take (i := 2) (v := ?_) rfl (by kernel_rfl) (by kernel_rfl) (by kernel_rfl) (fun _ _ _ h => nomatch h.1) (Or.inl ⟨by kernel_rfl, ?_⟩) (by assumption) ?_
          rotate_left
          · (intro w hSw; (try dsimp only at hSw); go_simp; try (with_reducible rfl))
          try simp only [sA, sB, sC, Act.put, sD, sE, sF]
          refine wpAnyH_ready (rs := [0, 1, 3]) (by kernel_rfl) (by simp) ?_
          refine (AllReadyH.cons rfl (fun K hK => ?_) (AllReadyH.cons rfl (fun K hK => ?_) (AllReadyH.cons rfl (fun K hK => ?_) AllReadyH.nil)))
          · have z0 := H.bat 3 rfl (j := 0) rfl
            have z1 := H.bat 3 rfl (j := 1) rfl
            go_simp
            refine hK.out _ _ ?_ (fun hHeld => ?_)
            · exact trivial
            clear hK K
            try simp only [sA, sB, sC, Act.put, sD, sE, sF]
            refine wpAnyH_ready (rs := [1, 3]) (by kernel_rfl) (by simp) ?_
            refine (AllReadyH.cons rfl (fun K hK => ?_) (AllReadyH.cons rfl (fun K hK => ?_) AllReadyH.nil))
            · have z2 := H.bat 4 rfl (j := 0) rfl
              have z3 := H.bat 4 rfl (j := 1) rfl
              go_simp
              refine hK.out _ _ ?_ (fun hHeld => ?_)
              · exact trivial
              clear hK K
              try simp only [sA, sB, sC, Act.put, sD, sE, sF]
              refine wpAnyH_ready (rs := [3]) (by kernel_rfl) (by simp) ?_
              refine (AllReadyH.cons rfl (fun K hK => ?_) AllReadyH.nil)
              go_simp
              refine (l1Below_any g A n c bs _ _ 49 _ (H.blk 5 rfl) (H.oldN G.out NW.out) NE.out a4 b4 hn (by decide)).mono ?_
              rintro e u3 ⟨x9, rfl, x0, x1, _, C⟩
              obtain ⟨i9, h9, a9, b9, H'⟩ := H.cur 5 rfl C
              replace H := H'
              have x2 := x1 (by decide)
              clear C H' x1
              go_wp2_with fail
              refine hK.out _ _ ?_ (fun hHeld => ?_)
              · exact trivial
              clear hK K
              try simp only [sA, sB, sC, Act.put, sD, sE, sF]
              refine wpAnyH_ready (rs := [4]) (by kernel_rfl) (by simp) ?_
              refine (AllReadyH.cons rfl (fun K hK => ?_) AllReadyH.nil)
              go_simp
              refine (specFilCut_any A1 24 c1 bits B1 24 d1 data z E1 q r1 l x9 _ (H.rd 0 rfl) (H.rd 1 rfl) (H.rd 2 rfl) hcA hcB hcE hn24 hn24 HZ4.out hq24).mono ?_
              rintro e u4 ⟨A2, c2, B2, d2, E2, q2, r2, rfl, hq2, K⟩
              replace H := (((H.join K).reord [0, 1, 2, 6, 7, 8, 9, 10, 3, 4, 5] (n := 11) rfl (by decide)).sub (l' := [_, _, _, _, _, _, _, _]) (.cons_cons _ (.cons_cons _ (.cons_cons _ (.cons_cons _ (.cons_cons _ (.cons_cons _ (.cons_cons _ (.cons_cons _ (List.nil_sublist _))))))))))
              clear K
              go_wp2_with fail
              refine hK.out _ _ ?_ (fun hHeld => ?_)
              · exact trivial
              clear hK K
              try simp only [sA, sB, sC, Act.put, sD, sE, sF]
              refine wpAnyH_take (i := 5) (v := ?_) rfl (by kernel_rfl) (by kernel_rfl) (by kernel_rfl) (fun _ _ _ h => nomatch h.1) (Or.inl ⟨by kernel_rfl, ?_⟩) (by assumption) ?_
              rotate_left
              · (intro w hSw; (try dsimp only at hSw); go_simp; try (with_reducible rfl))
              try simp only [sA, sB, sC, Act.put, sD, sE, sF]
              refine wpAnyH_take (i := 6) (v := ?_) rfl (by kernel_rfl) (by kernel_rfl) (by kernel_rfl) (fun _ _ _ h => nomatch h.1) (Or.inl ⟨by kernel_rfl, ?_⟩) (by assumption) ?_
              rotate_left
              · (intro w hSw; (try dsimp only at hSw); go_simp; try (with_reducible rfl))
              try simp only [sA, sB, sC, Act.put, sD, sE, sF]
              refine wpAnyH_take (i := 7) (v := ?_) rfl (by kernel_rfl) (by kernel_rfl) (by kernel_rfl) (fun _ _ _ h => nomatch h.1) (Or.inl ⟨by kernel_rfl, ?_⟩) (by assumption) ?_
              rotate_left
              · (intro w hSw; (try dsimp only at hSw); go_simp; try (with_reducible rfl))
              try simp only [sA, sB, sC, Act.put, sD, sE, sF]
              refine wpAnyH_take (i := 8) (v := ?_) rfl (by kernel_rfl) (by kernel_rfl) (by kernel_rfl) (fun _ _ _ h => nomatch h.1) (Or.inl ⟨by kernel_rfl, ?_⟩) (by assumption) ?_
              rotate_left
              · (intro w hSw; (try dsimp only at hSw); go_simp; try (with_reducible rfl))
              try simp only [sA, sB, sC, Act.put, sD, sE, sF]
              refine wpAnyH_ready (rs := [9]) (by kernel_rfl) (by simp) ?_
              refine (AllReadyH.cons rfl (fun K hK => ?_) AllReadyH.nil)
              have e0 := H.bfree 3 rfl 0
              have e1 := H.bfree 3 rfl 1
              have s0 := H.bat 3 rfl (j := 0) rfl
              have s1 := H.bat 3 rfl (j := 1) rfl
              replace H := (H.bput 3 rfl 0 (.slice A2 24 c2)).bput 3 rfl 1 (.slice B2 24 d2)
              go_simp
              refine hK.out _ _ ?_ (fun hHeld => ?_)
              · exact trivial
              clear hK K
              try simp only [sA, sB, sC, Act.put, sD, sE, sF]
              refine wpAnyH_ready (rs := [10]) (by kernel_rfl) (by simp) ?_
              refine (AllReadyH.cons rfl (fun K hK => ?_) AllReadyH.nil)
              have e2 := H.bfree 4 rfl 0
              have e3 := H.bfree 4 rfl 1
              have s2 := H.bat 4 rfl (j := 0) rfl
              have s3 := H.bat 4 rfl (j := 1) rfl
              replace H := (H.bput 4 rfl 0 (.int .i64 (cutZ bits data z l x9))).bput 4 rfl 1 (.slice E2 q2 r2)
              go_simp
              refine hK.out _ _ ?_ (fun hHeld => ?_)
              · exact trivial
              clear hK K
              try simp only [sA, sB, sC, Act.put, sD, sE, sF]
              refine wpAnyH_done (by kernel_rfl) ?_ _
              exact ⟨rfl, x9, A2, c2, B2, d2, E2, q2, r2, i9, h9, a9, b9, hq2, rfl, H⟩
            · go_simp
              refine (l1Below_any g A n c bs _ _ 49 _ (H.blk 5 rfl) (H.oldN G.out NW.out) NE.out a4 b4 hn (by decide)).mono ?_
              rintro e u2 ⟨x9, rfl, x0, x1, _, C⟩
              obtain ⟨i9, h9, a9, b9, H'⟩ := H.cur 5 rfl C
              replace H := H'
              have x2 := x1 (by decide)
              clear C H' x1
              go_wp2_with fail
              refine hK.out _ _ ?_ (fun hHeld => ?_)
              · exact trivial
              clear hK K
              try simp only [sA, sB, sC, Act.put, sD, sE, sF]
              refine wpAnyH_ready (rs := [1]) (by kernel_rfl) (by simp) ?_
              refine (AllReadyH.cons rfl (fun K hK => ?_) AllReadyH.nil)
              have z2 := H.bat 4 rfl (j := 0) rfl
              have z3 := H.bat 4 rfl (j := 1) rfl
              go_simp
              refine hK.out _ _ ?_ (fun hHeld => ?_)
              · exact trivial
              clear hK K
              try simp only [sA, sB, sC, Act.put, sD, sE, sF]
              refine wpAnyH_ready (rs := [4]) (by kernel_rfl) (by simp) ?_
              refine (AllReadyH.cons rfl (fun K hK => ?_) AllReadyH.nil)
              go_simp
              refine (specFilCut_any A1 24 c1 bits B1 24 d1 data z E1 q r1 l x9 _ (H.rd 0 rfl) (H.rd 1 rfl) (H.rd 2 rfl) hcA hcB hcE hn24 hn24 HZ4.out hq24).mono ?_
              rintro e u4 ⟨A2, c2, B2, d2, E2, q2, r2, rfl, hq2, K⟩
              replace H := (((H.join K).reord [0, 1, 2, 6, 7, 8, 9, 10, 3, 4, 5] (n := 11) rfl (by decide)).sub (l' := [_, _, _, _, _, _, _, _]) (.cons_cons _ (.cons_cons _ (.cons_cons _ (.cons_cons _ (.cons_cons _ (.cons_cons _ (.cons_cons _ (.cons_cons _ (List.nil_sublist _))))))))))
              clear K
              go_wp2_with fail
              refine hK.out _ _ ?_ (fun hHeld => ?_)
              · exact trivial
              clear hK K
              try simp only [sA, sB, sC, Act.put, sD, sE, sF]
              refine wpAnyH_take (i := 5) (v := ?_) rfl (by kernel_rfl) (by kernel_rfl) (by kernel_rfl) (fun _ _ _ h => nomatch h.1) (Or.inl ⟨by kernel_rfl, ?_⟩) (by assumption) ?_
              rotate_left
              · (intro w hSw; (try dsimp only at hSw); go_simp; try (with_reducible rfl))
              try simp only [sA, sB, sC, Act.put, sD, sE, sF]
              refine wpAnyH_take (i := 6) (v := ?_) rfl (by kernel_rfl) (by kernel_rfl) (by kernel_rfl) (fun _ _ _ h => nomatch h.1) (Or.inl ⟨by kernel_rfl, ?_⟩) (by assumption) ?_
              rotate_left
              · (intro w hSw; (try dsimp only at hSw); go_simp; try (with_reducible rfl))
              try simp only [sA, sB, sC, Act.put, sD, sE, sF]
              refine wpAnyH_take (i := 7) (v := ?_) rfl (by kernel_rfl) (by kernel_rfl) (by kernel_rfl) (fun _ _ _ h => nomatch h.1) (Or.inl ⟨by kernel_rfl, ?_⟩) (by assumption) ?_
              rotate_left
              · (intro w hSw; (try dsimp only at hSw); go_simp; try (with_reducible rfl))
              try simp only [sA, sB, sC, Act.put, sD, sE, sF]
              refine wpAnyH_take (i := 8) (v := ?_) rfl (by kernel_rfl) (by kernel_rfl) (by kernel_rfl) (fun _ _ _ h => nomatch h.1) (Or.inl ⟨by kernel_rfl, ?_⟩) (by assumption) ?_
              rotate_left
              · (intro w hSw; (try dsimp only at hSw); go_simp; try (with_reducible rfl))
              try simp only [sA, sB, sC, Act.put, sD, sE, sF]
              refine wpAnyH_ready (rs := [9]) (by kernel_rfl) (by simp) ?_
              refine (AllReadyH.cons rfl (fun K hK => ?_) AllReadyH.nil)
              have e0 := H.bfree 3 rfl 0
              have e1 := H.bfree 3 rfl 1
              have s0 := H.bat 3 rfl (j := 0) rfl
              have s1 := H.bat 3 rfl (j := 1) rfl
              replace H := (H.bput 3 rfl 0 (.slice A2 24 c2)).bput 3 rfl 1 (.slice B2 24 d2)
              go_simp
              refine hK.out _ _ ?_ (fun hHeld => ?_)
              · exact trivial
              clear hK K
              try simp only [sA, sB, sC, Act.put, sD, sE, sF]
              refine wpAnyH_ready (rs := [10]) (by kernel_rfl) (by simp) ?_
              refine (AllReadyH.cons rfl (fun K hK => ?_) AllReadyH.nil)
              have e2 := H.bfree 4 rfl 0
              have e3 := H.bfree 4 rfl 1
              have s2 := H.bat 4 rfl (j := 0) rfl
              have s3 := H.bat 4 rfl (j := 1) rfl
              replace H := (H.bput 4 rfl 0 (.int .i64 (cutZ bits data z l x9))).bput 4 rfl 1 (.slice E2 q2 r2)
              go_simp
              refine hK.out _ _ ?_ (fun hHeld => ?_)
              · exact trivial
              clear hK K
              try simp only [sA, sB, sC, Act.put, sD, sE, sF]
              refine wpAnyH_done (by kernel_rfl) ?_ _
              exact ⟨rfl, x9, A2, c2, B2, d2, E2, q2, r2, i9, h9, a9, b9, hq2, rfl, H⟩
          · have z2 := H.bat 4 rfl (j := 0) rfl
            have z3 := H.bat 4 rfl (j := 1) rfl
            go_simp
            refine hK.out _ _ ?_ (fun hHeld => ?_)
            · exact trivial
            clear hK K
            try simp only [sA, sB, sC, Act.put, sD, sE, sF]
            refine wpAnyH_ready (rs := [0, 3]) (by kernel_rfl) (by simp) ?_
            refine (AllReadyH.cons rfl (fun K hK => ?_) (AllReadyH.cons rfl (fun K hK => ?_) AllReadyH.nil))
            · have z0 := H.bat 3 rfl (j := 0) rfl
              have z1 := H.bat 3 rfl (j := 1) rfl
              go_simp
              refine hK.out _ _ ?_ (fun hHeld => ?_)
              · exact trivial
              clear hK K
              try simp only [sA, sB, sC, Act.put, sD, sE, sF]
              refine wpAnyH_ready (rs := [3]) (by kernel_rfl) (by simp) ?_
              refine (AllReadyH.cons rfl (fun K hK => ?_) AllReadyH.nil)
              go_simp
              refine (l1Below_any g A n c bs _ _ 49 _ (H.blk 5 rfl) (H.oldN G.out NW.out) NE.out a4 b4 hn (by decide)).mono ?_
              rintro e u3 ⟨x9, rfl, x0, x1, _, C⟩
              obtain ⟨i9, h9, a9, b9, H'⟩ := H.cur 5 rfl C
              replace H := H'
              have x2 := x1 (by decide)
              clear C H' x1
              go_wp2_with fail
              refine hK.out _ _ ?_ (fun hHeld => ?_)
              · exact trivial
              clear hK K
              try simp only [sA, sB, sC, Act.put, sD, sE, sF]
              refine wpAnyH_ready (rs := [4]) (by kernel_rfl) (by simp) ?_
              refine (AllReadyH.cons rfl (fun K hK => ?_) AllReadyH.nil)
              go_simp
              refine (specFilCut_any A1 24 c1 bits B1 24 d1 data z E1 q r1 l x9 _ (H.rd 0 rfl) (H.rd 1 rfl) (H.rd 2 rfl) hcA hcB hcE hn24 hn24 HZ4.out hq24).mono ?_
              rintro e u4 ⟨A2, c2, B2, d2, E2, q2, r2, rfl, hq2, K⟩
              replace H := (((H.join K).reord [0, 1, 2, 6, 7, 8, 9, 10, 3, 4, 5] (n := 11) rfl (by decide)).sub (l' := [_, _, _, _, _, _, _, _]) (.cons_cons _ (.cons_cons _ (.cons_cons _ (.cons_cons _ (.cons_cons _ (.cons_cons _ (.cons_cons _ (.cons_cons _ (List.nil_sublist _))))))))))
              clear K
              go_wp2_with fail
              refine hK.out _ _ ?_ (fun hHeld => ?_)
              · exact trivial
              clear hK K
              try simp only [sA, sB, sC, Act.put, sD, sE, sF]
              refine wpAnyH_take (i := 5) (v := ?_) rfl (by kernel_rfl) (by kernel_rfl) (by kernel_rfl) (fun _ _ _ h => nomatch h.1) (Or.inl ⟨by kernel_rfl, ?_⟩) (by assumption) ?_
              rotate_left
              · (intro w hSw; (try dsimp only at hSw); go_simp; try (with_reducible rfl))
              try simp only [sA, sB, sC, Act.put, sD, sE, sF]
              refine wpAnyH_take (i := 6) (v := ?_) rfl (by kernel_rfl) (by kernel_rfl) (by kernel_rfl) (fun _ _ _ h => nomatch h.1) (Or.inl ⟨by kernel_rfl, ?_⟩) (by assumption) ?_
              rotate_left
              · (intro w hSw; (try dsimp only at hSw); go_simp; try (with_reducible rfl))
              try simp only [sA, sB, sC, Act.put, sD, sE, sF]
              refine wpAnyH_take (i := 7) (v := ?_) rfl (by kernel_rfl) (by kernel_rfl) (by kernel_rfl) (fun _ _ _ h => nomatch h.1) (Or.inl ⟨by kernel_rfl, ?_⟩) (by assumption) ?_
              rotate_left
              · (intro w hSw; (try dsimp only at hSw); go_simp; try (with_reducible rfl))
              try simp only [sA, sB, sC, Act.put, sD, sE, sF]
              refine wpAnyH_take (i := 8) (v := ?_) rfl (by kernel_rfl) (by kernel_rfl) (by kernel_rfl) (fun _ _ _ h => nomatch h.1) (Or.inl ⟨by kernel_rfl, ?_⟩) (by assumption) ?_
              rotate_left
              · (intro w hSw; (try dsimp only at hSw); go_simp; try (with_reducible rfl))
              try simp only [sA, sB, sC, Act.put, sD, sE, sF]
              refine wpAnyH_ready (rs := [9]) (by kernel_rfl) (by simp) ?_
              refine (AllReadyH.cons rfl (fun K hK => ?_) AllReadyH.nil)
              have e0 := H.bfree 3 rfl 0
              have e1 := H.bfree 3 rfl 1
              have s0 := H.bat 3 rfl (j := 0) rfl
              have s1 := H.bat 3 rfl (j := 1) rfl
              replace H := (H.bput 3 rfl 0 (.slice A2 24 c2)).bput 3 rfl 1 (.slice B2 24 d2)
              go_simp
              refine hK.out _ _ ?_ (fun hHeld => ?_)
              · exact trivial
              clear hK K
              try simp only [sA, sB, sC, Act.put, sD, sE, sF]
              refine wpAnyH_ready (rs := [10]) (by kernel_rfl) (by simp) ?_
              refine (AllReadyH.cons rfl (fun K hK => ?_) AllReadyH.nil)
              have e2 := H.bfree 4 rfl 0
              have e3 := H.bfree 4 rfl 1
              have s2 := H.bat 4 rfl (j := 0) rfl
              have s3 := H.bat 4 rfl (j := 1) rfl
              replace H := (H.bput 4 rfl 0 (.int .i64 (cutZ bits data z l x9))).bput 4 rfl 1 (.slice E2 q2 r2)
              go_simp
              refine hK.out _ _ ?_ (fun hHeld => ?_)
              · exact trivial
              clear hK K
              try simp only [sA, sB, sC, Act.put, sD, sE, sF]
              refine wpAnyH_done (by kernel_rfl) ?_ _
              exact ⟨rfl, x9, A2, c2, B2, d2, E2, q2, r2, i9, h9, a9, b9, hq2, rfl, H⟩
            · go_simp
              refine (l1Below_any g A n c bs _ _ 49 _ (H.blk 5 rfl) (H.oldN G.out NW.out) NE.out a4 b4 hn (by decide)).mono ?_
              rintro e u2 ⟨x9, rfl, x0, x1, _, C⟩
              obtain ⟨i9, h9, a9, b9, H'⟩ := H.cur 5 rfl C
              replace H := H'
              have x2 := x1 (by decide)
              clear C H' x1
              go_wp2_with fail
              refine hK.out _ _ ?_ (fun hHeld => ?_)
              · exact trivial
              clear hK K
              try simp only [sA, sB, sC, Act.put, sD, sE, sF]
              refine wpAnyH_ready (rs := [0]) (by kernel_rfl) (by simp) ?_
              refine (AllReadyH.cons rfl (fun K hK => ?_) AllReadyH.nil)
              have z0 := H.bat 3 rfl (j := 0) rfl
              have z1 := H.bat 3 rfl (j := 1) rfl
              go_simp
              refine hK.out _ _ ?_ (fun hHeld => ?_)
              · exact trivial
              clear hK K
              try simp only [sA, sB, sC, Act.put, sD, sE, sF]
              refine wpAnyH_ready (rs := [4]) (by kernel_rfl) (by simp) ?_
              refine (AllReadyH.cons rfl (fun K hK => ?_) AllReadyH.nil)
              go_simp
              refine (specFilCut_any A1 24 c1 bits B1 24 d1 data z E1 q r1 l x9 _ (H.rd 0 rfl) (H.rd 1 rfl) (H.rd 2 rfl) hcA hcB hcE hn24 hn24 HZ4.out hq24).mono ?_
              rintro e u4 ⟨A2, c2, B2, d2, E2, q2, r2, rfl, hq2, K⟩
              replace H := (((H.join K).reord [0, 1, 2, 6, 7, 8, 9, 10, 3, 4, 5] (n := 11) rfl (by decide)).sub (l' := [_, _, _, _, _, _, _, _]) (.cons_cons _ (.cons_cons _ (.cons_cons _ (.cons_cons _ (.cons_cons _ (.cons_cons _ (.cons_cons _ (.cons_cons _ (List.nil_sublist _))))))))))
              clear K
              go_wp2_with fail
              refine hK.out _ _ ?_ (fun hHeld => ?_)
              · exact trivial
              clear hK K
              try simp only [sA, sB, sC, Act.put, sD, sE, sF]
              refine wpAnyH_take (i := 5) (v := ?_) rfl (by kernel_rfl) (by kernel_rfl) (by kernel_rfl) (fun _ _ _ h => nomatch h.1) (Or.inl ⟨by kernel_rfl, ?_⟩) (by assumption) ?_
              rotate_left
              · (intro w hSw; (try dsimp only at hSw); go_simp; try (with_reducible rfl))
              try simp only [sA, sB, sC, Act.put, sD, sE, sF]
              refine wpAnyH_take (i := 6) (v := ?_) rfl (by kernel_rfl) (by kernel_rfl) (by kernel_rfl) (fun _ _ _ h => nomatch h.1) (Or.inl ⟨by kernel_rfl, ?_⟩) (by assumption) ?_
              rotate_left
              · (intro w hSw; (try dsimp only at hSw); go_simp; try (with_reducible rfl))
              try simp only [sA, sB, sC, Act.put, sD, sE, sF]
              refine wpAnyH_take (i := 7) (v := ?_) rfl (by kernel_rfl) (by kernel_rfl) (by kernel_rfl) (fun _ _ _ h => nomatch h.1) (Or.inl ⟨by kernel_rfl, ?_⟩) (by assumption) ?_
              rotate_left
              · (intro w hSw; (try dsimp only at hSw); go_simp; try (with_reducible rfl))
              try simp only [sA, sB, sC, Act.put, sD, sE, sF]
              refine wpAnyH_take (i := 8) (v := ?_) rfl (by kernel_rfl) (by kernel_rfl) (by kernel_rfl) (fun _ _ _ h => nomatch h.1) (Or.inl ⟨by kernel_rfl, ?_⟩) (by assumption) ?_
              rotate_left
              · (intro w hSw; (try dsimp only at hSw); go_simp; try (with_reducible rfl))
              try simp only [sA, sB, sC, Act.put, sD, sE, sF]
              refine wpAnyH_ready (rs := [9]) (by kernel_rfl) (by simp) ?_
              refine (AllReadyH.cons rfl (fun K hK => ?_) AllReadyH.nil)
              have e0 := H.bfree 3 rfl 0
              have e1 := H.bfree 3 rfl 1
              have s0 := H.bat 3 rfl (j := 0) rfl
              have s1 := H.bat 3 rfl (j := 1) rfl
              replace H := (H.bput 3 rfl 0 (.slice A2 24 c2)).bput 3 rfl 1 (.slice B2 24 d2)
              go_simp
              refine hK.out _ _ ?_ (fun hHeld => ?_)
              · exact trivial
              clear hK K
              try simp only [sA, sB, sC, Act.put, sD, sE, sF]
              refine wpAnyH_ready (rs := [10]) (by kernel_rfl) (by simp) ?_
              refine (AllReadyH.cons rfl (fun K hK => ?_) AllReadyH.nil)
              have e2 := H.bfree 4 rfl 0
              have e3 := H.bfree 4 rfl 1
              have s2 := H.bat 4 rfl (j := 0) rfl
              have s3 := H.bat 4 rfl (j := 1) rfl
              replace H := (H.bput 4 rfl 0 (.int .i64 (cutZ bits data z l x9))).bput 4 rfl 1 (.slice E2 q2 r2)
              go_simp
              refine hK.out _ _ ?_ (fun hHeld => ?_)
              · exact trivial
              clear hK K
              try simp only [sA, sB, sC, Act.put, sD, sE, sF]
              refine wpAnyH_done (by kernel_rfl) ?_ _
              exact ⟨rfl, x9, A2, c2, B2, d2, E2, q2, r2, i9, h9, a9, b9, hq2, rfl, H⟩
          · go_simp
            refine (l1Below_any g A n c bs _ _ 49 _ (H.blk 5 rfl) (H.oldN G.out NW.out) NE.out a4 b4 hn (by decide)).mono ?_
            rintro e u1 ⟨x9, rfl, x0, x1, _, C⟩
            obtain ⟨i9, h9, a9, b9, H'⟩ := H.cur 5 rfl C
            replace H := H'
            have x2 := x1 (by decide)
            clear C H' x1
            go_wp2_with fail
            refine hK.out _ _ ?_ (fun hHeld => ?_)
            · exact trivial
            clear hK K
            try simp only [sA, sB, sC, Act.put, sD, sE, sF]
            refine wpAnyH_ready (rs := [0, 1]) (by kernel_rfl) (by simp) ?_
            refine (AllReadyH.cons rfl (fun K hK => ?_) (AllReadyH.cons rfl (fun K hK => ?_) AllReadyH.nil))
            · have z0 := H.bat 3 rfl (j := 0) rfl
              have z1 := H.bat 3 rfl (j := 1) rfl
              go_simp
              refine hK.out _ _ ?_ (fun hHeld => ?_)
              · exact trivial
              clear hK K
              try simp only [sA, sB, sC, Act.put, sD, sE, sF]
              refine wpAnyH_ready (rs := [1]) (by kernel_rfl) (by simp) ?_
              refine (AllReadyH.cons rfl (fun K hK => ?_) AllReadyH.nil)
              have z2 := H.bat 4 rfl (j := 0) rfl
              have z3 := H.bat 4 rfl (j := 1) rfl
              go_simp
              refine hK.out _ _ ?_ (fun hHeld => ?_)
              · exact trivial
              clear hK K
              try simp only [sA, sB, sC, Act.put, sD, sE, sF]
              refine wpAnyH_ready (rs := [4]) (by kernel_rfl) (by simp) ?_
              refine (AllReadyH.cons rfl (fun K hK => ?_) AllReadyH.nil)
              go_simp
              refine (specFilCut_any A1 24 c1 bits B1 24 d1 data z E1 q r1 l x9 _ (H.rd 0 rfl) (H.rd 1 rfl) (H.rd 2 rfl) hcA hcB hcE hn24 hn24 HZ4.out hq24).mono ?_
              rintro e u4 ⟨A2, c2, B2, d2, E2, q2, r2, rfl, hq2, K⟩
              replace H := (((H.join K).reord [0, 1, 2, 6, 7, 8, 9, 10, 3, 4, 5] (n := 11) rfl (by decide)).sub (l' := [_, _, _, _, _, _, _, _]) (.cons_cons _ (.cons_cons _ (.cons_cons _ (.cons_cons _ (.cons_cons _ (.cons_cons _ (.cons_cons _ (.cons_cons _ (List.nil_sublist _))))))))))
              clear K
              go_wp2_with fail
              refine hK.out _ _ ?_ (fun hHeld => ?_)
              · exact trivial
              clear hK K
              try simp only [sA, sB, sC, Act.put, sD, sE, sF]
              refine wpAnyH_take (i := 5) (v := ?_) rfl (by kernel_rfl) (by kernel_rfl) (by kernel_rfl) (fun _ _ _ h => nomatch h.1) (Or.inl ⟨by kernel_rfl, ?_⟩) (by assumption) ?_
              rotate_left
              · (intro w hSw; (try dsimp only at hSw); go_simp; try (with_reducible rfl))
              try simp only [sA, sB, sC, Act.put, sD, sE, sF]
              refine wpAnyH_take (i := 6) (v := ?_) rfl (by kernel_rfl) (by kernel_rfl) (by kernel_rfl) (fun _ _ _ h => nomatch h.1) (Or.inl ⟨by kernel_rfl, ?_⟩) (by assumption) ?_
              rotate_left
              · (intro w hSw; (try dsimp only at hSw); go_simp; try (with_reducible rfl))
              try simp only [sA, sB, sC, Act.put, sD, sE, sF]
              refine wpAnyH_take (i := 7) (v := ?_) rfl (by kernel_rfl) (by kernel_rfl) (by kernel_rfl) (fun _ _ _ h => nomatch h.1) (Or.inl ⟨by kernel_rfl, ?_⟩) (by assumption) ?_
              rotate_left
              · (intro w hSw; (try dsimp only at hSw); go_simp; try (with_reducible rfl))
              try simp only [sA, sB, sC, Act.put, sD, sE, sF]
              refine wpAnyH_take (i := 8) (v := ?_) rfl (by kernel_rfl) (by kernel_rfl) (by kernel_rfl) (fun _ _ _ h => nomatch h.1) (Or.inl ⟨by kernel_rfl, ?_⟩) (by assumption) ?_
              rotate_left
              · (intro w hSw; (try dsimp only at hSw); go_simp; try (with_reducible rfl))
              try simp only [sA, sB, sC, Act.put, sD, sE, sF]
              refine wpAnyH_ready (rs := [9]) (by kernel_rfl) (by simp) ?_
              refine (AllReadyH.cons rfl (fun K hK => ?_) AllReadyH.nil)
              have e0 := H.bfree 3 rfl 0
              have e1 := H.bfree 3 rfl 1
              have s0 := H.bat 3 rfl (j := 0) rfl
              have s1 := H.bat 3 rfl (j := 1) rfl
              replace H := (H.bput 3 rfl 0 (.slice A2 24 c2)).bput 3 rfl 1 (.slice B2 24 d2)
              go_simp
              refine hK.out _ _ ?_ (fun hHeld => ?_)
              · exact trivial
              clear hK K
              try simp only [sA, sB, sC, Act.put, sD, sE, sF]
              refine wpAnyH_ready (rs := [10]) (by kernel_rfl) (by simp) ?_
              refine (AllReadyH.cons rfl (fun K hK => ?_) AllReadyH.nil)
              have e2 := H.bfree 4 rfl 0
              have e3 := H.bfree 4 rfl 1
              have s2 := H.bat 4 rfl (j := 0) rfl
              have s3 := H.bat 4 rfl (j := 1) rfl
              replace H := (H.bput 4 rfl 0 (.int .i64 (cutZ bits data z l x9))).bput 4 rfl 1 (.slice E2 q2 r2)
              go_simp
              refine hK.out _ _ ?_ (fun hHeld => ?_)
              · exact trivial
              clear hK K
              try simp only [sA, sB, sC, Act.put, sD, sE, sF]
              refine wpAnyH_done (by kernel_rfl) ?_ _
              exact ⟨rfl, x9, A2, c2, B2, d2, E2, q2, r2, i9, h9, a9, b9, hq2, rfl, H⟩
            · have z2 := H.bat 4 rfl (j := 0) rfl
              have z3 := H.bat 4 rfl (j := 1) rfl
              go_simp
              refine hK.out _ _ ?_ (fun hHeld => ?_)
              · exact trivial
              clear hK K
              try simp only [sA, sB, sC, Act.put, sD, sE, sF]
              refine wpAnyH_ready (rs := [0]) (by kernel_rfl) (by simp) ?_
              refine (AllReadyH.cons rfl (fun K hK => ?_) AllReadyH.nil)
              have z0 := H.bat 3 rfl (j := 0) rfl
              have z1 := H.bat 3 rfl (j := 1) rfl
              go_simp
              refine hK.out _ _ ?_ (fun hHeld => ?_)
              · exact trivial
              clear hK K
              try simp only [sA, sB, sC, Act.put, sD, sE, sF]
              refine wpAnyH_ready (rs := [4]) (by kernel_rfl) (by simp) ?_
              refine (AllReadyH.cons rfl (fun K hK => ?_) AllReadyH.nil)
              go_simp
              refine (specFilCut_any A1 24 c1 bits B1 24 d1 data z E1 q r1 l x9 _ (H.rd 0 rfl) (H.rd 1 rfl) (H.rd 2 rfl) hcA hcB hcE hn24 hn24 HZ4.out hq24).mono ?_
              rintro e u4 ⟨A2, c2, B2, d2, E2, q2, r2, rfl, hq2, K⟩
              replace H := (((H.join K).reord [0, 1, 2, 6, 7, 8, 9, 10, 3, 4, 5] (n := 11) rfl (by decide)).sub (l' := [_, _, _, _, _, _, _, _]) (.cons_cons _ (.cons_cons _ (.cons_cons _ (.cons_cons _ (.cons_cons _ (.cons_cons _ (.cons_cons _ (.cons_cons _ (List.nil_sublist _))))))))))
              clear K
              go_wp2_with fail
              refine hK.out _ _ ?_ (fun hHeld => ?_)
              · exact trivial
              clear hK K
              try simp only [sA, sB, sC, Act.put, sD, sE, sF]
              refine wpAnyH_take (i := 5) (v := ?_) rfl (by kernel_rfl) (by kernel_rfl) (by kernel_rfl) (fun _ _ _ h => nomatch h.1) (Or.inl ⟨by kernel_rfl, ?_⟩) (by assumption) ?_
              rotate_left
              · (intro w hSw; (try dsimp only at hSw); go_simp; try (with_reducible rfl))
              try simp only [sA, sB, sC, Act.put, sD, sE, sF]
              refine wpAnyH_take (i := 6) (v := ?_) rfl (by kernel_rfl) (by kernel_rfl) (by kernel_rfl) (fun _ _ _ h => nomatch h.1) (Or.inl ⟨by kernel_rfl, ?_⟩) (by assumption) ?_
              rotate_left
              · (intro w hSw; (try dsimp only at hSw); go_simp; try (with_reducible rfl))
              try simp only [sA, sB, sC, Act.put, sD, sE, sF]
              refine wpAnyH_take (i := 7) (v := ?_) rfl (by kernel_rfl) (by kernel_rfl) (by kernel_rfl) (fun _ _ _ h => nomatch h.1) (Or.inl ⟨by kernel_rfl, ?_⟩) (by assumption) ?_
              rotate_left
              · (intro w hSw; (try dsimp only at hSw); go_simp; try (with_reducible rfl))
              try simp only [sA, sB, sC, Act.put, sD, sE, sF]
              refine wpAnyH_take (i := 8) (v := ?_) rfl (by kernel_rfl) (by kernel_rfl) (by kernel_rfl) (fun _ _ _ h => nomatch h.1) (Or.inl ⟨by kernel_rfl, ?_⟩) (by assumption) ?_
              rotate_left
              · (intro w hSw; (try dsimp only at hSw); go_simp; try (with_reducible rfl))
              try simp only [sA, sB, sC, Act.put, sD, sE, sF]
              refine wpAnyH_ready (rs := [9]) (by kernel_rfl) (by simp) ?_
              refine (AllReadyH.cons rfl (fun K hK => ?_) AllReadyH.nil)
              have e0 := H.bfree 3 rfl 0
              have e1 := H.bfree 3 rfl 1
              have s0 := H.bat 3 rfl (j := 0) rfl
              have s1 := H.bat 3 rfl (j := 1) rfl
              replace H := (H.bput 3 rfl 0 (.slice A2 24 c2)).bput 3 rfl 1 (.slice B2 24 d2)
              go_simp
              refine hK.out _ _ ?_ (fun hHeld => ?_)
              · exact trivial
              clear hK K
              try simp only [sA, sB, sC, Act.put, sD, sE, sF]
              refine wpAnyH_ready (rs := [10]) (by kernel_rfl) (by simp) ?_
              refine (AllReadyH.cons rfl (fun K hK => ?_) AllReadyH.nil)
              have e2 := H.bfree 4 rfl 0
              have e3 := H.bfree 4 rfl 1
              have s2 := H.bat 4 rfl (j := 0) rfl
              have s3 := H.bat 4 rfl (j := 1) rfl
              replace H := (H.bput 4 rfl 0 (.int .i64 (cutZ bits data z l x9))).bput 4 rfl 1 (.slice E2 q2 r2)
              go_simp
              refine hK.out _ _ ?_ (fun hHeld => ?_)
              · exact trivial
              clear hK K
              try simp only [sA, sB, sC, Act.put, sD, sE, sF]
              refine wpAnyH_done (by kernel_rfl) ?_ _
              exact ⟨rfl, x9, A2, c2, B2, d2, E2, q2, r2, i9, h9, a9, b9, hq2, rfl, H⟩
        clear H a4 b4
        rintro a' w5 ⟨xv, A2, c2, B2, d2, E2, q2, r2, i4, h4, a4, b4, hq2, rfl, H⟩
        simp only [List.getElem_toArray, List.getElem_cons_succ, List.getElem_cons_zero, Act.put, List.setIfInBounds_toArray, List.set_cons_zero, List.set_cons_succ]
        have HL := Lib.hid hq2
        have hq2' : q2 ≤ 12 := by rw [← hq2]; exact cut_len (by rw [HL0.out]; exact hq)
        have HSH := Lib.hid (cut_sh (z := z) (l := l) (size := xv) HSH0'.out)
        clear hq2
        go_wp2_with fail
        refine (l1Once_any g A n c bs _ _ 4 _ (H.blk 5 rfl) (H.oldN G.out NW.out) NE.out a4 b4 hn (by decide)).mono ?_
        rintro e w6 ⟨x, rfl, C⟩
        obtain ⟨i6, h6, a3, b3, H'⟩ := H.cur 5 rfl C
        replace H := H'
        clear C H'
        have hkv : IntKind.i64.wrap ((k : Int) - 1) = ((k - 1 : Nat) : Int) := by rw [IntWalk.i64_in _ (by omega)]; omega
        have HKV := Lib.hid (show (Value.int .i64 ((k - 1 : Nat) : Int)) = Value.int .i64 ((k - 1 : Nat) : Int) from rfl)
        cases x with
        | false =>
          have HH := Lib.hid H
          clear H
          go_wp2_with fail
          go_roundw
          case rel => exact ⟨k - 1, (cutBits bits data z l xv), (cutData bits data z l xv), (cutZ bits data z l xv), (cutL bits data z l xv), A2, c2, B2, d2, E2, q2, r2, i6, h6, by go_num, by omega, HSH.out, HL.out, hq2', a3, b3, HH.out⟩
          case measure => simp [intOf]; omega
        | true =>
          go_wp2_with fail
          replace H := H.drew
          obtain ⟨gA, cA, e, _⟩ := H.form 0 rfl (by decide)
          injection e with e1 _ e2
          subst e1 e2
          refine wp_region_held_drew (S := fun w' => w'.cell? ⟨g4, 0, none⟩ = some (.slice (some ⟨gA, 0, none⟩) 24 c2)) (by kernel_rfl) ?_ (fun hHeld => ?_)
          · exact H.bat 3 rfl (j := 0) rfl
          obtain ⟨u0, hu0⟩ : ∃ uu : World, uu = w6.drew := ⟨_, rfl⟩
          rw [← hu0] at H hHeld ⊢
          clear hu0
          refine wpAnyH_take (i := 0) (v := ?_) rfl (by kernel_rfl) (by kernel_rfl) (by kernel_rfl) (fun _ _ _ h => h) (Or.inl ⟨by kernel_rfl, ?_⟩) (by assumption) ?_
          rotate_left
          · (intro w hSw; (try dsimp only at hSw); go_simp; try (with_reducible rfl))
          try simp only [sA, sB, sC, Act.put, sD, sE, sF]
          refine wpAnyH_take (i := 1) (v := ?_) rfl (by kernel_rfl) (by kernel_rfl) (by kernel_rfl) (fun _ _ _ h => h) (Or.inl ⟨by kernel_rfl, ?_⟩) (by assumption) ?_
          rotate_left
          · (intro w hSw; (try dsimp only at hSw); go_simp; try (with_reducible rfl))
          try simp only [sA, sB, sC, Act.put, sD, sE, sF]
          refine wpAnyH_take (i := 2) (v := ?_) rfl (by kernel_rfl) (by kernel_rfl) (by kernel_rfl) (fun _ _ _ h => h) (Or.inl ⟨by kernel_rfl, ?_⟩) (by assumption) ?_
          rotate_left
          · (intro w hSw; (try dsimp only at hSw); go_simp; try (with_reducible rfl))
          try simp only [sA, sB, sC, Act.put, sD, sE, sF]
          refine wpAnyH_ready (rs := [3]) (by kernel_rfl) (by simp) ?_
          refine (AllReadyH.cons rfl (fun K hK => ?_) AllReadyH.nil)
          go_simp
          refine (l1Below_any g A n c bs _ _ 24 _ (H.blk 5 rfl) (H.oldN G.out NW.out) NE.out a3 b3 hn (by decide)).mono ?_
          rintro e u1 ⟨x9, rfl, x0, x1, _, C⟩
          obtain ⟨i9, h9, a9, b9, H'⟩ := H.cur 5 rfl C
          replace H := H'
          have x2 := x1 (by decide)
          clear C H' x1
          obtain ⟨xn, rfl⟩ : ∃ qq : Nat, x9 = qq := ⟨x9.toNat, (Int.toNat_of_nonneg x0).symm⟩
          go_wp2_with fail
          refine hK.out _ _ ?_ (fun hHeld => ?_)
          · exact H.bat 3 rfl (j := 0) rfl
          clear hK K
          try simp only [sA, sB, sC, Act.put, sD, sE, sF]
          refine wpAnyH_take (i := 4) (v := ?_) rfl (by kernel_rfl) (by kernel_rfl) (by kernel_rfl) (fun _ _ _ h => h) (Or.inl ⟨by kernel_rfl, ?_⟩) (by assumption) ?_
          rotate_left
          · (intro w hSw; (try dsimp only at hSw); go_simp; try (with_reducible rfl))
          try simp only [sA, sB, sC, Act.put, sD, sE, sF]
          refine wpAnyH_ready (rs := [5]) (by kernel_rfl) (by simp) ?_
          refine (AllReadyH.cons rfl (fun K hK => ?_) AllReadyH.nil)
          have hf := H.free 0 rfl xn
          obtain ⟨u, hu⟩ := at_some HSH.out.1 (Int.ofNat_lt.1 x2)
          have hcu := H.atM (f1 := Value.bool) 0 rfl hu
          replace H := H.putM (f1 := Value.bool) 0 rfl xn true
          go_simp
          refine hK.out _ _ ?_ (fun hHeld => ?_)
          · exact H.bat 3 rfl (j := 0) rfl
          clear hK K
          try simp only [sA, sB, sC, Act.put, sD, sE, sF]
          refine wpAnyH_done (by kernel_rfl) ?_ _
          have HSH2 := Lib.hid (show Sh (((cutBits bits data z l xv)).set xn true) (cutData bits data z l xv) from ⟨by rw [List.length_set]; exact HSH.out.1, HSH.out.2⟩)
          have HH := Lib.hid H
          clear H
          go_wp2_with fail
          go_roundw
          case rel => exact ⟨k - 1, ((cutBits bits data z l xv)).set xn true, (cutData bits data z l xv), (cutZ bits data z l xv), (cutL bits data z l xv), some ⟨gA, 0, none⟩, c2, B2, d2, E2, q2, r2, i9, h9, by go_num, by omega, HSH2.out, HL.out, hq2', a9, b9, HH.out⟩
          case measure => simp [intOf]; omega
      | false =>
        go_wp2_with fail
        refine (l1Below_any g A n c bs i4 h4 44 _ (H.blk 5 rfl) (H.oldN G.out NW.out) NE.out a4 b4 hn (by decide)).mono ?_
        rintro e w9 ⟨off, rfl, x0, xm, _, C⟩
        obtain ⟨i3, h3, a3, b3, H'⟩ := H.cur 5 rfl C
        replace H := H'
        have hoff := xm (by decide)
        replace hoff : off ≤ 9223372036854775807 := by omega
        have h9100 : (9 : Nat) ≤ 100 := by decide
        have h9big : (9 : Nat) ≤ 9223372036854775807 := by decide
        clear C H' a4 b4 xm x0
        go_wp2_with fail
        replace H := H.drew
        refine wp_joint (fun a a' w' => ∃ (xv : ByteArray) (A2 : Option Addr) (c2 : Nat) (B2 : Option Addr) (d2 : Nat) (E2 : Option Addr) (q2 r2 : Nat) (i9 h9 : Int), 0 ≤ i9 ∧ i9 ≤ n ∧ ((wrRes bits data z l off xv).2.2.2.1).length = q2 ∧ a' = ((((((((((a.put (some 30) (.agg #[.slice A1 24 c1, .slice B1 24 d1])).put (some 31) (.agg #[.int .i64 z, .slice E1 q r1])).put (some 32) (.int .i64 off)).put (some 33) (.pointer (some ⟨g, 0, none⟩))).put (some 34) (.string xv)).put (some 35) (.tuple #[.agg #[.slice A2 24 c2, .slice B2 24 d2], .agg #[.int .i64 ((wrRes bits data z l off xv).2.2.1), .slice E2 q2 r2], .bool ((wrRes bits data z l off xv).2.2.2.2)])).put (some 29) (.tuple #[.agg #[.slice A2 24 c2, .slice B2 24 d2], .agg #[.int .i64 ((wrRes bits data z l off xv).2.2.1), .slice E2 q2 r2], .bool ((wrRes bits data z l off xv).2.2.2.2)])).put (some 36) (.agg #[.slice A2 24 c2, .slice B2 24 d2])).put (some 37) (.agg #[.int .i64 ((wrRes bits data z l off xv).2.2.1), .slice E2 q2 r2])).put (some 38) (.bool ((wrRes bits data z l off xv).2.2.2.2))) ∧
          Hp [g] w w' [.row 4 1 (.slice A2 24 c2) 24 (((wrRes bits data z l off xv).1).map Value.bool), .row 9 1 (.slice B2 24 d2) 24 (((wrRes bits data z l off xv).2.1).map Value.string), .row 92 3 (.slice E2 q2 r2) q2 (((wrRes bits data z l off xv).2.2.2.1).flatMap cExt), .blk g4 31 [.slice A2 24 c2, .slice B2 24 d2], .blk g5 34 [.int .i64 ((wrRes bits data z l off xv).2.2.1), .slice E2 q2 r2],
      .blk g 109 [.slice A n c, .int .i64 i9, .int .i64 h9], .blk g3 34 [.int .i64 0, .slice none 0 0], .blk g2 31 [.slice none 0 0, .slice none 0 0]]) ?_ ?_
        ·
          refine wp_region_held_drew (S := fun _ => True) (by kernel_rfl) ?_ (fun hHeld => ?_)
          · exact trivial
          obtain ⟨u0, hu0⟩ : ∃ uu : World, uu = w9.drew := ⟨_, rfl⟩
          rw [← hu0] at H ⊢
          clear hu0
          refine wpAnyH_take (i := 2) (v := ?_) rfl (by kernel_rfl) (by kernel_rfl) (by kernel_rfl) (fun _ _ _ h => nomatch h.1) (Or.inl ⟨by kernel_rfl, ?_⟩) (by assumption) ?_
          rotate_left
          · (intro w hSw; (try dsimp only at hSw); go_simp; try (with_reducible rfl))
          try simp only [sA, sB, sC, Act.put, sD, sE, sF]
          refine wpAnyH_take (i := 3) (v := ?_) rfl (by kernel_rfl) (by kernel_rfl) (by kernel_rfl) (fun _ _ _ h => nomatch h.1) (Or.inl ⟨by kernel_rfl, ?_⟩) (by assumption) ?_
          rotate_left
          · (intro w hSw; (try dsimp only at hSw); go_simp; try (with_reducible rfl))
          try simp only [sA, sB, sC, Act.put, sD, sE, sF]
          refine wpAnyH_ready (rs := [0, 1, 4]) (by kernel_rfl) (by simp) ?_
          refine (AllReadyH.cons rfl (fun K hK => ?_) (AllReadyH.cons rfl (fun K hK => ?_) (AllReadyH.cons rfl (fun K hK => ?_) AllReadyH.nil)))
          · have z0 := H.bat 3 rfl (j := 0) rfl
            have z1 := H.bat 3 rfl (j := 1) rfl
            go_simp
            refine hK.out _ _ ?_ (fun hHeld => ?_)
            · exact trivial
            clear hK K
            try simp only [sA, sB, sC, Act.put, sD, sE, sF]
            refine wpAnyH_ready (rs := [1, 4]) (by kernel_rfl) (by simp) ?_
            refine (AllReadyH.cons rfl (fun K hK => ?_) (AllReadyH.cons rfl (fun K hK => ?_) AllReadyH.nil))
            · have z2 := H.bat 4 rfl (j := 0) rfl
              have z3 := H.bat 4 rfl (j := 1) rfl
              go_simp
              refine hK.out _ _ ?_ (fun hHeld => ?_)
              · exact trivial
              clear hK K
              try simp only [sA, sB, sC, Act.put, sD, sE, sF]
              refine wpAnyH_ready (rs := [4]) (by kernel_rfl) (by simp) ?_
              refine (AllReadyH.cons rfl (fun K hK => ?_) AllReadyH.nil)
              go_simp
              refine (l1Text_any g A n c bs _ _ 9 _ (H.blk 5 rfl) (H.oldN G.out NW.out) NE.out a3 b3 hn h9100).mono ?_
              rintro e u3 ⟨tx, rfl, htx, C⟩
              obtain ⟨i9, h9, a9, b9, H'⟩ := H.cur 5 rfl C
              replace H := H'
              clear C H'
              go_wp2_with fail
              refine hK.out _ _ ?_ (fun hHeld => ?_)
              · exact trivial
              clear hK K
              try simp only [sA, sB, sC, Act.put, sD, sE, sF]
              refine wpAnyH_ready (rs := [5]) (by kernel_rfl) (by simp) ?_
              refine (AllReadyH.cons rfl (fun K hK => ?_) AllReadyH.nil)
              go_simp
              refine (specFilWrite_any A1 24 c1 bits B1 24 d1 data z E1 q r1 l off tx _ (H.rd 0 rfl) (H.rd 1 rfl) (H.rd 2 rfl) hcA hcB hcE hn24 hn24 HZ4.out hq24 hoff (Nat.le_trans htx h9big)).mono ?_
              rintro e u4 ⟨A2, c2, B2, d2, E2, q2, r2, rfl, hq2, K⟩
              replace H := (((H.join K).reord [0, 1, 2, 6, 7, 8, 9, 10, 3, 4, 5] (n := 11) rfl (by decide)).sub (l' := [_, _, _, _, _, _, _, _]) (.cons_cons _ (.cons_cons _ (.cons_cons _ (.cons_cons _ (.cons_cons _ (.cons_cons _ (.cons_cons _ (.cons_cons _ (List.nil_sublist _))))))))))
              clear K
              go_wp2_with fail
              refine hK.out _ _ ?_ (fun hHeld => ?_)
              · exact trivial
              clear hK K
              try simp only [sA, sB, sC, Act.put, sD, sE, sF]
              refine wpAnyH_take (i := 6) (v := ?_) rfl (by kernel_rfl) (by kernel_rfl) (by kernel_rfl) (fun _ _ _ h => nomatch h.1) (Or.inl ⟨by kernel_rfl, ?_⟩) (by assumption) ?_
              rotate_left
              · (intro w hSw; (try dsimp only at hSw); go_simp; try (with_reducible rfl))
              try simp only [sA, sB, sC, Act.put, sD, sE, sF]
              refine wpAnyH_take (i := 7) (v := ?_) rfl (by kernel_rfl) (by kernel_rfl) (by kernel_rfl) (fun _ _ _ h => nomatch h.1) (Or.inl ⟨by kernel_rfl, ?_⟩) (by assumption) ?_
              rotate_left
              · (intro w hSw; (try dsimp only at hSw); go_simp; try (with_reducible rfl))
              try simp only [sA, sB, sC, Act.put, sD, sE, sF]
              refine wpAnyH_take (i := 8) (v := ?_) rfl (by kernel_rfl) (by kernel_rfl) (by kernel_rfl) (fun _ _ _ h => nomatch h.1) (Or.inl ⟨by kernel_rfl, ?_⟩) (by assumption) ?_
              rotate_left
              · (intro w hSw; (try dsimp only at hSw); go_simp; try (with_reducible rfl))
              try simp only [sA, sB, sC, Act.put, sD, sE, sF]
              refine wpAnyH_take (i := 9) (v := ?_) rfl (by kernel_rfl) (by kernel_rfl) (by kernel_rfl) (fun _ _ _ h => nomatch h.1) (Or.inl ⟨by kernel_rfl, ?_⟩) (by assumption) ?_
              rotate_left
              · (intro w hSw; (try dsimp only at hSw); go_simp; try (with_reducible rfl))
              try simp only [sA, sB, sC, Act.put, sD, sE, sF]
              refine wpAnyH_ready (rs := [10]) (by kernel_rfl) (by simp) ?_
              refine (AllReadyH.cons rfl (fun K hK => ?_) AllReadyH.nil)
              have e0 := H.bfree 3 rfl 0
              have e1 := H.bfree 3 rfl 1
              have s0 := H.bat 3 rfl (j := 0) rfl
              have s1 := H.bat 3 rfl (j := 1) rfl
              replace H := (H.bput 3 rfl 0 (.slice A2 24 c2)).bput 3 rfl 1 (.slice B2 24 d2)
              go_simp
              refine hK.out _ _ ?_ (fun hHeld => ?_)
              · exact trivial
              clear hK K
              try simp only [sA, sB, sC, Act.put, sD, sE, sF]
              refine wpAnyH_ready (rs := [11]) (by kernel_rfl) (by simp) ?_
              refine (AllReadyH.cons rfl (fun K hK => ?_) AllReadyH.nil)
              have e2 := H.bfree 4 rfl 0
              have e3 := H.bfree 4 rfl 1
              have s2 := H.bat 4 rfl (j := 0) rfl
              have s3 := H.bat 4 rfl (j := 1) rfl
              replace H := (H.bput 4 rfl 0 (.int .i64 ((wrRes bits data z l off tx).2.2.1))).bput 4 rfl 1 (.slice E2 q2 r2)
              go_simp
              refine hK.out _ _ ?_ (fun hHeld => ?_)
              · exact trivial
              clear hK K
              try simp only [sA, sB, sC, Act.put, sD, sE, sF]
              refine wpAnyH_done (by kernel_rfl) ?_ _
              exact ⟨rfl, tx, A2, c2, B2, d2, E2, q2, r2, i9, h9, a9, b9, hq2, rfl, H⟩
            · go_simp
              refine (l1Text_any g A n c bs _ _ 9 _ (H.blk 5 rfl) (H.oldN G.out NW.out) NE.out a3 b3 hn h9100).mono ?_
              rintro e u2 ⟨tx, rfl, htx, C⟩
              obtain ⟨i9, h9, a9, b9, H'⟩ := H.cur 5 rfl C
              replace H := H'
              clear C H'
              go_wp2_with fail
              refine hK.out _ _ ?_ (fun hHeld => ?_)
              · exact trivial
              clear hK K
              try simp only [sA, sB, sC, Act.put, sD, sE, sF]
              refine wpAnyH_ready (rs := [1]) (by kernel_rfl) (by simp) ?_
              refine (AllReadyH.cons rfl (fun K hK => ?_) AllReadyH.nil)
              have z2 := H.bat 4 rfl (j := 0) rfl
              have z3 := H.bat 4 rfl (j := 1) rfl
              go_simp
              refine hK.out _ _ ?_ (fun hHeld => ?_)
              · exact trivial
              clear hK K
              try simp only [sA, sB, sC, Act.put, sD, sE, sF]
              refine wpAnyH_ready (rs := [5]) (by kernel_rfl) (by simp) ?_
              refine (AllReadyH.cons rfl (fun K hK => ?_) AllReadyH.nil)
              go_simp
              refine (specFilWrite_any A1 24 c1 bits B1 24 d1 data z E1 q r1 l off tx _ (H.rd 0 rfl) (H.rd 1 rfl) (H.rd 2 rfl) hcA hcB hcE hn24 hn24 HZ4.out hq24 hoff (Nat.le_trans htx h9big)).mono ?_
              rintro e u4 ⟨A2, c2, B2, d2, E2, q2, r2, rfl, hq2, K⟩
              replace H := (((H.join K).reord [0, 1, 2, 6, 7, 8, 9, 10, 3, 4, 5] (n := 11) rfl (by decide)).sub (l' := [_, _, _, _, _, _, _, _]) (.cons_cons _ (.cons_cons _ (.cons_cons _ (.cons_cons _ (.cons_cons _ (.cons_cons _ (.cons_cons _ (.cons_cons _ (List.nil_sublist _))))))))))
              clear K
              go_wp2_with fail
              refine hK.out _ _ ?_ (fun hHeld => ?_)
              · exact trivial
              clear hK K
              try simp only [sA, sB, sC, Act.put, sD, sE, sF]
              refine wpAnyH_take (i := 6) (v := ?_) rfl (by kernel_rfl) (by kernel_rfl) (by kernel_rfl) (fun _ _ _ h => nomatch h.1) (Or.inl ⟨by kernel_rfl, ?_⟩) (by assumption) ?_
              rotate_left
              · (intro w hSw; (try dsimp only at hSw); go_simp; try (with_reducible rfl))
              try simp only [sA, sB, sC, Act.put, sD, sE, sF]
              refine wpAnyH_take (i := 7) (v := ?_) rfl (by kernel_rfl) (by kernel_rfl) (by kernel_rfl) (fun _ _ _ h => nomatch h.1) (Or.inl ⟨by kernel_rfl, ?_⟩) (by assumption) ?_
              rotate_left
              · (intro w hSw; (try dsimp only at hSw); go_simp; try (with_reducible rfl))
              try simp only [sA, sB, sC, Act.put, sD, sE, sF]
              refine wpAnyH_take (i := 8) (v := ?_) rfl (by kernel_rfl) (by kernel_rfl) (by kernel_rfl) (fun _ _ _ h => nomatch h.1) (Or.inl ⟨by kernel_rfl, ?_⟩) (by assumption) ?_
              rotate_left
              · (intro w hSw; (try dsimp only at hSw); go_simp; try (with_reducible rfl))
              try simp only [sA, sB, sC, Act.put, sD, sE, sF]
              refine wpAnyH_take (i := 9) (v := ?_) rfl (by kernel_rfl) (by kernel_rfl) (by kernel_rfl) (fun _ _ _ h => nomatch h.1) (Or.inl ⟨by kernel_rfl, ?_⟩) (by assumption) ?_
              rotate_left
              · (intro w hSw; (try dsimp only at hSw); go_simp; try (with_reducible rfl))
              try simp only [sA, sB, sC, Act.put, sD, sE, sF]
              refine wpAnyH_ready (rs := [10]) (by kernel_rfl) (by simp) ?_
              refine (AllReadyH.cons rfl (fun K hK => ?_) AllReadyH.nil)
              have e0 := H.bfree 3 rfl 0
              have e1 := H.bfree 3 rfl 1
              have s0 := H.bat 3 rfl (j := 0) rfl
              have s1 := H.bat 3 rfl (j := 1) rfl
              replace H := (H.bput 3 rfl 0 (.slice A2 24 c2)).bput 3 rfl 1 (.slice B2 24 d2)
              go_simp
              refine hK.out _ _ ?_ (fun hHeld => ?_)
              · exact trivial
              clear hK K
              try simp only [sA, sB, sC, Act.put, sD, sE, sF]
              refine wpAnyH_ready (rs := [11]) (by kernel_rfl) (by simp) ?_
              refine (AllReadyH.cons rfl (fun K hK => ?_) AllReadyH.nil)
              have e2 := H.bfree 4 rfl 0
              have e3 := H.bfree 4 rfl 1
              have s2 := H.bat 4 rfl (j := 0) rfl
              have s3 := H.bat 4 rfl (j := 1) rfl
              replace H := (H.bput 4 rfl 0 (.int .i64 ((wrRes bits data z l off tx).2.2.1))).bput 4 rfl 1 (.slice E2 q2 r2)
              go_simp
              refine hK.out _ _ ?_ (fun hHeld => ?_)
              · exact trivial
              clear hK K
              try simp only [sA, sB, sC, Act.put, sD, sE, sF]
              refine wpAnyH_done (by kernel_rfl) ?_ _
              exact ⟨rfl, tx, A2, c2, B2, d2, E2, q2, r2, i9, h9, a9, b9, hq2, rfl, H⟩
          · have z2 := H.bat 4 rfl (j := 0) rfl
            have z3 := H.bat 4 rfl (j := 1) rfl
            go_simp
            refine hK.out _ _ ?_ (fun hHeld => ?_)
            · exact trivial
            clear hK K
            try simp only [sA, sB, sC, Act.put, sD, sE, sF]
            refine wpAnyH_ready (rs := [0, 4]) (by kernel_rfl) (by simp) ?_
            refine (AllReadyH.cons rfl (fun K hK => ?_) (AllReadyH.cons rfl (fun K hK => ?_) AllReadyH.nil))
            · have z0 := H.bat 3 rfl (j := 0) rfl
              have z1 := H.bat 3 rfl (j := 1) rfl
              go_simp
              refine hK.out _ _ ?_ (fun hHeld => ?_)
              · exact trivial
              clear hK K
              try simp only [sA, sB, sC, Act.put, sD, sE, sF]
              refine wpAnyH_ready (rs := [4]) (by kernel_rfl) (by simp) ?_
              refine (AllReadyH.cons rfl (fun K hK => ?_) AllReadyH.nil)
              go_simp
              refine (l1Text_any g A n c bs _ _ 9 _ (H.blk 5 rfl) (H.oldN G.out NW.out) NE.out a3 b3 hn h9100).mono ?_
              rintro e u3 ⟨tx, rfl, htx, C⟩
              obtain ⟨i9, h9, a9, b9, H'⟩ := H.cur 5 rfl C
              replace H := H'
              clear C H'
              go_wp2_with fail
              refine hK.out _ _ ?_ (fun hHeld => ?_)
              · exact trivial
              clear hK K
              try simp only [sA, sB, sC, Act.put, sD, sE, sF]
              refine wpAnyH_ready (rs := [5]) (by kernel_rfl) (by simp) ?_
              refine (AllReadyH.cons rfl (fun K hK => ?_) AllReadyH.nil)
              go_simp
              refine (specFilWrite_any A1 24 c1 bits B1 24 d1 data z E1 q r1 l off tx _ (H.rd 0 rfl) (H.rd 1 rfl) (H.rd 2 rfl) hcA hcB hcE hn24 hn24 HZ4.out hq24 hoff (Nat.le_trans htx h9big)).mono ?_
              rintro e u4 ⟨A2, c2, B2, d2, E2, q2, r2, rfl, hq2, K⟩
              replace H := (((H.join K).reord [0, 1, 2, 6, 7, 8, 9, 10, 3, 4, 5] (n := 11) rfl (by decide)).sub (l' := [_, _, _, _, _, _, _, _]) (.cons_cons _ (.cons_cons _ (.cons_cons _ (.cons_cons _ (.cons_cons _ (.cons_cons _ (.cons_cons _ (.cons_cons _ (List.nil_sublist _))))))))))
              clear K
              go_wp2_with fail
              refine hK.out _ _ ?_ (fun hHeld => ?_)
              · exact trivial
              clear hK K
              try simp only [sA, sB, sC, Act.put, sD, sE, sF]
              refine wpAnyH_take (i := 6) (v := ?_) rfl (by kernel_rfl) (by kernel_rfl) (by kernel_rfl) (fun _ _ _ h => nomatch h.1) (Or.inl ⟨by kernel_rfl, ?_⟩) (by assumption) ?_
              rotate_left
              · (intro w hSw; (try dsimp only at hSw); go_simp; try (with_reducible rfl))
              try simp only [sA, sB, sC, Act.put, sD, sE, sF]
              refine wpAnyH_take (i := 7) (v := ?_) rfl (by kernel_rfl) (by kernel_rfl) (by kernel_rfl) (fun _ _ _ h => nomatch h.1) (Or.inl ⟨by kernel_rfl, ?_⟩) (by assumption) ?_
              rotate_left
              · (intro w hSw; (try dsimp only at hSw); go_simp; try (with_reducible rfl))
              try simp only [sA, sB, sC, Act.put, sD, sE, sF]
              refine wpAnyH_take (i := 8) (v := ?_) rfl (by kernel_rfl) (by kernel_rfl) (by kernel_rfl) (fun _ _ _ h => nomatch h.1) (Or.inl ⟨by kernel_rfl, ?_⟩) (by assumption) ?_
              rotate_left
              · (intro w hSw; (try dsimp only at hSw); go_simp; try (with_reducible rfl))
              try simp only [sA, sB, sC, Act.put, sD, sE, sF]
              refine wpAnyH_take (i := 9) (v := ?_) rfl (by kernel_rfl) (by kernel_rfl) (by kernel_rfl) (fun _ _ _ h => nomatch h.1) (Or.inl ⟨by kernel_rfl, ?_⟩) (by assumption) ?_
              rotate_left
              · (intro w hSw; (try dsimp only at hSw); go_simp; try (with_reducible rfl))
              try simp only [sA, sB, sC, Act.put, sD, sE, sF]
              refine wpAnyH_ready (rs := [10]) (by kernel_rfl) (by simp) ?_
              refine (AllReadyH.cons rfl (fun K hK => ?_) AllReadyH.nil)
              have e0 := H.bfree 3 rfl 0
              have e1 := H.bfree 3 rfl 1
              have s0 := H.bat 3 rfl (j := 0) rfl
              have s1 := H.bat 3 rfl (j := 1) rfl
              replace H := (H.bput 3 rfl 0 (.slice A2 24 c2)).bput 3 rfl 1 (.slice B2 24 d2)
              go_simp
              refine hK.out _ _ ?_ (fun hHeld => ?_)
              · exact trivial
              clear hK K
              try simp only [sA, sB, sC, Act.put, sD, sE, sF]
              refine wpAnyH_ready (rs := [11]) (by kernel_rfl) (by simp) ?_
              refine (AllReadyH.cons rfl (fun K hK => ?_) AllReadyH.nil)
              have e2 := H.bfree 4 rfl 0
              have e3 := H.bfree 4 rfl 1
              have s2 := H.bat 4 rfl (j := 0) rfl
              have s3 := H.bat 4 rfl (j := 1) rfl
              replace H := (H.bput 4 rfl 0 (.int .i64 ((wrRes bits data z l off tx).2.2.1))).bput 4 rfl 1 (.slice E2 q2 r2)
              go_simp
              refine hK.out _ _ ?_ (fun hHeld => ?_)
              · exact trivial
              clear hK K
              try simp only [sA, sB, sC, Act.put, sD, sE, sF]
              refine wpAnyH_done (by kernel_rfl) ?_ _
              exact ⟨rfl, tx, A2, c2, B2, d2, E2, q2, r2, i9, h9, a9, b9, hq2, rfl, H⟩
            · go_simp
              refine (l1Text_any g A n c bs _ _ 9 _ (H.blk 5 rfl) (H.oldN G.out NW.out) NE.out a3 b3 hn h9100).mono ?_
              rintro e u2 ⟨tx, rfl, htx, C⟩
              obtain ⟨i9, h9, a9, b9, H'⟩ := H.cur 5 rfl C
              replace H := H'
              clear C H'
              go_wp2_with fail
              refine hK.out _ _ ?_ (fun hHeld => ?_)
              · exact trivial
              clear hK K
              try simp only [sA, sB, sC, Act.put, sD, sE, sF]
              refine wpAnyH_ready (rs := [0]) (by kernel_rfl) (by simp) ?_
              refine (AllReadyH.cons rfl (fun K hK => ?_) AllReadyH.nil)
              have z0 := H.bat 3 rfl (j := 0) rfl
              have z1 := H.bat 3 rfl (j := 1) rfl
              go_simp
              refine hK.out _ _ ?_ (fun hHeld => ?_)
              · exact trivial
              clear hK K
              try simp only [sA, sB, sC, Act.put, sD, sE, sF]
              refine wpAnyH_ready (rs := [5]) (by kernel_rfl) (by simp) ?_
              refine (AllReadyH.cons rfl (fun K hK => ?_) AllReadyH.nil)
              go_simp
              refine (specFilWrite_any A1 24 c1 bits B1 24 d1 data z E1 q r1 l off tx _ (H.rd 0 rfl) (H.rd 1 rfl) (H.rd 2 rfl) hcA hcB hcE hn24 hn24 HZ4.out hq24 hoff (Nat.le_trans htx h9big)).mono ?_
              rintro e u4 ⟨A2, c2, B2, d2, E2, q2, r2, rfl, hq2, K⟩
              replace H := (((H.join K).reord [0, 1, 2, 6, 7, 8, 9, 10, 3, 4, 5] (n := 11) rfl (by decide)).sub (l' := [_, _, _, _, _, _, _, _]) (.cons_cons _ (.cons_cons _ (.cons_cons _ (.cons_cons _ (.cons_cons _ (.cons_cons _ (.cons_cons _ (.cons_cons _ (List.nil_sublist _))))))))))
              clear K
              go_wp2_with fail
              refine hK.out _ _ ?_ (fun hHeld => ?_)
              · exact trivial
              clear hK K
              try simp only [sA, sB, sC, Act.put, sD, sE, sF]
              refine wpAnyH_take (i := 6) (v := ?_) rfl (by kernel_rfl) (by kernel_rfl) (by kernel_rfl) (fun _ _ _ h => nomatch h.1) (Or.inl ⟨by kernel_rfl, ?_⟩) (by assumption) ?_
              rotate_left
              · (intro w hSw; (try dsimp only at hSw); go_simp; try (with_reducible rfl))
              try simp only [sA, sB, sC, Act.put, sD, sE, sF]
              refine wpAnyH_take (i := 7) (v := ?_) rfl (by kernel_rfl) (by kernel_rfl) (by kernel_rfl) (fun _ _ _ h => nomatch h.1) (Or.inl ⟨by kernel_rfl, ?_⟩) (by assumption) ?_
              rotate_left
              · (intro w hSw; (try dsimp only at hSw); go_simp; try (with_reducible rfl))
              try simp only [sA, sB, sC, Act.put, sD, sE, sF]
              refine wpAnyH_take (i := 8) (v := ?_) rfl (by kernel_rfl) (by kernel_rfl) (by kernel_rfl) (fun _ _ _ h => nomatch h.1) (Or.inl ⟨by kernel_rfl, ?_⟩) (by assumption) ?_
              rotate_left
              · (intro w hSw; (try dsimp only at hSw); go_simp; try (with_reducible rfl))
              try simp only [sA, sB, sC, Act.put, sD, sE, sF]
              refine wpAnyH_take (i := 9) (v := ?_) rfl (by kernel_rfl) (by kernel_rfl) (by kernel_rfl) (fun _ _ _ h => nomatch h.1) (Or.inl ⟨by kernel_rfl, ?_⟩) (by assumption) ?_
              rotate_left
              · (intro w hSw; (try dsimp only at hSw); go_simp; try (with_reducible rfl))
              try simp only [sA, sB, sC, Act.put, sD, sE, sF]
              refine wpAnyH_ready (rs := [10]) (by kernel_rfl) (by simp) ?_
              refine (AllReadyH.cons rfl (fun K hK => ?_) AllReadyH.nil)
              have e0 := H.bfree 3 rfl 0
              have e1 := H.bfree 3 rfl 1
              have s0 := H.bat 3 rfl (j := 0) rfl
              have s1 := H.bat 3 rfl (j := 1) rfl
              replace H := (H.bput 3 rfl 0 (.slice A2 24 c2)).bput 3 rfl 1 (.slice B2 24 d2)
              go_simp
              refine hK.out _ _ ?_ (fun hHeld => ?_)
              · exact trivial
              clear hK K
              try simp only [sA, sB, sC, Act.put, sD, sE, sF]
              refine wpAnyH_ready (rs := [11]) (by kernel_rfl) (by simp) ?_
              refine (AllReadyH.cons rfl (fun K hK => ?_) AllReadyH.nil)
              have e2 := H.bfree 4 rfl 0
              have e3 := H.bfree 4 rfl 1
              have s2 := H.bat 4 rfl (j := 0) rfl
              have s3 := H.bat 4 rfl (j := 1) rfl
              replace H := (H.bput 4 rfl 0 (.int .i64 ((wrRes bits data z l off tx).2.2.1))).bput 4 rfl 1 (.slice E2 q2 r2)
              go_simp
              refine hK.out _ _ ?_ (fun hHeld => ?_)
              · exact trivial
              clear hK K
              try simp only [sA, sB, sC, Act.put, sD, sE, sF]
              refine wpAnyH_done (by kernel_rfl) ?_ _
              exact ⟨rfl, tx, A2, c2, B2, d2, E2, q2, r2, i9, h9, a9, b9, hq2, rfl, H⟩
          · go_simp
            refine (l1Text_any g A n c bs _ _ 9 _ (H.blk 5 rfl) (H.oldN G.out NW.out) NE.out a3 b3 hn h9100).mono ?_
            rintro e u1 ⟨tx, rfl, htx, C⟩
            obtain ⟨i9, h9, a9, b9, H'⟩ := H.cur 5 rfl C
            replace H := H'
            clear C H'
            go_wp2_with fail
            refine hK.out _ _ ?_ (fun hHeld => ?_)
            · exact trivial
            clear hK K
            try simp only [sA, sB, sC, Act.put, sD, sE, sF]
            refine wpAnyH_ready (rs := [0, 1]) (by kernel_rfl) (by simp) ?_
            refine (AllReadyH.cons rfl (fun K hK => ?_) (AllReadyH.cons rfl (fun K hK => ?_) AllReadyH.nil))
            · have z0 := H.bat 3 rfl (j := 0) rfl
              have z1 := H.bat 3 rfl (j := 1) rfl
              go_simp
              refine hK.out _ _ ?_ (fun hHeld => ?_)
              · exact trivial
              clear hK K
              try simp only [sA, sB, sC, Act.put, sD, sE, sF]
              refine wpAnyH_ready (rs := [1]) (by kernel_rfl) (by simp) ?_
              refine (AllReadyH.cons rfl (fun K hK => ?_) AllReadyH.nil)
              have z2 := H.bat 4 rfl (j := 0) rfl
              have z3 := H.bat 4 rfl (j := 1) rfl
              go_simp
              refine hK.out _ _ ?_ (fun hHeld => ?_)
              · exact trivial
              clear hK K
              try simp only [sA, sB, sC, Act.put, sD, sE, sF]
              refine wpAnyH_ready (rs := [5]) (by kernel_rfl) (by simp) ?_
              refine (AllReadyH.cons rfl (fun K hK => ?_) AllReadyH.nil)
              go_simp
              refine (specFilWrite_any A1 24 c1 bits B1 24 d1 data z E1 q r1 l off tx _ (H.rd 0 rfl) (H.rd 1 rfl) (H.rd 2 rfl) hcA hcB hcE hn24 hn24 HZ4.out hq24 hoff (Nat.le_trans htx h9big)).mono ?_
              rintro e u4 ⟨A2, c2, B2, d2, E2, q2, r2, rfl, hq2, K⟩
              replace H := (((H.join K).reord [0, 1, 2, 6, 7, 8, 9, 10, 3, 4, 5] (n := 11) rfl (by decide)).sub (l' := [_, _, _, _, _, _, _, _]) (.cons_cons _ (.cons_cons _ (.cons_cons _ (.cons_cons _ (.cons_cons _ (.cons_cons _ (.cons_cons _ (.cons_cons _ (List.nil_sublist _))))))))))
              clear K
              go_wp2_with fail
              refine hK.out _ _ ?_ (fun hHeld => ?_)
              · exact trivial
              clear hK K
              try simp only [sA, sB, sC, Act.put, sD, sE, sF]
              refine wpAnyH_take (i := 6) (v := ?_) rfl (by kernel_rfl) (by kernel_rfl) (by kernel_rfl) (fun _ _ _ h => nomatch h.1) (Or.inl ⟨by kernel_rfl, ?_⟩) (by assumption) ?_
              rotate_left
              · (intro w hSw; (try dsimp only at hSw); go_simp; try (with_reducible rfl))
              try simp only [sA, sB, sC, Act.put, sD, sE, sF]
              refine wpAnyH_take (i := 7) (v := ?_) rfl (by kernel_rfl) (by kernel_rfl) (by kernel_rfl) (fun _ _ _ h => nomatch h.1) (Or.inl ⟨by kernel_rfl, ?_⟩) (by assumption) ?_
              rotate_left
              · (intro w hSw; (try dsimp only at hSw); go_simp; try (with_reducible rfl))
              try simp only [sA, sB, sC, Act.put, sD, sE, sF]
              refine wpAnyH_take (i := 8) (v := ?_) rfl (by kernel_rfl) (by kernel_rfl) (by kernel_rfl) (fun _ _ _ h => nomatch h.1) (Or.inl ⟨by kernel_rfl, ?_⟩) (by assumption) ?_
              rotate_left
              · (intro w hSw; (try dsimp only at hSw); go_simp; try (with_reducible rfl))
              try simp only [sA, sB, sC, Act.put, sD, sE, sF]
              refine wpAnyH_take (i := 9) (v := ?_) rfl (by kernel_rfl) (by kernel_rfl) (by kernel_rfl) (fun _ _ _ h => nomatch h.1) (Or.inl ⟨by kernel_rfl, ?_⟩) (by assumption) ?_
              rotate_left
              · (intro w hSw; (try dsimp only at hSw); go_simp; try (with_reducible rfl))
              try simp only [sA, sB, sC, Act.put, sD, sE, sF]
              refine wpAnyH_ready (rs := [10]) (by kernel_rfl) (by simp) ?_
              refine (AllReadyH.cons rfl (fun K hK => ?_) AllReadyH.nil)
              have e0 := H.bfree 3 rfl 0
              have e1 := H.bfree 3 rfl 1
              have s0 := H.bat 3 rfl (j := 0) rfl
              have s1 := H.bat 3 rfl (j := 1) rfl
              replace H := (H.bput 3 rfl 0 (.slice A2 24 c2)).bput 3 rfl 1 (.slice B2 24 d2)
              go_simp
              refine hK.out _ _ ?_ (fun hHeld => ?_)
              · exact trivial
              clear hK K
              try simp only [sA, sB, sC, Act.put, sD, sE, sF]
              refine wpAnyH_ready (rs := [11]) (by kernel_rfl) (by simp) ?_
              refine (AllReadyH.cons rfl (fun K hK => ?_) AllReadyH.nil)
              have e2 := H.bfree 4 rfl 0
              have e3 := H.bfree 4 rfl 1
              have s2 := H.bat 4 rfl (j := 0) rfl
              have s3 := H.bat 4 rfl (j := 1) rfl
              replace H := (H.bput 4 rfl 0 (.int .i64 ((wrRes bits data z l off tx).2.2.1))).bput 4 rfl 1 (.slice E2 q2 r2)
              go_simp
              refine hK.out _ _ ?_ (fun hHeld => ?_)
              · exact trivial
              clear hK K
              try simp only [sA, sB, sC, Act.put, sD, sE, sF]
              refine wpAnyH_done (by kernel_rfl) ?_ _
              exact ⟨rfl, tx, A2, c2, B2, d2, E2, q2, r2, i9, h9, a9, b9, hq2, rfl, H⟩
            · have z2 := H.bat 4 rfl (j := 0) rfl
              have z3 := H.bat 4 rfl (j := 1) rfl
              go_simp
              refine hK.out _ _ ?_ (fun hHeld => ?_)
              · exact trivial
              clear hK K
              try simp only [sA, sB, sC, Act.put, sD, sE, sF]
              refine wpAnyH_ready (rs := [0]) (by kernel_rfl) (by simp) ?_
              refine (AllReadyH.cons rfl (fun K hK => ?_) AllReadyH.nil)
              have z0 := H.bat 3 rfl (j := 0) rfl
              have z1 := H.bat 3 rfl (j := 1) rfl
              go_simp
              refine hK.out _ _ ?_ (fun hHeld => ?_)
              · exact trivial
              clear hK K
              try simp only [sA, sB, sC, Act.put, sD, sE, sF]
              refine wpAnyH_ready (rs := [5]) (by kernel_rfl) (by simp) ?_
              refine (AllReadyH.cons rfl (fun K hK => ?_) AllReadyH.nil)
              go_simp
              refine (specFilWrite_any A1 24 c1 bits B1 24 d1 data z E1 q r1 l off tx _ (H.rd 0 rfl) (H.rd 1 rfl) (H.rd 2 rfl) hcA hcB hcE hn24 hn24 HZ4.out hq24 hoff (Nat.le_trans htx h9big)).mono ?_
              rintro e u4 ⟨A2, c2, B2, d2, E2, q2, r2, rfl, hq2, K⟩
              replace H := (((H.join K).reord [0, 1, 2, 6, 7, 8, 9, 10, 3, 4, 5] (n := 11) rfl (by decide)).sub (l' := [_, _, _, _, _, _, _, _]) (.cons_cons _ (.cons_cons _ (.cons_cons _ (.cons_cons _ (.cons_cons _ (.cons_cons _ (.cons_cons _ (.cons_cons _ (List.nil_sublist _))))))))))
              clear K
              go_wp2_with fail
              refine hK.out _ _ ?_ (fun hHeld => ?_)
              · exact trivial
              clear hK K
              try simp only [sA, sB, sC, Act.put, sD, sE, sF]
              refine wpAnyH_take (i := 6) (v := ?_) rfl (by kernel_rfl) (by kernel_rfl) (by kernel_rfl) (fun _ _ _ h => nomatch h.1) (Or.inl ⟨by kernel_rfl, ?_⟩) (by assumption) ?_
              rotate_left
              · (intro w hSw; (try dsimp only at hSw); go_simp; try (with_reducible rfl))
              try simp only [sA, sB, sC, Act.put, sD, sE, sF]
              refine wpAnyH_take (i := 7) (v := ?_) rfl (by kernel_rfl) (by kernel_rfl) (by kernel_rfl) (fun _ _ _ h => nomatch h.1) (Or.inl ⟨by kernel_rfl, ?_⟩) (by assumption) ?_
              rotate_left
              · (intro w hSw; (try dsimp only at hSw); go_simp; try (with_reducible rfl))
              try simp only [sA, sB, sC, Act.put, sD, sE, sF]
              refine wpAnyH_take (i := 8) (v := ?_) rfl (by kernel_rfl) (by kernel_rfl) (by kernel_rfl) (fun _ _ _ h => nomatch h.1) (Or.inl ⟨by kernel_rfl, ?_⟩) (by assumption) ?_
              rotate_left
              · (intro w hSw; (try dsimp only at hSw); go_simp; try (with_reducible rfl))
              try simp only [sA, sB, sC, Act.put, sD, sE, sF]
              refine wpAnyH_take (i := 9) (v := ?_) rfl (by kernel_rfl) (by kernel_rfl) (by kernel_rfl) (fun _ _ _ h => nomatch h.1) (Or.inl ⟨by kernel_rfl, ?_⟩) (by assumption) ?_
              rotate_left
              · (intro w hSw; (try dsimp only at hSw); go_simp; try (with_reducible rfl))
              try simp only [sA, sB, sC, Act.put, sD, sE, sF]
              refine wpAnyH_ready (rs := [10]) (by kernel_rfl) (by simp) ?_
              refine (AllReadyH.cons rfl (fun K hK => ?_) AllReadyH.nil)
              have e0 := H.bfree 3 rfl 0
              have e1 := H.bfree 3 rfl 1
              have s0 := H.bat 3 rfl (j := 0) rfl
              have s1 := H.bat 3 rfl (j := 1) rfl
              replace H := (H.bput 3 rfl 0 (.slice A2 24 c2)).bput 3 rfl 1 (.slice B2 24 d2)
              go_simp
              refine hK.out _ _ ?_ (fun hHeld => ?_)
              · exact trivial
              clear hK K
              try simp only [sA, sB, sC, Act.put, sD, sE, sF]
              refine wpAnyH_ready (rs := [11]) (by kernel_rfl) (by simp) ?_
              refine (AllReadyH.cons rfl (fun K hK => ?_) AllReadyH.nil)
              have e2 := H.bfree 4 rfl 0
              have e3 := H.bfree 4 rfl 1
              have s2 := H.bat 4 rfl (j := 0) rfl
              have s3 := H.bat 4 rfl (j := 1) rfl
              replace H := (H.bput 4 rfl 0 (.int .i64 ((wrRes bits data z l off tx).2.2.1))).bput 4 rfl 1 (.slice E2 q2 r2)
              go_simp
              refine hK.out _ _ ?_ (fun hHeld => ?_)
              · exact trivial
              clear hK K
              try simp only [sA, sB, sC, Act.put, sD, sE, sF]
              refine wpAnyH_done (by kernel_rfl) ?_ _
              exact ⟨rfl, tx, A2, c2, B2, d2, E2, q2, r2, i9, h9, a9, b9, hq2, rfl, H⟩
        clear H a3 b3
        rintro a' w8 ⟨xv, A2, c2, B2, d2, E2, q2, r2, i4, h4, a4, b4, hq2, rfl, H⟩
        simp only [List.getElem_toArray, List.getElem_cons_succ, List.getElem_cons_zero, Act.put, List.setIfInBounds_toArray, List.set_cons_zero, List.set_cons_succ]
        have HL := Lib.hid hq2
        have hq2' : q2 ≤ 12 := by rw [← hq2]; exact wr_len (by rw [HL0.out]; exact hq)
        have HSH := Lib.hid (wr_sh (z := z) (l := l) (off := off) (txt := xv) HSH0'.out)
        clear hq2
        obtain ⟨RR, hRR⟩ : ∃ x, x = wrRes bits data z l off xv := ⟨_, rfl⟩
        rw [← hRR] at H HL HSH ⊢
        clear hRR
        go_wp2_with fail
        refine (l1Once_any g A n c bs _ _ 4 _ (H.blk 5 rfl) (H.oldN G.out NW.out) NE.out a4 b4 hn (by decide)).mono ?_
        rintro e w6 ⟨x, rfl, C⟩
        obtain ⟨i6, h6, a3, b3, H'⟩ := H.cur 5 rfl C
        replace H := H'
        clear C H'
        have hkv : IntKind.i64.wrap ((k : Int) - 1) = ((k - 1 : Nat) : Int) := by rw [IntWalk.i64_in _ (by omega)]; omega
        have HKV := Lib.hid (show (Value.int .i64 ((k - 1 : Nat) : Int)) = Value.int .i64 ((k - 1 : Nat) : Int) from rfl)
        cases x with
        | false =>
          have HH := Lib.hid H
          clear H
          go_wp2_with fail
          go_roundw
          case rel => exact ⟨k - 1, RR.1, RR.2.1, RR.2.2.1, RR.2.2.2.1, A2, c2, B2, d2, E2, q2, r2, i6, h6, by go_num, by omega, HSH.out, HL.out, hq2', a3, b3, HH.out⟩
          case measure => simp [intOf]; omega
        | true =>
          go_wp2_with fail
          replace H := H.drew
          obtain ⟨gA, cA, e, _⟩ := H.form 0 rfl (by decide)
          injection e with e1 _ e2
          subst e1 e2
          refine wp_region_held_drew (S := fun w' => w'.cell? ⟨g4, 0, none⟩ = some (.slice (some ⟨gA, 0, none⟩) 24 c2)) (by kernel_rfl) ?_ (fun hHeld => ?_)
          · exact H.bat 3 rfl (j := 0) rfl
          obtain ⟨u0, hu0⟩ : ∃ uu : World, uu = w6.drew := ⟨_, rfl⟩
          rw [← hu0] at H hHeld ⊢
          clear hu0
          refine wpAnyH_take (i := 0) (v := ?_) rfl (by kernel_rfl) (by kernel_rfl) (by kernel_rfl) (fun _ _ _ h => h) (Or.inl ⟨by kernel_rfl, ?_⟩) (by assumption) ?_
          rotate_left
          · (intro w hSw; (try dsimp only at hSw); go_simp; try (with_reducible rfl))
          try simp only [sA, sB, sC, Act.put, sD, sE, sF]
          refine wpAnyH_take (i := 1) (v := ?_) rfl (by kernel_rfl) (by kernel_rfl) (by kernel_rfl) (fun _ _ _ h => h) (Or.inl ⟨by kernel_rfl, ?_⟩) (by assumption) ?_
          rotate_left
          · (intro w hSw; (try dsimp only at hSw); go_simp; try (with_reducible rfl))
          try simp only [sA, sB, sC, Act.put, sD, sE, sF]
          refine wpAnyH_take (i := 2) (v := ?_) rfl (by kernel_rfl) (by kernel_rfl) (by kernel_rfl) (fun _ _ _ h => h) (Or.inl ⟨by kernel_rfl, ?_⟩) (by assumption) ?_
          rotate_left
          · (intro w hSw; (try dsimp only at hSw); go_simp; try (with_reducible rfl))
          try simp only [sA, sB, sC, Act.put, sD, sE, sF]
          refine wpAnyH_ready (rs := [3]) (by kernel_rfl) (by simp) ?_
          refine (AllReadyH.cons rfl (fun K hK => ?_) AllReadyH.nil)
          go_simp
          refine (l1Below_any g A n c bs _ _ 24 _ (H.blk 5 rfl) (H.oldN G.out NW.out) NE.out a3 b3 hn (by decide)).mono ?_
          rintro e u1 ⟨x9, rfl, x0, x1, _, C⟩
          obtain ⟨i9, h9, a9, b9, H'⟩ := H.cur 5 rfl C
          replace H := H'
          have x2 := x1 (by decide)
          clear C H' x1
          obtain ⟨xn, rfl⟩ : ∃ qq : Nat, x9 = qq := ⟨x9.toNat, (Int.toNat_of_nonneg x0).symm⟩
          go_wp2_with fail
          refine hK.out _ _ ?_ (fun hHeld => ?_)
          · exact H.bat 3 rfl (j := 0) rfl
          clear hK K
          try simp only [sA, sB, sC, Act.put, sD, sE, sF]
          refine wpAnyH_take (i := 4) (v := ?_) rfl (by kernel_rfl) (by kernel_rfl) (by kernel_rfl) (fun _ _ _ h => h) (Or.inl ⟨by kernel_rfl, ?_⟩) (by assumption) ?_
          rotate_left
          · (intro w hSw; (try dsimp only at hSw); go_simp; try (with_reducible rfl))
          try simp only [sA, sB, sC, Act.put, sD, sE, sF]
          refine wpAnyH_ready (rs := [5]) (by kernel_rfl) (by simp) ?_
          refine (AllReadyH.cons rfl (fun K hK => ?_) AllReadyH.nil)
          have hf := H.free 0 rfl xn
          obtain ⟨u, hu⟩ := at_some HSH.out.1 (Int.ofNat_lt.1 x2)
          have hcu := H.atM (f1 := Value.bool) 0 rfl hu
          replace H := H.putM (f1 := Value.bool) 0 rfl xn true
          go_simp
          refine hK.out _ _ ?_ (fun hHeld => ?_)
          · exact H.bat 3 rfl (j := 0) rfl
          clear hK K
          try simp only [sA, sB, sC, Act.put, sD, sE, sF]
          refine wpAnyH_done (by kernel_rfl) ?_ _
          have HSH2 := Lib.hid (show Sh ((RR.1).set xn true) RR.2.1 from ⟨by rw [List.length_set]; exact HSH.out.1, HSH.out.2⟩)
          have HH := Lib.hid H
          clear H
          go_wp2_with fail
          go_roundw
          case rel => exact ⟨k - 1, (RR.1).set xn true, RR.2.1, RR.2.2.1, RR.2.2.2.1, some ⟨gA, 0, none⟩, c2, B2, d2, E2, q2, r2, i9, h9, by go_num, by omega, HSH2.out, HL.out, hq2', a9, b9, HH.out⟩
          case measure => simp [intOf]; omega
end Go.Proofs.Ytbmoolmgfpcnkaa
