/-
  Drawn extents: what the reference draws for PutBlock and CutAt.
-/
import Derived.Test.YtbmoolmgfpcnkaaDraw
import Derived.Test.YtbmoolmgfpcnkaaPutBlock
import Derived.Test.YtbmoolmgfpcnkaaGc
namespace Go.Proofs.Ytbmoolmgfpcnkaa
open Go.RowKit

theorem rd_farE {w : World} {A : Option Addr} {n k : Nat} {xs : List Value} (hA : Rd w A n k xs) (hk : 0 < k) : ∀ g, w.heap.size ≤ g → 0 < n → ∀ ad, A = some ad → ad.block ≠ g := fun g hg h0 ad he => by
  obtain ⟨b, o, e, hc⟩ := hA.2 h0
  have hl : 0 < xs.length := by rw [hA.1]; exact Nat.mul_pos h0 hk
  have hc' := hc 0 xs[0] (List.getElem?_eq_getElem hl)
  rw [he] at e
  injection e with e
  subst e
  have := World.block_lt_of_cell? w _ hc'
  simp only at this ⊢
  omega
theorem own_capE {w : World} {A : Option Addr} {n c base k : Nat} {E : TypeId} {xs : List Value} (h : w.ownsRow base E k (.slice A n c) n xs) (e : A = none) : c = 0 := by
  subst e
  rcases h.2 with ⟨e, _⟩ | ⟨g, cap, cur, e, _⟩
  · injection e
  · injection e with e; cases e
set_option maxRecDepth 100000 in
set_option maxHeartbeats 4000000 in
theorem l16Some_any (g : Nat) (A : Option Addr) (n c : Nat) (bs : List UInt8) (i h : Int) (w : World) (hb : Bk w g 109 [.slice A n c, .int .i64 i, .int .i64 h])
    (hA : Rd w A n 1 (bs.map cU8)) (hne : 0 < n → ∀ ad, A = some ad → ad.block ≠ g) (h0 : 0 ≤ i) (h1 : i ≤ n) (hn : n ≤ 1048576) :
    Calls Try.prog 71 #[.pointer (some ⟨g, 0, none⟩)] w fun e w' => ∃ (B : Option Addr) (d : Nat) (L : List (Int × Int × Int)) (i' h' : Int), e = .returned (.slice B L.length d) ∧ L.length ≤ 12 ∧ 0 ≤ i' ∧ i' ≤ n ∧
      Hp [g] w w' [.row 92 3 (.slice B L.length d) L.length (L.flatMap cExt), .blk g 109 [.slice A n c, .int .i64 i', .int .i64 h']] := by
  have hneW : 0 < n → ∀ ad, A = some ad → ad.block ∉ [g] := fun hn0 ad he => by simpa using hne hn0 ad he
  have H := (Hp.start_blk hb).lit0 92 3
  have G := Lib.hid hA
  have NE := Lib.hid hne
  have NW := Lib.hid hneW
  clear hb hA hne hneW
  go_enter Try.func71, Try.ntmps71
  go_wp2_with fail
  refine (l1Below_any g A n c bs i h 20 _ (H.blk 1 rfl) (H.oldN G.out NW.out) NE.out h0 h1 hn (by decide)).mono ?_
  rintro e w1 ⟨x1, rfl, _, _, _, C⟩
  obtain ⟨i1, hh1, a1, b1, H1⟩ := H.cur 1 rfl C
  clear H C
  go_wp2_with fail
  refine (l1Below_any g A n c bs i1 hh1 9 _ (H1.blk 1 rfl) (H1.oldN G.out NW.out) NE.out a1 b1 hn (by decide)).mono ?_
  rintro e w2 ⟨x2, rfl, y0, y1, _, C⟩
  obtain ⟨i2, hh2, a2, b2, H2⟩ := H1.cur 1 rfl C
  have y2 := y1 (by decide)
  obtain ⟨k0, rfl⟩ : ∃ q : Nat, x2 = q := ⟨x2.toNat, by omega⟩
  clear H1 C y1
  go_wp2_with fail
  go_loopw [3, 4, 5] (fun v a j wr => ∃ (k : Nat) (L : List (Int × Int × Int)) (at_ i' h' : Int), j = .int .i64 k ∧ a = .int .i64 at_ ∧ L.length ≤ 12 ∧ k ≤ 9 ∧ 0 ≤ i' ∧ i' ≤ n ∧
    Hp [g] w wr [.row 92 3 v L.length (L.flatMap cExt), .blk g 109 [.slice A n c, .int .i64 i', .int .i64 h']]) (fun _ _ j _ => (intOf j).toNat)
  case atStart => exact ⟨k0, [], x1, i2, hh2, rfl, rfl, by simp, by omega, a2, b2, H2⟩
  case round =>
    clear H2
    obtain ⟨k, L, at_, i3, h3, rfl, rfl, hL, hk9, a3, b3, H⟩ := hrel
    rcases Nat.eq_zero_or_pos k with hk | hk
    · subst hk
      by_cases hL0 : L.length = 0
      · have hLd : decide (0 < (L.length : Int)) = false := by simp [hL0]
        have hLd2 : ¬ 0 < L.length := by omega
        obtain ⟨B, d, rfl⟩ := H.shape 0 rfl
        have HH := Lib.hid H
        clear H hL0
        go_wp2_with fail
        go_ret
        exact ⟨B, d, L, i3, h3, rfl, hL, a3, b3, HH.out⟩
      · obtain ⟨gB, d, rfl, hgB⟩ := H.form 0 rfl (by omega)
        have hLp : 0 < L.length := by omega
        go_wp2_with fail
        refine (l1Once_any g A n c bs i3 h3 8 _ (H.blk 1 rfl) (H.oldN G.out NW.out) NE.out a3 b3 hn (by decide)).mono ?_
        rintro e w4 ⟨x, rfl, C⟩
        obtain ⟨i4, h4, a4, b4, H4⟩ := H.cur 1 rfl C
        clear H C
        cases x with
        | false =>
          go_wp2_with fail
          go_ret
          exact ⟨_, d, L, i4, h4, rfl, hL, a4, b4, H4⟩
        | true =>
          go_wp2_with fail
          refine (l1Below_any g A n c bs i4 h4 L.length _ (H4.blk 1 rfl) (H4.oldN G.out NW.out) NE.out a4 b4 hn (by omega)).mono ?_
          rintro e w5 ⟨x, rfl, x0, x1, _, C⟩
          obtain ⟨i5, h5, a5, b5, H5⟩ := H4.cur 1 rfl C
          have x2 := x1 (by omega)
          obtain ⟨k, rfl⟩ : ∃ q : Nat, x = q := ⟨x.toNat, by omega⟩
          have hkL : k < L.length := by omega
          clear H4 C x1 x2
          go_wp2_with fail
          refine (l1Below_any g A n c bs i5 h5 3 _ (H5.blk 1 rfl) (H5.oldN G.out NW.out) NE.out a5 b5 hn (by decide)).mono ?_
          rintro e w6 ⟨x, rfl, x0, x1, _, C⟩
          obtain ⟨i6, h6, a6, b6, H6⟩ := H5.cur 1 rfl C
          have x2 := x1 (by decide)
          clear H5 C x1
          by_cases hx0 : x = 0
          · subst hx0
            go_wp2_with fail
            refine (l1Below_any g A n c bs i6 h6 14 _ (H6.blk 1 rfl) (H6.oldN G.out NW.out) NE.out a6 b6 hn (by decide)).mono ?_
            rintro e w7 ⟨z, rfl, _, _, _, C⟩
            obtain ⟨i7, h7, a7, b7, H7⟩ := H6.cur 1 rfl C
            clear H6 C
            obtain ⟨y, hy⟩ : ∃ q, q = IntKind.i64.wrap (z - 1) := ⟨_, rfl⟩
            try have hw : IntKind.i64.wrap (z - 1) = y := hy.symm
            obtain ⟨⟨p, q, r⟩, hx⟩ := some_at rfl hkL
            have hk0 : (0 : Int) ≤ (k : Int) := by omega
            have hk1 : (k : Int) < (L.length : Int) := by omega
            have cy := H7.atL 0 rfl cExt_len (r := 0) hx rfl
            have cz := H7.free 0 rfl (k * 3 + 0)
            have H8 := H7.putL 0 rfl cExt_len k 0 (x := (p, q, r)) (y, q, r) (.int .i64 y) hx (by omega) rfl
            have H9 : Hid (Hp [g] w (w7.setCell ⟨gB, k * 3 + 0, none⟩ (.int .i64 y)) [.row 92 3 (.slice (some ⟨gB, 0, none⟩) (L.set k (y, q, r)).length d) (L.set k (y, q, r)).length ((L.set k (y, q, r)).flatMap cExt), .blk g 109 [.slice A n c, .int .i64 i7, .int .i64 h7]]) := Lib.hid (by
              rw [List.length_set]; exact H8)
            simp only [Nat.add_zero] at cy cz H9
            clear H7 H8 hx
            clear hy
            go_wp2_with fail
            go_ret
            exact ⟨_, d, L.set k (y, q, r), i7, h7, (by show Ending.returned (.slice (some ⟨gB, 0, none⟩) L.length d) = _; rw [List.length_set]), by rw [List.length_set]; exact hL, a7, b7, H9.out⟩
          · have hxe : (x == 0) = false := beq_eq_false_iff_ne.2 hx0
            by_cases hx1 : x = 1
            · subst hx1
              go_wp2_with fail
              refine (l1Below_any g A n c bs i6 h6 26 _ (H6.blk 1 rfl) (H6.oldN G.out NW.out) NE.out a6 b6 hn (by decide)).mono ?_
              rintro e w7 ⟨z, rfl, _, _, _, C⟩
              obtain ⟨i7, h7, a7, b7, H7⟩ := H6.cur 1 rfl C
              clear H6 C
              obtain ⟨y, hy⟩ : ∃ q, q = IntKind.i64.wrap (z - 1) := ⟨_, rfl⟩
              try have hw : IntKind.i64.wrap (z - 1) = y := hy.symm
              obtain ⟨⟨p, q, r⟩, hx⟩ := some_at rfl hkL
              have hk0 : (0 : Int) ≤ (k : Int) := by omega
              have hk1 : (k : Int) < (L.length : Int) := by omega
              have cy := H7.atL 0 rfl cExt_len (r := 1) hx rfl
              have cz := H7.free 0 rfl (k * 3 + 1)
              have H8 := H7.putL 0 rfl cExt_len k 1 (x := (p, q, r)) (p, y, r) (.int .i64 y) hx (by omega) rfl
              have H9 : Hid (Hp [g] w (w7.setCell ⟨gB, k * 3 + 1, none⟩ (.int .i64 y)) [.row 92 3 (.slice (some ⟨gB, 0, none⟩) (L.set k (p, y, r)).length d) (L.set k (p, y, r)).length ((L.set k (p, y, r)).flatMap cExt), .blk g 109 [.slice A n c, .int .i64 i7, .int .i64 h7]]) := Lib.hid (by
                rw [List.length_set]; exact H8)
              skip
              clear H7 H8 hx
              clear hy
              go_wp2_with fail
              go_ret
              exact ⟨_, d, L.set k (p, y, r), i7, h7, (by show Ending.returned (.slice (some ⟨gB, 0, none⟩) L.length d) = _; rw [List.length_set]), by rw [List.length_set]; exact hL, a7, b7, H9.out⟩
            · have hxf : (x == 1) = false := beq_eq_false_iff_ne.2 hx1
              go_wp2_with fail
              refine (l1Below_any g A n c bs i6 h6 6 _ (H6.blk 1 rfl) (H6.oldN G.out NW.out) NE.out a6 b6 hn (by decide)).mono ?_
              rintro e w7 ⟨z, rfl, _, _, _, C⟩
              obtain ⟨i7, h7, a7, b7, H7⟩ := H6.cur 1 rfl C
              clear H6 C
              obtain ⟨y, hy⟩ : ∃ q, q = z := ⟨_, rfl⟩
              try have hw : IntKind.i64.wrap (z - 1) = y := hy.symm
              obtain ⟨⟨p, q, r⟩, hx⟩ := some_at rfl hkL
              have hk0 : (0 : Int) ≤ (k : Int) := by omega
              have hk1 : (k : Int) < (L.length : Int) := by omega
              have cy := H7.atL 0 rfl cExt_len (r := 2) hx rfl
              have cz := H7.free 0 rfl (k * 3 + 2)
              have H8 := H7.putL 0 rfl cExt_len k 2 (x := (p, q, r)) (p, q, y) (.int .i64 y) hx (by omega) rfl
              have H9 : Hid (Hp [g] w (w7.setCell ⟨gB, k * 3 + 2, none⟩ (.int .i64 y)) [.row 92 3 (.slice (some ⟨gB, 0, none⟩) (L.set k (p, q, y)).length d) (L.set k (p, q, y)).length ((L.set k (p, q, y)).flatMap cExt), .blk g 109 [.slice A n c, .int .i64 i7, .int .i64 h7]]) := Lib.hid (by
                rw [List.length_set]; exact H8)
              skip
              clear H7 H8 hx
              subst hy
              go_wp2_with fail
              go_ret
              exact ⟨_, d, L.set k (p, q, y), i7, h7, (by show Ending.returned (.slice (some ⟨gB, 0, none⟩) L.length d) = _; rw [List.length_set]), by rw [List.length_set]; exact hL, a7, b7, H9.out⟩
    · obtain ⟨B, d, rfl⟩ := H.shape 0 rfl
      go_wp2_with fail
      refine (l1Below_any g A n c bs i3 h3 12 _ (H.blk 1 rfl) (H.oldN G.out NW.out) NE.out a3 b3 hn (by decide)).mono ?_
      rintro e w4 ⟨x4, rfl, _, _, _, C⟩
      obtain ⟨i4, h4, a4, b4, H4⟩ := H.cur 1 rfl C
      clear H C
      go_wp2_with fail
      refine (specPutBlock_any B L.length d L x4 at_ _ (H4.rd 0 rfl) (own_capE (H4.row 0 rfl)) (by omega)).mono ?_
      rintro e w5 ⟨B5, k5, d5, rfl, hk5, K5⟩
      have H5 := (H4.join K5).sub (l' := [.row 92 3 (.slice B5 k5 d5) k5 ((putExts L x4 at_).flatMap cExt), .blk g 109 [.slice A n c, .int .i64 i4, .int .i64 h4]]) (by simp)
      have hl5 := putExts_12 hL x4 at_
      obtain ⟨L5, hL5⟩ : ∃ q, q = putExts L x4 at_ := ⟨_, rfl⟩
      rw [← hL5] at H5 hk5 hl5
      subst hk5
      clear H4 K5 hL5
      obtain ⟨is, his⟩ : ∃ q, q = putOk L x4 at_ := ⟨_, rfl⟩
      rw [← his]
      clear his
      cases is with
      | false =>
        go_wp2_with fail
        refine (l1Below_any g A n c bs i4 h4 24 _ (H5.blk 1 rfl) (H5.oldN G.out NW.out) NE.out a4 b4 hn (by decide)).mono ?_
        rintro e w6 ⟨x6, rfl, _, _, _, C⟩
        obtain ⟨i6, h6, a6, b6, H6⟩ := H5.cur 1 rfl C
        clear H5 C
        go_wp2_with fail
        go_roundw
        case rel => exact ⟨k - 1, L5, _, i6, h6, by go_num, rfl, hl5, by omega, a6, b6, H6⟩
        case measure => simp [intOf]; omega
      | true =>
        go_wp2_with fail
        refine (l1Once_any g A n c bs i4 h4 3 _ (H5.blk 1 rfl) (H5.oldN G.out NW.out) NE.out a4 b4 hn (by decide)).mono ?_
        rintro e w6 ⟨x6, rfl, C⟩
        obtain ⟨i6, h6, a6, b6, H6⟩ := H5.cur 1 rfl C
        clear H5 C
        cases x6 with
        | false =>
          obtain ⟨b7, hb7⟩ : ∃ q, q = IntKind.i64.wrap (at_ + 1) := ⟨_, rfl⟩
          have hw : IntKind.i64.wrap (at_ + 1) = b7 := hb7.symm
          clear hb7
          go_wp2_with fail
          go_roundw
          case rel => exact ⟨k - 1, L5, _, i6, h6, by go_num, rfl, hl5, by omega, a6, b6, H6⟩
          case measure => simp [intOf]; omega
        | true =>
          go_wp2_with fail
          refine (l1Below_any g A n c bs i6 h6 24 _ (H6.blk 1 rfl) (H6.oldN G.out NW.out) NE.out a6 b6 hn (by decide)).mono ?_
          rintro e w7 ⟨x7, rfl, _, _, _, C⟩
          obtain ⟨i7, h7, a7, b7, H7⟩ := H6.cur 1 rfl C
          clear H6 C
          go_wp2_with fail
          go_roundw
          case rel => exact ⟨k - 1, L5, _, i7, h7, by go_num, rfl, hl5, by omega, a7, b7, H7⟩
          case measure => simp [intOf]; omega

set_option maxRecDepth 100000 in
set_option maxHeartbeats 2000000 in
theorem drawPutBlock_any (A : Option Addr) (n c : Nat) (bs : List UInt8) (w : World) (hA : Rd w A n 1 (bs.map cU8)) (hn : n ≤ 1048576) :
    Calls Try.prog 20 #[.slice A n c] w fun e w' => ∃ (B : Option Addr) (k d : Nat) (L : List (Int × Int × Int)) (i b : Int), e = .returned (.tuple #[.slice B k d, .int .i64 i, .int .i64 b]) ∧ L.length = k ∧ k ≤ 12 ∧
      Hp [] w w' [.row 92 3 (.slice B k d) k (L.flatMap cExt)] := by
  have hlt := rd_farE hA Nat.one_pos
  go_enter Try.func20, Try.ntmps20
  go_wp2_with fail
  refine (l1New_any A n c bs _ hA hn).mono ?_
  rintro e w1 ⟨g, h, rfl, H1⟩
  have hg : w.heap.size ≤ g := by
    rcases H1.own _ (List.mem_singleton.2 rfl) g rfl with h2 | h2
    · exact h2
    · simp at h2
  have NE := Lib.hid (show 0 < n → ∀ ad, A = some ad → ad.block ≠ g from hlt g hg)
  have G := Lib.hid hA
  clear hlt hA
  go_wp2_with fail
  refine (l1Below_any g A n c bs 0 h 14 _ (H1.blk 0 rfl) (H1.old G.out) NE.out (by omega) (by omega) hn (by decide)).mono ?_
  rintro e w2 ⟨x2, rfl, _, _, _, C⟩
  obtain ⟨i2, h2, a2, b2, H2⟩ := H1.cur 0 rfl C
  clear H1 C
  obtain ⟨y2, hy2⟩ : ∃ q, q = IntKind.i64.wrap (x2 - 1) := ⟨_, rfl⟩
  have hw2 : IntKind.i64.wrap (x2 - 1) = y2 := hy2.symm
  clear hy2
  go_wp2_with fail
  refine (l1Below_any g A n c bs i2 h2 26 _ (H2.blk 0 rfl) (H2.old G.out) NE.out a2 b2 hn (by decide)).mono ?_
  rintro e w3 ⟨x3, rfl, _, _, _, C⟩
  obtain ⟨i3, h3, a3, b3, H3⟩ := H2.cur 0 rfl C
  clear H2 C
  obtain ⟨y3, hy3⟩ : ∃ q, q = IntKind.i64.wrap (x3 - 1) := ⟨_, rfl⟩
  have hw3 : IntKind.i64.wrap (x3 - 1) = y3 := hy3.symm
  clear hy3
  go_wp2_with fail
  refine (l16Some_any g A n c bs i3 h3 _ (H3.blk 0 rfl) (H3.old G.out) NE.out a3 b3 hn).mono ?_
  rintro e w4 ⟨B, d, L, i4, h4, rfl, l4, a4, b4, K4⟩
  have H4 := Lib.hid ((H3.joinV 0 rfl K4).sub (l' := [.row 92 3 (.slice B L.length d) L.length (L.flatMap cExt)]) (by simp))
  clear H3 K4
  go_wp2_with fail
  ((try simp only [Exit.inBlock, Exit.then]); refine bodyPost_ret (results_tmp3 rfl _ _ _) rfl ?_)
  exact ⟨B, _, d, L, y2, y3, rfl, rfl, l4, H4.out⟩
set_option maxRecDepth 100000 in
set_option maxHeartbeats 2000000 in
theorem drawCutAt_any (A : Option Addr) (n c : Nat) (bs : List UInt8) (w : World) (hA : Rd w A n 1 (bs.map cU8)) (hn : n ≤ 1048576) :
    Calls Try.prog 28 #[.slice A n c] w fun e w' => ∃ (B : Option Addr) (k d : Nat) (L : List (Int × Int × Int)) (i : Int), e = .returned (.tuple #[.slice B k d, .int .i64 i]) ∧ L.length = k ∧ k ≤ 12 ∧
      Hp [] w w' [.row 92 3 (.slice B k d) k (L.flatMap cExt)] := by
  have hlt := rd_farE hA Nat.one_pos
  go_enter Try.func28, Try.ntmps28
  go_wp2_with fail
  refine (l1New_any A n c bs _ hA hn).mono ?_
  rintro e w1 ⟨g, h, rfl, H1⟩
  have hg : w.heap.size ≤ g := by
    rcases H1.own _ (List.mem_singleton.2 rfl) g rfl with h2 | h2
    · exact h2
    · simp at h2
  have NE := Lib.hid (show 0 < n → ∀ ad, A = some ad → ad.block ≠ g from hlt g hg)
  have G := Lib.hid hA
  clear hlt hA
  go_wp2_with fail
  refine (l1Below_any g A n c bs 0 h 15 _ (H1.blk 0 rfl) (H1.old G.out) NE.out (by omega) (by omega) hn (by decide)).mono ?_
  rintro e w2 ⟨x2, rfl, _, _, _, C⟩
  obtain ⟨i2, h2, a2, b2, H2⟩ := H1.cur 0 rfl C
  clear H1 C
  obtain ⟨y2, hy2⟩ : ∃ q, q = IntKind.i64.wrap (x2 - 1) := ⟨_, rfl⟩
  have hw2 : IntKind.i64.wrap (x2 - 1) = y2 := hy2.symm
  clear hy2
  go_wp2_with fail
  refine (l16Some_any g A n c bs i2 h2 _ (H2.blk 0 rfl) (H2.old G.out) NE.out a2 b2 hn).mono ?_
  rintro e w4 ⟨B, d, L, i4, h4, rfl, l4, a4, b4, K4⟩
  have H4 := Lib.hid ((H2.joinV 0 rfl K4).sub (l' := [.row 92 3 (.slice B L.length d) L.length (L.flatMap cExt)]) (by simp))
  clear H2 K4
  go_wp2_with fail
  go_ret2
  exact ⟨B, _, d, L, y2, rfl, rfl, l4, H4.out⟩
end Go.Proofs.Ytbmoolmgfpcnkaa
