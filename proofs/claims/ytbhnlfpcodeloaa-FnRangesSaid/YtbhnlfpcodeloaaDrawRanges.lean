/-
  The reference draws ranges.
-/
import Derived.Test.YtbhnlfpcodeloaaDraw
import Derived.Test.YtbhnlfpcodeloaaRangeS
import Derived.Deep.RegionHeld3
namespace Go.Proofs.Ytbhnlfpcodeloaa
open Go.RowKit

set_option maxRecDepth 100000 in
set_option maxHeartbeats 4000000 in
theorem l12Some_any (g : Nat) (A : Option Addr) (n c : Nat) (bs : List UInt8) (i h : Int) (w : World) (hb : Bk w g 160 [.slice A n c, .int .i64 i, .int .i64 h])
    (hA : Rd w A n 1 (bs.map cU8)) (hne : 0 < n → ∀ ad, A = some ad → ad.block ≠ g) (h0 : 0 ≤ i) (h1 : i ≤ n) (hn : n ≤ 1048576) :
    Calls Try.prog 131 #[.pointer (some ⟨g, 0, none⟩)] w fun e w' => ∃ (B : Option Addr) (d : Nat) (L : List (Int × Int)) (i' h' : Int), e = .returned (.slice B L.length d) ∧ L.length ≤ 5 ∧ 0 ≤ i' ∧ i' ≤ n ∧
      Hp [g] w w' [.row 127 2 (.slice B L.length d) L.length (L.flatMap cRange), .blk g 160 [.slice A n c, .int .i64 i', .int .i64 h']] := by
  have hneW : 0 < n → ∀ ad, A = some ad → ad.block ∉ [g] := fun hn0 ad he => by simpa using hne hn0 ad he
  have H := (Hp.start_blk hb).lit0 127 2
  have G := Lib.hid hA
  have NE := Lib.hid hne
  have NW := Lib.hid hneW
  clear hb hA hne hneW
  go_enter Try.func131, Try.ntmps131
  go_wp2_with fail
  refine (l1Below_any g A n c bs i h 5 _ (H.blk 1 rfl) (H.oldN G.out NW.out) NE.out h0 h1 hn (by decide)).mono ?_
  rintro e w1 ⟨x1, rfl, _, _, _, C⟩
  obtain ⟨i1, hh1, a1, b1, H1⟩ := H.cur 1 rfl C
  clear H C
  go_wp2_with fail
  refine (l1Below_any g A n c bs i1 hh1 6 _ (H1.blk 1 rfl) (H1.oldN G.out NW.out) NE.out a1 b1 hn (by decide)).mono ?_
  rintro e w2 ⟨x2, rfl, y0, y1, _, C⟩
  obtain ⟨i2, hh2, a2, b2, H2⟩ := H1.cur 1 rfl C
  have y2 := y1 (by decide)
  obtain ⟨k0, rfl⟩ : ∃ q : Nat, x2 = q := ⟨x2.toNat, by omega⟩
  clear H1 C y1
  go_wp2_with fail
  go_loopw [3, 4, 5] (fun v a j wr => ∃ (k : Nat) (L : List (Int × Int)) (at_ i' h' : Int), j = .int .i64 k ∧ a = .int .i64 at_ ∧ L.length + k ≤ 5 ∧ 0 ≤ i' ∧ i' ≤ n ∧
    Hp [g] w wr [.row 127 2 v L.length (L.flatMap cRange), .blk g 160 [.slice A n c, .int .i64 i', .int .i64 h']]) (fun _ _ j _ => (intOf j).toNat)
  case atStart => exact ⟨k0, [], x1, i2, hh2, rfl, rfl, by simp; omega, a2, b2, H2⟩
  case round =>
    clear H2
    obtain ⟨k, L, at_, i3, h3, rfl, rfl, hL, a3, b3, H⟩ := hrel
    rcases Nat.eq_zero_or_pos k with hk | hk
    · subst hk
      have hl20 : L.length ≤ 5 := by omega
      by_cases hL0 : L.length = 0
      · have hLd : decide (0 < (L.length : Int)) = false := by simp [hL0]
        have hLd2 : ¬ 0 < L.length := by omega
        obtain ⟨B, d, rfl⟩ := H.shape 0 rfl
        have HH := Lib.hid H
        clear H hL0
        go_wp2_with fail
        go_ret
        exact ⟨B, d, L, i3, h3, rfl, hl20, a3, b3, HH.out⟩
      · obtain ⟨gB, d, rfl, hgB⟩ := H.form 0 rfl (by omega)
        have hLp : 0 < L.length := by omega
        go_wp2_with fail
        refine (l1Once_any g A n c bs i3 h3 8 _ (H.blk 1 rfl) (H.oldN G.out NW.out) NE.out a3 b3 hn (by decide)).mono ?_
        rintro e w4 ⟨x, rfl, C⟩
        obtain ⟨i4, h4, a4, b4, H4⟩ := H.cur 1 rfl C
        clear H C
        cases x with
        | false =>
          go_wp2_with fail
          go_ret
          exact ⟨_, d, L, i4, h4, rfl, hl20, a4, b4, H4⟩
        | true =>
          go_wp2_with fail
          refine (l1Below_any g A n c bs i4 h4 L.length _ (H4.blk 1 rfl) (H4.oldN G.out NW.out) NE.out a4 b4 hn (by omega)).mono ?_
          rintro e w5 ⟨x, rfl, x0, x1, _, C⟩
          obtain ⟨i5, h5, a5, b5, H5⟩ := H4.cur 1 rfl C
          have x2 := x1 (by omega)
          obtain ⟨k, rfl⟩ : ∃ q : Nat, x = q := ⟨x.toNat, by omega⟩
          have hkL : k < L.length := by omega
          clear H4 C x1 x2
          have hg5 := H5.lt 1 rfl rfl
          have H6 := H5.lit 3 1 5 ([-1, 0, 7, 1114111, 1114112].map (Value.int .i64)) (by simp) (by simp [maxLen])
          go_wp2_with fail
          refine (l1PickInt_any g A n c bs i5 h5 (some ⟨w5.heap.size, 0, none⟩) 5 5 [-1, 0, 7, 1114111, 1114112] _ (H6.blk 2 rfl) (H6.oldN G.out NW.out) NE.out a5 b5 hn (H6.rd 0 rfl) (by rintro ad he; injection he with he; subst he; simp; omega) (by decide) (by decide)).mono ?_
          rintro e w6 ⟨y, rfl, _, C⟩
          obtain ⟨i6, h6, a6, b6, H7⟩ := H6.cur 2 rfl C
          clear H6 H5 C
          obtain ⟨⟨p, q⟩, hx⟩ := some_at rfl hkL
          have hk0 : (0 : Int) ≤ (k : Int) := by omega
          have hk1 : (k : Int) < (L.length : Int) := by omega
          have cy := H7.atL 1 rfl cRange_len (r := 1) hx rfl
          have cz := H7.free 1 rfl (k * 2 + 1)
          have H8 := H7.putL 1 rfl cRange_len k 1 (x := (p, q)) (p, y) (.int .i64 y) hx (by omega) rfl
          have H9 : Hid (Hp [g] w (w6.setCell ⟨gB, k * 2 + 1, none⟩ (.int .i64 y)) [.row 127 2 (.slice (some ⟨gB, 0, none⟩) (L.set k (p, y)).length d) (L.set k (p, y)).length ((L.set k (p, y)).flatMap cRange), .blk g 160 [.slice A n c, .int .i64 i6, .int .i64 h6]]) := by
            rw [List.length_set]; exact H8.tail
          clear H7 H8 hx
          go_wp2_with fail
          go_ret
          exact ⟨_, d, L.set k (p, y), i6, h6, (by show Ending.returned (.slice (some ⟨gB, 0, none⟩) L.length d) = _; rw [List.length_set]), by rw [List.length_set]; exact hl20, a6, b6, H9.out⟩
    · go_wp2_with fail
      refine (l1Below_any g A n c bs i3 h3 5 _ (H.blk 1 rfl) (H.oldN G.out NW.out) NE.out a3 b3 hn (by decide)).mono ?_
      rintro e w4 ⟨x4, rfl, _, _, _, C⟩
      obtain ⟨i4, h4, a4, b4, H4⟩ := H.cur 1 rfl C
      clear H C
      have hk66 : (6 : Int) ≤ 256 := by decide
      obtain ⟨to_, hto⟩ : ∃ q, q = IntKind.i64.wrap (at_ + x4) := ⟨_, rfl⟩
      have hw : IntKind.i64.wrap (at_ + x4) = to_ := hto.symm
      clear hto
      go_wp2_with (at_builtin; refine wp_appL (f := cRange) (H4.lay_ 127 [.int .i64 at_, .int .i64 to_] rfl) rfl _ _ _ rfl Try.underlying55 infoRange rfl (by decide) 1 _ _ rfl rfl _ _ ((at_, to_)) rfl (by simp) rfl (by simp [cRange, Value.oneCell']) (by first | (simp only [maxLen]; omega) | (simp [maxLen]; done) | (simp [maxLen]; omega)) (by first | omega | (simp; done) | (simp; omega)) ?_)
      intro v' w5 H5
      go_wp2_with fail
      go_region_held3 (fun w' => w'.cell? ⟨w4.heap.size, 1, none⟩ = some (.int .i64 to_))
        (first
          | exact H5.bat 0 rfl (j := 1) rfl
          | exact H6.bat 0 rfl (j := 1) rfl)
        ((first
          | (go_at_call 158
             refine (l1Below_any g A n c bs i4 h4 6 _ (H5.drew.blk 2 rfl) (H5.drew.oldN G.out NW.out) NE.out a4 b4 hn hk66).mono ?_
             rintro e w6 ⟨x6, rfl, _, _, _, C⟩
             obtain ⟨i6, h6, a6, b6, H6⟩ := H5.drew.cur 2 rfl C)))
      go_wp2_with fail
      go_roundw
      case rel => exact ⟨k - 1, L ++ [(at_, to_)], _, i6, h6, by go_num, rfl, by simp; omega, a6, b6, by simpa using H6.tail⟩
      case measure => simp [intOf]; omega

set_option maxRecDepth 100000 in
set_option maxHeartbeats 1000000 in
theorem drawUnion_any (A : Option Addr) (n c : Nat) (bs : List UInt8) (w : World) (hA : Rd w A n 1 (bs.map cU8)) (hn : n ≤ 1048576) :
    Calls Try.prog 57 #[.slice A n c] w fun e w' => ∃ (B : Option Addr) (d : Nat) (L : List (Int × Int)) (B' : Option Addr) (d' : Nat) (L' : List (Int × Int)), e = .returned (.tuple #[.slice B L.length d, .slice B' L'.length d']) ∧ L.length ≤ 5 ∧ L'.length ≤ 5 ∧
      Hp [] w w' [.row 127 2 (.slice B L.length d) L.length (L.flatMap cRange), .row 127 2 (.slice B' L'.length d') L'.length (L'.flatMap cRange)] := by
  have hlt : ∀ g, w.heap.size ≤ g → ∀ ad, A = some ad → 0 < n → ad.block ≠ g := fun g hg ad he h0 => by
    obtain ⟨b, o, e, hc⟩ := hA.2 h0
    obtain ⟨x, hx⟩ := some_at hA.len1 h0
    obtain ⟨b', o', e', hc'⟩ := hA.get1 hx
    rw [he] at e'
    injection e' with e'
    subst e'
    have := World.block_lt_of_cell? w _ hc'
    simp only at this ⊢
    omega
  go_enter Try.func57, Try.ntmps57
  go_wp2_with fail
  refine (l1New_any A n c bs _ hA hn).mono ?_
  rintro e w1 ⟨g, h, rfl, H1⟩
  go_wp2_with fail
  have hg : w.heap.size ≤ g := by
    rcases H1.own _ (List.mem_singleton.2 rfl) g rfl with h2 | h2
    · exact h2
    · simp at h2
  have hne : 0 < n → ∀ ad, A = some ad → ad.block ≠ g := fun h0 ad he => hlt g hg ad he h0
  refine (l12Some_any g A n c bs 0 h _ (H1.blk 0 rfl) (H1.old hA) hne (by omega) (by omega) hn).mono ?_
  rintro e w2 ⟨B, d, L, i2, h2, rfl, l2, a2, b2, K2⟩
  have H2 := H1.joinV 0 rfl K2
  go_wp2_with fail
  refine (l12Some_any g A n c bs i2 h2 _ (H2.blk 1 rfl) (H2.old hA) hne a2 b2 hn).mono ?_
  rintro e w3 ⟨B', d', L', i3, h3, rfl, l3, a3, b3, K3⟩
  have H3 := Lib.hid (H2.joinV 1 rfl K3)
  clear H1 H2 K2 K3
  go_wp2_with fail
  go_ret2
  exact ⟨B, d, L, B', d', L', rfl, l2, l3, (H3.out.swap).sub (.cons_cons _ (.cons_cons _ (.cons _ .slnil)))⟩
end Go.Proofs.Ytbhnlfpcodeloaa
