/-
The reference draws signs, and lists of signs.
-/
import Derived.Test.YtmpldngnkacnmaaGreatDoorDraw
import Derived.Test.YtmpldngnkacnmaaGreatDoorGa
namespace Go.Proofs.YtmpldngnkacnmaaGreatDoor
open Go.RowKit
def InS (x : Int) : Prop := -1 ≤ x ∧ x ≤ 1114112
def pickA : List Int := [97, 65, 98, 229, 197, 8491, 778, 803, 770, 807, 769, 7853, 7852, 7841, 470, 252, 115, 83, 223, 963, 962, 931, 940, 902, 8486, 1040, 1072, 44032, 44033, 4352, 4449, 4520, 231, 99, 55203, 255]
def pickB : List Int := [-1, 0, 31, 47, 127, 55204, 55296, 57343, 57344, 65535, 65536, 1114111, 1114112, 930, 256]
theorem pickA_in : ∀ x ∈ pickA, InS x := by unfold InS; decide
theorem pickB_in : ∀ x ∈ pickB, InS x := by unfold InS; decide
set_option linter.unusedVariables false
set_option maxRecDepth 100000 in
set_option maxHeartbeats 4000000 in
theorem l3Some_any (g : Nat) (A : Option Addr) (n c : Nat) (bs : List UInt8) (i h : Int) (w : World) (hb : Bk w g 60 [.slice A n c, .int .i64 i, .int .i64 h])
 (hA : Rd w A n 1 (bs.map cU8)) (hne : 0 < n → ∀ ad, A = some ad → ad.block ≠ g) (h0 : 0 ≤ i) (h1 : i ≤ n) (hn : n ≤ 1048576) :
 Calls Tryz.prog 113 #[.pointer (some ⟨g, 0, none⟩)] w fun e w' => ∃ x : Int, e = .returned (.int .i64 x) ∧ InS x ∧ CurOn g A n c w w' := by
 have hneW : 0 < n → ∀ ad, A = some ad → ad.block ∉ [g] := fun hn0 ad he => by simpa using hne hn0 ad he
 have H0 := Hp.start_blk hb;have hg := H0.lt 0 rfl rfl;have H1 := H0.lit 3 1 36 (pickA.map (Value.int .i64)) rfl (by simp [maxLen]);have G := Lib.hid hA;have NE := Lib.hid hne;have NW := Lib.hid hneW;clear hb hA hne hneW;go_enter Tryz.func113, Tryz.ntmps113;go_wp2_with fail;refine (l1PickInt_any g A n c bs i h (some ⟨w.heap.size, 0, none⟩) 36 36 pickA _ (H1.blk 1 rfl) (H1.oldN G.out NW.out) NE.out h0 h1 hn (H1.rd 0 rfl) (by rintro ad he; injection he with he; subst he; simp; omega) (by decide) (by decide)).mono ?_;rintro e w1 ⟨k, rfl, hk, C⟩;obtain ⟨i1, hh1, a1, b1, H2⟩ := H1.cur 1 rfl C;have H3 : Hp [g] w w1 [_] := H2.tail;have HK := Lib.hid (pickA_in k hk);clear H1 H2 C hk H0;go_wp2_with fail;refine (l1Once_any g A n c bs i1 hh1 5 _ (H3.blk 0 rfl) (H3.oldN G.out NW.out) NE.out a1 b1 hn (by decide)).mono ?_;rintro e w2 ⟨x, rfl, C⟩;obtain ⟨i2, hh2, a2, b2, H4⟩ := H3.cur 0 rfl C;clear H3 C
 cases x with
 | true =>
   go_wp2_with fail;refine (l1Below_any g A n c bs i2 hh2 224 _ (H4.blk 0 rfl) (H4.oldN G.out NW.out) NE.out a2 b2 hn (by decide)).mono ?_;rintro e w3 ⟨y, rfl, y0, y1, _, C⟩;obtain ⟨i3, hh3, a3, b3, H5⟩ := H4.cur 0 rfl C;have y2 := y1 (by decide);have hw : IntKind.i64.wrap (32 + y) = 32 + y := IntWalk.i64_in _ (by omega);have HH := Lib.hid H5;clear H4 H5 C y1;go_wp2_with fail;go_ret;exact ⟨32 + y, rfl, ⟨by omega, by omega⟩, i3, hh3, a3, b3, HH.out⟩
 | false =>
   go_wp2_with fail;refine (l1Once_any g A n c bs i2 hh2 12 _ (H4.blk 0 rfl) (H4.oldN G.out NW.out) NE.out a2 b2 hn (by decide)).mono ?_;rintro e w3 ⟨x, rfl, C⟩;obtain ⟨i3, hh3, a3, b3, H5⟩ := H4.cur 0 rfl C;clear H4 C
   cases x with
   | true =>
     have hg5 := H5.lt 0 rfl rfl;have H6 := H5.lit 3 1 15 (pickB.map (Value.int .i64)) rfl (by simp [maxLen]);go_wp2_with fail;refine (l1PickInt_any g A n c bs i3 hh3 (some ⟨w3.heap.size, 0, none⟩) 15 15 pickB _ (H6.blk 1 rfl) (H6.oldN G.out NW.out) NE.out a3 b3 hn (H6.rd 0 rfl) (by rintro ad he; injection he with he; subst he; simp; omega) (by decide) (by decide)).mono ?_;rintro e w4 ⟨y, rfl, hy, C⟩;obtain ⟨i4, hh4, a4, b4, H7⟩ := H6.cur 1 rfl C;have H8 : Hp [g] w w4 [_] := H7.tail;have HY := Lib.hid (pickB_in y hy);have HH := Lib.hid H8;clear H5 H6 H7 H8 C hy;go_wp2_with fail;go_ret;exact ⟨y, rfl, HY.out, i4, hh4, a4, b4, HH.out⟩
   | false =>
     have HH := Lib.hid H5;clear H5;go_wp2_with fail;go_ret;exact ⟨k, rfl, HK.out, i3, hh3, a3, b3, HH.out⟩
set_option maxRecDepth 100000 in
set_option maxHeartbeats 4000000 in
theorem l3List_any (g : Nat) (A : Option Addr) (n c : Nat) (bs : List UInt8) (i h : Int) (m : Nat) (w : World) (hb : Bk w g 60 [.slice A n c, .int .i64 i, .int .i64 h])
 (hA : Rd w A n 1 (bs.map cU8)) (hne : 0 < n → ∀ ad, A = some ad → ad.block ≠ g) (h0 : 0 ≤ i) (h1 : i ≤ n) (hn : n ≤ 1048576) (hm : m ≤ 100) :
 Calls Tryz.prog 99 #[.pointer (some ⟨g, 0, none⟩), .int .i64 m] w fun e w' => ∃ (B : Option Addr) (d : Nat) (L : List Int) (i' h' : Int), e = .returned (.slice B L.length d) ∧ L.length ≤ m ∧ (∀ x ∈ L, InS x) ∧ 0 ≤ i' ∧ i' ≤ n ∧
  Hp [g] w w' [.row 3 1 (.slice B L.length d) L.length (L.map (Value.int .i64)), .blk g 60 [.slice A n c, .int .i64 i', .int .i64 h']] := by
 have hneW : 0 < n → ∀ ad, A = some ad → ad.block ∉ [g] := fun hn0 ad he => by simpa using hne hn0 ad he
 have H := (Hp.start_blk hb).lit0 3 1;have G := Lib.hid hA;have NE := Lib.hid hne;have NW := Lib.hid hneW;have hw : IntKind.i64.wrap ((m : Int) + 1) = (m : Int) + 1 := IntWalk.i64_in _ (by omega);clear hb hA hne hneW;go_enter Tryz.func99, Tryz.ntmps99;go_wp2_with fail;refine (l1Below_any g A n c bs i h ((m : Int) + 1) _ (H.blk 1 rfl) (H.oldN G.out NW.out) NE.out h0 h1 hn (by omega)).mono ?_;rintro e w1 ⟨x1, rfl, x0, xm, _, C⟩;obtain ⟨i1, hh1, a1, b1, H1⟩ := H.cur 1 rfl C;have x2 := xm (by omega);obtain ⟨k0, rfl⟩ : ∃ q : Nat, x1 = q := ⟨x1.toNat, by omega⟩;clear H C xm hw;go_wp2_with fail
 go_loopw [5, 6] (fun v j wr => ∃ (k : Nat) (L : List Int) (i' h' : Int), j = .int .i64 k ∧ L.length + k ≤ m ∧ (∀ x ∈ L, InS x) ∧ 0 ≤ i' ∧ i' ≤ n ∧
  Hp [g] w wr [.row 3 1 v L.length (L.map (Value.int .i64)), .blk g 60 [.slice A n c, .int .i64 i', .int .i64 h']]) (fun _ j _ => (intOf j).toNat)
 case atStart => exact ⟨k0, [], i1, hh1, rfl, by simp; omega, by simp, a1, b1, H1⟩
 case round =>
  clear H1;obtain ⟨k, L, i3, h3, rfl, hL, hin, a3, b3, H⟩ := hrel;have HIN := Lib.hid hin;clear hin
  rcases Nat.eq_zero_or_pos k with hk | hk
  ·subst hk
   obtain ⟨B, d, rfl⟩ := H.shape 0 rfl;have HH := Lib.hid H;clear H;go_wp2_with fail;go_ret;exact ⟨B, d, L, i3, h3, rfl, by omega, HIN.out, a3, b3, HH.out⟩
  ·have hkk : (0 : Int) < (k : Int) := by omega
   go_wp2_with fail;refine (l3Some_any g A n c bs i3 h3 _ (H.blk 1 rfl) (H.oldN G.out NW.out) NE.out a3 b3 hn).mono ?_;rintro e w4 ⟨x, rfl, hx, C⟩;obtain ⟨i4, h4, a4, b4, H4⟩ := H.cur 1 rfl C;have HX := Lib.hid hx;clear H C hx;go_wp2_with (at_builtin; refine wp_appM (f := Value.int .i64) (H4) rfl _ _ _ rfl Tryz.underlying83 infoInt rfl 0 _ _ rfl rfl _ _ (x) rfl (by simp) rfl (by first | (simp only [maxLen]; omega) | (simp [maxLen]; done) | (simp [maxLen]; omega)) (by first | omega | (simp; done) | (simp; omega)) ?_)
   intro v' w5 H5;have H6 := Lib.hid (show Hp [g] w w5 [.row 3 1 v' (L ++ [x]).length ((L ++ [x]).map (Value.int .i64)), .blk g 60 [.slice A n c, .int .i64 i4, .int .i64 h4]] by
    rw [List.map_append, List.length_append]; exact H5)
   clear H4 H5;go_wp2_with fail;go_roundw
   case rel => exact ⟨k - 1, L ++ [x], i4, h4, by go_num, by simp; omega, fun y hy => by
    rcases List.mem_append.1 hy with h | h
    ·exact HIN.out y h
    ·rw [List.mem_singleton.1 h]; exact HX.out, a4, b4, H6.out⟩
   case measure => simp [intOf]; omega
theorem old_ne {A : Option Addr} {n : Nat} {bs : List UInt8} {w : World} (hA : Rd w A n 1 (bs.map cU8)) {g : Nat} (hg : w.heap.size ≤ g) : 0 < n → ∀ ad, A = some ad → ad.block ≠ g := fun h0 ad he => by
 obtain ⟨x, hx⟩ := some_at hA.len1 h0;obtain ⟨b', o', e', hc'⟩ := hA.get1 hx;rw [he] at e';injection e' with e';subst e';have := World.block_lt_of_cell? w _ hc';simp only at this ⊢;omega
theorem own_new {w w' : World} {g : Nat} {T : TypeId} {cs : List Value} (H : Hp [] w w' [.blk g T cs]) : w.heap.size ≤ g := by
 rcases H.own _ (List.mem_singleton.2 rfl) g rfl with h2 | h2
 ·exact h2
 ·simp at h2
end Go.Proofs.YtmpldngnkacnmaaGreatDoor
