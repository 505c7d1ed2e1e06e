/-
The reference draws names.
-/
import Derived.Test.YtmpldngnkacnmaaGreatDoorDrawSigns
import Derived.Test.YtmpldngnkacnmaaGreatDoorGb
namespace Go.Proofs.YtmpldngnkacnmaaGreatDoor
open Go.RowKit
def pickN : List ByteArray := [⟨#[97]⟩, ⟨#[65]⟩, ⟨#[98]⟩, ⟨#[195, 165]⟩, ⟨#[97, 204, 138]⟩, ⟨#[226, 132, 171]⟩, ⟨#[65, 204, 138]⟩, ⟨#[225, 186, 173]⟩, ⟨#[97, 204, 130, 204, 163]⟩, ⟨#[97, 204, 163, 204, 130]⟩, ⟨#[115, 115]⟩, ⟨#[195, 159]⟩, ⟨#[83, 83]⟩, ⟨#[207, 131]⟩, ⟨#[207, 130]⟩, ⟨#[206, 163]⟩, ⟨#[234, 176, 129]⟩, ⟨#[225, 132, 128, 225, 133, 161, 225, 134, 168]⟩, ⟨#[206, 172]⟩, ⟨#[206, 134]⟩, ⟨#[102, 105, 108, 101]⟩, ⟨#[70, 73, 76, 69]⟩, ⟨#[70, 105, 108, 101]⟩, ⟨#[120, 49]⟩, ⟨#[120, 50]⟩, ⟨#[120, 51]⟩, ⟨#[120, 52]⟩, ⟨#[120, 53]⟩, ⟨#[108, 111, 110, 103, 32, 110, 97, 109, 101]⟩]
def pickO : List ByteArray := [⟨#[]⟩, ⟨#[46]⟩, ⟨#[46, 46]⟩, ⟨#[46, 46, 46]⟩, ⟨#[97, 47, 98]⟩, ⟨#[127]⟩, ⟨#[97, 98, 99, 100, 101, 102, 103, 104, 105, 106, 107, 108, 109, 110, 111, 112, 113, 114, 115, 116, 117, 118, 119, 120]⟩, ⟨#[97, 98, 99, 100, 101, 102, 103, 104, 105, 106, 107, 108, 109, 110, 111, 112, 113, 114, 115, 116, 117, 118, 119, 120, 121]⟩, ⟨#[255]⟩]
theorem pickN_in : ∀ x ∈ pickN, x.size ≤ 32 := by decide
theorem pickO_in : ∀ x ∈ pickO, x.size ≤ 32 := by decide
set_option linter.unusedVariables false
set_option linter.unusedSimpArgs false
set_option maxRecDepth 100000 in
set_option maxHeartbeats 1000000 in
theorem l1Pick_any (g : Nat) (A : Option Addr) (n c : Nat) (bs : List UInt8) (i h : Int) (B : Option Addr) (m d : Nat) (xs : List ByteArray) (w : World) (hb : Bk w g 60 [.slice A n c, .int .i64 i, .int .i64 h])
 (hA : Rd w A n 1 (bs.map cU8)) (hne : 0 < n → ∀ ad, A = some ad → ad.block ≠ g) (h0 : 0 ≤ i) (h1 : i ≤ n) (hn : n ≤ 1048576) (hB : Rd w B m 1 (xs.map Value.string)) (hneB : ∀ ad, B = some ad → ad.block ≠ g) (hm0 : 0 < m) (hm1 : m ≤ 256) :
 Calls Tryz.prog 97 #[.pointer (some ⟨g, 0, none⟩), .slice B m d] w fun e w' => ∃ x : ByteArray, e = .returned (.string x) ∧ x ∈ xs ∧ CurOn g A n c w w' := by
 go_enter Tryz.func97, Tryz.ntmps97;go_wp2_with fail;refine (l1Below_any g A n c bs i h m _ hb hA hne h0 h1 hn (by omega)).mono ?_;rintro e w1 ⟨x, rfl, hx0, hx1, _, C⟩;have hxm := hx1 (by omega);obtain ⟨k, rfl⟩ : ∃ q : Nat, x = q := ⟨x.toNat, by omega⟩;obtain ⟨y, hy⟩ := at_some hB.len1 (show k < m by omega);obtain ⟨i2, h2, _, _, K⟩ := id C;obtain ⟨b0, o0, rfl, cb⟩ := (K.oldW hB (fun ad he => by simpa using hneB ad he)).get1 hy;have HC := Lib.hid C;have HY := Lib.hid hy.mem;have hk0 : (0 : Int) ≤ (k : Int) := by omega
 clear C hb hA K hB hy hx1
 go_wp2
 go_ret;exact ⟨y, rfl, HY.out, HC.out⟩
set_option maxRecDepth 100000 in
set_option maxHeartbeats 4000000 in
theorem l4Name_any (g : Nat) (A : Option Addr) (n c : Nat) (bs : List UInt8) (i h : Int) (w : World) (hb : Bk w g 60 [.slice A n c, .int .i64 i, .int .i64 h])
 (hA : Rd w A n 1 (bs.map cU8)) (hne : 0 < n → ∀ ad, A = some ad → ad.block ≠ g) (h0 : 0 ≤ i) (h1 : i ≤ n) (hn : n ≤ 1048576) :
 Calls Tryz.prog 63 #[.pointer (some ⟨g, 0, none⟩)] w fun e w' => ∃ x : ByteArray, e = .returned (.string x) ∧ x.size ≤ 32 ∧ CurOn g A n c w w' := by
 have hneW : 0 < n → ∀ ad, A = some ad → ad.block ∉ [g] := fun hn0 ad he => by simpa using hne hn0 ad he
 have H0 := Hp.start_blk hb;have hg := H0.lt 0 rfl rfl;have H1 := H0.lit 9 1 29 (pickN.map Value.string) rfl (by simp [maxLen]);have G := Lib.hid hA;have NE := Lib.hid hne;have NW := Lib.hid hneW;clear hb hA hne hneW;go_enter Tryz.func63, Tryz.ntmps63;go_wp2_with fail;refine (l1Pick_any g A n c bs i h (some ⟨w.heap.size, 0, none⟩) 29 29 pickN _ (H1.blk 1 rfl) (H1.oldN G.out NW.out) NE.out h0 h1 hn (H1.rd 0 rfl) (by rintro ad he; injection he with he; subst he; simp; omega) (by decide) (by decide)).mono ?_;rintro e w1 ⟨s, rfl, hs, C⟩;obtain ⟨i1, hh1, a1, b1, H2⟩ := H1.cur 1 rfl C;have H3 : Hp [g] w w1 [_] := H2.tail;have HS := Lib.hid (pickN_in s hs);clear H1 H2 C hs H0;go_wp2_with fail;refine (l1Once_any g A n c bs i1 hh1 4 _ (H3.blk 0 rfl) (H3.oldN G.out NW.out) NE.out a1 b1 hn (by decide)).mono ?_;rintro e w2 ⟨x, rfl, C⟩;obtain ⟨i2, hh2, a2, b2, H4⟩ := H3.cur 0 rfl C;clear H3 C
 cases x with
 | true =>
   go_wp2_with fail;refine (l3List_any g A n c bs i2 hh2 4 _ (H4.blk 0 rfl) (H4.oldN G.out NW.out) NE.out a2 b2 hn (by decide)).mono ?_;rintro e w3 ⟨B, d, L, i3, hh3, rfl, hL, hin, a3, b3, K⟩;have H5 := H4.joinV 0 rfl K;clear H4 K;go_wp2_with fail;refine (specEncode_any B L.length d L _ (H5.rd 0 rfl) (by omega)).mono ?_;rintro e w4 ⟨rfl, f4⟩;have H6 : Hp [g] w w4 [_] := (H5.go f4).tail;have hl := encL_le L;have HH := Lib.hid H6;clear H5 H6 f4;go_wp2_with fail;go_ret;exact ⟨_, rfl, by rw [ofB_size]; omega, i3, hh3, a3, b3, HH.out⟩
 | false =>
   go_wp2_with fail;refine (l1Once_any g A n c bs i2 hh2 25 _ (H4.blk 0 rfl) (H4.oldN G.out NW.out) NE.out a2 b2 hn (by decide)).mono ?_;rintro e w3 ⟨x, rfl, C⟩;obtain ⟨i3, hh3, a3, b3, H5⟩ := H4.cur 0 rfl C;clear H4 C
   cases x with
   | true =>
     have hg5 := H5.lt 0 rfl rfl;have H6 := H5.lit 9 1 9 (pickO.map Value.string) rfl (by simp [maxLen]);go_wp2_with fail;refine (l1Pick_any g A n c bs i3 hh3 (some ⟨w3.heap.size, 0, none⟩) 9 9 pickO _ (H6.blk 1 rfl) (H6.oldN G.out NW.out) NE.out a3 b3 hn (H6.rd 0 rfl) (by rintro ad he; injection he with he; subst he; simp; omega) (by decide) (by decide)).mono ?_;rintro e w4 ⟨y, rfl, hy, C⟩;obtain ⟨i4, hh4, a4, b4, H7⟩ := H6.cur 1 rfl C;have H8 : Hp [g] w w4 [_] := H7.tail;have HY := Lib.hid (pickO_in y hy);have HH := Lib.hid H8;clear H5 H6 H7 H8 C hy;go_wp2_with fail;go_ret;exact ⟨y, rfl, HY.out, i4, hh4, a4, b4, HH.out⟩
   | false =>
     have HH := Lib.hid H5;clear H5;go_wp2_with fail;go_ret;exact ⟨s, rfl, HS.out, i3, hh3, a3, b3, HH.out⟩
end Go.Proofs.YtmpldngnkacnmaaGreatDoor
