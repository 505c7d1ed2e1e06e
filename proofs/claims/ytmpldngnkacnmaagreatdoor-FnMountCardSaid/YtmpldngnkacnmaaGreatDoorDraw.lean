/-
The draws of the reference: a cursor over the code's bytes. What it hands out is not told, but within its bounds.
-/
import Derived.Test.YtmpldngnkacnmaaGreatDoorGa
namespace Go.Proofs.YtmpldngnkacnmaaGreatDoor
open Go.RowKit
theorem Hp.oldN {W : List Nat} {w0 w : World} {l : List Ob} {A : Option Addr} {n k : Nat} {xs : List Value} (h : Hp W w0 w l) (hr : Rd w0 A n k xs) (hA : 0 < n → ∀ ad, A = some ad → ad.block ∉ W) : Rd w A n k xs := by
 refine ⟨hr.1, fun hn => ?_⟩;obtain ⟨b, o, rfl, hc⟩ := hr.2 hn;refine ⟨b, o, rfl, fun j u hu => ?_⟩;have hc' := hc j u hu;rw [h.gr.cell (World.block_lt_of_cell? w0 _ hc') (hA hn ⟨b, o, none⟩ rfl)];exact hc'
theorem Hp.joinV {W : List Nat} {w0 w w' : World} {l : List Ob} {o : Ob} {g : Nat} {t : TypeId} {cs cs' : List Value} (h : Hp W w0 w l) (i : Nat) (hi : l[i]? = some (.blk g t cs)) (k : Hp [g] w w' (o :: [.blk g t cs'])) : Hp W w0 w' (o :: l.set i (.blk g t cs')) := by
 have h2 := h.turn i hi k.gr (o' := .blk g t cs') (k.blk 1 rfl) (fun _ h => .inl h);have ho : ∀ b, o.has b → w.heap.size ≤ b := fun b hb => by
  rcases k.own o (by simp) b hb with h3 | h3
  ·exact h3
  ·exfalso
   have h4 := (List.pairwise_cons.1 k.ap).1 (.blk g t cs') (by simp) b hb;simp only [List.mem_singleton] at h3;subst h3;exact h4 rfl
 refine ⟨h2.gr, ?_, ?_, List.pairwise_cons.2 ⟨fun x hx b hb hxb => ?_, h2.ap⟩⟩
 ·intro x hx
  rcases List.mem_cons.1 hx with rfl | h1
  ·exact k.ok _ (by simp)
  ·exact h2.ok x h1
 ·intro x hx b hb
  rcases List.mem_cons.1 hx with rfl | h1
  ·exact .inl (Nat.le_trans h.size (ho b hb))
  ·exact h2.own x h1 b hb
 ·have h3 := ho b hb
  rcases List.mem_or_eq_of_mem_set hx with h4 | h4
  ·have := Ob.lt (h.ok x h4) hxb
   omega
  ·subst h4
   have := Ob.lt (h.ok _ (List.mem_of_getElem? hi)) hxb;omega
def CurOn (g : Nat) (A : Option Addr) (n c : Nat) (w w' : World) : Prop := ∃ i h : Int, 0 ≤ i ∧ i ≤ n ∧ Hp [g] w w' [.blk g 60 [.slice A n c, .int .i64 i, .int .i64 h]]
theorem i64_and255 (n : Int) : bits .and .i64 n 255 = n % 256 := by
 have h127 : (BitVec.ofInt 64 255).toNat = 2 ^ 8 - 1 := by decide
 have key : (BitVec.ofInt 64 n &&& BitVec.ofInt 64 255).toNat = (n % ((2 ^ 64 : Nat) : Int)).toNat % 2 ^ 8 := by
  rw [BitVec.toNat_and, BitVec.toNat_ofInt, h127, Nat.and_two_pow_sub_one_eq_mod]
 show IntKind.i64.wrap ((BitVec.ofInt 64 n &&& BitVec.ofInt 64 255).toNat : Nat) = n % 256
 rw [key, IntKind.wrap_i64];omega
set_option maxRecDepth 100000 in
set_option maxHeartbeats 1000000 in
theorem l1Byte_any (g : Nat) (A : Option Addr) (n c : Nat) (bs : List UInt8) (i h : Int) (w : World) (hb : Bk w g 60 [.slice A n c, .int .i64 i, .int .i64 h])
 (hA : Rd w A n 1 (bs.map cU8)) (hne : 0 < n → ∀ ad, A = some ad → ad.block ≠ g) (h0 : 0 ≤ i) (h1 : i ≤ n) (hn : n ≤ 1048576) :
 Calls Tryz.prog 55 #[.pointer (some ⟨g, 0, none⟩)] w fun e w' => ∃ x : Int, e = .returned (.int .i64 x) ∧ 0 ≤ x ∧ x ≤ 255 ∧ CurOn g A n c w w' := by
 have c0 := hb.at_ (j := 0) rfl;have c1 := hb.at_ (j := 1) rfl;have c2 := hb.at_ (j := 2) rfl;have z0 := hb.free 1;have z1 := hb.free 2;go_enter Tryz.func55, Tryz.ntmps55;go_wp2_with fail;obtain ⟨h', hh'⟩ : ∃ q, q = wrap64 (wrap64 (h * 6364136223846793005) + 1442695040888963407) := ⟨_, rfl⟩;rw [← hh'];clear hh';have H := (Hp.start_blk hb).bput 0 rfl 2 (.int .i64 h');obtain ⟨w1, hw1⟩ : ∃ q : World, q = w.setCell ⟨g, 2, none⟩ (.int .i64 h') := ⟨_, rfl⟩;rw [← hw1] at H ⊢;clear hw1 c0 c1 c2 z0 z1 hb;have c0 := H.fa 0 0 rfl rfl;have c1 := H.fa 0 1 rfl rfl;have c2 := H.fa 0 2 rfl rfl;have z0 := H.bfree 0 rfl 1;refine wp_region_quiet_lit (by kernel_rfl) (by kernel_rfl) ?_
 repeat (any_goals (first | go_big_quiet_step ((fail)) | quiet_step ((fail)) | (refine wpQuiet_step (fun K hK => ?_); go_simp; split <;> (refine hK _ ?_; clear hK K))))
 all_goals (refine wpQuiet_nil ?_; intro _ hw_; obtain ⟨nq, hw__⟩ := hw_; subst hw__)
 go_wp2_with fail;rw [i64_and255];obtain ⟨x, hx⟩ : ∃ q, q = bits BinOp.xor IntKind.i64 (h' / 8589934592) (h' / 35184372088832) % 256 := ⟨_, rfl⟩;have hx0 : 0 ≤ x ∧ x ≤ 255 := by omega
 rw [← hx];clear hx;replace H := H.on nq;obtain ⟨w2, hw2⟩ : ∃ q : World, q = w1.drewN nq := ⟨_, rfl⟩;rw [← hw2] at H ⊢;clear hw2 c0 c1 c2 z0;replace c0 := H.fa 0 0 rfl rfl;replace c1 := H.fa 0 1 rfl rfl;obtain ⟨k, rfl⟩ : ∃ q : Nat, i = q := ⟨i.toNat, by omega⟩
 by_cases hlt : k < n
 ·have hlt' : (k : Int) < (n : Int) := by omega
  have hk0 : (0 : Int) ≤ (k : Int) := by omega
  refine wp_region_quiet_lit (by kernel_rfl) (by kernel_rfl) ?_
  repeat (any_goals (first | go_big_quiet_step ((fail)) | quiet_step ((fail)) | (refine wpQuiet_step (fun K hK => ?_); go_simp; split <;> (refine hK _ ?_; clear hK K))))
  all_goals (refine wpQuiet_nil ?_; intro _ hw_; obtain ⟨nq, hw__⟩ := hw_; subst hw__)
  go_wp2_with fail;replace H := H.on nq;obtain ⟨w3, hw3⟩ : ∃ q : World, q = w2.drewN nq := ⟨_, rfl⟩;rw [← hw3] at H ⊢;clear hw3 c0 c1;replace c0 := H.fa 0 0 rfl rfl;replace c1 := H.fa 0 1 rfl rfl;obtain ⟨b, hbk⟩ := some_at hA.len1 hlt;obtain ⟨b0, o0, rfl, cb⟩ := (H.oldN hA (fun hn0 ad he => by simpa using hne hn0 ad he)).get1 hbk;have hbb := b.toNat_lt;obtain ⟨y, hy⟩ : ∃ q : Nat, q = b.toNat := ⟨_, rfl⟩;rw [show cU8 b = .int .u8 (y : Int) by rw [hy]; rfl] at cb;have hy1 : y ≤ 255 := by omega
  have hk1 : (k : Int) < (n : Int) := by omega
  have hw1 : IntKind.i64.wrap (x + (y : Int)) = x + (y : Int) := IntWalk.i64_in _ (by omega);have hw2 : IntKind.i64.wrap (y : Int) = (y : Int) := IntWalk.i64_in _ (by omega);clear hy hbb hbk;have z0 := H.bfree 0 rfl 1;have hw3 : IntKind.i64.wrap ((k : Int) + 1) = (k : Int) + 1 := IntWalk.i64_in _ (by omega);refine wp_region_quiet_lit (by kernel_rfl) (by kernel_rfl) ?_
  repeat (any_goals (first | go_big_quiet_step ((fail)) | quiet_step ((fail)) | (refine wpQuiet_step (fun K hK => ?_); go_simp; split <;> (refine hK _ ?_; clear hK K))))
  all_goals (refine wpQuiet_nil ?_; intro _ hw_; obtain ⟨nq, hw__⟩ := hw_; subst hw__)
  go_wp2_with fail;go_ret;exact ⟨_, rfl, by rw [i64_and255]; omega, by rw [i64_and255]; omega, (k : Int) + 1, h', by omega, by omega, (H.on nq).bput 0 rfl 1 (.int .i64 ((k : Int) + 1))⟩
 ·have hlt' : ¬ (k : Int) < (n : Int) := by omega
  refine wp_region_quiet_lit (by kernel_rfl) (by kernel_rfl) ?_
  repeat (any_goals (first | go_big_quiet_step ((fail)) | quiet_step ((fail)) | (refine wpQuiet_step (fun K hK => ?_); go_simp; split <;> (refine hK _ ?_; clear hK K))))
  all_goals (refine wpQuiet_nil ?_; intro _ hw_; obtain ⟨nq, hw__⟩ := hw_; subst hw__)
  go_wp2_with fail;go_ret;exact ⟨x, rfl, hx0.1, hx0.2, k, h', h0, h1, H.on nq⟩
theorem CurOn.then {g : Nat} {A : Option Addr} {n c : Nat} {a b d : World} (h : CurOn g A n c a b) (k : ∀ i h' : Int, 0 ≤ i → i ≤ n → Bk b g 60 [.slice A n c, .int .i64 i, .int .i64 h'] → CurOn g A n c b d) : CurOn g A n c a d := by
 obtain ⟨i, h', h0, h1, H⟩ := h;obtain ⟨i2, h2, h3, h4, K⟩ := k i h' h0 h1 (H.blk 0 rfl);exact ⟨i2, h2, h3, h4, H.turn 0 rfl K.gr (K.blk 0 rfl) (fun _ h => .inl h)⟩
set_option maxRecDepth 100000 in
set_option maxHeartbeats 1000000 in
theorem l1Below_any (g : Nat) (A : Option Addr) (n c : Nat) (bs : List UInt8) (i h : Int) (m : Int) (w : World) (hb : Bk w g 60 [.slice A n c, .int .i64 i, .int .i64 h])
 (hA : Rd w A n 1 (bs.map cU8)) (hne : 0 < n → ∀ ad, A = some ad → ad.block ≠ g) (h0 : 0 ≤ i) (h1 : i ≤ n) (hn : n ≤ 1048576) (hm1 : m ≤ 256) :
 Calls Tryz.prog 29 #[.pointer (some ⟨g, 0, none⟩), .int .i64 m] w fun e w' => ∃ x : Int, e = .returned (.int .i64 x) ∧ 0 ≤ x ∧ (0 < m → x < m) ∧ (m ≤ 0 → x = 0) ∧ CurOn g A n c w w' := by
 by_cases hm0 : m ≤ 0
 ·go_enter Tryz.func29, Tryz.ntmps29
  go_wp2
  go_ret;exact ⟨0, rfl, by omega, by omega, fun _ => rfl, i, h, h0, h1, Hp.start_blk hb⟩
 ·go_enter Tryz.func29, Tryz.ntmps29
  go_wp2_with fail;refine (l1Byte_any g A n c bs i h _ hb hA hne h0 h1 hn).mono ?_;rintro e w1 ⟨x, rfl, hx0, hx1, C⟩;have hq : IntKind.i64.wrap (x.tmod m) = x % m := by
   rw [Int.tmod_eq_emod_of_nonneg hx0];have q1 := Int.emod_nonneg x (show m ≠ 0 by omega);have q2 := Int.emod_lt_of_pos x (show 0 < m by omega);exact IntWalk.i64_in _ (by omega)
  have hmz : (m == 0) = false := by simp; omega
  have HC := Lib.hid C;clear C hb hA
  go_wp2
  go_ret;exact ⟨x % m, rfl, Int.emod_nonneg x (by omega), fun _ => Int.emod_lt_of_pos x (by omega), fun h => absurd h (by omega), HC.out⟩
set_option maxRecDepth 100000 in
set_option maxHeartbeats 1000000 in
theorem l1Once_any (g : Nat) (A : Option Addr) (n c : Nat) (bs : List UInt8) (i h : Int) (m : Int) (w : World) (hb : Bk w g 60 [.slice A n c, .int .i64 i, .int .i64 h])
 (hA : Rd w A n 1 (bs.map cU8)) (hne : 0 < n → ∀ ad, A = some ad → ad.block ≠ g) (h0 : 0 ≤ i) (h1 : i ≤ n) (hn : n ≤ 1048576) (hm1 : m ≤ 256) :
 Calls Tryz.prog 16 #[.pointer (some ⟨g, 0, none⟩), .int .i64 m] w fun e w' => ∃ x : Bool, e = .returned (.bool x) ∧ CurOn g A n c w w' := by
 go_enter Tryz.func16, Tryz.ntmps16;go_wp2_with fail;refine (l1Below_any g A n c bs i h m _ hb hA hne h0 h1 hn hm1).mono ?_;rintro e w1 ⟨x, rfl, _, _, _, C⟩;have HC := Lib.hid C;clear C hb hA
 go_wp2
 go_ret;exact ⟨_, rfl, HC.out⟩
set_option maxRecDepth 100000 in
set_option maxHeartbeats 1000000 in
theorem l1PickInt_any (g : Nat) (A : Option Addr) (n c : Nat) (bs : List UInt8) (i h : Int) (B : Option Addr) (m d : Nat) (xs : List Int) (w : World) (hb : Bk w g 60 [.slice A n c, .int .i64 i, .int .i64 h])
 (hA : Rd w A n 1 (bs.map cU8)) (hne : 0 < n → ∀ ad, A = some ad → ad.block ≠ g) (h0 : 0 ≤ i) (h1 : i ≤ n) (hn : n ≤ 1048576) (hB : Rd w B m 1 (xs.map (Value.int .i64))) (hneB : ∀ ad, B = some ad → ad.block ≠ g) (hm0 : 0 < m) (hm1 : m ≤ 256) :
 Calls Tryz.prog 61 #[.pointer (some ⟨g, 0, none⟩), .slice B m d] w fun e w' => ∃ x : Int, e = .returned (.int .i64 x) ∧ x ∈ xs ∧ CurOn g A n c w w' := by
 go_enter Tryz.func61, Tryz.ntmps61;go_wp2_with fail;refine (l1Below_any g A n c bs i h m _ hb hA hne h0 h1 hn (by omega)).mono ?_;rintro e w1 ⟨x, rfl, hx0, hx1, _, C⟩;have hxm := hx1 (by omega);obtain ⟨k, rfl⟩ : ∃ q : Nat, x = q := ⟨x.toNat, by omega⟩;obtain ⟨y, hy⟩ := at_some hB.len1 (show k < m by omega);obtain ⟨i2, h2, _, _, K⟩ := id C;obtain ⟨b0, o0, rfl, cb⟩ := (K.oldW hB (fun ad he => by simpa using hneB ad he)).get1 hy;have HC := Lib.hid C;have HY := Lib.hid hy.mem;have hk0 : (0 : Int) ≤ (k : Int) := by omega
 clear C hb hA K hB hy hx1
 go_wp2
 go_ret;exact ⟨y, rfl, HY.out, HC.out⟩
theorem Hp.cur {W : List Nat} {w0 w w' : World} {l : List Ob} {g : Nat} {A : Option Addr} {n c : Nat} {T : TypeId} {cs : List Value} (H : Hp W w0 w l) (j : Nat) (hj : l[j]? = some (.blk g T cs)) (C : CurOn g A n c w w') :
 ∃ i' h' : Int, 0 ≤ i' ∧ i' ≤ n ∧ Hp W w0 w' (l.set j (.blk g 60 [.slice A n c, .int .i64 i', .int .i64 h'])) := by
 obtain ⟨i', h', h0, h1, K⟩ := C;exact ⟨i', h', h0, h1, H.turn j hj K.gr (K.blk 0 rfl) (fun _ h => .inl h)⟩
set_option maxRecDepth 100000 in
set_option maxHeartbeats 1000000 in
theorem l1New_any (A : Option Addr) (n c : Nat) (bs : List UInt8) (w : World) (hA : Rd w A n 1 (bs.map cU8)) (hn : n ≤ 1048576) :
 Calls Tryz.prog 13 #[.slice A n c] w fun e w' => ∃ g, ∃ h : Int, e = .returned (.pointer (some ⟨g, 0, none⟩)) ∧ Hp [] w w' [.blk g 60 [.slice A n c, .int .i64 0, .int .i64 h]] := by
 have HN := Lib.hid hA.len1;go_enter Tryz.func13, Tryz.ntmps13;go_wp2_with fail
 go_loopw [3, 4] (fun h i wr => ∃ k : Nat, ∃ hv : Int, k ≤ n ∧ i = .int .i64 k ∧ h = .int .i64 hv ∧ w = wr) (fun _ i _ => n - (intOf i).toNat)
 case atStart => exact ⟨0, _, by omega, rfl, rfl, rfl⟩
 case round =>
  obtain ⟨k, hv, hk, rfl, rfl, rfl⟩ := hrel
  by_cases hlt : k < n
  ·by_cases hb : k < 4000
   ·obtain ⟨b, hx⟩ := some_at HN.out hlt
    obtain ⟨b0, o0, rfl, cb⟩ := hA.get1 hx;have hbb := b.toNat_lt;obtain ⟨y, hy⟩ : ∃ q : Nat, q = b.toNat := ⟨_, rfl⟩;rw [show cU8 b = .int .u8 (y : Int) by rw [hy]; rfl] at cb;have hy1 : y ≤ 255 := by omega
    clear hy hbb hx;go_wp2_with fail;go_roundw
    case rel => exact ⟨k + 1, _, by omega, by go_num, rfl, by first | trivial | rfl⟩
    case measure => simp [intOf]; omega
   ·have hb' : decide ((k : Int) < 4000) = false := by simp; omega
    go_wp2_with fail;go_ret;exact ⟨_, hv, rfl, (Hp.start w).lay _ _⟩
  ·go_wp2_with fail
   go_ret;exact ⟨_, hv, rfl, (Hp.start w).lay _ _⟩
end Go.Proofs.YtmpldngnkacnmaaGreatDoor
