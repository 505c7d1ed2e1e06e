/-
  Many texts in one: CreateI, LinkI, UnlinkI, Strings, DiffS, Spoil, Law.
-/
import Derived.Test.YtmpldngnkacnmaaGreatDoorGp
import Derived.Test.YtmpldngnkacnmaaGreatDoorGc
import Derived.Test.YtmpldngnkacnmaaGreatDoorGq
import Derived.Test.YtmpldngnkacnmaaGreatDoorGr
import Derived.Test.YtmpldngnkacnmaaGreatDoorGf
import Derived.Test.YtmpldngnkacnmaaGreatDoorGa
import Derived.Test.YtmpldngnkacnmaaGreatDoorGg
import Derived.ProofKit
import Derived.OpenVars
import Derived.Deep.Slices
import Derived.Deep.Strs
import Derived.Lib.SmallJoins
set_option linter.unusedVariables false
set_option linter.unusedSimpArgs false
namespace Go.Proofs.YtmpldngnkacnmaaGreatDoor
open Go.RowKit
theorem entZ_some {next : Int} {l : List Nod} {k j : Nat} {x : Nod} {s : ByteArray} (hv : VW next l) (hx : l[k]? = some x) (h : dirAt x.2.2.2.2 (toB s) = some j) : ∃ (e : EntT) (t : Nat), lookD x.2.2.2.2 s = some e ∧ atN l e.2.2.2 = some t ∧ entZ l k s = (t : Int) := by
 obtain ⟨e, h1, h2⟩ := look_of h;have h3 := (hv.ent x (List.mem_of_getElem? hx) e (lookD_mem h2)).2;have h4 := atN_is.2 h3;obtain ⟨t, ht⟩ := Option.isSome_iff_exists.1 h4;exact ⟨e, t, h2, ht, by rw [entZ, entsOf_eq hx, h2]; simp only [atZ, ht]⟩
end Go.Proofs.YtmpldngnkacnmaaGreatDoor
namespace Go.Proofs.YtmpldngnkacnmaaGreatDoor
open Go.RowKit
end Go.Proofs.YtmpldngnkacnmaaGreatDoor
namespace Go.Proofs.YtmpldngnkacnmaaGreatDoor
open Go.RowKit
end Go.Proofs.YtmpldngnkacnmaaGreatDoor
namespace Go.Proofs.YtmpldngnkacnmaaGreatDoor
open Go.RowKit
end Go.Proofs.YtmpldngnkacnmaaGreatDoor
namespace Go.Proofs.YtmpldngnkacnmaaGreatDoor
open Go.RowKit
def DiffGave (w : World) (b : List ByteArray) (e : Ending) (w' : World) : Prop := ∃ (C : Option Addr) (q : Nat) (outs : List (Int × ByteArray)), e = .returned (.slice C outs.length q) ∧ outs.length ≤ 17 ∧ (∀ x ∈ outs, 0 ≤ x.1 ∧ x.1 ≤ 16 ∧ x.2 ∈ b) ∧ Hp [] w w' [.row 34 2 (.slice C outs.length q) outs.length (outs.flatMap cWrite)]
set_option maxRecDepth 100000 in
set_option maxHeartbeats 4000000 in
theorem specDiff_any (A B : Option Addr) (n c m d : Nat) (a b : List ByteArray) (w : World) (h : Rd w A n 1 (a.map Value.string)) (h' : Rd w B m 1 (b.map Value.string)) (hn : n = 17) (hm : m = 17) :
 Calls Tryz.prog 33 #[.slice A n c, .slice B m d] w (DiffGave w b) := by
 subst hn hm;have HR := Lib.hid h;have HR' := Lib.hid h';have H := (Hp.start w).lit0 34 2;clear h h';go_enter Tryz.func33, Tryz.ntmps33;go_wp2_with fail
 go_loopw [5, 6] (fun v iv wr => ∃ (i : Nat) (outs : List (Int × ByteArray)), iv = .int .i64 i ∧ i ≤ 17 ∧ outs.length ≤ i ∧ (∀ x ∈ outs, 0 ≤ x.1 ∧ x.1 ≤ 16 ∧ x.2 ∈ b) ∧ Hp [] w wr [.row 34 2 v outs.length (outs.flatMap cWrite)]) (fun _ iv _ => 17 - (intOf iv).toNat)
 case atStart => exact ⟨0, [], rfl, by omega, by simp, by simp, H⟩
 case round =>
  clear H;obtain ⟨i, outs, rfl, hi, hlo, hin, H⟩ := hrel;have HIN := Lib.hid hin;clear hin
  by_cases hlt : i < 17
  ·have hlt1 : (i : Int) < 17 := by omega
   have hi0 : (0 : Int) ≤ (i : Int) := by omega
   obtain ⟨s, hs⟩ := some_at HR.out.len1 hlt;obtain ⟨t, ht⟩ := some_at HR'.out.len1 hlt;obtain ⟨b1, o1, rfl, c1⟩ := (HR.out.fr H.fr).get1 hs;obtain ⟨b2, o2, rfl, c2⟩ := (HR'.out.fr H.fr).get1 ht;have HT := Lib.hid ht;clear hs ht
   by_cases hst : s = t
   ·subst hst
    have HH := Lib.hid H;clear H;go_wp2_with fail;refine wp_region_quiet_lit (by kernel_rfl) (by kernel_rfl) ?_
    repeat (any_goals (first | go_big_quiet_step ((fail)) | quiet_step ((fail)) | (refine wpQuiet_step (fun K hK => ?_); go_simp; split <;> (refine hK _ ?_; clear hK K))))
    all_goals (refine wpQuiet_nil ?_; intro _ hw_; obtain ⟨nq, hw__⟩ := hw_; subst hw__)
    go_wp2_with fail;go_roundw
    case rel => exact ⟨i + 1, outs, by go_num, by omega, by omega, HIN.out, HH.out.on _⟩
    case measure => simp [intOf]; omega
   ·have hne : (s.toList == t.toList) = false := str_ne hst
    go_wp2_with fail;refine wp_region_quiet_lit (by kernel_rfl) (by kernel_rfl) ?_
    repeat (any_goals (first | go_big_quiet_step ((fail)) | quiet_step ((fail)) | (refine wpQuiet_step (fun K hK => ?_); go_simp; split <;> (refine hK _ ?_; clear hK K))))
    all_goals (refine wpQuiet_nil ?_; intro _ hw_; obtain ⟨nq, hw__⟩ := hw_; subst hw__)
    replace H := H.on nq;obtain ⟨w6, hw6⟩ : ∃ q : World, q = wr.drewN nq := ⟨_, rfl⟩;rw [← hw6] at H ⊢;clear hw6 c1 c2;obtain ⟨b3, o3, e3, c3⟩ := (HR'.out.fr H.fr).get1 HT.out;injection e3 with e3;injection e3 with e3a e3b;subst e3a e3b;go_wp2_with (at_builtin; refine wp_appL (f := cWrite) (H) rfl _ _ _ rfl Tryz.underlying29 infoWrite rfl (by decide) 0 _ _ rfl rfl _ _ (((i : Int), t)) rfl (by simp) rfl (by simp [cWrite, Value.oneCell']) (by first | (simp only [maxLen]; omega) | (simp [maxLen]; done) | (simp [maxLen]; omega)) (by first | omega | (simp; done) | (simp; omega)) ?_)
    intro v5 w7 H7;have HH := Lib.hid H7;have HTM := Lib.hid (List.mem_of_getElem? HT.out);clear H H7 c3;go_wp2_with fail;go_roundw
    case rel => exact ⟨i + 1, outs ++ [((i : Int), t)], by go_num, by omega, by simp; omega, fun x hx => (List.mem_append.1 hx).elim (HIN.out x) fun h => by rw [List.mem_singleton.1 h]; exact ⟨by simp, by simp; omega, HTM.out⟩, by rw [List.flatMap_append]; simpa using HH.out⟩
    case measure => simp [intOf]; omega
  ·have hlt1 : ¬ (i : Int) < 17 := by omega
   obtain ⟨C, q, rfl⟩ := H.shape 0 rfl;have HH := Lib.hid H;clear H;go_wp2_with fail;go_ret;exact ⟨C, q, outs, rfl, by omega, HIN.out, HH.out⟩
end Go.Proofs.YtmpldngnkacnmaaGreatDoor
namespace Go.Proofs.YtmpldngnkacnmaaGreatDoor
open Go.RowKit
theorem HC.belowA {W : List Nat} {w0 w : World} {g : Nat} {A : Option Addr} {n c : Nat} {l : List Ob} (K : HC W w0 w g A n c l) (Q : CurP W w0 g A n) (k : Int) (hk0 : 0 < k) (hk1 : k ≤ 1048576) :
 Calls Tryz.prog 29 #[.pointer (some ⟨g, 0, none⟩), .int .i64 k] w fun e w' => ∃ x : Int, e = .returned (.int .i64 x) ∧ 0 ≤ x ∧ x < k ∧ HC W w0 w' g A n c l := by
 by_cases h : k ≤ 256
 ·refine (K.below Q k h).mono ?_
  rintro e w' ⟨x, rfl, x0, _, x1, K1⟩;exact ⟨x, rfl, x0, x1 hk0, K1⟩
 ·exact K.belowB Q k (by omega) hk1
theorem HC.go1 {W : List Nat} {w0 w w' : World} {g : Nat} {A : Option Addr} {n c : Nat} {l : List Ob} (K : HC W w0 w g A n c l) (f : Fr w w') : HC W w0 w' g A n c l := by
 obtain ⟨i, h, a, b, H⟩ := K; exact ⟨i, h, a, b, H.go f⟩
theorem u8_lo (x : Int) : 0 ≤ IntKind.u8.wrap x := by
 simp only [IntKind.wrap, IntKind.bits, IntKind.signed]
 first | omega | (split <;> omega) | (simp; omega)
theorem u8_hi (x : Int) : IntKind.u8.wrap x ≤ 255 := by
 simp only [IntKind.wrap, IntKind.bits, IntKind.signed]
 first | omega | (split <;> omega) | (simp; omega)
theorem HC.drew1 {W : List Nat} {w0 w : World} {g : Nat} {A : Option Addr} {n c : Nat} {l : List Ob} (K : HC W w0 w g A n c l) : HC W w0 w.drew g A n c l := by
 obtain ⟨i, h, a, b, H⟩ := K; exact ⟨i, h, a, b, H.drew⟩
theorem ext_size (s : ByteArray) (a b : Nat) : (s.extract a b).size ≤ s.size := by
 rw [ByteArray.size_extract]; omega
def DrewT (W : List Nat) (w0 : World) (g : Nat) (A : Option Addr) (n c : Nat) (l : List Ob) (k : Nat) (e : Ending) (w' : World) : Prop := ∃ t : ByteArray, e = .returned (.string t) ∧ t.size ≤ k ∧ HC W w0 w' g A n c l
set_option maxRecDepth 100000 in
set_option maxHeartbeats 8000000 in
theorem l1Spoil_any {W : List Nat} {w0 w : World} {g : Nat} {A : Option Addr} {n c : Nat} {l : List Ob} (K : HC W w0 w g A n c l) (Q : CurP W w0 g A n) (s : ByteArray) (hs : s.size ≤ 1000000) :
 Calls Tryz.prog 35 #[.pointer (some ⟨g, 0, none⟩), .string s] w (DrewT W w0 g A n c l 2000003) := by
 have QQ := Lib.hid Q;clear Q
 by_cases h0 : s.size = 0
 ·have h00 : ((s.size : Int) == 0) = true := by simp [h0]
  clear h0;go_enter Tryz.func35, Tryz.ntmps35;go_wp2_with fail;refine (K.text QQ.out 3 (by decide)).mono ?_;rintro e w1 ⟨t, rfl, ht, K1⟩;have HK := Lib.hid K1;clear K K1;go_wp2_with fail;go_ret;exact ⟨t, rfl, by omega, HK.out⟩
 have h00 : ((s.size : Int) == 0) = false := beq_eq_false_iff_ne.2 (by omega);go_enter Tryz.func35, Tryz.ntmps35;go_wp2_with fail;refine (K.belowA QQ.out (s.size : Int) (by omega) (by omega)).mono ?_;rintro e w1 ⟨x, rfl, x0, x1, K1⟩;obtain ⟨k, rfl⟩ : ∃ q : Nat, x = q := ⟨x.toNat, by omega⟩;have hk : k < s.size := by omega
 have hki : (k : Int) ≤ (s.size : Int) := by omega
 have hki2 : (k : Int) + 1 ≤ (s.size : Int) := by omega
 have hki3 : (0 : Int) ≤ (k : Int) + 1 := by omega
 have hw1 : IntKind.i64.wrap ((k : Int) + 1) = (k : Int) + 1 := IntWalk.i64_in _ (by omega);clear K;go_wp2_with fail;refine (K1.below QQ.out 4 (by decide)).mono ?_;rintro e w2 ⟨y, rfl, y0, _, y1, K2⟩;have y2 := y1 (by decide);clear K1 y1;obtain rfl | rfl | rfl | rfl : y = 0 ∨ y = 1 ∨ y = 2 ∨ y = 3 := by omega
 ·have HK := Lib.hid K2
  clear K2;have e1 := ext_size s 0 k;have e2 := ext_size s (k + 1) s.size;have hz : (9223372036854775807 < (s.extract 0 k).size + (s.extract (k + 1) s.size).size) = False := eq_false (by omega);go_wp2_with fail;refine wp_region_quiet_lit (by kernel_rfl) (by kernel_rfl) ?_
  repeat (any_goals (first | go_big_quiet_step ((fail)) | quiet_step ((fail)) | (refine wpQuiet_step (fun K hK => ?_); go_simp; split <;> (refine hK _ ?_; clear hK K))))
  all_goals (refine wpQuiet_nil ?_; intro _ hw_; obtain ⟨nq, hw__⟩ := hw_; subst hw__)
  go_wp2_with fail;go_ret;exact ⟨_, rfl, by rw [ByteArray.size_append]; omega, HK.out.go1 (Fr.drewN_ _ _)⟩
 ·have H := K2.drew1
  clear K2;have e1 := ext_size s 0 k;have e2 := ext_size s k s.size;have e3 : ∀ u : UInt8, (ofB [u]).size = 1 := fun _ => rfl;have z1 : (9223372036854775807 < min k s.size + 1) = False := eq_false (by omega);have z2 : (9223372036854775807 < min k s.size + 1 + (s.size - k)) = False := eq_false (by omega);have z3 : (9223372036854775807 < min k s.size + 1 + (min s.size s.size - k)) = False := eq_false (by omega);go_wp2_with fail;refine wp_region_held_drew (S := fun _ => True) (by kernel_rfl) ?_ (fun hHeld => ?_)
  ·exact trivial
  obtain ⟨u0, hu0⟩ : ∃ uu : World, uu = w2.drew := ⟨_, rfl⟩;rw [← hu0] at H ⊢;clear hu0;refine wpT 0 ?_;refine wpT 1 ?_;refine wpT 2 ?_;refine wpT 3 ?_;refine wpT 9 ?_;refine wpT 10 ?_;refine wpT 11 ?_;refine wpC 4 fun K hK => ?_;go_simp;refine (HC.byte H QQ.out).mono ?_;rintro e u1 ⟨z, rfl, z0, z1, i9, h9, a9, b9, H⟩;obtain ⟨u, rfl⟩ := byte_of z0 z1;have hu := u.toNat_lt;have wq : IntKind.u8.wrap (u.toNat : Int) = (u.toNat : Int) := wraps_u8 _ (by omega) (by omega);go_wp2_with fail;refine hK.out _ _ ?_ fun hHeld => ?_
  ·exact trivial
  clear hK K;(try simp only [sX, Act.put]);refine wpC 5 fun K hK => ?_;go_simp;obtain ⟨u2, hv⟩ : ∃ z : World, z = u1 := ⟨_, rfl⟩;rw [← hv] at H ⊢;clear hv;refine hK.out _ _ ?_ fun hHeld => ?_
  ·exact trivial
  clear hK K;(try simp only [sX, Act.put]);refine wpC 6 fun K hK => ?_;replace H := H.lit 5 1 1 [.int .u8 (u.toNat : Int)] rfl (by simp [maxLen]);go_simp;obtain ⟨u3, hv⟩ : ∃ z : World, z = u2.alloc (.cells #[.int .u8 (u.toNat : Int)] 5) := ⟨_, rfl⟩;rw [← hv] at H ⊢;clear hv;refine hK.out _ _ ?_ fun hHeld => ?_
  ·exact trivial
  clear hK K;(try simp only [sX, Act.put]);refine wpC 7 fun K hK => ?_;have hks := run_str (c := 1) (l := [u]) 22 9 5 Tryz.underlying22 Tryz.underlying5 Tryz.underlying9 (H.rd 0 rfl);go_simp;refine hK.out _ _ ?_ fun hHeld => ?_
  ·exact trivial
  clear hK K;(try simp only [sX, Act.put]);refine wpT 8 ?_;refine wpT 12 ?_;refine wpT 13 ?_;refine wpAnyH_done (by kernel_rfl) ?_ _;have HH := Lib.hid H;clear H;go_wp2_with fail;go_ret;exact ⟨_, rfl, by simp only [ByteArray.size_append, e3]; omega, i9, h9, a9, b9, HH.out.tail⟩
 ·have HK := Lib.hid K2
  clear K2;have e1 := ext_size s 0 k;go_wp2_with fail;go_ret;exact ⟨_, rfl, by omega, HK.out⟩
 ·have H := K2.drew1
  clear K2;have e1 := ext_size s 0 k;have e2 := ext_size s (k + 1) s.size;have e3 : ∀ u : UInt8, (ofB [u]).size = 1 := fun _ => rfl;have z1 : (9223372036854775807 < min k s.size + 1) = False := eq_false (by omega);have z2 : (9223372036854775807 < min k s.size + 1 + (s.size - (k + 1))) = False := eq_false (by omega);have z3 : (9223372036854775807 < min k s.size + 1 + (min s.size s.size - (k + 1))) = False := eq_false (by omega);go_wp2_with fail;refine wp_region_held_drew (S := fun _ => True) (by kernel_rfl) ?_ (fun hHeld => ?_)
  ·exact trivial
  obtain ⟨u0, hu0⟩ : ∃ uu : World, uu = w2.drew := ⟨_, rfl⟩;rw [← hu0] at H ⊢;clear hu0;refine wpT 0 ?_;refine wpT 1 ?_;refine wpT 2 ?_;refine wpT 3 ?_;refine wpT 4 ?_;refine wpT 5 ?_;refine wpT 6 ?_;refine wpT 7 ?_;refine wpT 15 ?_;refine wpT 16 ?_;refine wpT 17 ?_;refine wpT 18 ?_;refine wpC 8 fun K hK => ?_;go_simp;refine (HC.below H QQ.out 255 (by decide)).mono ?_;rintro e u1 ⟨z, rfl, z0, _, z1, i9, h9, a9, b9, H⟩;have z2 := z1 (by decide);go_wp2_with fail;refine hK.out _ _ ?_ fun hHeld => ?_
  ·exact trivial
  clear hK K;(try simp only [sX, Act.put]);refine wpT 9 ?_;refine wpT 10 ?_;refine wpC 11 fun K hK => ?_;go_simp;obtain ⟨u, hu⟩ : ∃ u : UInt8, IntKind.u8.wrap (bits BinOp.xor IntKind.i64 (IntKind.i64.wrap (s[k].toNat : Int)) (IntKind.i64.wrap (1 + z))) = (u.toNat : Int) := byte_of (u8_lo _) (u8_hi _);rw [hu];have hu := u.toNat_lt;obtain ⟨u2, hv⟩ : ∃ z : World, z = u1 := ⟨_, rfl⟩;rw [← hv] at H ⊢;clear hv;refine hK.out _ _ ?_ fun hHeld => ?_
  ·exact trivial
  clear hK K;(try simp only [sX, Act.put]);refine wpC 12 fun K hK => ?_;replace H := H.lit 5 1 1 [.int .u8 (u.toNat : Int)] rfl (by simp [maxLen]);go_simp;obtain ⟨u3, hv⟩ : ∃ z : World, z = u2.alloc (.cells #[.int .u8 (u.toNat : Int)] 5) := ⟨_, rfl⟩;rw [← hv] at H ⊢;clear hv;refine hK.out _ _ ?_ fun hHeld => ?_
  ·exact trivial
  clear hK K;(try simp only [sX, Act.put]);refine wpC 13 fun K hK => ?_;have hks := run_str (c := 1) (l := [u]) 22 9 5 Tryz.underlying22 Tryz.underlying5 Tryz.underlying9 (H.rd 0 rfl);go_simp;refine hK.out _ _ ?_ fun hHeld => ?_
  ·exact trivial
  clear hK K;(try simp only [sX, Act.put]);refine wpT 14 ?_;refine wpT 19 ?_;refine wpT 20 ?_;refine wpAnyH_done (by kernel_rfl) ?_ _;have HH := Lib.hid H;clear H;go_wp2_with fail;go_ret;exact ⟨_, rfl, by simp only [ByteArray.size_append, e3]; omega, i9, h9, a9, b9, HH.out.tail⟩
end Go.Proofs.YtmpldngnkacnmaaGreatDoor
namespace Go.Proofs.YtmpldngnkacnmaaGreatDoor
open Go.ChangeShapes Go.WideShapes Go.ChangeAt Go.RowKit Go.Deep
theorem own : ownKnob Tryz.prog.godebug = none := by kernel_rfl
section
variable {H : Type} {enc : TypeId × Value → H} {P : Program}
theorem trodAll_below (hl : laidOutB P = true) {W W' : World} (hb : Below W.heap.size W W') :
 ∀ {ts : List TypeId} {vs : List Value} {ds : List (DataW H)} {ps : List MemPlace}, (∀ t ∈ ts, P.readableRec t = true ∧ t < P.types.size) → (∀ x ∈ ps, x.block < W.heap.size) →
  DataW.TrodAll enc P W 0 (fun _ => true) true ts vs ds ps → DataW.TrodAll enc P W' 0 (fun b => decide (b < W.heap.size)) true ts vs ds ps
 | [], [], [], _, _, _, h => h
 | t :: ts, v :: vs, d :: ds, ps, hr, hlt, h => by
   obtain ⟨p, q, h1, h2, rfl⟩ := h;have ht := hr t (by simp);exact ⟨p, q, Below.trod hl ht.1 ht.2 h1 hb (fun x hx => hlt x (by simp [hx])), trodAll_below hl hb (fun t' ht' => hr t' (by simp [ht'])) (fun x hx => hlt x (by simp [hx])) h2, rfl⟩
 | [], [], _ :: _, _, _, _, h => h.elim
 | [], _ :: _, [], _, _, _, h => h.elim
 | [], _ :: _, _ :: _, _, _, _, h => h.elim
 | _ :: _, [], [], _, _, _, h => h.elim
 | _ :: _, [], _ :: _, _, _, _, h => h.elim
 | _ :: _, _ :: _, [], _, _, _, h => h.elim
theorem law_post {f : Func} {s : ChangeSpec} {W W' : World} {args : Array Value} {ds gs : List (DataW H)} {before : List MemPlace} {tb : TypeId}
 (hW : DataW.Whole enc P f.params.toList s.vars false W args.toList ds gs before) (hfn : s.fn H (ds ++ gs) = { results := [.lit (.bool true)], args := ds, vars := gs })
 (hrt : f.resultTypes = #[tb]) (htb : P.underlying tb = some .bool) (hl : laidOutB P = true) (hr : (f.params.toList.all fun t => P.readableRec t && decide (t < P.types.size)) = true) (hv : varsRowed P s.vars = true)
 (hfr : Below W.heap.size W W') : s.post enc P f false true false false W args (.bool true) W' := by
 have hlt : ∀ x ∈ before, x.block < W.heap.size := fun x hx => hW.lt x hx;have hW' := hW;obtain ⟨p, q, hA, hV, rfl, _, _⟩ := hW';have hr' : ∀ t ∈ f.params.toList, P.readableRec t = true ∧ t < P.types.size := fun t ht => by simpa using List.all_eq_true.1 hr t ht
 refine ⟨ds, gs, _, [], p, q, hW, ?_, ?_, ?_, hfr.frame _, fun h => by cases h⟩
 ·rw [hfn, hrt]
  exact trodAll_mk1 (shut_bool htb true)
 ·rw [hfn]
  exact trodAll_below hl hfr hr' (fun x hx => hlt x (by simp [hx])) hA
 ·rw [hfn]
  exact Below.trodVars hl hfr hv hV
theorem rd_of_cells {α : Type} [Inhabited α] (f : α → List Value) (ok : α → Prop) {W : World} {t e : TypeId} {k : Nat} (hk0 : 0 < k) (hk : ∀ x, (f x).length = k) (ht : P.underlying t = some (.slice e)) (hc : P.cellsOf e = k)
 (hel : ∀ n cs y, cs.length = k → DataW.trod enc P W 0 (fun _ => true) true n e cs = some y → ∃ x, cs = f x ∧ ok x)
 {fuel : Nat} {cs0 : List Value} {x0 : DataW H × List MemPlace} (hf : DataW.trod enc P W 0 (fun _ => true) true fuel t cs0 = some x0) :
 ∃ (A : Option Addr) (n c : Nat) (l : List α), cs0 = [.slice A n c] ∧ Rd W A n k (l.flatMap f) ∧ l.length = n ∧ (∀ x ∈ l, ok x) ∧ n ≤ c ∧ c ≤ maxLen := by
 rcases open_slice ht hf with ⟨hcs, _⟩ | ⟨a, n, cap, m, n', D, Pl, hcs, _, hlc, hcm, hm, _, hx⟩
 ·subst hcs
  exact ⟨none, 0, 0, [], rfl, ⟨by simp, fun h => absurd h (by omega)⟩, rfl, by simp, Nat.le_refl _, by simp [maxLen]⟩
 ·subst hcs
  simp only [if_true] at hm;rw [hc] at hx;obtain ⟨F, hF⟩ := choose_lt (α := α) (n := n) (p := fun i x => ok x ∧ ∀ j u, (f x)[j]? = some u → W.cell? (a.add (i * k + j)) = some u) (fun i hi => by
   obtain ⟨cs, h1, h2⟩ := hx i (by omega);obtain ⟨_, hlen, hcell⟩ := World.cells?_some h1;obtain ⟨x, rfl, hok⟩ := hel _ _ _ hlen h2;refine ⟨x, hok, fun j u hu => ?_⟩;have hj : j < k := by rw [← hk x]; exact (List.getElem?_eq_some_iff.1 hu).1
   have := hcell j hj;rw [Go.Deep.add_add] at this;rw [this, hu])
  subst hm;have hspot : 0 < n → ∃ b o, a = ⟨b, o, none⟩ := fun hn => by
   have h1 := (hF 0 hn).2 0 _ (List.getElem?_eq_getElem (by rw [hk]; exact hk0));obtain ⟨b, o, s⟩ := a;have := World.cell?_spot h1;simp [Addr.add] at this;subst this;exact ⟨b, o, rfl⟩
  refine ⟨some a, n, m, (List.range n).map F, rfl, ⟨?_, fun hn0 => ?_⟩, by simp, fun x hx => ?_, hlc, hcm⟩
  ·rw [flat_len hk]
   simp
  ·obtain ⟨b, o, rfl⟩ := hspot hn0
   refine ⟨b, o, rfl, ?_⟩;intro j u hu;obtain ⟨i, r, x, rfl, _, hx', hr⟩ := flat_at hk hu;rw [List.getElem?_map] at hx';obtain ⟨i', hi', rfl⟩ := Option.map_eq_some_iff.1 hx';obtain ⟨hi, rfl⟩ : i < n ∧ i = i' := by
    rw [List.getElem?_eq_some_iff] at hi';obtain ⟨h1, h2⟩ := hi';simp at h1 h2;exact ⟨h1, h2⟩
   have := (hF i hi).2 r u hr
   rwa [Addr.add_lit] at this
  ·simp only [List.mem_map, List.mem_range] at hx
   obtain ⟨i, hi, rfl⟩ := hx;exact (hF i hi).1
end
end Go.Proofs.YtmpldngnkacnmaaGreatDoor