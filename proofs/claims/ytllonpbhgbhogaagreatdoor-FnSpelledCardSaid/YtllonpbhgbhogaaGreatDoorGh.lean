/-
  Many texts in one: Hash, Tree, CallS, Step, Shift, BelowS, ToS.
-/
import Derived.Test.YtllonpbhgbhogaaGreatDoorGg
import Derived.Test.YtllonpbhgbhogaaGreatDoorGe
import Derived.Test.YtllonpbhgbhogaaGreatDoorGa
import Derived.Deep.RegionLaw
import Derived.Deep.RegionHeld
import Derived.Maps.AppendAt
import Derived.StillTailTactics
import Derived.Test.YtllonpbhgbhogaaGreatDoorGb
import Derived.ArgAppend
import Derived.Test.YtllonpbhgbhogaaGreatDoorGf
set_option linter.unusedVariables false
set_option linter.unusedSimpArgs false
namespace Go.Proofs.YtllonpbhgbhogaaGreatDoor
open Go.RowKit
set_option maxRecDepth 100000 in
set_option maxHeartbeats 2000000 in
theorem implHashOf_any (s : ByteArray) (w : World) (hs : s.size ≤ 16777216) (hk : KT w) :
 Calls Tryz.prog 161 #[.string s] w fun e w' => e = .returned (.int .i64 (hashN (toB s))) ∧ Fr w w' := by
 obtain ⟨q, hq⟩ : ∃ q, q = hashN (toB s) := ⟨_, rfl⟩;have HQ := Lib.hid hq;rw [← hq];clear hq;have HL := Lib.hid (keyR_len (toB s));obtain ⟨K, hK⟩ : ∃ K, K = keyR (toB s) := ⟨_, rfl⟩;have HK := Lib.hid hK;clear hK;obtain ⟨kk, kb⟩ := K;go_enter Tryz.func161, Tryz.ntmps161;go_wp2_with fail;refine (implKeyOf_any s _ hs hk).mono ?_;rintro e w1 ⟨rfl, f1⟩;rw [← HK.out]
 cases kb with
 | true =>
   have hl : (ofB kk).size ≤ 1099511627776 := by
    have := HL.out;rw [← HK.out] at this;rw [ofB_size];exact Nat.le_trans this (by decide)
   go_wp2_with fail;refine (implCrc_any (ofB kk) _ hl).mono ?_;rintro e w2 ⟨rfl, f2⟩;have F2 := Lib.hid f2;clear f2;rw [toB_ofB];obtain ⟨z, hz⟩ : ∃ z, z = crcZ kk := ⟨_, rfl⟩;have HZ := Lib.hid hz;have h0 : 0 ≤ z := by rw [hz]; exact (crcZ_in kk).1
   have h1 : z ≤ 4294967295 := by rw [hz]; exact (crcZ_in kk).2
   rw [← hz];clear hz;have HE := Lib.hid (show q = z.tmod 16 by rw [Int.tmod_eq_emod_of_nonneg h0, HZ.out, HQ.out, hashN, ← HK.out, if_pos rfl]);obtain ⟨y, hy⟩ : ∃ y, y = z.tmod 16 := ⟨_, rfl⟩;have HY := Lib.hid hy;have hy2 : z.tmod 16 = y := hy.symm;have hy0 : 0 ≤ y ∧ y < 16 := by rw [hy, Int.tmod_eq_emod_of_nonneg h0]; omega
   have hyw : IntKind.i64.wrap y = y := IntWalk.i64_in _ (by omega);clear hy;go_wp2_with fail;go_ret;rw [HE.out, HY.out, F2.out];exact ⟨rfl, f1⟩
 | false =>
   have HE := Lib.hid (show q = -1 by rw [HQ.out, hashN, ← HK.out, if_neg (by simp)]);go_wp2_with fail;go_ret;rw [HE.out];exact ⟨rfl, f1⟩
set_option maxRecDepth 100000 in
set_option maxHeartbeats 2000000 in
theorem specHashOf_any (s : ByteArray) (w : World) (hs : s.size ≤ 16777216) :
 Calls Tryz.prog 129 #[.string s] w fun e w' => e = .returned (.int .i64 (hashN (toB s))) ∧ Fr w w' := by
 obtain ⟨q, hq⟩ : ∃ q, q = hashN (toB s) := ⟨_, rfl⟩;have HQ := Lib.hid hq;rw [← hq];clear hq;have HL := Lib.hid (keyR_len (toB s));obtain ⟨K, hK⟩ : ∃ K, K = keyR (toB s) := ⟨_, rfl⟩;have HK := Lib.hid hK;clear hK;obtain ⟨kk, kb⟩ := K;go_enter Tryz.func129, Tryz.ntmps129;go_wp2_with fail;refine (specKeyOf_any s _ hs).mono ?_;rintro e w1 ⟨rfl, f1⟩;rw [← HK.out]
 cases kb with
 | true =>
   have hl : (ofB kk).size ≤ 1099511627776 := by
    have := HL.out;rw [← HK.out] at this;rw [ofB_size];exact Nat.le_trans this (by decide)
   go_wp2_with fail;refine (specCrc_any (ofB kk) _ hl).mono ?_;rintro e w2 ⟨rfl, f2⟩;have F2 := Lib.hid f2;clear f2;rw [toB_ofB];obtain ⟨z, hz⟩ : ∃ z, z = crcZ kk := ⟨_, rfl⟩;have HZ := Lib.hid hz;have h0 : 0 ≤ z := by rw [hz]; exact (crcZ_in kk).1
   have h1 : z ≤ 4294967295 := by rw [hz]; exact (crcZ_in kk).2
   rw [← hz];clear hz;have HE := Lib.hid (show q = z.tmod 16 by rw [Int.tmod_eq_emod_of_nonneg h0, HZ.out, HQ.out, hashN, ← HK.out, if_pos rfl]);obtain ⟨y, hy⟩ : ∃ y, y = z.tmod 16 := ⟨_, rfl⟩;have HY := Lib.hid hy;have hy2 : z.tmod 16 = y := hy.symm;have hy0 : 0 ≤ y ∧ y < 16 := by rw [hy, Int.tmod_eq_emod_of_nonneg h0]; omega
   have hyw : IntKind.i64.wrap y = y := IntWalk.i64_in _ (by omega);clear hy;go_wp2_with fail;go_ret;rw [HE.out, HY.out, F2.out];exact ⟨rfl, f1⟩
 | false =>
   have HE := Lib.hid (show q = -1 by rw [HQ.out, hashN, ← HK.out, if_neg (by simp)]);go_wp2_with fail;go_ret;rw [HE.out];exact ⟨rfl, f1⟩
end Go.Proofs.YtllonpbhgbhogaaGreatDoor
namespace Go.Proofs.YtllonpbhgbhogaaGreatDoor
open Go.RowKit
theorem sA {α : Type} {xs : List α} {i : Nat} (h : i < xs.toArray.size) : xs.toArray[i] = xs[i]'(by simpa using h) := List.getElem_toArray h
theorem sB {α : Type} (a : α) (l : List α) (i : Nat) (h : i + 1 < (a :: l).length) : (a :: l)[i + 1] = l[i]'(Nat.lt_of_succ_lt_succ h) := rfl
theorem sC {α : Type} (a : α) (l : List α) (h : 0 < (a :: l).length) : (a :: l)[0] = a := rfl
theorem sD {α : Type} (l : List α) (i : Nat) (a : α) : l.toArray.setIfInBounds i a = (l.set i a).toArray := List.setIfInBounds_toArray ..
theorem sE {α : Type} (x : α) (xs : List α) (a : α) : (x :: xs).set 0 a = a :: xs := rfl
theorem sF {α : Type} (x : α) (xs : List α) (n : Nat) (a : α) : (x :: xs).set (n + 1) a = x :: xs.set n a := rfl
theorem sX {α : Type} : (∀ (xs : List α) (i : Nat) (h : i < xs.toArray.size), xs.toArray[i] = xs[i]'(by simpa using h)) ∧ (∀ (a : α) (l : List α) (i : Nat) (h : i + 1 < (a :: l).length), (a :: l)[i + 1] = l[i]'(Nat.lt_of_succ_lt_succ h)) ∧ (∀ (a : α) (l : List α) (h : 0 < (a :: l).length), (a :: l)[0] = a) ∧
 (∀ (l : List α) (i : Nat) (a : α), l.toArray.setIfInBounds i a = (l.set i a).toArray) ∧ (∀ (x : α) (xs : List α) (a : α), (x :: xs).set 0 a = a :: xs) ∧ ∀ (x : α) (xs : List α) (n : Nat) (a : α), (x :: xs).set (n + 1) a = x :: xs.set n a :=
 ⟨fun _ _ h => sA h, sB, sC, sD, sE, sF⟩
section
variable {P : Program} {md : Region.Mode} {ops : Array Oper} {Q : Exit → Act → World → Prop} {S : World → Prop} {oi : Oper} {v : Value} {fuel : Nat} {listed l' : Array Bool} {a a' : Act} {w : World}
theorem wpT (i : Nat) (h : wpAnyH P md ops Q S fuel l' a' w) (hi : ops[i]? = some oi := by exact rfl)
 (hv : ∀ w, S w → (execOp a.eval oi).run P w = .ok (.value v) w := by intro w hSw; (try dsimp only at hSw); go_simp; try (with_reducible rfl))
 (ha : a.put oi.dst v = a' := by (try simp only [sA, sB, sC, Act.put, sD, sE, sF]); try exact rfl)
 (hl : listed.setIfInBounds i true = l' := by (try simp only [sD, sE, sF]); try exact rfl)
 (hs : Region.noSelect ops = true := by kernel_rfl) (hf : Region.free md ops listed i = true := by kernel_rfl) (hr : (Region.ready md ops listed).contains i = true := by kernel_rfl)
 (hQ : ∀ c a w, Q (.panic c) (a.put oi.dst v) w → Q (.panic c) a w := by first | exact fun _ _ _ h => h | exact fun _ _ _ h => nomatch h.1) (hy : Region.wanted oi (yielded ops a.tmps) = true := by kernel_rfl) (hS : S w := by assumption) : wpAnyH P md ops Q S (fuel + 1) listed a w := by
 subst ha hl;exact wpAnyH_take hi hs hf hr hQ (Or.inl ⟨hy, hv⟩) hS h
theorem wpS (i : Nat) (h : wpAnyH P md ops Q S fuel l' a' w) (hi : ops[i]? = some oi := by exact rfl)
 (ha : a.put oi.dst undef = a' := by (try simp only [sA, sB, sC, Act.put, sD, sE, sF]); try exact rfl)
 (hl : listed.setIfInBounds i true = l' := by (try simp only [sD, sE, sF]); try exact rfl)
 (hs : Region.noSelect ops = true := by kernel_rfl) (hf : Region.free md ops listed i = true := by kernel_rfl) (hr : (Region.ready md ops listed).contains i = true := by kernel_rfl)
 (hQ : ∀ c a w, Q (.panic c) (a.put oi.dst undef) w → Q (.panic c) a w := by first | exact fun _ _ _ h => h | exact fun _ _ _ h => nomatch h.1) (hy : Region.wanted oi (yielded ops a.tmps) = false := by kernel_rfl) (hS : S w := by assumption) : wpAnyH P md ops Q S (fuel + 1) listed a w := by
 subst ha hl;exact wpAnyH_take hi hs hf hr hQ (Or.inr ⟨hy, rfl⟩) hS h
theorem wpC (i : Nat) {o : Oper} (h : ∀ K' : Act → World → Prop, Shut (∀ a w, S w → (S w → wpAnyH P md ops Q S fuel (listed.setIfInBounds i true) a w) → K' a w) → if Region.wanted o (yielded ops a.tmps) = true then Oper.wp P o a w K' Q else K' (a.put o.dst undef) w)
 (ho : ops[i]? = some o := by exact rfl) (hr : Region.ready md ops listed = [i] := by kernel_rfl) : wpAnyH P md ops Q S (fuel + 1) listed a w :=
 wpAnyH_ready hr (by simp) (AllReadyH.cons ho h AllReadyH.nil)
end
theorem snocRec {α : Type} {p : List α → Prop} (nil : p []) (snoc : ∀ l a, p l → p (l ++ [a])) (l : List α) : p l := by
 have h : ∀ n, ∀ l : List α, l.length = n → p l := by
  intro n
  induction n with
  | zero => intro l hl; rw [List.eq_nil_of_length_eq_zero hl]; exact nil
  | succ n ih =>
    intro l hl
    rcases List.eq_nil_or_concat l with h | ⟨l', a, h⟩
    ·subst h; cases hl
    ·rw [List.concat_eq_append] at h
     subst h;exact snoc l' a (ih l' (by simpa using hl))
 exact h _ l rfl
theorem fm_congr {α β : Type} {f g : α → Option β} : ∀ {l : List α}, (∀ x ∈ l, f x = g x) → l.filterMap f = l.filterMap g
 | [], _ => rfl
 | x :: l, h => by
   rw [List.filterMap_cons, List.filterMap_cons, h x (by simp), fm_congr (l := l) fun y hy => h y (by simp [hy])]
theorem Hp.reord {W : List Nat} {w0 w : World} {l : List Ob} (h : Hp W w0 w l) (is : List Nat) {n : Nat} (hn : l.length = n) (hp : is.Perm (List.range n)) : Hp W w0 w (is.filterMap fun i => l[i]?) := by
 subst hn;refine h.perm (List.Perm.symm ?_);have h1 := hp.filterMap (fun i => l[i]?);have h2 : (List.range l.length).filterMap (fun i => l[i]?) = l := by
  clear h1 hp h
  induction l using snocRec with
  | nil => rfl
  | snoc l a ih =>
    rw [List.length_append, List.length_singleton, List.range_succ, List.filterMap_append];have h3 : (List.range l.length).filterMap (fun i => (l ++ [a])[i]?) = (List.range l.length).filterMap (fun i => l[i]?) := by
     apply fm_congr;intro i hi;rw [List.getElem?_append_left (List.mem_range.1 hi)]
    rw [h3, ih]
    simp
 rwa [h2] at h1
section
variable {P : Program} {ops : Array Oper} {o : Oper} {a : Act} {Q : Exit → Act → World → Prop} {E : TypeId} {z : Value} {k bytes : Nat} {W : List Nat} {w0 w : World} {l : List Ob}
theorem wp_joint {c : Code} (R : Act → Act → World → Prop) (h1 : c.wp P (fun e a' w' => e = .normal ∧ R a a' w') a w) (h2 : ∀ a' w', R a a' w' → Q .normal a' w') : c.wp P Q a w :=
 Code.wp_mono (fun e a' w' ⟨he, hr⟩ => by subst he; exact h2 a' w' hr) h1
end
end Go.Proofs.YtllonpbhgbhogaaGreatDoor
namespace Go.Proofs.YtllonpbhgbhogaaGreatDoor
open Go.RowKit
end Go.Proofs.YtllonpbhgbhogaaGreatDoor
namespace Go.Proofs.YtllonpbhgbhogaaGreatDoor
open Go.RowKit
section
variable {ops : Array Oper} {a : Act} {w : World} {Q : Exit → Act → World → Prop} {W : List Nat} {w0 : World} {l : List Ob} {K : Act → World → Prop} {E0 : Prop} {d : Tmp} {ty : TypeId} {ps : String} {af : Array Edge} {g : Nat}
theorem layVol (H : Hp W w0 w l) (h : ∀ g w', Hp W w0 w' (.blk g 31 [.int .i64 0, .slice none 0 0] :: l) → K (a.put (some d) (.pointer (some ⟨g, 0, none⟩))) w') :
 if Region.wanted { dst := some d, op := .alloc 31, type := ty, pos := ps, after := af, guard := none } (yielded ops a.tmps) = true then Oper.wp Tryz.prog { dst := some d, op := .alloc 31, type := ty, pos := ps, after := af, guard := none } a w K Q else E0 := by
 rw [if_pos (by simp [Region.wanted])];have h1 := h w.heap.size _ (H.lay 31 [.int .i64 0, .slice none 0 0]);clear h;go_simp;exact h1
theorem putVol {p x : Operand} {v0 : Int} {v1 : Option Addr} {n1 m1 : Nat} {u0 u1 : Value} (H : Hp W w0 w l) (i : Nat) (hi : l[i]? = some (.blk g 31 [u0, u1])) (hp : a.eval p = .pointer (some ⟨g, 0, none⟩)) (hx : a.eval x = .agg #[.int .i64 v0, .slice v1 n1 m1]) (h : ∀ w', Hp W w0 w' (l.set i (.blk g 31 [.int .i64 v0, .slice v1 n1 m1])) → K (a.put none undef) w') :
 if Region.wanted { dst := none, op := .store 31 p x, type := ty, pos := ps, after := af, guard := none } (yielded ops a.tmps) = true then Oper.wp Tryz.prog { dst := none, op := .store 31 p x, type := ty, pos := ps, after := af, guard := none } a w K Q else E0 := by
 rw [if_pos (by simp [Region.wanted])];have e0 := H.bfree i hi 0;have s0 := H.bat i hi (j := 0) rfl;have e1 := H.bfree i hi 1;have s1 := H.bat i hi (j := 1) rfl;have h1 := h _ (H.blays i hi [.int .i64 v0, .slice v1 n1 m1] rfl);simp only [layW, Nat.zero_add, Nat.reduceAdd] at h1;clear h H;unfold Oper.wp execOp;simp only [hp, hx];go_simp;exact h1
theorem layRes (H : Hp W w0 w l) (h : ∀ g w', Hp W w0 w' (.blk g 33 [.int .i64 0, .int .i64 0, .string ⟨#[]⟩, .string ⟨#[]⟩] :: l) → K (a.put (some d) (.pointer (some ⟨g, 0, none⟩))) w') :
 if Region.wanted { dst := some d, op := .alloc 33, type := ty, pos := ps, after := af, guard := none } (yielded ops a.tmps) = true then Oper.wp Tryz.prog { dst := some d, op := .alloc 33, type := ty, pos := ps, after := af, guard := none } a w K Q else E0 := by
 rw [if_pos (by simp [Region.wanted])];have h1 := h w.heap.size _ (H.lay 33 [.int .i64 0, .int .i64 0, .string ⟨#[]⟩, .string ⟨#[]⟩]);clear h;go_simp;exact h1
theorem putRes {p x : Operand} {v0 : Int} {v1 : Int} {v2 : ByteArray} {v3 : ByteArray} {u0 u1 u2 u3 : Value} (H : Hp W w0 w l) (i : Nat) (hi : l[i]? = some (.blk g 33 [u0, u1, u2, u3])) (hp : a.eval p = .pointer (some ⟨g, 0, none⟩)) (hx : a.eval x = .agg #[.int .i64 v0, .int .i64 v1, .string v2, .string v3]) (h : ∀ w', Hp W w0 w' (l.set i (.blk g 33 [.int .i64 v0, .int .i64 v1, .string v2, .string v3])) → K (a.put none undef) w') :
 if Region.wanted { dst := none, op := .store 33 p x, type := ty, pos := ps, after := af, guard := none } (yielded ops a.tmps) = true then Oper.wp Tryz.prog { dst := none, op := .store 33 p x, type := ty, pos := ps, after := af, guard := none } a w K Q else E0 := by
 rw [if_pos (by simp [Region.wanted])];have e0 := H.bfree i hi 0;have s0 := H.bat i hi (j := 0) rfl;have e1 := H.bfree i hi 1;have s1 := H.bat i hi (j := 1) rfl;have e2 := H.bfree i hi 2;have s2 := H.bat i hi (j := 2) rfl;have e3 := H.bfree i hi 3;have s3 := H.bat i hi (j := 3) rfl;have h1 := h _ (H.blays i hi [.int .i64 v0, .int .i64 v1, .string v2, .string v3] rfl);simp only [layW, Nat.zero_add, Nat.reduceAdd] at h1;clear h H;unfold Oper.wp execOp;simp only [hp, hx];go_simp;exact h1
theorem layIno (H : Hp W w0 w l) (h : ∀ g w', Hp W w0 w' (.blk g 76 [.int .i64 0, .int .i64 0, .int .i64 0, .string ⟨#[]⟩, .slice none 0 0] :: l) → K (a.put (some d) (.pointer (some ⟨g, 0, none⟩))) w') :
 if Region.wanted { dst := some d, op := .alloc 76, type := ty, pos := ps, after := af, guard := none } (yielded ops a.tmps) = true then Oper.wp Tryz.prog { dst := some d, op := .alloc 76, type := ty, pos := ps, after := af, guard := none } a w K Q else E0 := by
 rw [if_pos (by simp [Region.wanted])];have h1 := h w.heap.size _ (H.lay 76 [.int .i64 0, .int .i64 0, .int .i64 0, .string ⟨#[]⟩, .slice none 0 0]);clear h;go_simp;exact h1
theorem putIno {p x : Operand} {v0 : Int} {v1 : Int} {v2 : Int} {v3 : ByteArray} {v4 : Option Addr} {n4 m4 : Nat} {u0 u1 u2 u3 u4 : Value} (H : Hp W w0 w l) (i : Nat) (hi : l[i]? = some (.blk g 76 [u0, u1, u2, u3, u4])) (hp : a.eval p = .pointer (some ⟨g, 0, none⟩)) (hx : a.eval x = .agg #[.int .i64 v0, .int .i64 v1, .int .i64 v2, .string v3, .slice v4 n4 m4]) (h : ∀ w', Hp W w0 w' (l.set i (.blk g 76 [.int .i64 v0, .int .i64 v1, .int .i64 v2, .string v3, .slice v4 n4 m4])) → K (a.put none undef) w') :
 if Region.wanted { dst := none, op := .store 76 p x, type := ty, pos := ps, after := af, guard := none } (yielded ops a.tmps) = true then Oper.wp Tryz.prog { dst := none, op := .store 76 p x, type := ty, pos := ps, after := af, guard := none } a w K Q else E0 := by
 rw [if_pos (by simp [Region.wanted])];have e0 := H.bfree i hi 0;have s0 := H.bat i hi (j := 0) rfl;have e1 := H.bfree i hi 1;have s1 := H.bat i hi (j := 1) rfl;have e2 := H.bfree i hi 2;have s2 := H.bat i hi (j := 2) rfl;have e3 := H.bfree i hi 3;have s3 := H.bat i hi (j := 3) rfl;have e4 := H.bfree i hi 4;have s4 := H.bat i hi (j := 4) rfl;have h1 := h _ (H.blays i hi [.int .i64 v0, .int .i64 v1, .int .i64 v2, .string v3, .slice v4 n4 m4] rfl);simp only [layW, Nat.zero_add, Nat.reduceAdd] at h1;clear h H;unfold Oper.wp execOp;simp only [hp, hx];go_simp;exact h1
theorem Hp.two {gv gr : Nat} {u0 u1 y0 y1 y2 y3 : Value} (H : Hp W w0 w l) (i j : Nat) (v0 v1 x0 x1 x2 x3 : Value) (hi : l[i]? = some (.blk gv 31 [u0, u1])) (hj : l[j]? = some (.blk gr 33 [y0, y1, y2, y3])) (hij : i ≠ j := by decide) :
 w.cell? ⟨gv, 0, none⟩ = some u0 ∧ w.cell? ⟨gv, 1, none⟩ = some u1 ∧ w.frozen? ⟨gv, 0, none⟩ = false ∧ w.frozen? ⟨gv, 1, none⟩ = false ∧ w.cell? ⟨gr, 0, none⟩ = some y0 ∧ w.cell? ⟨gr, 1, none⟩ = some y1 ∧ w.cell? ⟨gr, 2, none⟩ = some y2 ∧ w.cell? ⟨gr, 3, none⟩ = some y3 ∧
  w.frozen? ⟨gr, 0, none⟩ = false ∧ w.frozen? ⟨gr, 1, none⟩ = false ∧ w.frozen? ⟨gr, 2, none⟩ = false ∧ w.frozen? ⟨gr, 3, none⟩ = false ∧
  Hp W w0 ((((((w.setCell ⟨gv, 0, none⟩ v0).setCell ⟨gv, 1, none⟩ v1).setCell ⟨gr, 0, none⟩ x0).setCell ⟨gr, 1, none⟩ x1).setCell ⟨gr, 2, none⟩ x2).setCell ⟨gr, 3, none⟩ x3) ((l.set i (.blk gv 31 [v0, v1])).set j (.blk gr 33 [x0, x1, x2, x3])) :=
 ⟨H.bat i hi rfl, H.bat i hi rfl, H.bfree i hi 0, H.bfree i hi 1, H.bat j hj rfl, H.bat j hj rfl, H.bat j hj rfl, H.bat j hj rfl, H.bfree j hj 0, H.bfree j hj 1, H.bfree j hj 2, H.bfree j hj 3, (H.blays i hi [v0, v1] rfl).blays (cs := [y0, y1, y2, y3]) j (by rw [List.getElem?_set_ne hij]; exact hj) [x0, x1, x2, x3] rfl⟩
theorem Hp.four {gr : Nat} {y0 y1 y2 y3 : Value} (H : Hp W w0 w l) (j : Nat) (x0 x1 x2 x3 : Value) (hj : l[j]? = some (.blk gr 33 [y0, y1, y2, y3])) :
 w.cell? ⟨gr, 0, none⟩ = some y0 ∧ w.cell? ⟨gr, 1, none⟩ = some y1 ∧ w.cell? ⟨gr, 2, none⟩ = some y2 ∧ w.cell? ⟨gr, 3, none⟩ = some y3 ∧
  w.frozen? ⟨gr, 0, none⟩ = false ∧ w.frozen? ⟨gr, 1, none⟩ = false ∧ w.frozen? ⟨gr, 2, none⟩ = false ∧ w.frozen? ⟨gr, 3, none⟩ = false ∧
  Hp W w0 ((((w.setCell ⟨gr, 0, none⟩ x0).setCell ⟨gr, 1, none⟩ x1).setCell ⟨gr, 2, none⟩ x2).setCell ⟨gr, 3, none⟩ x3) (l.set j (.blk gr 33 [x0, x1, x2, x3])) :=
 ⟨H.bat j hj rfl, H.bat j hj rfl, H.bat j hj rfl, H.bat j hj rfl, H.bfree j hj 0, H.bfree j hj 1, H.bfree j hj 2, H.bfree j hj 3, H.blays j hj [x0, x1, x2, x3] rfl⟩
end
end Go.Proofs.YtllonpbhgbhogaaGreatDoor
namespace Go.Proofs.YtllonpbhgbhogaaGreatDoor
open Go.RowKit
def Left {α : Type} (n cap j r s : Nat) (xs ql : List α) : Prop := (r = 0 ∧ s = 0 ∧ ql = []) ∨ (n = j + r ∧ cap = j + s ∧ ql = xs.drop j)
section
variable {P : Program} (w : World)
theorem run_append_shift (base : Nat) (t ty e : TypeId) (i : TypeInfo) (z : Value) (bytes : Nat) (ht : P.underlying t = some (.slice e)) (hi : P.info? e = some i) (hz : i.zero = some z)
 (hsize : i.size = 1) (hby : i.bytes = bytes) (hzs : z.cells.size = 1)
 (g n cap j r s : Nat) (xs ql : List Value) (hown : w.ownsRow base e 1 (.slice (some ⟨g, 0, none⟩) n cap) n xs) (hv : Left n cap j r s xs ql)
 (a : Addr) (m c : Nat) (news : List Value) (hm : 0 < m) (hl : news.length = m) (hnews : ∀ j u, news[j]? = some u → w.cell? (a.add j) = some u) (h1 : ∀ u ∈ news, u.oneCell' = true)
 (h63 : n + m ≤ maxLen) (hbytes : (n + m) * bytes ≤ 140737488355328) (hbase : base ≤ w.heap.size) :
 ∃ w' g' j' r' s' n' cap' xs', (Builtin.append_ #[t, t] ty #[.slice (some ⟨g, j, none⟩) r s, .slice (some a) m c]).run P w = .ok (.slice (some ⟨g', j', none⟩) r' s') w' ∧
  n' = j' + r' ∧ cap' = j' + s' ∧ n' ≤ n + m ∧ w'.ownsRow base e 1 (.slice (some ⟨g', 0, none⟩) n' cap') n' xs' ∧ w.grownBy w' (some g) ∧
  ((g' = g ∧ j' = j ∧ xs' = xs ++ news ∧ ql = xs.drop j ∧ j ≤ xs.length) ∨ (g' = w.heap.size ∧ j' = 0 ∧ xs' = ql ++ news)) := by
 have hown2 := hown;obtain ⟨hlen, ho⟩ := hown
 rcases ho with ⟨he, _⟩ | ⟨g0, cap0, cur, he, hbg, hg, hnc, hcm, hcs, htake⟩
 ·cases he
 injection he with e1 _ e2;injection e1 with e1;injection e1 with e1;subst e1 e2;rw [Nat.mul_one] at hlen hcs htake;have hql : ql.length = r := by
  rcases hv with ⟨h, _, e⟩ | ⟨h, _, e⟩
  ·rw [e, h]; rfl
  ·rw [e, List.length_drop]; omega
 have hrn : r ≤ n := by rcases hv with ⟨h, _, _⟩ | ⟨h, _, _⟩ <;> omega
 by_cases hroom : r + m ≤ s
 ·have hv2 : n = j + r ∧ cap = j + s ∧ ql = xs.drop j := hv.resolve_left (by omega)
  obtain ⟨hn, hc, hq⟩ := hv2;have hfit : n + news.length ≤ cur.size := by omega
  have hfc := run_firstCells_some (P := P) w 1 m a m c news (by omega) hnews;have hst := run_storeCells_at P g n e news 0 cur w hg (by simpa using hfit) h1;simp only [Nat.add_zero] at hst;have hadd : (⟨g, j, none⟩ : Addr).add r = ⟨g, n, none⟩ := by rw [Addr.add_lit]; congr 1; omega
  obtain ⟨cur', hcur'⟩ : ∃ cur' : Array Value, cur' = (cur.toList.take n ++ news ++ cur.toList.drop (n + news.length)).toArray := ⟨_, rfl⟩;rw [← hcur'] at hst;refine ⟨w.setRow g cur', g, j, r + m, s, n + m, cap, xs ++ news, ?_, by omega, hc, Nat.le_refl _, ⟨by simp; omega, .inr ⟨g, cap, cur', rfl, hbg, setRow_heap w g cur cur' e (0, 0) hg, by omega, hcm, ?_, ?_⟩⟩, ⟨rfl, rfl, rfl, by simp, fun k _ hk => setRow_other w g k cur' (fun e => hk (by simp [e]))⟩, .inl ⟨rfl, rfl, rfl, hq, by omega⟩⟩
  ·simp [Builtin.append_, run_underlying ht, sizeOf, typeInfo, hi, hsize, Builtin.lenOf, hroom, hfc, hadd, hst]
  ·rw [hcur']; simp only [List.size_toArray, List.length_append, List.length_take, List.length_drop, Array.length_toList]
   omega
  ·rw [hcur', Nat.mul_one]
   simp only [htake];have : (xs ++ news).length = n + m := by simp; omega
   rw [← this];exact List.take_left
 ·have hcell := hown2.cells (g := g) rfl
  have holds : ∀ k u, ql[k]? = some u → w.cell? ((⟨g, j, none⟩ : Addr).add k) = some u := by
   intro k u hu
   rcases hv with ⟨_, _, hq⟩ | ⟨_, _, hq⟩
   ·rw [hq] at hu; simp at hu
   ·rw [hq, List.getElem?_drop] at hu
    have := hcell _ _ hu;rw [Addr.add_lit] at this ⊢;simpa using this
  obtain ⟨v', w', hr, ho2, hgr⟩ := run_append_arg_grows (P := P) w t ty e i z 1 bytes ht hi hz hsize hby hzs Nat.one_pos ⟨g, j, none⟩ r s ql (by omega) holds a m c news (by omega) hnews (by omega) (by omega)
   (Nat.le_trans (Nat.mul_le_mul_right _ (by omega)) hbytes)
  rcases ho2.2 with ⟨_, h0⟩ | ⟨g', cap', cur', hv', hbg', hg', k1, k2, k3, k4⟩
  ·omega
  subst hv';refine ⟨w', g', 0, r + m, cap', r + m, cap', ql ++ news, hr, by omega, by omega, by omega, ⟨ho2.1, .inr ⟨g', cap', cur', rfl, by omega, hg', k1, k2, k3, k4⟩⟩, ⟨hgr.os, hgr.tape, hgr.output, hgr.size, fun k hk _ => hgr.block k hk (by simp)⟩, ?_⟩;have hr2 := run_append_grow (P := P) w t ty e i z ht hi hz ⟨g, j, none⟩ r s ql (by rw [hsize]; omega) holds a m c news (by rw [hsize]; omega) hnews (by omega)
   (by simp only [maxLen] at h63; omega) (growslice_fits (by omega) (by rw [hby]; exact Nat.le_trans (Nat.mul_le_mul_right _ (by omega)) hbytes))
  rw [hr2] at hr;injection hr with hr _;injection hr with hr;injection hr with hr;injection hr with hr;exact .inr ⟨hr.symm, rfl, rfl⟩
end
section
variable {P : Program} {ops : Array Oper} {rest : List Oper} {o : Oper} {a : Act} {Q : Exit → Act → World → Prop} {E : TypeId} {z : Value} {bytes : Nat} {W : List Nat} {w0 w : World} {l : List Ob}
theorem wp_appShift {α : Type} {f : α → Value} (H : Hp W w0 w l) (hgd : o.guard = none) (s x : Operand) (t : TypeId) (ho : o.op = .call { callee := .builtin .append, args := #[s, x], argTypes := #[t, t] })
 (ht : P.underlying t = some (.slice E)) (hI : (P.info? E).map (fun i => (i.zero, i.size, i.bytes)) = some (some z, 1, bytes)) (hzs : z.cells.size = 1)
 (i : Nat) (g n cap j r q : Nat) (L ql : List α) (hrow : l[i]? = some (.row E 1 (.slice (some ⟨g, 0, none⟩) n cap) n (L.map f))) (hv : Left n cap j r q L ql) (hs : a.eval s = .slice (some ⟨g, j, none⟩) r q)
 (g1 : Nat) (T : TypeId) (y : α) (hx : a.eval x = .slice (some ⟨g1, 0, none⟩) 1 1) (hg : g1 = w.heap.size)
 (h1 : (f y).oneCell' = true) (h63 : n + 1 ≤ maxLen) (hbytes : (n + 1) * bytes ≤ 140737488355328)
 (h : ∀ (g' j' r' q' n' cap' : Nat) (L' : List α) (w' : World), n' ≤ n + 1 → Left n' cap' j' r' q' L' (ql ++ [y]) → Hp W w0 w' (l.set i (.row E 1 (.slice (some ⟨g', 0, none⟩) n' cap') n' (L'.map f))) → wpList P ops Q rest (a.put o.dst (.slice (some ⟨g', j', none⟩) r' q')) w') :
 wpList P ops Q (o :: rest) a (w.alloc (.cells #[f y] T)) := by
 subst hg;obtain ⟨inf, hi, hz, hsize, hby⟩ := info_parts hI;have H1 := H.al (.cells #[f y] T);have hlenL : L.length = n := by simpa using (H.row i hrow).1
 have hv2 : Left n cap j r q (L.map f) (ql.map f) := by
  rcases hv with ⟨h1, h2, h3⟩ | ⟨h1, h2, h3⟩
  ·exact .inl ⟨h1, h2, by rw [h3]; rfl⟩
  ·exact .inr ⟨h1, h2, by rw [h3, List.map_drop]⟩
 obtain ⟨w', g', j', r', q', n', cap', xs', hr, k1, k2, k2b, k3, k4, k5⟩ := run_append_shift (P := P) _ 0 t o.type E inf z bytes ht hi hz hsize hby hzs g n cap j r q (L.map f) (ql.map f) (H1.row i hrow) hv2 ⟨w.heap.size, 0, none⟩ 1 1 [f y] Nat.one_pos rfl
  (by simpa using news_at w #[f y] T) (by simpa using h1) h63 hbytes (Nat.zero_le _)
 refine wpList_plain hgd fun K hK => ?_;unfold Oper.wp execOp;simp only [ho, resolve, invoke, builtin, Sem.run_bind, Sem.run_pure, Result.andThen_ok, List.map_toArray, List.map_cons, List.map_nil, hs, hx, hr];refine hK _ _ ?_
 rcases k5 with ⟨rfl, rfl, rfl, k6, k7⟩ | ⟨rfl, rfl, rfl⟩
 ·rcases hv with ⟨h1, h2, h3⟩ | ⟨h1, h2, h3⟩
  ·-- nothing was left, and still it went in place: what was dropped is nothing
   have h4 : (L.drop j').map f = [] := by rw [List.map_drop, ← k6, h3]; rfl
   have h5 : L.drop j' = [] := List.map_eq_nil_iff.1 h4;refine h g' j' r' q' n' cap' (L ++ [y]) w' k2b (.inr ⟨k1, k2, by rw [List.drop_append_of_le_length (by rw [List.length_map] at k7; exact k7), h5, h3]⟩) ?_;rw [List.map_append];exact H1.grow i hrow k4 k3 (.inl rfl)
  ·refine h g' j' r' q' n' cap' (L ++ [y]) w' k2b (.inr ⟨k1, k2, by rw [List.drop_append_of_le_length (by omega), h3]⟩) ?_
   rw [List.map_append];exact H1.grow i hrow k4 k3 (.inl rfl)
 ·refine h _ 0 r' q' n' cap' (ql ++ [y]) w' k2b (.inr ⟨k1, k2, rfl⟩) ?_
  rw [List.map_append];exact H1.grow i hrow k4 k3 (.inr fun b hb => by injection hb with hb; rw [← hb]; exact Nat.le_refl _)
end
end Go.Proofs.YtllonpbhgbhogaaGreatDoor
namespace Go.Proofs.YtllonpbhgbhogaaGreatDoor
open Go.RowKit
theorem marks_len (l : List Nod) : ∀ (es : List EntT) (s : BS), (es.foldl (markE l) s).1.length = s.1.length ∧ (es.foldl (markE l) s).2.length = s.2.length
 | [], s => ⟨rfl, rfl⟩
 | e :: es, s => by
   obtain ⟨h1, h2⟩ := marks_len l es (markE l s e);obtain ⟨h3, h4⟩ := markE_len l s e;exact ⟨h1.trans h3, h2.trans h4⟩
theorem marks_take {l : List Nod} {es : List EntT} {k : Nat} {e : EntT} (h : es[k]? = some e) (s : BS) : (es.take (k + 1)).foldl (markE l) s = markE l ((es.take k).foldl (markE l) s) e := by
 rw [List.take_add_one, h, List.foldl_append]; rfl
theorem goes_succ (l : List Nod) (s : BS) (i : Nat) : (List.range (i + 1)).foldl (goI l) s = goI l ((List.range i).foldl (goI l) s) i := by
 rw [List.range_succ, List.foldl_append]; rfl
theorem goI_on_ {l : List Nod} {s : BS} {i : Nat} {x : Nod} (h : l[i]? = some x) (ho : s.2[i]? = some true) : goI l s i = x.2.2.2.2.foldl (markE l) s := by rw [goI, h]; exact if_pos ho
theorem goI_off {l : List Nod} {s : BS} {i : Nat} {x : Nod} (h : l[i]? = some x) (ho : s.2[i]? = some false) : goI l s i = s := by rw [goI, h]; exact if_neg (by rw [ho]; simp)
set_option maxRecDepth 100000 in
set_option maxHeartbeats 8000000 in
theorem specBelow_any (next : Int) (A : Option Addr) (n c : Nat) (L : List (Value × Nod)) (id : Int) (w : World) (h : RdN w A n L) (hn : n ≤ 1048576) (hfew : FewE L) :
 Calls Tryz.prog 49 #[.agg #[.int .i64 next, .slice A n c], .int .i64 id] w (Made w 4 1 n ((belowS (nodes L) id).map Value.bool)) := by
 have HL := Lib.hid h.len;have HNL := Lib.hid (show (nodes L).length = n by rw [nodes_len]; exact h.len);have HR := Lib.hid h;have HFE := Lib.hid hfew;have H := (Hp.start w).lay_ 31 [.int .i64 next, .slice A n c] rfl;have y1 := H.fa 0 1 rfl rfl;clear h hfew;obtain ⟨BB, hBB⟩ : ∃ x, x = belowS (nodes L) id := ⟨_, rfl⟩;rw [← hBB];have HBB := Lib.hid hBB;clear hBB;go_enter Tryz.func49, Tryz.ntmps49;go_wp2_with (at_make; refine wp_mk (H) rfl _ _ _ rfl Tryz.underlying78 infoBool rfl rfl (n) _ _ _ _ rfl rfl rfl rfl (by first | omega | (simp; done) | (simp; omega)) (by first | (simp only [maxLen]; omega) | (simp [maxLen]; done) | (simp [maxLen]; omega)) ?_)
 intro w1 H_;have H1 : Hp [] w w1 [.row 4 1 (.slice (some ⟨w.heap.size + 1, 0, none⟩) n n) n ((List.replicate n false).map Value.bool), .blk w.heap.size 31 [.int .i64 next, .slice A n c]] := H_.recast (by simp);clear H_ H y1;have y1 := H1.fa 1 1 rfl rfl;have hg12 := H1.lt 0 rfl (g := w.heap.size + 1) rfl;go_wp2_with (at_make; refine wp_mk (H1) rfl _ _ _ rfl Tryz.underlying78 infoBool rfl rfl (n) _ _ _ _ rfl rfl rfl rfl (by first | omega | (simp; done) | (simp; omega)) (by first | (simp only [maxLen]; omega) | (simp [maxLen]; done) | (simp [maxLen]; omega)) ?_)
 intro w2 H_;have H : Hp [] w w2 [.row 4 1 (.slice (some ⟨w1.heap.size, 0, none⟩) n n) n ((List.replicate n false).map Value.bool), .row 4 1 (.slice (some ⟨w.heap.size + 1, 0, none⟩) n n) n ((List.replicate n false).map Value.bool), .blk w.heap.size 31 [.int .i64 next, .slice A n c]] := H_.recast (by simp);clear H_ H1 y1;obtain ⟨g1, hg1⟩ : ∃ x, x = w.heap.size + 1 := ⟨_, rfl⟩;obtain ⟨g2, hg2⟩ : ∃ x, x = w1.heap.size := ⟨_, rfl⟩;rw [← hg1, ← hg2] at H ⊢;rw [← hg1, ← hg2] at hg12;have HG1 := Lib.hid hg1;have HG2 := Lib.hid hg2;clear hg1 hg2;have hne1 : ¬ g1 = g2 := by omega
 have hne2 : ¬ g2 = g1 := by omega
 have y0 := H.fa 2 0 rfl rfl;have y1 := H.fa 2 1 rfl rfl;go_wp2_with fail;refine (specAt_any next A n c L id _ (HR.out.fr H.fr) hn).mono ?_;rintro e w3 ⟨rfl, f9⟩;replace H := H.go f9;clear f9 y0 y1
 rcases atZ_cases (nodes L) id with ⟨hza, hzn⟩ | ⟨a, hza, hzn, hal⟩
 ·rw [hza]
  have HE := Lib.hid (show BB = List.replicate n false by rw [HBB.out, belowS, hzn]; simp only [HNL.out]);clear hza hzn;have H9 := Lib.hid (H.toMade 1 rfl);clear H;go_wp2_with fail;go_ret;rw [HE.out];exact H9.out
 ·rw [hza]
  rw [HNL.out] at hal;have ha0 : (0 : Int) ≤ (a : Int) := by omega
  have ha1 : (a : Int) < (n : Int) := by omega
  have ha2 : ¬ (a : Int) < 0 := by omega
  obtain ⟨s0, hs0⟩ : ∃ x, x = start0 (nodes L) a := ⟨_, rfl⟩;have HS0 := Lib.hid (show s0.1 = List.replicate n false ∧ s0.2 = (List.replicate n false).set a true by rw [hs0, start0, HNL.out]; exact ⟨rfl, rfl⟩);have HE := Lib.hid (show BB = (roundsS (nodes L) s0 n).1 by rw [HBB.out, belowS, hzn]; simp only [HNL.out, hs0]);have HBS := Lib.hid (show Bs (nodes L) id s0 by rw [hs0]; exact start0_Bs hzn);clear hza hzn hs0;have e0 := H.free 0 rfl a;have e1 := H.atM (f1 := Value.bool) 0 rfl (j := a) (x := false) (by simp [List.getElem?_replicate, hal]);have H2 := H.putM (f1 := Value.bool) 0 rfl a true;have H3 : Hp [] w (w3.setCell ⟨g2, a, none⟩ (.bool true)) [.row 4 1 (.slice (some ⟨g2, 0, none⟩) n n) n (s0.2.map Value.bool), .row 4 1 (.slice (some ⟨g1, 0, none⟩) n n) n (s0.1.map Value.bool), .blk w.heap.size 31 [.int .i64 next, .slice A n c]] := H2.recast (by rw [HS0.out.1, HS0.out.2]; rfl);clear H H2;have y1 := H3.fa 2 1 rfl rfl;go_wp2_with fail
  go_loopw [8] (fun rv wr => ∃ r : Nat, rv = .int .i64 r ∧ r ≤ n ∧ Hp [] w wr [.row 4 1 (.slice (some ⟨g2, 0, none⟩) n n) n ((roundsS (nodes L) s0 r).2.map Value.bool), .row 4 1 (.slice (some ⟨g1, 0, none⟩) n n) n ((roundsS (nodes L) s0 r).1.map Value.bool), .blk w.heap.size 31 [.int .i64 next, .slice A n c]]) (fun rv _ => n - (intOf rv).toNat)
  case atStart => exact ⟨0, rfl, by omega, H3⟩
  case round =>
   clear H3 y1 e0 e1;obtain ⟨r, rfl, hr, H⟩ := hrel;have y1 := H.fa 2 1 rfl rfl;have hr0 : (0 : Int) ≤ (r : Int) := by omega
   by_cases hrn : r < n
   ·have hr1 : (r : Int) < (n : Int) := by omega
    obtain ⟨t0, ht0⟩ : ∃ x, x = roundsS (nodes L) s0 r := ⟨_, rfl⟩;rw [← ht0] at H;have HT0 := Lib.hid (show roundsS (nodes L) s0 (r + 1) = (List.range n).foldl (goI (nodes L)) t0 by rw [roundsS, roundS, HNL.out, ht0]);have HBS0 := Lib.hid (show Bs (nodes L) id t0 by rw [ht0]; exact HBS.out.rounds r);clear ht0;go_wp2_with fail;clear y1;have H1 := H;clear H
    go_loopw [9] (fun iv wr => ∃ i : Nat, iv = .int .i64 i ∧ i ≤ n ∧ Hp [] w wr [.row 4 1 (.slice (some ⟨g2, 0, none⟩) n n) n (((List.range i).foldl (goI (nodes L)) t0).2.map Value.bool), .row 4 1 (.slice (some ⟨g1, 0, none⟩) n n) n (((List.range i).foldl (goI (nodes L)) t0).1.map Value.bool), .blk w.heap.size 31 [.int .i64 next, .slice A n c]]) (fun iv _ => n - (intOf iv).toNat)
    case atStart => exact ⟨0, rfl, by omega, H1⟩
    case round =>
     clear H1;obtain ⟨i, rfl, hi, H⟩ := hrel;have y1 := H.fa 2 1 rfl rfl;have hi0 : (0 : Int) ≤ (i : Int) := by omega
     by_cases hin : i < n
     ·have hi1 : (i : Int) < (n : Int) := by omega
      obtain ⟨t1, ht1⟩ : ∃ x, x = (List.range i).foldl (goI (nodes L)) t0 := ⟨_, rfl⟩;rw [← ht1] at H;have HBS1 := Lib.hid (show Bs (nodes L) id t1 by rw [ht1]; exact HBS0.out.goes _);have HT1 := Lib.hid (show (List.range (i + 1)).foldl (goI (nodes L)) t0 = goI (nodes L) t1 i by rw [goes_succ, ht1]);clear ht1;obtain ⟨⟨v, x0, x1, x2, x3, es⟩, hx⟩ := some_at HL.out hin;have hm := HFE.out _ (List.mem_of_getElem? hx);obtain ⟨bk, of, B1, d1, rfl, e1, rr1, c1⟩ := (HR.out.fr H.fr).elem hx;simp only at e1 rr1 hm;subst e1;have HNX := Lib.hid (nodes_at hx);simp only at HNX;have HRE := Lib.hid (show ∀ w', Fr w w' → Rd w' B1 es.length 4 (es.flatMap cEnt) ∧ w'.cell? ⟨bk, of + i * 5 + 4, none⟩ = some (.slice B1 es.length d1) from fun w' f => by
       obtain ⟨b', o', B2, d2, ea, e2, r2, cc⟩ := (HR.out.fr f).elem hx;injection ea with ea; injection ea with ea eb; subst ea eb;simp only at e2 r2;have c4 := cc 4 _ rfl;injection e2 with e2 _ e3;subst e2 e3;exact ⟨r2, c4⟩)
      obtain ⟨m, hmm⟩ : ∃ m, m = es.length := ⟨_, rfl⟩;have HEM := Lib.hid hmm.symm;rw [← hmm] at hm HRE;clear hx c1 rr1 hmm;obtain ⟨o, ho⟩ : ∃ o, t1.2[i]? = some o := ⟨_, List.getElem?_eq_getElem (by rw [HBS1.out.l2, HNL.out]; exact hin)⟩;have HO := Lib.hid ho;clear ho;go_wp2_with fail;clear y1;have H1 := H;clear H
      go_loopw [10] (fun kv wr => ∃ k : Nat, kv = .int .i64 k ∧ k ≤ m ∧ (o = true ∨ k = 0) ∧ Hp [] w wr [.row 4 1 (.slice (some ⟨g2, 0, none⟩) n n) n (((es.take k).foldl (markE (nodes L)) t1).2.map Value.bool), .row 4 1 (.slice (some ⟨g1, 0, none⟩) n n) n (((es.take k).foldl (markE (nodes L)) t1).1.map Value.bool), .blk w.heap.size 31 [.int .i64 next, .slice (some ⟨bk, of, none⟩) n c]]) (fun kv _ => m - (intOf kv).toNat)
      case atStart => exact ⟨0, rfl, by omega, .inr rfl, H1⟩
      case round =>
       clear H1;obtain ⟨k, rfl, hk, hok, H⟩ := hrel;have y1 := H.fa 2 1 rfl rfl;have y4 := (HRE.out _ H.fr).2;have hk0 : (0 : Int) ≤ (k : Int) := by omega
       cases o with
       | false =>
         have hk00 : k = 0 := hok.resolve_left (by simp);have HT2 := Lib.hid (show (List.range (i + 1)).foldl (goI (nodes L)) t0 = (es.take k).foldl (markE (nodes L)) t1 by
          rw [HT1.out, goI_off HNX.out HO.out, hk00]; rfl)
         have c0 := H.atM (f1 := Value.bool) 0 rfl (j := i) (x := false) (by rw [hk00]; exact HO.out);clear hk00;go_wp2_with fail;go_roundw
         case rel => exact ⟨i + 1, by go_num, by omega, by rw [HT2.out]; exact H⟩
         case measure => simp [intOf]; omega
       | true =>
         obtain ⟨t2, ht2⟩ : ∃ x, x = (es.take k).foldl (markE (nodes L)) t1 := ⟨_, rfl⟩;rw [← ht2] at H;have ho2 : t2.2[i]? = some true := by rw [ht2]; exact (marks_on _ _).2 HO.out
         have hl1 : t2.1.length = n := by rw [ht2, (marks_len _ _ _).1, HBS1.out.l1, HNL.out]
         have hl2 : t2.2.length = n := by rw [ht2, (marks_len _ _ _).2, HBS1.out.l2, HNL.out]
         have HT2 := Lib.hid ht2;clear ht2;have c0 := H.atM (f1 := Value.bool) 0 rfl (j := i) (x := true) ho2;have HO2 := Lib.hid ho2;clear ho2
         by_cases hkm : k < m
         ·have hk1 : (k : Int) < (m : Int) := by omega
          obtain ⟨⟨z0, z1, z2, y3⟩, hy⟩ := some_at HEM.out hkm;obtain ⟨bq, oq, rfl, _⟩ := (HRE.out _ H.fr).1.elem cEnt_len hy (by omega);have HE4 := Lib.hid (show ∀ w', Fr w w' → w'.cell? ⟨bk, of + i * 5 + 4, none⟩ = some (.slice (some ⟨bq, oq, none⟩) m d1) from fun w' f => (HRE.out _ f).2);have HE3 := Lib.hid (show ∀ w', Fr w w' → w'.cell? ⟨bq, oq + k * 4 + 3, none⟩ = some (.int .i64 y3) from fun w' f => by
           obtain ⟨b', o', e, hc⟩ := (HRE.out _ f).1.elem cEnt_len hy (by omega);injection e with e; injection e with e1 e2; subst e1 e2;exact hc 3 _ rfl)
          have HMT := Lib.hid (marks_take (l := nodes L) hy t1);clear hy;obtain ⟨z, hz⟩ : ∃ z, z = atZ (nodes L) y3 := ⟨_, rfl⟩;have HZ := Lib.hid hz;clear hz;go_wp2_with fail;clear y1 y4 c0;replace H := H.drew;have y0 := H.fa 2 0 rfl rfl;have y1 := H.fa 2 1 rfl rfl;have y4 := HE4.out _ H.fr;have y5 := HE3.out _ H.fr;refine wp_region_held_drew (S := fun w' => w'.cell? ⟨w.heap.size, 0, none⟩ = some (.int .i64 next) ∧ w'.cell? ⟨w.heap.size, 1, none⟩ = some (.slice (some ⟨bk, of, none⟩) n c) ∧ w'.cell? ⟨bk, of + i * 5 + 4, none⟩ = some (.slice (some ⟨bq, oq, none⟩) m d1) ∧ w'.cell? ⟨bq, oq + k * 4 + 3, none⟩ = some (.int .i64 y3)) (by kernel_rfl) ?_ (fun hHeld => ?_)
          ·exact ⟨y0, y1, y4, y5⟩
          obtain ⟨u0, hu0⟩ : ∃ uu : World, uu = wr.drew := ⟨_, rfl⟩;rw [← hu0] at H hHeld ⊢;clear hu0;refine wpT 0 ?_;refine wpT 1 ?_;refine wpT 2 ?_;refine wpT 3 ?_;refine wpT 4 ?_;refine wpT 5 ?_;refine wpT 6 ?_;refine wpT 7 ?_;refine wpT 8 ?_;refine wpT 9 ?_;refine wpT 10 ?_;refine wpC 11 fun K hK => ?_;go_simp;refine (specAt_any next _ n c L y3 _ (HR.out.fr H.fr) hn).mono ?_;rintro e u1 ⟨rfl, f9⟩;replace H := H.go f9;clear f9;rw [← HZ.out];go_wp2_with fail;refine hK.out _ _ ?_ fun hHeld => ?_
          ·exact ⟨H.fa 2 0 rfl rfl, H.fa 2 1 rfl rfl, HE4.out _ H.fr, HE3.out _ H.fr⟩
          clear hK K;(try simp only [sX, Act.put]);refine wpT 12 ?_;refine wpAnyH_done (by kernel_rfl) ?_ _;clear y0 y1 y4 y5
          rcases atZ_cases (nodes L) y3 with ⟨hza, hzn⟩ | ⟨a, hza, hzn, hal⟩
          ·have hz1 : z = -1 := HZ.out.trans hza
           subst hz1;have HT3 := Lib.hid (show (es.take (k + 1)).foldl (markE (nodes L)) t1 = t2 by rw [HMT.out, ← HT2.out, markE, hzn]);clear hza hzn;go_wp2_with fail;go_roundw
           case rel => exact ⟨k + 1, by go_num, by omega, .inl (by trivial), by rw [HT3.out]; exact H⟩
           case measure => simp [intOf]; omega
          ·have hz1 : z = (a : Int) := HZ.out.trans hza
           subst hz1;rw [HNL.out] at hal;have HT3 := Lib.hid (show (es.take (k + 1)).foldl (markE (nodes L)) t1 = (t2.1.set a true, t2.2.set a true) by rw [HMT.out, ← HT2.out, markE, hzn]);have ha0 : (0 : Int) ≤ (a : Int) := by omega
           have ha1 : (a : Int) < (n : Int) := by omega
           clear hza hzn;obtain ⟨b1, hb1⟩ : ∃ b, t2.1[a]? = some b := ⟨_, List.getElem?_eq_getElem (by omega)⟩;obtain ⟨b2, hb2⟩ : ∃ b, t2.2[a]? = some b := ⟨_, List.getElem?_eq_getElem (by omega)⟩;have c1 := H.atM (f1 := Value.bool) 1 rfl hb1;have c2 := H.atM (f1 := Value.bool) 0 rfl hb2;have q1 := H.free 1 rfl a;have q2 := H.free 0 rfl a;have H5 := H.putM (f1 := Value.bool) 1 rfl a true;have c3 := H5.atM (f1 := Value.bool) 0 rfl hb2;have q3 := H5.free 0 rfl a;have H6 := H5.putM (f1 := Value.bool) 0 rfl a true;have H7 := Lib.hid H6;clear hb1 hb2 H H5 H6;go_wp2_with fail;go_roundw
           case rel => exact ⟨k + 1, by go_num, by omega, .inl (by trivial), by rw [HT3.out]; exact H7.out⟩
           case measure => simp [intOf]; omega
         ·have hk1 : ¬ (k : Int) < (m : Int) := by omega
          have HT3 := Lib.hid (show (List.range (i + 1)).foldl (goI (nodes L)) t0 = t2 by
           rw [HT1.out, goI_on_ HNX.out HO.out, HT2.out, List.take_of_length_le (by rw [HEM.out]; omega)])
          go_wp2_with fail;go_roundw
          case rel => exact ⟨i + 1, by go_num, by omega, by rw [HT3.out]; exact H⟩
          case measure => simp [intOf]; omega
     ·have hi1 : ¬ (i : Int) < (n : Int) := by omega
      have HT1 := Lib.hid (show roundsS (nodes L) s0 (r + 1) = (List.range i).foldl (goI (nodes L)) t0 by rw [HT0.out, show i = n by omega]);go_wp2_with fail;go_roundw
      case rel => exact ⟨r + 1, by go_num, by omega, by rw [HT1.out]; exact H⟩
      case measure => simp [intOf]; omega
   ·have hr1 : ¬ (r : Int) < (n : Int) := by omega
    have HE2 := Lib.hid (show BB = (roundsS (nodes L) s0 r).1 by rw [HE.out, show r = n by omega]);have H9 := Lib.hid (H.toMade 1 rfl);go_wp2_with fail;go_ret;rw [HE2.out];exact H9.out
end Go.Proofs.YtllonpbhgbhogaaGreatDoor
namespace Go.Proofs.YtllonpbhgbhogaaGreatDoor
open Go.RowKit
end Go.Proofs.YtllonpbhgbhogaaGreatDoor