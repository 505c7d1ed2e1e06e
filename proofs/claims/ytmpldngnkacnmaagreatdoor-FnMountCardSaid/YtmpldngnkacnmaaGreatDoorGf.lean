/-
  Many texts in one: Mark, Tree, Has, Shift, Same, Bools, RowOps.
-/
import Derived.Test.YtmpldngnkacnmaaGreatDoorGb
import Derived.Deep.RegionHeld3
import Derived.Test.YtmpldngnkacnmaaGreatDoorGa
import Derived.Deep.RegionLaw
import Derived.Deep.RegionHeld
import Derived.Maps.AppendAt
import Derived.ArgAppend
import Derived.Laws.IdiomCopy
import Derived.Lib.SliceRun
set_option linter.unusedVariables false
set_option linter.unusedSimpArgs false
namespace Go.Proofs.YtmpldngnkacnmaaGreatDoor
open Go.RowKit
end Go.Proofs.YtmpldngnkacnmaaGreatDoor
namespace Go.Proofs.YtmpldngnkacnmaaGreatDoor
open Go.RowKit
theorem sA {α : Type} {xs : List α} {i : Nat} (h : i < xs.toArray.size) : xs.toArray[i] = xs[i]'(by simpa using h) := List.getElem_toArray h
theorem sB {α : Type} (a : α) (l : List α) (i : Nat) (h : i + 1 < (a :: l).length) : (a :: l)[i + 1] = l[i]'(Nat.lt_of_succ_lt_succ h) := rfl
theorem sC {α : Type} (a : α) (l : List α) (h : 0 < (a :: l).length) : (a :: l)[0] = a := rfl
theorem sD {α : Type} (l : List α) (i : Nat) (a : α) : l.toArray.setIfInBounds i a = (l.set i a).toArray := List.setIfInBounds_toArray ..
theorem sE {α : Type} (x : α) (xs : List α) (a : α) : (x :: xs).set 0 a = a :: xs := rfl
theorem sF {α : Type} (x : α) (xs : List α) (n : Nat) (a : α) : (x :: xs).set (n + 1) a = x :: xs.set n a := rfl
theorem sX {α : Type} : (∀ (xs : List α) (i : Nat) (h : i < xs.toArray.size), xs.toArray[i] = xs[i]'(by simpa using h)) ∧ (∀ (a : α) (l : List α) (i : Nat) (h : i + 1 < (a :: l).length), (a :: l)[i + 1] = l[i]'(Nat.lt_of_succ_lt_succ h)) ∧ (∀ (a : α) (l : List α) (h : 0 < (a :: l).length), (a :: l)[0] = a) ∧
 (∀ (l : List α) (i : Nat) (a : α), l.toArray.setIfInBounds i a = (l.set i a).toArray) ∧ (∀ (x : α) (xs : List α) (a : α), (x :: xs).set 0 a = a :: xs) ∧ ∀ (x : α) (xs : List α) (n : Nat) (a : α), (x :: xs).set (n + 1) a = x :: xs.set n a :=
 ⟨fun _ _ h => sA h, sB, sC, sD, sE, sF⟩
section
variable {P : Program} {md : Region.Mode} {ops : Array Oper} {Q : Exit → Act → World → Prop} {S : World → Prop} {oi : Oper} {v : Value} {fuel : Nat} {listed l' : Array Bool} {a a' : Act} {w : World}
theorem wpT (i : Nat) (h : wpAnyH P md ops Q S fuel l' a' w) (hi : ops[i]? = some oi := by exact rfl)
 (hv : ∀ w, S w → (execOp a.eval oi).run P w = .ok (.value v) w := by intro w hSw; (try dsimp only at hSw); go_simp; try (with_reducible rfl))
 (ha : a.put oi.dst v = a' := by (try simp only [sA, sB, sC, Act.put, sD, sE, sF]); try exact rfl)
 (hl : listed.setIfInBounds i true = l' := by (try simp only [sD, sE, sF]); try exact rfl)
 (hs : Region.noSelect ops = true := by kernel_rfl) (hf : Region.free md ops listed i = true := by kernel_rfl) (hr : (Region.ready md ops listed).contains i = true := by kernel_rfl)
 (hQ : ∀ c a w, Q (.panic c) (a.put oi.dst v) w → Q (.panic c) a w := by first | exact fun _ _ _ h => h | exact fun _ _ _ h => nomatch h.1) (hy : Region.wanted oi (yielded ops a.tmps) = true := by kernel_rfl) (hS : S w := by assumption) : wpAnyH P md ops Q S (fuel + 1) listed a w := by
 subst ha hl;exact wpAnyH_take hi hs hf hr hQ (Or.inl ⟨hy, hv⟩) hS h
theorem wpS (i : Nat) (h : wpAnyH P md ops Q S fuel l' a' w) (hi : ops[i]? = some oi := by exact rfl)
 (ha : a.put oi.dst undef = a' := by (try simp only [sA, sB, sC, Act.put, sD, sE, sF]); try exact rfl)
 (hl : listed.setIfInBounds i true = l' := by (try simp only [sD, sE, sF]); try exact rfl)
 (hs : Region.noSelect ops = true := by kernel_rfl) (hf : Region.free md ops listed i = true := by kernel_rfl) (hr : (Region.ready md ops listed).contains i = true := by kernel_rfl)
 (hQ : ∀ c a w, Q (.panic c) (a.put oi.dst undef) w → Q (.panic c) a w := by first | exact fun _ _ _ h => h | exact fun _ _ _ h => nomatch h.1) (hy : Region.wanted oi (yielded ops a.tmps) = false := by kernel_rfl) (hS : S w := by assumption) : wpAnyH P md ops Q S (fuel + 1) listed a w := by
 subst ha hl;exact wpAnyH_take hi hs hf hr hQ (Or.inr ⟨hy, rfl⟩) hS h
theorem wpC (i : Nat) {o : Oper} (h : ∀ K' : Act → World → Prop, Shut (∀ a w, S w → (S w → wpAnyH P md ops Q S fuel (listed.setIfInBounds i true) a w) → K' a w) → if Region.wanted o (yielded ops a.tmps) = true then Oper.wp P o a w K' Q else K' (a.put o.dst undef) w)
 (ho : ops[i]? = some o := by exact rfl) (hr : Region.ready md ops listed = [i] := by kernel_rfl) : wpAnyH P md ops Q S (fuel + 1) listed a w :=
 wpAnyH_ready hr (by simp) (AllReadyH.cons ho h AllReadyH.nil)
end
theorem snocRec {α : Type} {p : List α → Prop} (nil : p []) (snoc : ∀ l a, p l → p (l ++ [a])) (l : List α) : p l := by
 have h : ∀ n, ∀ l : List α, l.length = n → p l := by
  intro n
  induction n with
  | zero => intro l hl; rw [List.eq_nil_of_length_eq_zero hl]; exact nil
  | succ n ih =>
    intro l hl
    rcases List.eq_nil_or_concat l with h | ⟨l', a, h⟩
    ·subst h; cases hl
    ·rw [List.concat_eq_append] at h
     subst h;exact snoc l' a (ih l' (by simpa using hl))
 exact h _ l rfl
theorem fm_congr {α β : Type} {f g : α → Option β} : ∀ {l : List α}, (∀ x ∈ l, f x = g x) → l.filterMap f = l.filterMap g
 | [], _ => rfl
 | x :: l, h => by
   rw [List.filterMap_cons, List.filterMap_cons, h x (by simp), fm_congr (l := l) fun y hy => h y (by simp [hy])]
theorem Hp.reord {W : List Nat} {w0 w : World} {l : List Ob} (h : Hp W w0 w l) (is : List Nat) {n : Nat} (hn : l.length = n) (hp : is.Perm (List.range n)) : Hp W w0 w (is.filterMap fun i => l[i]?) := by
 subst hn;refine h.perm (List.Perm.symm ?_);have h1 := hp.filterMap (fun i => l[i]?);have h2 : (List.range l.length).filterMap (fun i => l[i]?) = l := by
  clear h1 hp h
  induction l using snocRec with
  | nil => rfl
  | snoc l a ih =>
    rw [List.length_append, List.length_singleton, List.range_succ, List.filterMap_append];have h3 : (List.range l.length).filterMap (fun i => (l ++ [a])[i]?) = (List.range l.length).filterMap (fun i => l[i]?) := by
     apply fm_congr;intro i hi;rw [List.getElem?_append_left (List.mem_range.1 hi)]
    rw [h3, ih]
    simp
 rwa [h2] at h1
section
variable {P : Program} {ops : Array Oper} {o : Oper} {a : Act} {Q : Exit → Act → World → Prop} {E : TypeId} {z : Value} {k bytes : Nat} {W : List Nat} {w0 w : World} {l : List Ob}
theorem step_appRd {K : Act → World → Prop} {E0 : Prop} (H : Hp W w0 w l) (hgd : o.guard = none) (s x : Operand) (t : TypeId) (ho : o.op = .call { callee := .builtin .append, args := #[s, x], argTypes := #[t, t] })
 (ht : P.underlying t = some (.slice E)) (hI : (P.info? E).map (fun i => (i.zero, i.size, i.bytes)) = some (some z, k, bytes)) (hzs : z.cells.size = k) (hsz : 0 < k)
 (i : Nat) (v : Value) (n : Nat) (xs : List Value) (hrow : l[i]? = some (.row E k v n xs)) (hs : a.eval s = v) (A : Option Addr) (m c : Nat) (ys : List Value) (hx : a.eval x = .slice A m c) (hc : A = none → c = 0)
 (hrd : Rd w A m k ys) (h1 : ∀ u ∈ ys, u.oneCell' = true) (h63 : n + m ≤ maxLen) (hbytes : (n + m) * bytes ≤ 140737488355328)
 (h : ∀ v' w', Hp W w0 w' (l.set i (.row E k v' (n + m) (xs ++ ys))) → K (a.put o.dst v') w') :
 if Region.wanted o (yielded ops a.tmps) = true then Oper.wp P o a w K Q else E0 := by
 rw [if_pos (by simp [Region.wanted, hgd])];obtain ⟨inf, hi, hz, hsize, hby⟩ := info_parts hI
 cases A with
 | none =>
   have hm : m = 0 := by
    rcases Nat.eq_zero_or_pos m with h0 | h0
    ·exact h0
    ·obtain ⟨b, o, e, _⟩ := hrd.2 h0; cases e
   subst hm;obtain rfl := hc rfl;have hys : ys = [] := List.eq_nil_of_length_eq_zero (by simpa using hrd.1);subst hys;have hr := run_append_owned_none (P := P) (w := w) 0 t o.type E inf k ht hi v n xs (H.row i hrow);have hres := h v w (by
    have h2 := H.turnRow i hrow (Gr.refl _ w) (H.row i hrow) (.inl rfl);simpa using h2)
   unfold Oper.wp execOp;simp only [ho, resolve, invoke, builtin, Sem.run_bind, Sem.run_pure, Result.andThen_ok, List.map_toArray, List.map_cons, List.map_nil, hs, hx, hr];exact hres
 | some ad =>
   obtain ⟨v', w', hr, h2, h3, _, h5⟩ := run_append_own_at (P := P) w 0 t o.type E inf z k bytes ht hi hz hsize hby hzs hsz v n xs (H.row i hrow) ad m c ys hrd.1 (fun j u hu => by
    obtain ⟨b, o, e, hcell⟩ := hrd.get hu;injection e with e;subst e;rw [Addr.add_lit];exact hcell) h1 h63 hbytes (Nat.zero_le _)
   have hres := h v' w' (H.grow i hrow h3 h2 (h5.imp id fun e g hg => by rw [e] at hg; injection hg with hg; omega));unfold Oper.wp execOp;simp only [ho, resolve, invoke, builtin, Sem.run_bind, Sem.run_pure, Result.andThen_ok, List.map_toArray, List.map_cons, List.map_nil, hs, hx, hr];exact hres
theorem wp_joint {c : Code} (R : Act → Act → World → Prop) (h1 : c.wp P (fun e a' w' => e = .normal ∧ R a a' w') a w) (h2 : ∀ a' w', R a a' w' → Q .normal a' w') : c.wp P Q a w :=
 Code.wp_mono (fun e a' w' ⟨he, hr⟩ => by subst he; exact h2 a' w' hr) h1
end
end Go.Proofs.YtmpldngnkacnmaaGreatDoor
namespace Go.Proofs.YtmpldngnkacnmaaGreatDoor
open Go.RowKit
set_option maxRecDepth 100000 in
set_option maxHeartbeats 2000000 in
theorem indexI_any (A : Option Addr) (n c : Nat) (l : List Int) (x : Int) (w : World) (h : Rd w A n 1 (l.map (Value.int .i64))) (hn : n ≤ 1048576) :
 Calls Tryz.prog 107 #[.slice A n c, .int .i64 x] w fun e w' => (∃ r : Int, e = .returned (.int .i64 r) ∧ ((r = -1 ∧ x ∉ l) ∨ ∃ k : Nat, r = k ∧ k < n ∧ l[k]? = some x)) ∧ w' = w := by
 have HL := Lib.hid h.len1;have G := Lib.hid h;clear h;go_enter Tryz.func107, Tryz.ntmps107;go_wp2_with fail
 go_loopw [5, 8] (fun jv iv wr => ∃ i : Nat, iv = .int .i64 i ∧ i ≤ n ∧ x ∉ l.take i ∧ wr = w) (fun _ iv _ => n - (intOf iv).toNat)
 case atStart => exact ⟨0, rfl, by omega, by simp, rfl⟩
 case round =>
  obtain ⟨i, rfl, hi, hno, rfl⟩ := hrel
  by_cases hlt : i < n
  ·obtain ⟨y, hy⟩ := some_at HL.out hlt
   obtain ⟨bk, of, rfl, hc⟩ := G.out.get1 hy;have hi0 : (0 : Int) ≤ (i : Int) := by omega
   have hi1 : (i : Int) < (n : Int) := by omega
   have HY := Lib.hid hy;have HO := Lib.hid hno;clear hy hno
   by_cases hxy : x = y
   ·subst hxy
    go_wp2_with fail;go_ret;exact ⟨⟨_, rfl, Or.inr ⟨i, rfl, hlt, HY.out⟩⟩, rfl⟩
   ·go_wp2_with fail
    go_roundw
    case rel => exact ⟨i + 1, by go_num, by omega, by rw [At.take HY.out, List.mem_append, not_or]; exact ⟨HO.out, by simpa using hxy⟩, trivial⟩
    case measure => simp [intOf]; omega
  ·have HO := Lib.hid hno
   clear hno;go_wp2_with fail;go_ret;refine ⟨⟨_, rfl, Or.inl ⟨rfl, ?_⟩⟩, rfl⟩;have := HO.out
   rwa [List.take_of_length_le (by rw [HL.out]; omega)] at this
set_option maxRecDepth 100000 in
set_option maxHeartbeats 2000000 in
theorem containsI_any (A : Option Addr) (n c : Nat) (l : List Int) (x : Int) (w : World) (h : Rd w A n 1 (l.map (Value.int .i64))) (hn : n ≤ 1048576) :
 Calls Tryz.prog 82 #[.slice A n c, .int .i64 x] w fun e w' => e = .returned (.bool (decide (x ∈ l))) ∧ w' = w := by
 have G := Lib.hid h;clear h;obtain ⟨b, hb⟩ : ∃ b, b = decide (x ∈ l) := ⟨_, rfl⟩;rw [← hb];have HB := Lib.hid hb;clear hb;go_enter Tryz.func82, Tryz.ntmps82;go_wp2_with fail;refine (indexI_any A n c l x _ G.out hn).mono ?_;rintro e w2 ⟨⟨r, rfl, hr⟩, rfl⟩
 rcases hr with ⟨rfl, hno⟩ | ⟨k, rfl, hk, hx⟩
 ·have HE := Lib.hid (show b = false by rw [HB.out]; exact decide_eq_false hno)
  clear hno;go_wp2_with fail;go_ret;rw [HE.out];exact ⟨rfl, rfl⟩
 ·have HE := Lib.hid (show b = true by rw [HB.out]; exact decide_eq_true (List.mem_of_getElem? hx))
  have hk0 : (0 : Int) ≤ (k : Int) := by omega
  clear hx;go_wp2_with fail;go_ret;rw [HE.out];exact ⟨rfl, rfl⟩
set_option maxRecDepth 100000 in
set_option maxHeartbeats 2000000 in
theorem indexS_any (A : Option Addr) (n c : Nat) (l : List ByteArray) (x : ByteArray) (w : World) (h : Rd w A n 1 (l.map Value.string)) (hn : n ≤ 1048576) :
 Calls Tryz.prog 132 #[.slice A n c, .string x] w fun e w' => (∃ r : Int, e = .returned (.int .i64 r) ∧ ((r = -1 ∧ x ∉ l) ∨ ∃ k : Nat, r = k ∧ k < n ∧ l[k]? = some x)) ∧ w' = w := by
 have HL := Lib.hid h.len1;have G := Lib.hid h;clear h;go_enter Tryz.func132, Tryz.ntmps132;go_wp2_with fail
 go_loopw [5, 8] (fun jv iv wr => ∃ i : Nat, iv = .int .i64 i ∧ i ≤ n ∧ x ∉ l.take i ∧ wr = w) (fun _ iv _ => n - (intOf iv).toNat)
 case atStart => exact ⟨0, rfl, by omega, by simp, rfl⟩
 case round =>
  obtain ⟨i, rfl, hi, hno, rfl⟩ := hrel
  by_cases hlt : i < n
  ·obtain ⟨y, hy⟩ := some_at HL.out hlt
   obtain ⟨bk, of, rfl, hc⟩ := G.out.get1 hy;have hi0 : (0 : Int) ≤ (i : Int) := by omega
   have hi1 : (i : Int) < (n : Int) := by omega
   have HY := Lib.hid hy;have HO := Lib.hid hno;clear hy hno
   by_cases hxy : x = y
   ·subst hxy
    go_wp2_with fail;go_ret;exact ⟨⟨_, rfl, Or.inr ⟨i, rfl, hlt, HY.out⟩⟩, rfl⟩
   ·have hbb : (x.toList == y.toList) = false := str_ne hxy
    have HXY := Lib.hid hxy;clear hxy;go_wp2_with fail;go_roundw
    case rel => exact ⟨i + 1, by go_num, by omega, by rw [At.take HY.out, List.mem_append, not_or]; exact ⟨HO.out, by simpa using HXY.out⟩, trivial⟩
    case measure => simp [intOf]; omega
  ·have HO := Lib.hid hno
   clear hno;go_wp2_with fail;go_ret;refine ⟨⟨_, rfl, Or.inl ⟨rfl, ?_⟩⟩, rfl⟩;have := HO.out
   rwa [List.take_of_length_le (by rw [HL.out]; omega)] at this
set_option maxRecDepth 100000 in
set_option maxHeartbeats 2000000 in
theorem containsS_any (A : Option Addr) (n c : Nat) (l : List ByteArray) (x : ByteArray) (w : World) (h : Rd w A n 1 (l.map Value.string)) (hn : n ≤ 1048576) :
 Calls Tryz.prog 119 #[.slice A n c, .string x] w fun e w' => ∃ b, e = .returned (.bool b) ∧ (b = true ↔ x ∈ l) ∧ w' = w := by
 have G := Lib.hid h;clear h;go_enter Tryz.func119, Tryz.ntmps119;go_wp2_with fail;refine (indexS_any A n c l x _ G.out hn).mono ?_;rintro e w2 ⟨⟨r, rfl, hr⟩, rfl⟩
 rcases hr with ⟨rfl, hno⟩ | ⟨k, rfl, hk, hx⟩
 ·have HE := Lib.hid hno
  clear hno;go_wp2_with fail;go_ret;exact ⟨_, rfl, ⟨fun h => by simp at h, fun h => absurd h HE.out⟩, rfl⟩
 ·have HE := Lib.hid (List.mem_of_getElem? hx)
  have hk0 : (0 : Int) ≤ (k : Int) := by omega
  clear hx;go_wp2_with fail;go_ret;exact ⟨_, rfl, ⟨fun _ => HE.out, fun _ => by simp⟩, rfl⟩
end Go.Proofs.YtmpldngnkacnmaaGreatDoor
namespace Go.Proofs.YtmpldngnkacnmaaGreatDoor
open Go.RowKit
def Left {α : Type} (n cap j r s : Nat) (xs ql : List α) : Prop := (r = 0 ∧ s = 0 ∧ ql = []) ∨ (n = j + r ∧ cap = j + s ∧ ql = xs.drop j)
section
variable {P : Program} (w : World)
theorem run_append_shift (base : Nat) (t ty e : TypeId) (i : TypeInfo) (z : Value) (bytes : Nat) (ht : P.underlying t = some (.slice e)) (hi : P.info? e = some i) (hz : i.zero = some z)
 (hsize : i.size = 1) (hby : i.bytes = bytes) (hzs : z.cells.size = 1)
 (g n cap j r s : Nat) (xs ql : List Value) (hown : w.ownsRow base e 1 (.slice (some ⟨g, 0, none⟩) n cap) n xs) (hv : Left n cap j r s xs ql)
 (a : Addr) (m c : Nat) (news : List Value) (hm : 0 < m) (hl : news.length = m) (hnews : ∀ j u, news[j]? = some u → w.cell? (a.add j) = some u) (h1 : ∀ u ∈ news, u.oneCell' = true)
 (h63 : n + m ≤ maxLen) (hbytes : (n + m) * bytes ≤ 140737488355328) (hbase : base ≤ w.heap.size) :
 ∃ w' g' j' r' s' n' cap' xs', (Builtin.append_ #[t, t] ty #[.slice (some ⟨g, j, none⟩) r s, .slice (some a) m c]).run P w = .ok (.slice (some ⟨g', j', none⟩) r' s') w' ∧
  n' = j' + r' ∧ cap' = j' + s' ∧ n' ≤ n + m ∧ w'.ownsRow base e 1 (.slice (some ⟨g', 0, none⟩) n' cap') n' xs' ∧ w.grownBy w' (some g) ∧
  ((g' = g ∧ j' = j ∧ xs' = xs ++ news ∧ ql = xs.drop j ∧ j ≤ xs.length) ∨ (g' = w.heap.size ∧ j' = 0 ∧ xs' = ql ++ news)) := by
 have hown2 := hown;obtain ⟨hlen, ho⟩ := hown
 rcases ho with ⟨he, _⟩ | ⟨g0, cap0, cur, he, hbg, hg, hnc, hcm, hcs, htake⟩
 ·cases he
 injection he with e1 _ e2;injection e1 with e1;injection e1 with e1;subst e1 e2;rw [Nat.mul_one] at hlen hcs htake;have hql : ql.length = r := by
  rcases hv with ⟨h, _, e⟩ | ⟨h, _, e⟩
  ·rw [e, h]; rfl
  ·rw [e, List.length_drop]; omega
 have hrn : r ≤ n := by rcases hv with ⟨h, _, _⟩ | ⟨h, _, _⟩ <;> omega
 by_cases hroom : r + m ≤ s
 ·have hv2 : n = j + r ∧ cap = j + s ∧ ql = xs.drop j := hv.resolve_left (by omega)
  obtain ⟨hn, hc, hq⟩ := hv2;have hfit : n + news.length ≤ cur.size := by omega
  have hfc := run_firstCells_some (P := P) w 1 m a m c news (by omega) hnews;have hst := run_storeCells_at P g n e news 0 cur w hg (by simpa using hfit) h1;simp only [Nat.add_zero] at hst;have hadd : (⟨g, j, none⟩ : Addr).add r = ⟨g, n, none⟩ := by rw [Addr.add_lit]; congr 1; omega
  obtain ⟨cur', hcur'⟩ : ∃ cur' : Array Value, cur' = (cur.toList.take n ++ news ++ cur.toList.drop (n + news.length)).toArray := ⟨_, rfl⟩;rw [← hcur'] at hst;refine ⟨w.setRow g cur', g, j, r + m, s, n + m, cap, xs ++ news, ?_, by omega, hc, Nat.le_refl _, ⟨by simp; omega, .inr ⟨g, cap, cur', rfl, hbg, setRow_heap w g cur cur' e (0, 0) hg, by omega, hcm, ?_, ?_⟩⟩, ⟨rfl, rfl, rfl, by simp, fun k _ hk => setRow_other w g k cur' (fun e => hk (by simp [e]))⟩, .inl ⟨rfl, rfl, rfl, hq, by omega⟩⟩
  ·simp [Builtin.append_, run_underlying ht, sizeOf, typeInfo, hi, hsize, Builtin.lenOf, hroom, hfc, hadd, hst]
  ·rw [hcur']; simp only [List.size_toArray, List.length_append, List.length_take, List.length_drop, Array.length_toList]
   omega
  ·rw [hcur', Nat.mul_one]
   simp only [htake];have : (xs ++ news).length = n + m := by simp; omega
   rw [← this];exact List.take_left
 ·have hcell := hown2.cells (g := g) rfl
  have holds : ∀ k u, ql[k]? = some u → w.cell? ((⟨g, j, none⟩ : Addr).add k) = some u := by
   intro k u hu
   rcases hv with ⟨_, _, hq⟩ | ⟨_, _, hq⟩
   ·rw [hq] at hu; simp at hu
   ·rw [hq, List.getElem?_drop] at hu
    have := hcell _ _ hu;rw [Addr.add_lit] at this ⊢;simpa using this
  obtain ⟨v', w', hr, ho2, hgr⟩ := run_append_arg_grows (P := P) w t ty e i z 1 bytes ht hi hz hsize hby hzs Nat.one_pos ⟨g, j, none⟩ r s ql (by omega) holds a m c news (by omega) hnews (by omega) (by omega)
   (Nat.le_trans (Nat.mul_le_mul_right _ (by omega)) hbytes)
  rcases ho2.2 with ⟨_, h0⟩ | ⟨g', cap', cur', hv', hbg', hg', k1, k2, k3, k4⟩
  ·omega
  subst hv';refine ⟨w', g', 0, r + m, cap', r + m, cap', ql ++ news, hr, by omega, by omega, by omega, ⟨ho2.1, .inr ⟨g', cap', cur', rfl, by omega, hg', k1, k2, k3, k4⟩⟩, ⟨hgr.os, hgr.tape, hgr.output, hgr.size, fun k hk _ => hgr.block k hk (by simp)⟩, ?_⟩;have hr2 := run_append_grow (P := P) w t ty e i z ht hi hz ⟨g, j, none⟩ r s ql (by rw [hsize]; omega) holds a m c news (by rw [hsize]; omega) hnews (by omega)
   (by simp only [maxLen] at h63; omega) (growslice_fits (by omega) (by rw [hby]; exact Nat.le_trans (Nat.mul_le_mul_right _ (by omega)) hbytes))
  rw [hr2] at hr;injection hr with hr _;injection hr with hr;injection hr with hr;injection hr with hr;exact .inr ⟨hr.symm, rfl, rfl⟩
end
section
variable {P : Program} {ops : Array Oper} {rest : List Oper} {o : Oper} {a : Act} {Q : Exit → Act → World → Prop} {E : TypeId} {z : Value} {bytes : Nat} {W : List Nat} {w0 w : World} {l : List Ob}
theorem wp_appShift {α : Type} {f : α → Value} (H : Hp W w0 w l) (hgd : o.guard = none) (s x : Operand) (t : TypeId) (ho : o.op = .call { callee := .builtin .append, args := #[s, x], argTypes := #[t, t] })
 (ht : P.underlying t = some (.slice E)) (hI : (P.info? E).map (fun i => (i.zero, i.size, i.bytes)) = some (some z, 1, bytes)) (hzs : z.cells.size = 1)
 (i : Nat) (g n cap j r q : Nat) (L ql : List α) (hrow : l[i]? = some (.row E 1 (.slice (some ⟨g, 0, none⟩) n cap) n (L.map f))) (hv : Left n cap j r q L ql) (hs : a.eval s = .slice (some ⟨g, j, none⟩) r q)
 (g1 : Nat) (T : TypeId) (y : α) (hx : a.eval x = .slice (some ⟨g1, 0, none⟩) 1 1) (hg : g1 = w.heap.size)
 (h1 : (f y).oneCell' = true) (h63 : n + 1 ≤ maxLen) (hbytes : (n + 1) * bytes ≤ 140737488355328)
 (h : ∀ (g' j' r' q' n' cap' : Nat) (L' : List α) (w' : World), n' ≤ n + 1 → Left n' cap' j' r' q' L' (ql ++ [y]) → Hp W w0 w' (l.set i (.row E 1 (.slice (some ⟨g', 0, none⟩) n' cap') n' (L'.map f))) → wpList P ops Q rest (a.put o.dst (.slice (some ⟨g', j', none⟩) r' q')) w') :
 wpList P ops Q (o :: rest) a (w.alloc (.cells #[f y] T)) := by
 subst hg;obtain ⟨inf, hi, hz, hsize, hby⟩ := info_parts hI;have H1 := H.al (.cells #[f y] T);have hlenL : L.length = n := by simpa using (H.row i hrow).1
 have hv2 : Left n cap j r q (L.map f) (ql.map f) := by
  rcases hv with ⟨h1, h2, h3⟩ | ⟨h1, h2, h3⟩
  ·exact .inl ⟨h1, h2, by rw [h3]; rfl⟩
  ·exact .inr ⟨h1, h2, by rw [h3, List.map_drop]⟩
 obtain ⟨w', g', j', r', q', n', cap', xs', hr, k1, k2, k2b, k3, k4, k5⟩ := run_append_shift (P := P) _ 0 t o.type E inf z bytes ht hi hz hsize hby hzs g n cap j r q (L.map f) (ql.map f) (H1.row i hrow) hv2 ⟨w.heap.size, 0, none⟩ 1 1 [f y] Nat.one_pos rfl
  (by simpa using news_at w #[f y] T) (by simpa using h1) h63 hbytes (Nat.zero_le _)
 refine wpList_plain hgd fun K hK => ?_;unfold Oper.wp execOp;simp only [ho, resolve, invoke, builtin, Sem.run_bind, Sem.run_pure, Result.andThen_ok, List.map_toArray, List.map_cons, List.map_nil, hs, hx, hr];refine hK _ _ ?_
 rcases k5 with ⟨rfl, rfl, rfl, k6, k7⟩ | ⟨rfl, rfl, rfl⟩
 ·rcases hv with ⟨h1, h2, h3⟩ | ⟨h1, h2, h3⟩
  ·-- nothing was left, and still it went in place: what was dropped is nothing
   have h4 : (L.drop j').map f = [] := by rw [List.map_drop, ← k6, h3]; rfl
   have h5 : L.drop j' = [] := List.map_eq_nil_iff.1 h4;refine h g' j' r' q' n' cap' (L ++ [y]) w' k2b (.inr ⟨k1, k2, by rw [List.drop_append_of_le_length (by rw [List.length_map] at k7; exact k7), h5, h3]⟩) ?_;rw [List.map_append];exact H1.grow i hrow k4 k3 (.inl rfl)
  ·refine h g' j' r' q' n' cap' (L ++ [y]) w' k2b (.inr ⟨k1, k2, by rw [List.drop_append_of_le_length (by omega), h3]⟩) ?_
   rw [List.map_append];exact H1.grow i hrow k4 k3 (.inl rfl)
 ·refine h _ 0 r' q' n' cap' (ql ++ [y]) w' k2b (.inr ⟨k1, k2, rfl⟩) ?_
  rw [List.map_append];exact H1.grow i hrow k4 k3 (.inr fun b hb => by injection hb with hb; rw [← hb]; exact Nat.le_refl _)
end
end Go.Proofs.YtmpldngnkacnmaaGreatDoor
namespace Go.Proofs.YtmpldngnkacnmaaGreatDoor
open Go.RowKit
open Classical in
noncomputable def sameB (l l' : List ByteArray) : Bool := decide (l = l')
theorem sameB_iff {l l' : List ByteArray} : sameB l l' = true ↔ l = l' := by
 classical
 exact decide_eq_true_iff
theorem sameB_no {l l' : List ByteArray} (h : ¬ l = l') : sameB l l' = false := by
 cases hs : sameB l l' with
 | false => rfl
 | true => exact absurd (sameB_iff.1 hs) h
theorem take_same {l l' : List ByteArray} {i : Nat} {x : ByteArray} (h : l.take i = l'.take i) (h1 : l[i]? = some x) (h2 : l'[i]? = some x) : l.take (i + 1) = l'.take (i + 1) := by
 rw [List.take_add_one, List.take_add_one, h, h1, h2]
set_option maxRecDepth 100000 in
set_option maxHeartbeats 2000000 in
theorem implSame_any (A B : Option Addr) (n c m d : Nat) (l l' : List ByteArray) (w : World) (h : Rd w A n 1 (l.map Value.string)) (h' : Rd w B m 1 (l'.map Value.string)) (hn : n ≤ 1048576) (hm : m ≤ 1048576) :
 Calls Tryz.prog 43 #[.slice A n c, .slice B m d] w fun e w' => e = .returned (.bool (sameB l l')) ∧ Fr w w' := by
 obtain ⟨q, hq⟩ : ∃ q, q = sameB l l' := ⟨_, rfl⟩;rw [← hq];have HQ := Lib.hid hq;clear hq;have HL := Lib.hid h.len1;have HL' := Lib.hid h'.len1;have G := Lib.hid h;have G' := Lib.hid h';clear h h'
 by_cases hnm : n = m
 case neg =>
  have hnm1 : ¬ (n : Int) = (m : Int) := by omega
  have hnm2 : ((n : Int) != (m : Int)) = true := bne_iff_ne.2 hnm1;have HE := Lib.hid (show ¬ l = l' from fun e => hnm (by rw [← HL.out, ← HL'.out, e]));go_enter Tryz.func43, Tryz.ntmps43;go_wp2_with fail;go_ret;rw [HQ.out, sameB_no HE.out];exact ⟨rfl, Below.refl _ _⟩
 subst hnm;go_enter Tryz.func43, Tryz.ntmps43;go_wp2_with fail
 go_loopw [14] (fun iv wr => ∃ i : Nat, iv = .int .i64 i ∧ i ≤ n ∧ l.take i = l'.take i ∧ wr = w) (fun iv _ => n - (intOf iv).toNat)
 case atStart => exact ⟨0, rfl, by omega, by simp, rfl⟩
 case round =>
  obtain ⟨i, rfl, hi, ht, rfl⟩ := hrel;have HTK := Lib.hid ht;clear ht;have hi0 : (0 : Int) ≤ (i : Int) := by omega
  by_cases hlt : i < n
  ·have hi1 : (i : Int) < (n : Int) := by omega
   obtain ⟨x, hx⟩ := some_at HL.out hlt;obtain ⟨y, hy⟩ := some_at HL'.out hlt;obtain ⟨bk, of, rfl, hc⟩ := G.out.get1 hx;obtain ⟨bk', of', rfl, hc'⟩ := G'.out.get1 hy
   by_cases hxy : x = y
   ·subst hxy
    have HN := Lib.hid (take_same HTK.out hx hy);clear hx hy;go_wp2_with fail;go_roundw
    case rel => exact ⟨i + 1, by go_num, by omega, HN.out, by trivial⟩
    case measure => simp [intOf]; omega
   ·have hne : (x.toList == y.toList) = false := str_ne hxy
    have hne2 : (x.toList != y.toList) = true := by simp only [bne, hne]; rfl
    have HE := Lib.hid (show ¬ l = l' from fun e => hxy (by rw [e, hy] at hx; injection hx with hx; exact hx.symm));clear hx hy hxy;go_wp2_with fail;go_ret;rw [HQ.out, sameB_no HE.out];exact ⟨rfl, Below.refl _ _⟩
  ·have hi1 : ¬ (i : Int) < (n : Int) := by omega
   have HE := Lib.hid (show l = l' by
    have := HTK.out
    rwa [List.take_of_length_le (by rw [HL.out]; omega), List.take_of_length_le (by rw [HL'.out]; omega)] at this)
   go_wp2_with fail;go_ret;rw [HQ.out, sameB_iff.2 HE.out];exact ⟨rfl, Below.refl _ _⟩
set_option maxRecDepth 100000 in
set_option maxHeartbeats 2000000 in
theorem specSame_any (A B : Option Addr) (n c m d : Nat) (l l' : List ByteArray) (w : World) (h : Rd w A n 1 (l.map Value.string)) (h' : Rd w B m 1 (l'.map Value.string)) (hn : n ≤ 1048576) (hm : m ≤ 1048576) :
 Calls Tryz.prog 47 #[.slice A n c, .slice B m d] w fun e w' => e = .returned (.bool (sameB l l')) ∧ Fr w w' := by
 obtain ⟨q, hq⟩ : ∃ q, q = sameB l l' := ⟨_, rfl⟩;rw [← hq];have HQ := Lib.hid hq;clear hq;have HL := Lib.hid h.len1;have HL' := Lib.hid h'.len1;have G := Lib.hid h;have G' := Lib.hid h';clear h h'
 by_cases hnm : n = m
 case neg =>
  have hnm1 : ¬ (n : Int) = (m : Int) := by omega
  have hnm2 : ((n : Int) != (m : Int)) = true := bne_iff_ne.2 hnm1;have HE := Lib.hid (show ¬ l = l' from fun e => hnm (by rw [← HL.out, ← HL'.out, e]));go_enter Tryz.func47, Tryz.ntmps47;go_wp2_with fail;go_ret;rw [HQ.out, sameB_no HE.out];exact ⟨rfl, Below.refl _ _⟩
 subst hnm;go_enter Tryz.func47, Tryz.ntmps47;go_wp2_with fail
 go_loopw [5] (fun iv wr => ∃ i : Nat, iv = .int .i64 i ∧ i ≤ n ∧ l.take i = l'.take i ∧ Fr w wr) (fun iv _ => n - (intOf iv).toNat)
 case atStart => exact ⟨0, rfl, by omega, by simp, Below.refl _ _⟩
 case round =>
  obtain ⟨i, rfl, hi, ht, hf⟩ := hrel;have HTK := Lib.hid ht;have HF := Lib.hid hf;clear ht hf;have hi0 : (0 : Int) ≤ (i : Int) := by omega
  by_cases hlt : i < n
  ·have hi1 : (i : Int) < (n : Int) := by omega
   obtain ⟨x, hx⟩ := some_at HL.out hlt;obtain ⟨y, hy⟩ := some_at HL'.out hlt;obtain ⟨bk, of, rfl, hc⟩ := (G.out.fr HF.out).get1 hx;obtain ⟨bk', of', rfl, hc'⟩ := (G'.out.fr HF.out).get1 hy;have H := ((Hp.start w).go HF.out).drew;have z0 : wr.drew.cell? ⟨bk, of + i, none⟩ = some (.string x) := hc;have z1 : wr.drew.cell? ⟨bk', of' + i, none⟩ = some (.string y) := hc'
   by_cases hxy : x = y
   ·subst hxy
    have HN := Lib.hid (take_same HTK.out hx hy);clear hx hy hc hc';go_wp2_with fail;refine wp_region_held_drew (S := fun w' => w'.cell? ⟨bk, of + i, none⟩ = some (.string x) ∧ w'.cell? ⟨bk', of' + i, none⟩ = some (.string x)) (by kernel_rfl) ?_ (fun hHeld => ?_)
    ·exact ⟨z0, z1⟩
    obtain ⟨u0, hu0⟩ : ∃ uu : World, uu = wr.drew := ⟨_, rfl⟩;rw [← hu0] at H hHeld ⊢;clear hu0;refine wpT 0 ?_;refine wpT 1 ?_;refine wpT 2 ?_;refine wpT 3 ?_;refine wpT 4 ?_;refine wpT 5 ?_;refine wpT 6 ?_;refine wpT 7 ?_;refine wpT 8 ?_;refine wpAnyH_done (by kernel_rfl) ?_ _;go_wp2_with fail;go_roundw
    case rel => exact ⟨i + 1, by go_num, by omega, HN.out, H.fr⟩
    case measure => simp [intOf]; omega
   ·have hne : (x.toList == y.toList) = false := str_ne hxy
    have hne2 : (x.toList != y.toList) = true := by simp only [bne, hne]; rfl
    have HE := Lib.hid (show ¬ l = l' from fun e => hxy (by rw [e, hy] at hx; injection hx with hx; exact hx.symm));clear hx hy hxy hc hc';go_wp2_with fail;refine wp_region_held_drew (S := fun w' => w'.cell? ⟨bk, of + i, none⟩ = some (.string x) ∧ w'.cell? ⟨bk', of' + i, none⟩ = some (.string y)) (by kernel_rfl) ?_ (fun hHeld => ?_)
    ·exact ⟨z0, z1⟩
    obtain ⟨u0, hu0⟩ : ∃ uu : World, uu = wr.drew := ⟨_, rfl⟩;rw [← hu0] at H hHeld ⊢;clear hu0;refine wpT 0 ?_;refine wpT 1 ?_;refine wpT 2 ?_;refine wpT 3 ?_;refine wpT 4 ?_;refine wpT 5 ?_;refine wpT 6 ?_;refine wpT 7 ?_;refine wpT 8 ?_;refine wpAnyH_done (by kernel_rfl) ?_ _;go_wp2_with fail;go_ret;rw [HQ.out, sameB_no HE.out];exact ⟨rfl, H.fr⟩
  ·have hi1 : ¬ (i : Int) < (n : Int) := by omega
   have HE := Lib.hid (show l = l' by
    have := HTK.out
    rwa [List.take_of_length_le (by rw [HL.out]; omega), List.take_of_length_le (by rw [HL'.out]; omega)] at this)
   go_wp2_with fail;go_ret;rw [HQ.out, sameB_iff.2 HE.out];exact ⟨rfl, HF.out⟩
end Go.Proofs.YtmpldngnkacnmaaGreatDoor
namespace Go.Proofs.YtmpldngnkacnmaaGreatDoor
open Go.RowKit
end Go.Proofs.YtmpldngnkacnmaaGreatDoor
namespace Go.Proofs.YtmpldngnkacnmaaGreatDoor
open Go.RowKit
section
variable {W : List Nat} {w0 w : World} {l : List Ob} {E : TypeId} {k n c g : Nat} {xs : List Value} {A : Option Addr}
theorem own_cut {b : Nat} (h : w.ownsRow b E k (.slice A n c) n xs) {m : Nat} (hm : m ≤ n) : w.ownsRow b E k (.slice A m c) m (xs.take (m * k)) := by
 have hmk : m * k ≤ n * k := Nat.mul_le_mul_right _ hm;refine ⟨by rw [List.length_take, h.1]; omega, ?_⟩
 rcases h.2 with ⟨e, e2⟩ | ⟨g, cap, cur, e, h1, h2, h3, h4, h5, h6⟩
 ·injection e with e0 e1 e3
  left
  obtain rfl : m = 0 := by omega
  rw [e0, e3]; exact ⟨rfl, rfl⟩
 ·injection e with e0 e1 e3
  right
  refine ⟨g, cap, cur, by rw [e0, e3], h1, h2, by omega, h4, h5, ?_⟩;rw [← h6, List.take_take, Nat.min_eq_left hmk]
theorem Hp.cut (h : Hp W w0 w l) (i : Nat) (hi : l[i]? = some (.row E k (.slice A n c) n xs)) {m : Nat} (hm : m ≤ n) : Hp W w0 w (l.set i (.row E k (.slice A m c) m (xs.take (m * k)))) :=
 h.turnRow i hi (Gr.refl _ w) (own_cut (h.row i hi) hm) (.inl (by cases A <;> rfl))
end
variable {P : Program}
end Go.Proofs.YtmpldngnkacnmaaGreatDoor