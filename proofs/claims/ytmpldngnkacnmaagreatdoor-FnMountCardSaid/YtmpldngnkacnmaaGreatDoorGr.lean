/-
  Many texts in one: L6, L5Add, Step, BegunI, CursB.
-/
import Derived.Test.YtmpldngnkacnmaaGreatDoorGq
import Derived.Test.YtmpldngnkacnmaaGreatDoorGf
import Derived.Test.YtmpldngnkacnmaaGreatDoorGc
import Derived.Test.YtmpldngnkacnmaaGreatDoorGp
import Derived.Test.YtmpldngnkacnmaaGreatDoorCallOk
set_option linter.unusedVariables false
set_option linter.unusedSimpArgs false
namespace Go.Proofs.YtmpldngnkacnmaaGreatDoor
open Go.RowKit
theorem own_c63 {b n : Nat} {E : TypeId} {k : Nat} {A : Option Addr} {m c : Nat} {xs : List Value} {w : World} (h : w.ownsRow b E k (.slice A m c) n xs) : c ≤ 9223372036854775807 := by
 rcases h.2 with ⟨e2, _⟩ | ⟨g2, cap, cur, e2, _, _, _, hle, _⟩
 ·injection e2 with _ e3 e4; omega
 ·injection e2 with _ e3 e4; simp only [maxLen] at hle; omega
theorem filter_erase {l : List Nod} (hs : Srt l) : ∀ {k : Nat} {x : Nod}, l[k]? = some x → l.filter (fun y => y.1 != x.1) = l.eraseIdx k := by
 induction l with
 | nil => intro k x h; simp at h
 | cons a l ih =>
   intro k x h;have hs2 := List.pairwise_cons.1 hs
   cases k with
   | zero =>
     injection h with h; subst h;rw [List.eraseIdx_cons_zero, List.filter_cons_of_neg (by simp)];exact List.filter_eq_self.2 fun y hy => by have := hs2.1 y hy; simp; omega
   | succ k =>
     rw [List.getElem?_cons_succ] at h;have := hs2.1 x (List.mem_of_getElem? h);rw [List.eraseIdx_cons_succ, List.filter_cons_of_pos (by simp; omega), ih hs2.2 h]
theorem nodes_filter (L : List (Value × Nod)) (f : Nod → Bool) : nodes (L.filter fun q => f q.2) = (nodes L).filter f := by
 simp only [nodes, List.filter_map]; rfl
section
variable {W : List Nat} {w0 w w' : World} {l : List Ob} {gv g : Nat} {next : Int} {A : Option Addr} {n c : Nat} {L : List (Value × Nod)}
theorem Hp.vwith {k m : Nat} {v' : Value} {x : Nod} {es : List EntT} (h : Hp W w0 w (.row 90 4 v' m (es.flatMap cEnt) :: l)) (i : Nat) (hi : l[i]? = some (volOb gv next (some ⟨g, 0, none⟩) n c L)) (hm : m = es.length)
 (K : Hp [g] w w' [.row 53 5 (.slice (some ⟨g, 0, none⟩) n c) n ((L.set k (v', x.1, x.2.1, x.2.2.1, x.2.2.2.1, es)).flatMap cNV)]) :
 Hp W w0 w' (l.set i (volOb gv next (some ⟨g, 0, none⟩) n c (L.set k (v', x.1, x.2.1, x.2.2.1, x.2.2.2.1, es)))) := by
 subst hm;have h1 := ((h.front (i + 1) (o := volOb gv next (some ⟨g, 0, none⟩) n c L) hi).vopen).turn1 1 rfl K;have h2 := h1.perm (l' := .row 90 4 v' es.length (es.flatMap cEnt) :: .row 28 2 (.slice (some ⟨gv, 0, none⟩) 1 1) 1 [.int .i64 next, .slice (some ⟨g, 0, none⟩) n c] :: .row 53 5 (.slice (some ⟨g, 0, none⟩) n c) n ((L.set k (v', x.1, x.2.1, x.2.2.1, x.2.2.2.1, es)).flatMap cNV) :: .many (L.map rowE) :: l.eraseIdx i) (by
  exact ((List.Perm.cons _ (List.Perm.cons _ (List.Perm.swap _ _ _))).trans ((List.Perm.cons _ (List.Perm.swap _ _ _)).trans (List.Perm.swap _ _ _))))
 have h3 := Hp.into (r := rowE (v', x.1, x.2.1, x.2.2.1, x.2.2.2.1, es)) h2 2 rfl k;rw [← List.map_set] at h3;exact Hp.back i (Hp.vlt i hi) (Hp.vshut h3)
theorem Hp.vwith2 {k : Nat} {q : Value × Nod} (h : Hp W w0 w l) (i : Nat) (hi : l[i]? = some (volOb gv next (some ⟨g, 0, none⟩) n c L)) (hq : L[k]? = some q)
 (K : Hp [g] w w' [.row 53 5 (.slice (some ⟨g, 0, none⟩) n c) n ((L.set k q).flatMap cNV)]) : Hp W w0 w' (l.set i (volOb gv next (some ⟨g, 0, none⟩) n c L)) := by
 rw [set_self' L k q hq] at K;have h1 := ((h.front i hi).vopen).turn1 1 rfl K;exact Hp.back i (Hp.vlt i hi) (Hp.vshut h1)
theorem Hp.vrow {k m d e : Nat} {x : Nod} {es : List EntT} (h : Hp W w0 w l) (i : Nat) (hi : l[i]? = some (volOb gv next (some ⟨g, 0, none⟩) n c L)) (hp : L[k]? = some (.slice (some ⟨e, 0, none⟩) m d, x)) (hm : m = es.length)
 (K : Hp [e] w w' [.row 90 4 (.slice (some ⟨e, 0, none⟩) m d) m (es.flatMap cEnt)]) :
 Hp W w0 w' (l.set i (volOb gv next (some ⟨g, 0, none⟩) n c (L.set k (.slice (some ⟨e, 0, none⟩) m d, x.1, x.2.1, x.2.2.1, x.2.2.2.1, es)))) := by
 subst hm;have h1 := ((h.front i hi).vopen).turnIn (r := rowE (.slice (some ⟨e, 0, none⟩) es.length d, x)) (r' := rowE (.slice (some ⟨e, 0, none⟩) es.length d, x.1, x.2.1, x.2.2.1, x.2.2.2.1, es)) 2 rfl k (by rw [List.getElem?_map, hp]; rfl) K.gr (K.row 0 rfl) (.inl rfl);have e1 : (L.set k (.slice (some ⟨e, 0, none⟩) es.length d, x.1, x.2.1, x.2.2.1, x.2.2.2.1, es)).flatMap cNV = L.flatMap cNV := by
  rw [List.flatMap_def, List.flatMap_def, List.map_set];rw [set_self' _ _ _ (by rw [List.getElem?_map, hp]; rfl)]
 refine Hp.back i (Hp.vlt i hi) (Hp.vshut ?_);rw [e1, List.map_set];exact h1
theorem Hp.vown {k : Nat} {q : Value × Nod} (h : Hp W w0 w l) (i : Nat) (hi : l[i]? = some (volOb gv next A n c L)) (hp : L[k]? = some q) : w.ownsRow 0 90 4 q.1 q.2.2.2.2.2.length (q.2.2.2.2.2.flatMap cEnt) :=
 ((h.front i hi).vopen.ok _ (List.mem_of_getElem? (i := 2) rfl)).1 (rowE q) (List.mem_map_of_mem (List.mem_of_getElem? hp))
end
set_option maxRecDepth 100000 in
set_option maxHeartbeats 8000000 in
theorem l6Ents_any (next : Int) (A : Option Addr) (n c : Nat) (L : List (Value × Nod)) (id : Int) (k : Nat) (B : Option Addr) (m d : Nat) (x : Nod) (w : World) (h : RdN w A n L) (hn : n ≤ 1048576) (hat : atN (nodes L) id = some k) (hp : L[k]? = some (.slice B m d, x)) :
 Calls Tryz.prog 91 #[.agg #[.int .i64 next, .slice A n c], .int .i64 id] w fun e w' => e = .returned (.slice B m d) ∧ Fr w w' := by
 have hL := h.len;have hkn : k < n := by rw [← hL]; exact (List.getElem?_eq_some_iff.1 hp).1
 obtain ⟨bk, of, B1, d1, rfl, e1, r1, cc⟩ := h.elem hp;have HZ := Lib.hid (show atZ (nodes L) id = (k : Int) by rw [atZ, hat]);have HR := Lib.hid h;have HC4 := Lib.hid (cc 4 _ rfl);clear cc r1 e1 hL hat hp h;have H := ((Hp.start w).lay_ 28 [.int .i64 next, .slice (some ⟨bk, of, none⟩) n c] rfl).drew;have b0 := H.fa 0 0 rfl rfl;have b1 := H.fa 0 1 rfl rfl;have c4 := fr_cellM H.fr HC4.out;go_enter Tryz.func91, Tryz.ntmps91;go_wp2_with fail;refine wp_region_held_drew (S := fun w' => w'.cell? ⟨w.heap.size, 0, none⟩ = some (.int .i64 next) ∧ w'.cell? ⟨w.heap.size, 1, none⟩ = some (.slice (some ⟨bk, of, none⟩) n c) ∧ w'.cell? ⟨bk, of + k * 5 + 4, none⟩ = some (.slice B m d)) (by kernel_rfl) ?_ (fun hHeld => ?_)
 ·exact ⟨b0, b1, c4⟩
 obtain ⟨u0, hu0⟩ : ∃ uu : World, uu = (w.alloc (.cells #[.int .i64 next, .slice (some ⟨bk, of, none⟩) n c] 28)).drew := ⟨_, rfl⟩;rw [← hu0] at H hHeld ⊢;clear hu0;refine wpT 0 ?_;refine wpT 1 ?_;refine wpT 2 ?_;refine wpT 3 ?_;refine wpC 4 fun K hK => ?_;go_simp;refine (specAt_any next _ n c L id _ (HR.out.fr H.fr) hn).mono ?_;rintro e u1 ⟨rfl, f5⟩;rw [HZ.out];replace H := H.go f5;clear f5;go_wp2_with fail;refine hK.out _ _ ?_ fun hHeld => ?_
 ·exact ⟨H.fa 0 0 rfl rfl, H.fa 0 1 rfl rfl, fr_cellM H.fr HC4.out⟩
 clear hK K;(try simp only [sX, Act.put]);refine wpT 5 ?_;refine wpT 6 ?_;refine wpT 7 ?_;refine wpT 8 ?_;refine wpAnyH_done (by kernel_rfl) ?_ _;clear b0 b1 c4;have HF := Lib.hid H.fr;clear H;go_wp2_with fail;go_ret;exact ⟨rfl, HF.out⟩
set_option maxRecDepth 100000 in
set_option maxHeartbeats 8000000 in
theorem l6Dir_any (next : Int) (A : Option Addr) (n c : Nat) (L : List (Value × Nod)) (id : Int) (k : Nat) (v : Value) (x0 x1 x2 : Int) (x3 : ByteArray) (xs : List EntT) (w : World) (h : RdN w A n L) (hn : n ≤ 1048576) (hat : atN (nodes L) id = some k) (hp : L[k]? = some (v, x0, x1, x2, x3, xs)) :
 Calls Tryz.prog 57 #[.agg #[.int .i64 next, .slice A n c], .int .i64 id] w fun e w' => e = .returned (.bool (x1 == 2)) ∧ Fr w w' := by
 have hL := h.len;have hkn : k < n := by rw [← hL]; exact (List.getElem?_eq_some_iff.1 hp).1
 obtain ⟨bk, of, B1, d1, rfl, e1, r1, cc⟩ := h.elem hp;have HZ := Lib.hid (show atZ (nodes L) id = (k : Int) by rw [atZ, hat]);have HR := Lib.hid h;have HC1 := Lib.hid (cc 1 _ rfl);clear cc r1 e1 hL hat hp h;have H := (Hp.start w).lay_ 28 [.int .i64 next, .slice (some ⟨bk, of, none⟩) n c] rfl;have b0 := H.fa 0 0 rfl rfl;have b1 := H.fa 0 1 rfl rfl;have hk0 : decide ((k : Int) ≥ 0) = true := by simp
 go_enter Tryz.func57, Tryz.ntmps57;go_wp2_with fail;refine (specAt_any next _ n c L id _ (HR.out.fr H.fr) hn).mono ?_;rintro e w5 ⟨rfl, f5⟩;rw [HZ.out];replace H := H.go f5;clear f5 b0 b1;have b1 := H.fa 0 1 rfl rfl;have c1 := fr_cellM H.fr HC1.out;have HF := Lib.hid H.fr;clear H;go_wp2_with fail;go_ret;exact ⟨rfl, HF.out⟩
set_option maxRecDepth 100000 in
set_option maxHeartbeats 8000000 in
theorem l6With_any (g : Nat) (next : Int) (n c k : Nat) (L : List (Value × Nod)) (v : Value) (x0 x1 x2 : Int) (x3 : ByteArray) (xs : List EntT) (B : Option Addr) (m d : Nat) (ds : List EntT) (id : Int) (w : World) (h : w.ownsRow 0 53 5 (.slice (some ⟨g, 0, none⟩) n c) n (L.flatMap cNV)) (hr : RdN w (some ⟨g, 0, none⟩) n L) (hn : n ≤ 1048576) (hat : atN (nodes L) id = some k) (hp : L[k]? = some (v, x0, x1, x2, x3, xs)) :
 Calls Tryz.prog 93 #[.agg #[.int .i64 next, .slice (some ⟨g, 0, none⟩) n c], .int .i64 id, .slice B m d] w fun e w' => e = .returned (.agg #[.int .i64 next, .slice (some ⟨g, 0, none⟩) n c]) ∧ Hp [g] w w' [.row 53 5 (.slice (some ⟨g, 0, none⟩) n c) n ((L.set k (.slice B m d, x0, x1, x2, x3, ds)).flatMap cNV)] := by
 have hL := hr.len;have hkn : k < n := by rw [← hL]; exact (List.getElem?_eq_some_iff.1 hp).1
 have HZ := Lib.hid (show atZ (nodes L) id = (k : Int) by rw [atZ, hat]);have HR := Lib.hid hr;have HP := Lib.hid hp;have H1 : Hp [g] w w _ := Hp.start_row h;have H2 := ((H1.lay_ 28 [.int .i64 next, .slice (some ⟨g, 0, none⟩) n c] rfl).lay_ 28 [.int .i64 0, .slice none 0 0] (g := w.heap.size + 1) (by simp)).drew;have H0 := ((((Hp.start w).lay_ 28 [.int .i64 next, .slice (some ⟨g, 0, none⟩) n c] rfl).lay_ 28 [.int .i64 0, .slice none 0 0] (g := w.heap.size + 1) (by simp)).drew).fr;have HR0 := Lib.hid (HR.out.fr H0);have H := H2;clear H1 H2 H0 h hr hL hat hp;have b0 := H.fa 1 0 rfl rfl;have b1 := H.fa 1 1 rfl rfl;go_enter Tryz.func93, Tryz.ntmps93;go_wp2_with fail;refine wp_region_held_drew (S := fun w' => w'.cell? ⟨w.heap.size, 0, none⟩ = some (.int .i64 next) ∧ w'.cell? ⟨w.heap.size, 1, none⟩ = some (.slice (some ⟨g, 0, none⟩) n c)) (by kernel_rfl) ?_ (fun hHeld => ?_)
 ·exact ⟨b0, b1⟩
 refine wpT 0 ?_;refine wpT 1 ?_;refine wpT 2 ?_;refine wpT 3 ?_;refine wpT 5 ?_;refine wpC 4 fun K hK => ?_;go_simp;refine (specAt_any next _ n c L id _ HR0.out hn).mono ?_;rintro e u1 ⟨rfl, f5⟩;rw [HZ.out];replace H := H.go f5;clear f5;go_wp2_with fail;refine hK.out _ _ ?_ fun hHeld => ?_
 ·exact ⟨H.fa 1 0 rfl rfl, H.fa 1 1 rfl rfl⟩
 clear hK K;(try simp only [sX, Act.put]);refine wpT 6 ?_;refine wpT 7 ?_;refine wpC 8 fun K hK => ?_;have e4 := H.free 2 rfl (k * 5 + 4);have s4 := H.atL 2 rfl cNV_len HP.out (r := 4) rfl;replace H := H.putL 2 rfl cNV_len k 4 (.slice B m d, x0, x1, x2, x3, ds) (.slice B m d) HP.out (by omega) rfl;go_simp;refine hK.out _ _ ?_ fun hHeld => ?_
 ·exact ⟨H.fa 1 0 rfl rfl, H.fa 1 1 rfl rfl⟩
 clear hK K;(try simp only [sX, Act.put]);refine wpAnyH_done (by kernel_rfl) ?_ _;clear b0 b1;have b0 := H.fa 1 0 rfl rfl;have b1 := H.fa 1 1 rfl rfl;have s0 := H.fa 0 0 rfl rfl;have s1 := H.fa 0 1 rfl rfl;have fs0 := H.bfree 0 rfl 0;have fs1 := H.bfree 0 rfl 1;have H9 := H.blays 0 rfl [.int .i64 next, .slice (some ⟨g, 0, none⟩) n c] rfl;simp only [layW] at H9;clear H;go_wp2_with fail
 ((try simp only [Exit.inBlock, Exit.then]); refine bodyPost_ret (results_cell_row rfl _ _ (w.heap.size + 1) 28 #[.int .i64 next, .slice (some ⟨g, 0, none⟩) n c] (0, 0) _ rfl (H9.blk 0 rfl) Tryz.underlying28 rfl (by kernel_rfl)) rfl ?_)
 exact ⟨rfl, H9.tail.tail⟩
set_option maxRecDepth 100000 in
set_option maxHeartbeats 8000000 in
theorem l6Gone_any (next : Int) (A : Option Addr) (n c : Nat) (L : List (Value × Nod)) (id : Int) (w : World) (h : RdN w A n L) (hn : n ≤ 1048576) :
 Calls Tryz.prog 110 #[.agg #[.int .i64 next, .slice A n c], .int .i64 id] w fun e w' => ∃ A' m c', e = .returned (.agg #[.int .i64 next, .slice A' m c']) ∧ Hp [] w w' [.row 53 5 (.slice A' m c') m ((L.filter fun q => q.2.1 != id).flatMap cNV)] := by
 have HL := Lib.hid h.len;have HR := Lib.hid h;clear h;have H1 := (((Hp.start w).lay_ 28 [.int .i64 next, .slice A n c] rfl).lay_ 28 [.int .i64 0, .slice none 0 0] (g := w.heap.size + 1) (by simp)).lit0 53 5;obtain ⟨f, hf⟩ : ∃ f : Value × Nod → Bool, f = fun q => q.2.1 != id := ⟨_, rfl⟩;rw [← hf];have HFF := Lib.hid hf;clear hf;go_enter Tryz.func110, Tryz.ntmps110;go_wp2_with fail
 go_loopw [5, 6] (fun ov iv wr => ∃ (i : Nat) (M : List (Value × Nod)), iv = .int .i64 i ∧ i ≤ n ∧ M = (L.take i).filter f ∧ Hp [] w wr [.row 53 5 ov M.length (M.flatMap cNV), .blk (w.heap.size + 1) 28 [.int .i64 0, .slice none 0 0], .blk w.heap.size 28 [.int .i64 next, .slice A n c]]) (fun _ iv _ => n - (intOf iv).toNat)
 case atStart => exact ⟨0, [], rfl, by omega, rfl, by simpa using H1⟩
 case round =>
  clear H1;obtain ⟨i, M, rfl, hi, hM, H⟩ := hrel;have HM := Lib.hid hM;have hml : M.length ≤ i := by rw [hM]; exact Nat.le_trans (List.length_filter_le _ _) (by rw [List.length_take]; omega)
  clear hM;obtain ⟨A5, q5, e5⟩ := H.shape 0 rfl;subst e5;have hi0 : (0 : Int) ≤ (i : Int) := by omega
  have y1 := H.fa 2 1 rfl rfl
  by_cases hlt : i < n
  ·have hi1 : (i : Int) < (n : Int) := by omega
   obtain ⟨⟨v, x0, x1, x2, x3, es⟩, hx⟩ := some_at HL.out hlt;obtain ⟨bk, of, B1, d1, rfl, e1, r1, c1⟩ := (HR.out.fr H.fr).elem hx;simp only at e1;subst e1;have ca0 := c1 0 _ rfl; simp only [Nat.add_zero] at ca0;have ca1 := c1 1 _ rfl;have ca2 := c1 2 _ rfl;have ca3 := c1 3 _ rfl;have ca4 := c1 4 _ rfl;have HX := Lib.hid hx;clear hx c1 r1
   by_cases hq : x0 = id
   ·have hqa : (x0 != id) = false := by simpa using hq
    have HM2 := Lib.hid (show M = (L.take (i + 1)).filter f by
     rw [List.take_add_one, HX.out, List.filter_append, ← HM.out, HFF.out]; simp [hq])
    have HH := Lib.hid H;clear H hq;go_wp2_with fail;go_roundw
    case rel => exact ⟨i + 1, M, by go_num, by omega, HM2.out, HH.out⟩
    case measure => simp [intOf]; omega
   ·have hqa : (x0 != id) = true := by simpa using hq
    have HM2 := Lib.hid (show M ++ [((.slice B1 es.length d1, x0, x1, x2, x3, es) : Value × Nod)] = (L.take (i + 1)).filter f by
     rw [List.take_add_one, HX.out, List.filter_append, ← HM.out, HFF.out]; simp [hq])
    clear hq;go_wp2_with (at_builtin; refine wp_appL (f := cNV) (H) rfl _ _ _ rfl Tryz.underlying26 infoInode rfl (by decide) 0 _ _ rfl rfl _ _ (((.slice B1 es.length d1, (x0, x1, x2, x3, es)) : Value × Nod)) rfl (by simp) rfl (by simp [cNV, Value.oneCell']) (by first | (simp only [maxLen]; omega) | (simp [maxLen]; done) | (simp [maxLen]; omega)) (by first | omega | (simp; done) | (simp; omega)) ?_)
    intro v2 w6 H6;have HH := Lib.hid H6;clear H H6 y1 ca0 ca1 ca2 ca3 ca4;go_wp2_with fail;go_roundw
    case rel => exact ⟨i + 1, _, by go_num, by omega, HM2.out, by have h9 := HH.out; simpa using h9⟩
    case measure => simp [intOf]; omega
  ·have hi1 : ¬ (i : Int) < (n : Int) := by omega
   have HN := Lib.hid (show M = L.filter f by rw [HM.out, List.take_of_length_le (by rw [HL.out]; omega)]);have y0 := H.fa 2 0 rfl rfl;have fy1 := H.bfree 2 rfl 1;have H2 := H.bput 2 rfl 1 (.slice A5 M.length q5);have z0 := H2.fa 2 0 rfl rfl;have z1 := H2.fa 2 1 rfl rfl;have s0 := H2.fa 1 0 rfl rfl;have s1 := H2.fa 1 1 rfl rfl;have fs0 := H2.bfree 1 rfl 0;have fs1 := H2.bfree 1 rfl 1;have H9 := H2.blays 1 rfl [.int .i64 next, .slice A5 M.length q5] rfl;simp only [layW] at H9;clear H H2;go_wp2_with fail
   ((try simp only [Exit.inBlock, Exit.then]); refine bodyPost_ret (results_cell_row rfl _ _ (w.heap.size + 1) 28 #[.int .i64 next, .slice A5 M.length q5] (0, 0) _ rfl (H9.blk 1 rfl) Tryz.underlying28 rfl (by kernel_rfl)) rfl ?_)
   rw [← HN.out];exact ⟨A5, M.length, q5, rfl, H9.sub (by simp)⟩
set_option maxRecDepth 100000 in
set_option maxHeartbeats 8000000 in
theorem l6Less_any (g : Nat) (next : Int) (n c k : Nat) (L : List (Value × Nod)) (v : Value) (x0 x1 x2 : Int) (x3 : ByteArray) (xs : List EntT) (id : Int) (w : World) (h : (obN (.slice (some ⟨g, 0, none⟩) n c) n L).ok w) (hn : n ≤ 1048576) (hs : Srt (nodes L)) (hat : atN (nodes L) id = some k) (hp : L[k]? = some (v, x0, x1, x2, x3, xs)) (hx : 1 ≤ x2) (hx2 : x2 ≤ 1048576) :
 Calls Tryz.prog 95 #[.agg #[.int .i64 next, .slice (some ⟨g, 0, none⟩) n c], .int .i64 id] w fun e w' => ∃ A' n' c' L', e = .returned (.agg #[.int .i64 next, .slice A' n' c']) ∧ nodes L' = nLess (nodes L) id ∧ Hp (Row.blocks (rowN (.slice (some ⟨g, 0, none⟩) n c) n L :: L.map rowE)) w w' [obN (.slice A' n' c') n' L'] := by
 have hnk := nodes_at hp;have hid : x0 = id := by obtain ⟨y, h1, h2⟩ := at_of hat; rw [hnk] at h1; injection h1 with h1; rw [← h1] at h2; exact h2
 have hr := obN_rd h rfl;have hL := hr.len;have hkn : k < n := by rw [← hL]; exact (List.getElem?_eq_some_iff.1 hp).1
 have HZ := Lib.hid (show atZ (nodes L) id = (k : Int) by rw [atZ, hat]);have HP := Lib.hid hp;have HS := Lib.hid hs;have HIDE := Lib.hid hid;have HNK := Lib.hid hnk;have HNL := Lib.hid (show nLess (nodes L) id = if x2 = 1 then (nodes L).eraseIdx k else nLinks (nodes L) k (x2 - 1) by rw [nLess, hat]; simp only [hnk]);have H0 : Hp (Row.blocks (rowN (.slice (some ⟨g, 0, none⟩) n c) n L :: L.map rowE)) w w [.row 53 5 (.slice (some ⟨g, 0, none⟩) n c) n (L.flatMap cNV), .many (L.map rowE)] := (Hp.start_many h).split2;have H := (H0.lay_ 28 [.int .i64 next, .slice (some ⟨g, 0, none⟩) n c] rfl).lay_ 28 [.int .i64 0, .slice none 0 0] (g := w.heap.size + 1) (by simp);clear h H0 hnk hid hr hL hat hp hs;have b0 := H.fa 1 0 rfl rfl;have b1 := H.fa 1 1 rfl rfl;go_enter Tryz.func95, Tryz.ntmps95;go_wp2_with fail;refine (specAt_any next _ n c L id _ (H.rdN2 2 3 rfl rfl) hn).mono ?_;rintro e w5 ⟨rfl, f5⟩;rw [HZ.out];replace H := (H.go f5).drew;clear f5 b0 b1;have hw : IntKind.i64.wrap (x2 - 1) = x2 - 1 := IntWalk.i64_in _ (by omega);have b0 := H.fa 1 0 rfl rfl;have b1 := H.fa 1 1 rfl rfl;have HP2 := Lib.hid (show (L.set k (v, x0, x1, x2 - 1, x3, xs))[k]? = some (v, x0, x1, x2 - 1, x3, xs) from List.getElem?_set_self (List.getElem?_eq_some_iff.1 HP.out).1);go_wp2_with fail;refine wp_region_held_drew (S := fun w' => w'.cell? ⟨w.heap.size, 0, none⟩ = some (.int .i64 next) ∧ w'.cell? ⟨w.heap.size, 1, none⟩ = some (.slice (some ⟨g, 0, none⟩) n c)) (by kernel_rfl) ?_ (fun hHeld => ?_)
 ·exact ⟨b0, b1⟩
 obtain ⟨u0, hu0⟩ : ∃ uu : World, uu = w5.drew := ⟨_, rfl⟩;rw [← hu0] at H hHeld ⊢;clear hu0;refine wpT 0 ?_;refine wpT 1 ?_;refine wpT 2 ?_;refine wpT 3 ?_;refine wpT 4 ?_;refine wpT 5 ?_;refine wpT 6 ?_;refine wpT 7 ?_;refine wpC 8 fun K hK => ?_;have z2 := H.atL 2 rfl cNV_len HP.out (r := 2) rfl;go_simp;clear z2;refine hK.out _ _ ?_ fun hHeld => ?_
 ·exact ⟨H.fa 1 0 rfl rfl, H.fa 1 1 rfl rfl⟩
 clear hK K;(try simp only [sX, Act.put]);refine wpT 9 ?_;refine wpT 10 ?_;refine wpT 11 ?_;refine wpC 12 fun K hK => ?_;have e2 := H.free 2 rfl (k * 5 + 2);have s2 := H.atL 2 rfl cNV_len HP.out (r := 2) rfl;replace H := Hp.nset (u := .int .i64 (x2 - 1)) (p' := (v, x0, x1, x2 - 1, x3, xs)) H 2 3 rfl rfl (by decide) HP.out (r := 2) (by omega) rfl rfl;go_simp;refine hK.out _ _ ?_ fun hHeld => ?_
 ·exact ⟨H.fa 1 0 rfl rfl, H.fa 1 1 rfl rfl⟩
 clear hK K;(try simp only [sX, Act.put]);refine wpAnyH_done (by kernel_rfl) ?_ _;clear b0 b1 e2 s2;have b0 := H.fa 1 0 rfl rfl;have b1 := H.fa 1 1 rfl rfl;have z2 := H.atL 2 rfl cNV_len HP2.out (r := 2) rfl
 by_cases hq : x2 = 1
 ·have hqa : (x2 - 1 == 0) = true := by simp; omega
  have HQ := Lib.hid hq;clear hq;go_wp2_with fail;refine (l6Gone_any next _ n c _ id _ (H.rdN2 2 3 rfl rfl) hn).mono ?_;rintro e w7 ⟨A', m, c', rfl, K⟩;replace H := H.join K;clear K b0 b1 z2;have s0 := H.fa 1 0 rfl rfl;have s1 := H.fa 1 1 rfl rfl;have fs0 := H.bfree 1 rfl 0;have fs1 := H.bfree 1 rfl 1;have H9 := H.blays 1 rfl [.int .i64 next, .slice A' m c'] rfl;simp only [layW] at H9;clear H;go_wp2_with fail
  ((try simp only [Exit.inBlock, Exit.then]); refine bodyPost_ret (results_cell_row rfl _ _ (w.heap.size + 1) 28 #[.int .i64 next, .slice A' m c'] (0, 0) _ rfl (H9.blk 1 rfl) Tryz.underlying28 rfl (by kernel_rfl)) rfl ?_)
  have H10 := (H9.thin (rs' := ((L.set k (v, x0, x1, x2 - 1, x3, xs)).filter fun q => q.2.1 != id).map rowE) 4 rfl (List.filter_sublist.map _));have H11 := (H10.front 4 rfl).swap;refine ⟨A', m, c', (L.set k (v, x0, x1, x2 - 1, x3, xs)).filter fun q => q.2.1 != id, rfl, ?_, (Hp.join2 (r := rowN (.slice A' m c') m ((L.set k (v, x0, x1, x2 - 1, x3, xs)).filter fun q => q.2.1 != id)) H11).sub (List.singleton_sublist.2 List.mem_cons_self)⟩;rw [HNL.out, if_pos HQ.out, nodes_filter _ (fun y => y.1 != id), nodes_set];have h1 := filter_erase (l := (nodes L).set k (x0, x1, x2 - 1, x3, xs)) (set_srt HS.out HNK.out rfl) (k := k) (x := (x0, x1, x2 - 1, x3, xs)) (List.getElem?_set_self (List.getElem?_eq_some_iff.1 HNK.out).1);rw [HIDE.out] at h1;rw [HIDE.out, h1, List.eraseIdx_set_eq]
 ·have hqa : (x2 - 1 == 0) = false := by simp; omega
  have HQ := Lib.hid hq;clear hq;have s0 := H.fa 0 0 rfl rfl;have s1 := H.fa 0 1 rfl rfl;have fs0 := H.bfree 0 rfl 0;have fs1 := H.bfree 0 rfl 1;have H9 := H.blays 0 rfl [.int .i64 next, .slice (some ⟨g, 0, none⟩) n c] rfl;simp only [layW] at H9;clear H;go_wp2_with fail
  ((try simp only [Exit.inBlock, Exit.then]); refine bodyPost_ret (results_cell_row rfl _ _ (w.heap.size + 1) 28 #[.int .i64 next, .slice (some ⟨g, 0, none⟩) n c] (0, 0) _ rfl (H9.blk 0 rfl) Tryz.underlying28 rfl (by kernel_rfl)) rfl ?_)
  refine ⟨(some ⟨g, 0, none⟩), n, c, rfl, L.set k (v, x0, x1, x2 - 1, x3, xs), ?_, Hp.join2 (r := rowN (.slice (some ⟨g, 0, none⟩) n c) n (L.set k (v, x0, x1, x2 - 1, x3, xs))) H9.tail.tail⟩;rw [HNL.out, if_neg HQ.out, nodes_set, nLinks, HNK.out]
end Go.Proofs.YtmpldngnkacnmaaGreatDoor
namespace Go.Proofs.YtmpldngnkacnmaaGreatDoor
open Go.RowKit
def insTo (e : EntT) (l : List EntT) : List EntT × Bool := l.foldl (fun (p : List EntT × Bool) x => if p.2 then (p.1 ++ [x], true) else if lesB x e.1 e.2.1 then (p.1 ++ [x], false) else (p.1 ++ [e, x], true)) ([], false)
theorem insTo_snoc (e : EntT) (l : List EntT) (x : EntT) : insTo e (l ++ [x]) = if (insTo e l).2 then ((insTo e l).1 ++ [x], true) else if lesB x e.1 e.2.1 then ((insTo e l).1 ++ [x], false) else ((insTo e l).1 ++ [e, x], true) := by
 rw [insTo, List.foldl_append]; rfl
theorem insTo_go (e : EntT) : ∀ (l acc : List EntT), l.foldl (fun (p : List EntT × Bool) x => if p.2 then (p.1 ++ [x], true) else if lesB x e.1 e.2.1 then (p.1 ++ [x], false) else (p.1 ++ [e, x], true)) (acc, true) = (acc ++ l, true)
 | [], acc => by simp
 | x :: l, acc => by rw [List.foldl_cons, if_pos rfl, insTo_go e l]; simp
theorem insTo_acc (e : EntT) : ∀ (l acc : List EntT), l.foldl (fun (p : List EntT × Bool) x => if p.2 then (p.1 ++ [x], true) else if lesB x e.1 e.2.1 then (p.1 ++ [x], false) else (p.1 ++ [e, x], true)) (acc, false) = if l.all (fun x => lesB x e.1 e.2.1) then (acc ++ l, false) else (acc ++ insD l e, true)
 | [], acc => by simp
 | x :: l, acc => by
   rw [List.foldl_cons, if_neg (by simp)]
   by_cases hx : lesB x e.1 e.2.1 = true
   ·rw [if_pos hx, insTo_acc e l, List.all_cons, hx, Bool.true_and]
    simp [insD, hx]
   ·rw [if_neg hx, insTo_go, List.all_cons]
    simp [hx, insD]
theorem insTo_all (e : EntT) (l : List EntT) : (if (insTo e l).2 then (insTo e l).1 else (insTo e l).1 ++ [e]) = insD l e := by
 rw [insTo, insTo_acc]
 by_cases h : l.all (fun x => lesB x e.1 e.2.1) = true
 ·rw [if_pos h]
  simp only [List.nil_append];obtain ⟨h1, h2⟩ := takeWhile_at (fun x : EntT => lesB x e.1 e.2.1) l l.length (fun x hx => List.all_eq_true.1 h x (List.mem_of_mem_take hx)) (.inl rfl);rw [List.take_length] at h1;rw [List.drop_length] at h2;rw [insD, h1, h2]; rfl
 ·rw [if_neg h]; simp
theorem insTo_len (e : EntT) (l : List EntT) : (insTo e l).1.length ≤ l.length + 1 := by
 have h := insTo_all e l;have h2 := (insD_perm l e).length_eq
 split at h
 ·rw [h, h2]; simp
 ·have := congrArg List.length h
  rw [h2] at this; simp at this; omega
set_option maxRecDepth 100000 in
set_option maxHeartbeats 8000000 in
theorem l5Add_any (A : Option Addr) (n c : Nat) (d : List EntT) (s : ByteArray) (id : Int) (w : World) (h : Rd w A n 4 (d.flatMap cEnt)) (hn : n ≤ 1048576) (hz : ∀ e ∈ d, e.2.2.1.size ≤ 16777216) (hs : s.size ≤ 16777216)
 (h1 : nameB (toB s) = true) (h2 : dirAt d (toB s) = none) (h3 : inB id 1 100000 = true) (h4 : d.length < 12) :
 Calls Tryz.prog 92 #[.slice A n c, .string s, .int .i64 id] w (GaveD w (addD d s id)) := by
 have HR := Lib.hid h;have HLD := Lib.hid (show d.length = n from h.lenk cEnt_len (by omega));have hn12 : n < 12 := by rw [← HLD.out]; exact h4
 have hn12b : ¬ (12 : Int) ≤ (n : Int) := by omega
 have HZ := Lib.hid hz;have HNM := Lib.hid h1;have HE := Lib.hid (dirZ_none h2);have HID := Lib.hid h3;obtain ⟨hh, ehh⟩ : ∃ x, x = hashN (toB s) := ⟨_, rfl⟩;have HD := Lib.hid (show addD d s id = (insD d (hh, (idxN d hh : Int), s, id), true) by rw [addD, if_pos (by simp [h1, h2, h3, h4]), ehh]);have HH := Lib.hid ehh;rw [HD.out];clear h hz h1 h2 h3 h4 ehh;go_enter Tryz.func92, Tryz.ntmps92;go_wp2_with fail;refine (specNameOk_any s _ hs).mono ?_;rintro e w1 ⟨rfl, f1⟩;rw [HNM.out];go_wp2_with fail;refine (l5At_any A n c d s _ (HR.out.fr f1) hn HZ.out hs).mono ?_;rintro e w2 ⟨rfl, f2⟩;rw [HE.out];replace f2 := f1.then f2;clear f1;go_wp2_with fail;refine (l1In_any id 1 100000 _).mono ?_;rintro e _ ⟨rfl, rfl⟩;rw [HID.out];go_wp2_with fail;refine (specHashOf_any s _ hs).mono ?_;rintro e w3 ⟨rfl, f3⟩;rw [← HH.out];replace f3 := f2.then f3;clear f2;go_wp2_with fail
 go_loopw [9, 10] (fun kv iv wr => ∃ i : Nat, iv = .int .i64 i ∧ i ≤ n ∧ kv = .int .i64 (idxN (d.take i) hh : Nat) ∧ Fr w wr) (fun _ iv _ => n - (intOf iv).toNat)
 case atStart => exact ⟨0, rfl, by omega, by simp [idxN], f3⟩
 case round =>
  clear f3;obtain ⟨i, rfl, hi, rfl, hf⟩ := hrel;have HF := Lib.hid hf;clear hf;have hkb := idxN_le (d.take i) hh;have hkb2 : idxN (d.take i) hh ≤ 12 := by have := List.length_take_le i d; have := HLD.out; omega
  obtain ⟨kk, ekk⟩ : ∃ k, k = idxN (d.take i) hh := ⟨_, rfl⟩;rw [← ekk] at hkb2 ⊢;have HKK := Lib.hid ekk;clear hkb ekk
  by_cases hlt : i < n
  ·obtain ⟨⟨x0, x1, x2, x3⟩, hx⟩ := some_at HLD.out hlt
   obtain ⟨bk, of, rfl, hcell⟩ := (HR.out.fr HF.out).elem cEnt_len hx (by omega);have ca0 := hcell 0 _ rfl; simp only [Nat.add_zero] at ca0;have ca1 := hcell 1 _ rfl;have HX := Lib.hid hx;have HS := Lib.hid (show idxN (d.take (i + 1)) hh = idxStep hh kk (x0, x1, x2, x3) by rw [List.take_add_one, hx, HKK.out]; exact idxN_snoc _ _ _);clear hx hcell;obtain ⟨b0, hb0⟩ : ∃ b, (x0 == hh) = b := ⟨_, rfl⟩;obtain ⟨b1, hb1⟩ : ∃ b, (x1 == (kk : Int)) = b := ⟨_, rfl⟩;have HB := Lib.hid (show idxStep hh kk (x0, x1, x2, x3) = if (b0 && b1) = true then kk + 1 else kk by
    rw [← hb0, ← hb1, idxStep]; simp)
   cases b0 with
   | false =>
     go_wp2_with fail;go_roundw
     case rel => exact ⟨i + 1, by go_num, by omega, by rw [HS.out, HB.out]; simp, HF.out⟩
     case measure => simp [intOf]; omega
   | true =>
     cases b1 with
     | false =>
       go_wp2_with fail;go_roundw
       case rel => exact ⟨i + 1, by go_num, by omega, by rw [HS.out, HB.out]; simp, HF.out⟩
       case measure => simp [intOf]; omega
     | true =>
       go_wp2_with fail;go_roundw
       case rel => exact ⟨i + 1, by go_num, by omega, by rw [HS.out, HB.out]; simp, HF.out⟩
       case measure => simp [intOf]; omega
  ·have HI := Lib.hid (show kk = idxN d hh by rw [HKK.out, List.take_of_length_le (by rw [HLD.out]; omega)])
   have H := ((Hp.start w).go HF.out).lit0 90 4;go_wp2_with fail
   go_loopw [11, 12, 13] (fun ov pv iv wr => ∃ i : Nat, iv = .int .i64 i ∧ i ≤ n ∧ pv = .bool (insTo (hh, (kk : Int), s, id) (d.take i)).2 ∧ Hp [] w wr [.row 90 4 ov (insTo (hh, (kk : Int), s, id) (d.take i)).1.length ((insTo (hh, (kk : Int), s, id) (d.take i)).1.flatMap cEnt)]) (fun _ _ iv _ => n - (intOf iv).toNat)
   case atStart => exact ⟨0, rfl, by omega, rfl, H⟩
   case round =>
    clear H;obtain ⟨j, rfl, hj, rfl, H⟩ := hrel;have hil := insTo_len (hh, (kk : Int), s, id) (d.take j);have hil2 : (insTo (hh, (kk : Int), s, id) (d.take j)).1.length ≤ 13 := by have := List.length_take_le j d; have := HLD.out; omega
    clear hil;obtain ⟨out, hout⟩ : ∃ o, (insTo (hh, (kk : Int), s, id) (d.take j)).1 = o := ⟨_, rfl⟩;obtain ⟨pb, hpb⟩ : ∃ o, (insTo (hh, (kk : Int), s, id) (d.take j)).2 = o := ⟨_, rfl⟩;rw [hout] at H hil2;rw [hpb];have HO := Lib.hid hout;have HP := Lib.hid hpb;clear hout hpb;obtain ⟨A2, c2, rfl⟩ := H.shape 0 rfl
    by_cases hlt2 : j < n
    ·obtain ⟨⟨x0, x1, x2, x3⟩, hx⟩ := some_at HLD.out hlt2
     have HS := Lib.hid (show insTo (hh, (kk : Int), s, id) (d.take (j + 1)) = if pb then (out ++ [(x0, x1, x2, x3)], true) else if lesB (x0, x1, x2, x3) hh (kk : Int) then (out ++ [(x0, x1, x2, x3)], false) else (out ++ [(hh, (kk : Int), s, id), (x0, x1, x2, x3)], true) by
      rw [List.take_add_one, hx, ← HO.out, ← HP.out]; exact insTo_snoc _ _ _)
     obtain ⟨bk, of, rfl⟩ : ∃ bk of, A = some ⟨bk, of, none⟩ := by
      obtain ⟨b, o, e, _⟩ := HR.out.2 (by omega);exact ⟨b, o, e⟩
     have HCE := Lib.hid (show ∀ w', Fr w w' → w'.cell? ⟨bk, of + j * 4, none⟩ = some (.int .i64 x0) ∧ w'.cell? ⟨bk, of + j * 4 + 1, none⟩ = some (.int .i64 x1) ∧ w'.cell? ⟨bk, of + j * 4 + 2, none⟩ = some (.string x2) ∧ w'.cell? ⟨bk, of + j * 4 + 3, none⟩ = some (.int .i64 x3) from fun w' f => by
      obtain ⟨b', o', ea, hc⟩ := (HR.out.fr f).elem cEnt_len hx (by omega);injection ea with ea; injection ea with ea eb; subst ea eb;exact ⟨hc 0 _ rfl, hc 1 _ rfl, hc 2 _ rfl, hc 3 _ rfl⟩)
     obtain ⟨ca0, ca1, ca2, ca3⟩ := HCE.out _ H.fr;clear hx
     cases pb with
     | true =>
       go_wp2_with (at_builtin; refine wp_appL (f := cEnt) (H) rfl _ _ _ rfl Tryz.underlying51 infoEnt rfl (by decide) 0 _ _ rfl rfl _ _ ((x0, x1, x2, x3)) rfl (by simp) rfl (by simp [cEnt, Value.oneCell']) (by first | (simp only [maxLen]; omega) | (simp [maxLen]; done) | (simp [maxLen]; omega)) (by first | omega | (simp; done) | (simp; omega)) ?_)
       intro v5 w5 H5;have H6 := Lib.hid H5;clear H5 H ca0 ca1 ca2 ca3;go_wp2_with fail;go_roundw
       case rel => exact ⟨j + 1, by go_num, by omega, by rw [HS.out]; rfl, by rw [HS.out]; exact H6.out.recast (by simp)⟩
       case measure => simp [intOf]; omega
     | false =>
       obtain ⟨b, hb⟩ : ∃ b, lesB (x0, x1, x2, x3) hh (kk : Int) = b := ⟨_, rfl⟩;rw [hb] at HS;have HB := Lib.hid hb;clear hb;go_wp2_with fail;refine (specLess_any x0 x1 x2 x3 hh (kk : Int) _).mono ?_;rintro e w6 ⟨rfl, f6⟩;rw [HB.out];replace H := H.go f6;clear f6 ca0 ca1 ca2 ca3;obtain ⟨ca0, ca1, ca2, ca3⟩ := HCE.out _ H.fr
       cases b with
       | true =>
         go_wp2_with (at_builtin; refine wp_appL (f := cEnt) (H) rfl _ _ _ rfl Tryz.underlying51 infoEnt rfl (by decide) 0 _ _ rfl rfl _ _ ((x0, x1, x2, x3)) rfl (by simp) rfl (by simp [cEnt, Value.oneCell']) (by first | (simp only [maxLen]; omega) | (simp [maxLen]; done) | (simp [maxLen]; omega)) (by first | omega | (simp; done) | (simp; omega)) ?_)
         intro v5 w5 H5;have H6 := Lib.hid H5;clear H5 H ca0 ca1 ca2 ca3;go_wp2_with fail;go_roundw
         case rel => exact ⟨j + 1, by go_num, by omega, by rw [HS.out]; rfl, by rw [HS.out]; exact H6.out.recast (by simp)⟩
         case measure => simp [intOf]; omega
       | false =>
         clear ca0 ca1 ca2 ca3;go_wp2_with (at_builtin; refine wp_appL (f := cEnt) (H) rfl _ _ _ rfl Tryz.underlying51 infoEnt rfl (by decide) 0 _ _ rfl rfl _ _ ((hh, (kk : Int), s, id)) rfl (by simp) rfl (by simp [cEnt, Value.oneCell']) (by first | (simp only [maxLen]; omega) | (simp [maxLen]; done) | (simp [maxLen]; omega)) (by first | omega | (simp; done) | (simp; omega)) ?_)
         intro v5 w5 H5;obtain ⟨ca0, ca1, ca2, ca3⟩ := HCE.out _ H5.fr;obtain ⟨o2, ho2⟩ : ∃ o, o = out ++ [(hh, (kk : Int), s, id)] := ⟨_, rfl⟩;have hol : o2.length ≤ 14 := by rw [ho2]; simp; omega
         have H5b := H5.recast (l' := [.row 90 4 v5 o2.length (o2.flatMap cEnt)]) (by rw [ho2]; simp);have HO2 := Lib.hid ho2;clear H H5 ho2;obtain ⟨A5, c5, rfl⟩ := H5b.shape 0 rfl;go_wp2_with (at_builtin; refine wp_appL (f := cEnt) (H5b) rfl _ _ _ rfl Tryz.underlying51 infoEnt rfl (by decide) 0 _ _ rfl rfl _ _ ((x0, x1, x2, x3)) rfl (by simp) rfl (by simp [cEnt, Value.oneCell']) (by first | (simp only [maxLen]; omega) | (simp [maxLen]; done) | (simp [maxLen]; omega)) (by first | omega | (simp; done) | (simp; omega)) ?_)
         intro v7 w7 H7;have H6 := Lib.hid H7;clear H5b H7 ca0 ca1 ca2 ca3;go_wp2_with fail;go_roundw
         case rel => exact ⟨j + 1, by go_num, by omega, by rw [HS.out]; rfl, by rw [HS.out]; exact H6.out.recast (by rw [HO2.out]; simp)⟩
         case measure => simp [intOf]; omega
    ·have HK := Lib.hid (show (if pb = true then out else out ++ [(hh, (kk : Int), s, id)]) = insD d (hh, (idxN d hh : Int), s, id) by
      have h5 := insTo_all (hh, (kk : Int), s, id) (d.take j);rw [HP.out, HO.out, List.take_of_length_le (by rw [HLD.out]; omega)] at h5;rw [← HI.out]; exact h5)
     cases pb with
     | true =>
       have H9 := Lib.hid (show GaveD w (insD d (hh, (idxN d hh : Int), s, id), true) (.returned (.tuple #[.slice A2 out.length c2, .bool true])) wr from ⟨_, rfl, by rw [← HK.out]; exact H⟩);clear H;go_wp2_with fail;go_ret2;exact H9.out
     | false =>
       go_wp2_with (at_builtin; refine wp_appL (f := cEnt) (H) rfl _ _ _ rfl Tryz.underlying51 infoEnt rfl (by decide) 0 _ _ rfl rfl _ _ ((hh, (kk : Int), s, id)) rfl (by simp) rfl (by simp [cEnt, Value.oneCell']) (by first | (simp only [maxLen]; omega) | (simp [maxLen]; done) | (simp [maxLen]; omega)) (by first | omega | (simp; done) | (simp; omega)) ?_)
       intro v5 w5 H5;have H9 := Lib.hid (show GaveD w (insD d (hh, (idxN d hh : Int), s, id), true) (.returned (.tuple #[v5, .bool true])) w5 from ⟨_, rfl, by rw [← HK.out]; exact H5.recast (by simp)⟩);clear H H5;go_wp2_with fail;go_ret2;exact H9.out
end Go.Proofs.YtmpldngnkacnmaaGreatDoor
namespace Go.Proofs.YtmpldngnkacnmaaGreatDoor
open Go.RowKit
section
variable {ops : Array Oper} {a : Act} {w : World} {Q : Exit → Act → World → Prop} {W : List Nat} {w0 : World} {l : List Ob} {K : Act → World → Prop} {E0 : Prop} {d : Tmp} {ty : TypeId} {ps : String} {af : Array Edge} {g : Nat}
theorem putVol {p x : Operand} {v0 : Int} {v1 : Option Addr} {n1 m1 : Nat} {u0 u1 : Value} (H : Hp W w0 w l) (i : Nat) (hi : l[i]? = some (.blk g 28 [u0, u1])) (hp : a.eval p = .pointer (some ⟨g, 0, none⟩)) (hx : a.eval x = .agg #[.int .i64 v0, .slice v1 n1 m1]) (h : ∀ w', Hp W w0 w' (l.set i (.blk g 28 [.int .i64 v0, .slice v1 n1 m1])) → K (a.put none undef) w') :
 if Region.wanted { dst := none, op := .store 28 p x, type := ty, pos := ps, after := af, guard := none } (yielded ops a.tmps) = true then Oper.wp Tryz.prog { dst := none, op := .store 28 p x, type := ty, pos := ps, after := af, guard := none } a w K Q else E0 := by
 rw [if_pos (by simp [Region.wanted])];have e0 := H.bfree i hi 0;have s0 := H.bat i hi (j := 0) rfl;have e1 := H.bfree i hi 1;have s1 := H.bat i hi (j := 1) rfl;have h1 := h _ (H.blays i hi [.int .i64 v0, .slice v1 n1 m1] rfl);simp only [layW, Nat.zero_add, Nat.reduceAdd] at h1;clear h H;unfold Oper.wp execOp;simp only [hp, hx];go_simp;exact h1
theorem putRes {p x : Operand} {v0 : Int} {v1 : Int} {v2 : ByteArray} {v3 : ByteArray} {u0 u1 u2 u3 : Value} (H : Hp W w0 w l) (i : Nat) (hi : l[i]? = some (.blk g 64 [u0, u1, u2, u3])) (hp : a.eval p = .pointer (some ⟨g, 0, none⟩)) (hx : a.eval x = .agg #[.int .i64 v0, .int .i64 v1, .string v2, .string v3]) (h : ∀ w', Hp W w0 w' (l.set i (.blk g 64 [.int .i64 v0, .int .i64 v1, .string v2, .string v3])) → K (a.put none undef) w') :
 if Region.wanted { dst := none, op := .store 64 p x, type := ty, pos := ps, after := af, guard := none } (yielded ops a.tmps) = true then Oper.wp Tryz.prog { dst := none, op := .store 64 p x, type := ty, pos := ps, after := af, guard := none } a w K Q else E0 := by
 rw [if_pos (by simp [Region.wanted])];have e0 := H.bfree i hi 0;have s0 := H.bat i hi (j := 0) rfl;have e1 := H.bfree i hi 1;have s1 := H.bat i hi (j := 1) rfl;have e2 := H.bfree i hi 2;have s2 := H.bat i hi (j := 2) rfl;have e3 := H.bfree i hi 3;have s3 := H.bat i hi (j := 3) rfl;have h1 := h _ (H.blays i hi [.int .i64 v0, .int .i64 v1, .string v2, .string v3] rfl);simp only [layW, Nat.zero_add, Nat.reduceAdd] at h1;clear h H;unfold Oper.wp execOp;simp only [hp, hx];go_simp;exact h1
theorem layIno (H : Hp W w0 w l) (h : ∀ g w', Hp W w0 w' (.blk g 53 [.int .i64 0, .int .i64 0, .int .i64 0, .string ⟨#[]⟩, .slice none 0 0] :: l) → K (a.put (some d) (.pointer (some ⟨g, 0, none⟩))) w') :
 if Region.wanted { dst := some d, op := .alloc 53, type := ty, pos := ps, after := af, guard := none } (yielded ops a.tmps) = true then Oper.wp Tryz.prog { dst := some d, op := .alloc 53, type := ty, pos := ps, after := af, guard := none } a w K Q else E0 := by
 rw [if_pos (by simp [Region.wanted])];have h1 := h w.heap.size _ (H.lay 53 [.int .i64 0, .int .i64 0, .int .i64 0, .string ⟨#[]⟩, .slice none 0 0]);clear h;go_simp;exact h1
theorem putIno {p x : Operand} {v0 : Int} {v1 : Int} {v2 : Int} {v3 : ByteArray} {v4 : Option Addr} {n4 m4 : Nat} {u0 u1 u2 u3 u4 : Value} (H : Hp W w0 w l) (i : Nat) (hi : l[i]? = some (.blk g 53 [u0, u1, u2, u3, u4])) (hp : a.eval p = .pointer (some ⟨g, 0, none⟩)) (hx : a.eval x = .agg #[.int .i64 v0, .int .i64 v1, .int .i64 v2, .string v3, .slice v4 n4 m4]) (h : ∀ w', Hp W w0 w' (l.set i (.blk g 53 [.int .i64 v0, .int .i64 v1, .int .i64 v2, .string v3, .slice v4 n4 m4])) → K (a.put none undef) w') :
 if Region.wanted { dst := none, op := .store 53 p x, type := ty, pos := ps, after := af, guard := none } (yielded ops a.tmps) = true then Oper.wp Tryz.prog { dst := none, op := .store 53 p x, type := ty, pos := ps, after := af, guard := none } a w K Q else E0 := by
 rw [if_pos (by simp [Region.wanted])];have e0 := H.bfree i hi 0;have s0 := H.bat i hi (j := 0) rfl;have e1 := H.bfree i hi 1;have s1 := H.bat i hi (j := 1) rfl;have e2 := H.bfree i hi 2;have s2 := H.bat i hi (j := 2) rfl;have e3 := H.bfree i hi 3;have s3 := H.bat i hi (j := 3) rfl;have e4 := H.bfree i hi 4;have s4 := H.bat i hi (j := 4) rfl;have h1 := h _ (H.blays i hi [.int .i64 v0, .int .i64 v1, .int .i64 v2, .string v3, .slice v4 n4 m4] rfl);simp only [layW, Nat.zero_add, Nat.reduceAdd] at h1;clear h H;unfold Oper.wp execOp;simp only [hp, hx];go_simp;exact h1
theorem Hp.two {gv gr : Nat} {u0 u1 y0 y1 y2 y3 : Value} (H : Hp W w0 w l) (i j : Nat) (v0 v1 x0 x1 x2 x3 : Value) (hi : l[i]? = some (.blk gv 28 [u0, u1])) (hj : l[j]? = some (.blk gr 64 [y0, y1, y2, y3])) (hij : i ≠ j := by decide) :
 w.cell? ⟨gv, 0, none⟩ = some u0 ∧ w.cell? ⟨gv, 1, none⟩ = some u1 ∧ w.frozen? ⟨gv, 0, none⟩ = false ∧ w.frozen? ⟨gv, 1, none⟩ = false ∧ w.cell? ⟨gr, 0, none⟩ = some y0 ∧ w.cell? ⟨gr, 1, none⟩ = some y1 ∧ w.cell? ⟨gr, 2, none⟩ = some y2 ∧ w.cell? ⟨gr, 3, none⟩ = some y3 ∧
  w.frozen? ⟨gr, 0, none⟩ = false ∧ w.frozen? ⟨gr, 1, none⟩ = false ∧ w.frozen? ⟨gr, 2, none⟩ = false ∧ w.frozen? ⟨gr, 3, none⟩ = false ∧
  Hp W w0 ((((((w.setCell ⟨gv, 0, none⟩ v0).setCell ⟨gv, 1, none⟩ v1).setCell ⟨gr, 0, none⟩ x0).setCell ⟨gr, 1, none⟩ x1).setCell ⟨gr, 2, none⟩ x2).setCell ⟨gr, 3, none⟩ x3) ((l.set i (.blk gv 28 [v0, v1])).set j (.blk gr 64 [x0, x1, x2, x3])) :=
 ⟨H.bat i hi rfl, H.bat i hi rfl, H.bfree i hi 0, H.bfree i hi 1, H.bat j hj rfl, H.bat j hj rfl, H.bat j hj rfl, H.bat j hj rfl, H.bfree j hj 0, H.bfree j hj 1, H.bfree j hj 2, H.bfree j hj 3, (H.blays i hi [v0, v1] rfl).blays (cs := [y0, y1, y2, y3]) j (by rw [List.getElem?_set_ne hij]; exact hj) [x0, x1, x2, x3] rfl⟩
theorem Hp.four {gr : Nat} {y0 y1 y2 y3 : Value} (H : Hp W w0 w l) (j : Nat) (x0 x1 x2 x3 : Value) (hj : l[j]? = some (.blk gr 64 [y0, y1, y2, y3])) :
 w.cell? ⟨gr, 0, none⟩ = some y0 ∧ w.cell? ⟨gr, 1, none⟩ = some y1 ∧ w.cell? ⟨gr, 2, none⟩ = some y2 ∧ w.cell? ⟨gr, 3, none⟩ = some y3 ∧
  w.frozen? ⟨gr, 0, none⟩ = false ∧ w.frozen? ⟨gr, 1, none⟩ = false ∧ w.frozen? ⟨gr, 2, none⟩ = false ∧ w.frozen? ⟨gr, 3, none⟩ = false ∧
  Hp W w0 ((((w.setCell ⟨gr, 0, none⟩ x0).setCell ⟨gr, 1, none⟩ x1).setCell ⟨gr, 2, none⟩ x2).setCell ⟨gr, 3, none⟩ x3) (l.set j (.blk gr 64 [x0, x1, x2, x3])) :=
 ⟨H.bat j hj rfl, H.bat j hj rfl, H.bat j hj rfl, H.bat j hj rfl, H.bfree j hj 0, H.bfree j hj 1, H.bfree j hj 2, H.bfree j hj 3, H.blays j hj [x0, x1, x2, x3] rfl⟩
end
end Go.Proofs.YtmpldngnkacnmaaGreatDoor
namespace Go.Proofs.YtmpldngnkacnmaaGreatDoor
open Go.RowKit
theorem nodes_get {L : List (Value × Nod)} {k : Nat} {x : Nod} (h : (nodes L)[k]? = some x) : ∃ v, L[k]? = some (v, x) := by
 rw [nodes, List.getElem?_map] at h;obtain ⟨q, hq, e⟩ := Option.map_eq_some_iff.1 h;exact ⟨q.1, by rw [← e]; exact hq⟩
end Go.Proofs.YtmpldngnkacnmaaGreatDoor
namespace Go.Proofs.YtmpldngnkacnmaaGreatDoor
open Go.RowKit
section
variable {W : List Nat} {w0 w : World} {g : Nat} {A : Option Addr} {n c : Nat} {l : List Ob}
theorem HC.byte (K : HC W w0 w g A n c l) (Q : CurP W w0 g A n) :
 Calls Tryz.prog 55 #[.pointer (some ⟨g, 0, none⟩)] w fun e w' => ∃ x : Int, e = .returned (.int .i64 x) ∧ 0 ≤ x ∧ x ≤ 255 ∧ HC W w0 w' g A n c l := by
 obtain ⟨i, h, a, b, H⟩ := K;obtain ⟨bs, hA⟩ := Q.1;refine (l1Byte_any g A n c bs i h _ (H.blk 0 rfl) (H.oldN hA Q.old) Q.ne a b Q.2.2).mono ?_;rintro e w' ⟨x, rfl, x0, x1, C⟩;exact ⟨x, rfl, x0, x1, H.cur 0 rfl C⟩
end
set_option maxRecDepth 100000 in
set_option maxHeartbeats 4000000 in
theorem HC.belowB {W : List Nat} {w0 w : World} {g : Nat} {A : Option Addr} {n c : Nat} {l : List Ob} (K : HC W w0 w g A n c l) (Q : CurP W w0 g A n) (k : Int) (hk0 : 256 < k) (hk1 : k ≤ 1048576) :
 Calls Tryz.prog 29 #[.pointer (some ⟨g, 0, none⟩), .int .i64 k] w fun e w' => ∃ x : Int, e = .returned (.int .i64 x) ∧ 0 ≤ x ∧ x < k ∧ HC W w0 w' g A n c l := by
 have QQ := Lib.hid Q;have a0 : ¬ k ≤ 0 := by omega
 have a1 : ¬ k ≤ 256 := by omega
 clear Q;go_enter Tryz.func29, Tryz.ntmps29;go_wp2_with fail;refine (K.byte QQ.out).mono ?_;rintro e w1 ⟨x, rfl, x0, x1, K1⟩;clear K;go_wp2_with fail;refine (K1.byte QQ.out).mono ?_;rintro e w2 ⟨y, rfl, y0, y1, K2⟩;clear K1;go_wp2_with fail;refine (K2.byte QQ.out).mono ?_;rintro e w3 ⟨z, rfl, z0, z1, K3⟩;clear K2;go_wp2_with fail;refine (K3.byte QQ.out).mono ?_;rintro e w4 ⟨v, rfl, v0, v1, K4⟩;clear K3;have HK := Lib.hid K4;clear K4;have q1 : IntKind.i64.wrap (x * 16777216) = x * 16777216 := IntWalk.i64_in _ (by omega);have q2 : IntKind.i64.wrap (y * 65536) = y * 65536 := IntWalk.i64_in _ (by omega);have q3 : IntKind.i64.wrap (z * 256) = z * 256 := IntWalk.i64_in _ (by omega);have q4 : IntKind.i64.wrap (x * 16777216 + y * 65536) = x * 16777216 + y * 65536 := IntWalk.i64_in _ (by omega);have q5 : IntKind.i64.wrap (x * 16777216 + y * 65536 + z * 256) = x * 16777216 + y * 65536 + z * 256 := IntWalk.i64_in _ (by omega);have q6 : IntKind.i64.wrap (x * 16777216 + y * 65536 + z * 256 + v) = x * 16777216 + y * 65536 + z * 256 + v := IntWalk.i64_in _ (by omega);obtain ⟨s, hs⟩ : ∃ s : Int, s = x * 16777216 + y * 65536 + z * 256 + v := ⟨_, rfl⟩;have hs0 : 0 ≤ s := by omega
 rw [← hs] at q6;have q7 : IntKind.i64.wrap (s.tmod k) = s % k := by
  rw [Int.tmod_eq_emod_of_nonneg hs0];have p1 := Int.emod_nonneg s (show k ≠ 0 by omega);have p2 := Int.emod_lt_of_pos s (show 0 < k by omega);exact IntWalk.i64_in _ (by omega)
 have hkz : (k == 0) = false := beq_eq_false_iff_ne.2 (by omega);have hs' : x * 16777216 + y * 65536 + z * 256 + v = s := hs.symm;clear hs
 go_wp2
 go_ret;exact ⟨_, rfl, by first | exact Int.emod_nonneg s (by omega) | (rw [q7]; exact Int.emod_nonneg s (by omega)) | (simp only [hs', q6, q7]; exact Int.emod_nonneg s (by omega)), by first | exact Int.emod_lt_of_pos s (by omega) | (rw [q7]; exact Int.emod_lt_of_pos s (by omega)) | (simp only [hs', q6, q7]; exact Int.emod_lt_of_pos s (by omega)), HK.out⟩
end Go.Proofs.YtmpldngnkacnmaaGreatDoor