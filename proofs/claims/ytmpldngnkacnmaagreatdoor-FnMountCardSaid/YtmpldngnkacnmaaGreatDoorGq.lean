/-
  Many texts in one: VCopy, VWord, CallS, Root, NewVol, MFormat, DrawText, Curs.
-/
import Derived.Test.YtmpldngnkacnmaaGreatDoorGp
import Derived.Test.YtmpldngnkacnmaaGreatDoorGc
import Derived.StillTailTactics
import Derived.Test.YtmpldngnkacnmaaGreatDoorGo
import Derived.Test.YtmpldngnkacnmaaGreatDoorGi
import Derived.Test.YtmpldngnkacnmaaGreatDoorGk
import Derived.Test.YtmpldngnkacnmaaGreatDoorDraw
import Derived.Test.YtmpldngnkacnmaaGreatDoorGa
import Derived.Test.YtmpldngnkacnmaaGreatDoorDrawName
set_option linter.unusedVariables false
set_option linter.unusedSimpArgs false
namespace Go.Proofs.YtmpldngnkacnmaaGreatDoor
open Go.RowKit
theorem results_cells_row {P : Program} {fn : Func} {p q : Tmp} {ty tz : TypeId} (h : fn.results = #[.cell p ty, .cell q tz]) (tmps : Array Value) (w : World) (g g2 : Nat) (t t2 : TypeId) (cs cs2 : Array Value) (fr fr2 : Nat × Nat) (d d2 : TypeDesc)
 (hp : tmps.getD p undef = .pointer (some ⟨g, 0, none⟩)) (hg : w.heap[g]? = some (.cells cs t fr))
 (hu : P.underlying ty = some d) (hd : (match d with | .struct _ | .array _ _ => true | _ => false) = true) (hi : (P.info? ty).map (·.size) = some cs.size)
 (hp2 : tmps.getD q undef = .pointer (some ⟨g2, 0, none⟩)) (hg2 : w.heap[g2]? = some (.cells cs2 t2 fr2))
 (hu2 : P.underlying tz = some d2) (hd2 : (match d2 with | .struct _ | .array _ _ => true | _ => false) = true) (hi2 : (P.info? tz).map (·.size) = some cs2.size) :
 (results fn tmps).run P w = .ok (.tuple #[.agg cs, .agg cs2]) w := by
 have hp' : tmps[p]?.getD undef = .pointer (some ⟨g, 0, none⟩) := by simpa using hp
 have hq' : tmps[q]?.getD undef = .pointer (some ⟨g2, 0, none⟩) := by simpa using hp2
 simp [results, h, hp', hq', asAddr, run_loadVar_row w g t ty cs fr d hg hu hd hi, run_loadVar_row w g2 t2 tz cs2 fr2 d2 hg2 hu2 hd2 hi2]
def NilZ (L : List (Value × Nod)) : Prop := ∀ p ∈ L, ∀ m d, p.1 = .slice none m d → d = 0
def VRd (w : World) (A : Option Addr) (n : Nat) (L : List (Value × Nod)) : Prop := RdN w A n L ∧ NilZ L
theorem VRd.fr {w w' : World} {A : Option Addr} {n : Nat} {L : List (Value × Nod)} (h : VRd w A n L) (f : Fr w w') : VRd w' A n L := ⟨h.1.fr f, h.2⟩
theorem VRd.ofN {w : World} {A : Option Addr} {n c : Nat} {L : List (Value × Nod)} (h : (obN (.slice A n c) n L).ok w) : VRd w A n L :=
 ⟨obN_rd h rfl, fun p hp m d e => rowE_nil (h.1 (rowE p) (List.mem_cons_of_mem _ (List.mem_map_of_mem hp))) e⟩
section
variable {W : List Nat} {w0 w : World} {l : List Ob} {gv g : Nat} {next : Int} {A : Option Addr} {n c : Nat} {L : List (Value × Nod)}
theorem VRd.of (h : Hp W w0 w l) (i : Nat) (hi : l[i]? = some (obN (.slice A n c) n L)) : VRd w A n L := VRd.ofN (h.ok _ (List.mem_of_getElem? hi))
theorem Hp.vnew (h : Hp W w0 w (.blk g TVOL [.int .i64 next, .slice none 0 0] :: l)) : Hp W w0 w (volOb g next none 0 0 [] :: l) := by
 have h1 := h.asRow (q := 2) 0 rfl rfl;have h2 := h1.many0.nil_ TINO 5;have h3 := h2.perm (List.perm_middle (l₁ := [_, _]));exact Hp.vshut h3
theorem Hp.vcore (h : Hp W w0 w (volOb g next A n c L :: l)) : Hp W w0 w (obN (.slice A n c) n L :: l) := Hp.join2 (r := rowN (.slice A n c) n L) h.vopen.tail
theorem Hp.vmake (h : Hp W w0 w (.blk g TVOL [.int .i64 next, .slice A n c] :: obN (.slice A n c) n L :: l)) : Hp W w0 w (volOb g next A n c L :: l) :=
 Hp.join2 (r := rowV g next A n c) (rs := rowN (.slice A n c) n L :: L.map rowE) (h.asRow (q := 2) 0 rfl rfl)
theorem Hp.vgrowE {v' ve : Value} (y : Nod) {A' : Option Addr} {c' m : Nat} (h : Hp W w0 w (.row 90 4 ve y.2.2.2.2.length (y.2.2.2.2.flatMap cEnt) :: .row 28 2 (.slice (some ⟨gv, 0, none⟩) 1 1) 1 [.int .i64 next, .slice A n c] :: .row 53 5 v' m (L.flatMap cNV ++ cNV (ve, y)) :: .many (L.map rowE) :: l)) (hv : v' = .slice A' m c') (hm : m = L.length + 1) :
 Hp W w0 (w.setCell ⟨gv, 1, none⟩ v') (volOb gv next A' m c' (L ++ [((ve, y) : Value × Nod)]) :: l) := by
 subst hv;have h1 := h.put 1 rfl 1 (.slice A' m c');have h2 := Hp.push (r := rowE (ve, y)) (rs := L.map rowE) h1 2 rfl;exact Hp.vshut (h2.recast (by simp))
end
def CopyV (next : Int) (n : Nat) (L : List (Value × Nod)) (w : World) (e : Ending) (w' : World) : Prop := ∃ A' c' L', e = .returned (.agg #[.int .i64 next, .slice A' n c']) ∧ nodes L' = nodes L ∧ Hp [] w w' [obN (.slice A' n c') n L']
set_option maxRecDepth 100000 in
set_option maxHeartbeats 8000000 in
theorem l6Copy_any (next : Int) (A : Option Addr) (n c : Nat) (L : List (Value × Nod)) (w : World) (h : VRd w A n L) (hn : n ≤ 1048576) (hE : ∀ p ∈ L, p.2.2.2.2.2.length ≤ 1048576) :
 Calls Tryz.prog 54 #[.agg #[.int .i64 next, .slice A n c]] w (CopyV next n L w) := by
 have HL := Lib.hid h.1.len;have HR := Lib.hid h.1;have HNZ := Lib.hid h.2;have HE := Lib.hid hE;clear h hE;have H1 := ((Hp.start w).lay_ 28 [.int .i64 next, .slice A n c] rfl).lay_ 28 [.int .i64 0, .slice none 0 0] (g := w.heap.size + 1) (by simp);have y0 := H1.fa 1 0 rfl rfl;have H0 := H1.lay_ 28 [.int .i64 next, .slice none 0 0] (g := w.heap.size + 1 + 1) (by simp);have y1 := H0.fa 2 1 rfl rfl;have HS := Lib.hid H0.vnew;clear H0 H1;go_enter Tryz.func54, Tryz.ntmps54;go_wp2_with fail
 go_loopw [4] (fun iv wr => ∃ (i : Nat) (A' : Option Addr) (c' : Nat) (L' : List (Value × Nod)), iv = .int .i64 i ∧ i ≤ n ∧ nodes L' = (nodes L).take i ∧ Hp [] w wr [volOb (w.heap.size + 1 + 1) next A' L'.length c' L', .blk (w.heap.size + 1) 28 [.int .i64 0, .slice none 0 0], .blk w.heap.size 28 [.int .i64 next, .slice A n c]]) (fun iv _ => n - (intOf iv).toNat)
 case atStart => exact ⟨0, _, _, [], rfl, by omega, rfl, HS.out⟩
 case round =>
  clear y0 y1 HS;obtain ⟨i, A', c', L', rfl, hi, hL', H⟩ := hrel;have HLL := Lib.hid hL';have HLI := Lib.hid (show L'.length = i by rw [← nodes_len, hL', List.length_take, nodes_len, HL.out]; omega);have hl1 : L'.length ≤ 1048576 := by rw [HLI.out]; omega
  clear hL';have hi0 : (0 : Int) ≤ (i : Int) := by omega
  have y1 := H.fa 2 1 rfl rfl
  by_cases hlt : i < n
  ·have hi1 : (i : Int) < (n : Int) := by omega
   obtain ⟨⟨v, x0, x1, x2, x3, es⟩, hx⟩ := some_at HL.out hlt;have hm := HE.out _ (List.mem_of_getElem? hx);obtain ⟨bk, of, B1, d1, rfl, e1, r1, c1⟩ := (HR.out.fr H.fr).elem hx;simp only at e1 r1 hm;subst e1;have ca0 := c1 0 _ rfl; simp only [Nat.add_zero] at ca0;have ca1 := c1 1 _ rfl;have ca2 := c1 2 _ rfl;have ca3 := c1 3 _ rfl;have ca4 := c1 4 _ rfl;have HX := Lib.hid (nodes_at hx);have HD1 := Lib.hid (show B1 = none → d1 = 0 from fun hB => by subst hB; exact HNZ.out _ (List.mem_of_getElem? hx) _ _ rfl);have H2 := H.lay_ 53 [.int .i64 x0, .int .i64 x1, .int .i64 x2, .string x3, .slice B1 es.length d1] rfl;have b4 := H2.fa 0 4 rfl rfl;have HR1 := Lib.hid (r1.fr (((Hp.start wr).lay_ 53 [.int .i64 x0, .int .i64 x1, .int .i64 x2, .string x3, .slice B1 es.length d1] rfl).fr));clear hx c1 r1 H;obtain ⟨gb, hgb⟩ : ∃ z, z = wr.heap.size := ⟨_, rfl⟩;rw [← hgb] at H2 b4;have HGB := Lib.hid hgb;clear hgb;go_wp2_with fail;rw [← HGB.out];refine (l5Copy_any B1 es.length d1 es _ HR1.out hm HD1.out).mono ?_;rintro e w2 ⟨v', rfl, K⟩;have H3 := H2.join K;clear K H2 b4 ca0 ca1 ca2 ca3 ca4 y1;obtain ⟨A5, q5, e5⟩ := H3.shape 0 rfl;subst e5;have f4 := H3.bfree 1 rfl 4;have s4 := H3.fa 1 4 rfl rfl;have H4 := H3.bput 1 rfl 4 (.slice A5 es.length q5);have H5 := (H4.front 2 rfl).vopen;have z1 := H5.at_ 0 rfl (j := 1) rfl;have n0 := H5.fa 4 0 rfl rfl;have n1 := H5.fa 4 1 rfl rfl;have n2 := H5.fa 4 2 rfl rfl;have n3 := H5.fa 4 3 rfl rfl;have n4 := H5.fa 4 4 rfl rfl;clear H3 H4;go_wp2_with (at_builtin; refine wp_appL (f := cNV) (H5) rfl _ _ _ rfl Tryz.underlying26 infoInode rfl (by decide) 1 _ _ rfl rfl _ _ (((.slice A5 es.length q5, (x0, x1, x2, x3, es)) : Value × Nod)) rfl (by simp) rfl (by simp [cNV, Value.oneCell']) (by first | (simp only [maxLen]; omega) | (simp [maxLen]; done) | (simp [maxLen]; omega)) (by first | omega | (simp; done) | (simp; omega)) ?_)
   intro v2 w6 H6;obtain ⟨C9, q9, hv9⟩ := H6.shape 1 rfl;have p0 := H6.at_ 0 rfl (j := 1) rfl;have p1 := H6.free 0 rfl 1;have H7 := Hp.vgrowE (L := L') (ve := .slice A5 es.length q5) (x0, x1, x2, x3, es) (H6.front 3 rfl) hv9 (by simp);have H8 := Lib.hid (H7.sub (List.Sublist.cons_cons _ (List.Sublist.cons _ (List.Sublist.refl _))));clear H5 H6 H7 z1 n0 n1 n2 n3 n4 f4 s4;subst hv9;go_wp2_with fail;go_roundw
   case rel => exact ⟨i + 1, C9, q9, L' ++ [((.slice A5 es.length q5, (x0, x1, x2, x3, es)) : Value × Nod)], by go_num, by omega, by rw [nodes_app, HLL.out, List.take_add_one, HX.out]; rfl, by have h9 := H8.out; simpa using h9⟩
   case measure => simp [intOf]; omega
  ·have hi1 : ¬ (i : Int) < (n : Int) := by omega
   have HN := Lib.hid (show nodes L' = nodes L by rw [HLL.out, List.take_of_length_le (by rw [nodes_len, HL.out]; omega)]);have HM := Lib.hid (show L'.length = n by rw [HLI.out]; omega);have v0 := H.vc0 0 rfl;have v1 := H.vc1 0 rfl;have s0 := H.fa 1 0 rfl rfl;have s1 := H.fa 1 1 rfl rfl;have fs0 := H.bfree 1 rfl 0;have fs1 := H.bfree 1 rfl 1;have H9 := H.blays 1 rfl [.int .i64 next, .slice A' L'.length c'] rfl;simp only [layW] at H9;clear H;go_wp2_with fail
   ((try simp only [Exit.inBlock, Exit.then]); refine bodyPost_ret (results_cell_row rfl _ _ (w.heap.size + 1) 28 #[.int .i64 next, .slice A' L'.length c'] (0, 0) _ rfl (H9.blk 1 rfl) Tryz.underlying28 rfl (by kernel_rfl)) rfl ?_)
   rw [HM.out] at H9 ⊢;exact ⟨A', c', L', rfl, HN.out, (H9.sub (l' := [volOb (w.heap.size + 1 + 1) next A' n c' L']) (by simp)).vcore⟩
end Go.Proofs.YtmpldngnkacnmaaGreatDoor
namespace Go.Proofs.YtmpldngnkacnmaaGreatDoor
open Go.RowKit
theorem makeP_no {next : Int} {l : List Nod} {k : Nat} {c : CallT} (h : (makeP next l k c).2.1 ≠ 0) : (makeP next l k c).1 = (next, l) := by
 revert h; unfold makeP; repeat' split
 all_goals simp [resC]
theorem linkP_no {next : Int} {l : List Nod} {t xi : Nat} {x : Nod} {c : CallT} (h : (linkP next l t xi x c).2.1 ≠ 0) : (linkP next l t xi x c).1 = (next, l) := by
 revert h; unfold linkP; repeat' split
 all_goals simp [resC]
theorem renP_no {next : Int} {l : List Nod} {k t : Nat} {x : Nod} {c : CallT} (h : (renP next l k t x c).2.1 ≠ 0) : (renP next l k t x c).1 = (next, l) := by
 revert h; unfold renP; repeat' split
 all_goals simp [resC]
theorem onP_no {next : Int} {l : List Nod} {k t : Nat} {c : CallT} (h : (onP next l k t c).2.1 ≠ 0) : (onP next l k t c).1 = (next, l) := by
 revert h; unfold onP; repeat' split
 all_goals first
  | exact linkP_no
  | exact renP_no
  | simp [resC]
theorem volDo_no {next : Int} {l : List Nod} {c : CallT} (h : (volDoP next l c).2.1 ≠ 0) : (volDoP next l c).1 = (next, l) := by
 revert h; unfold volDoP; repeat' split
 all_goals first
  | exact makeP_no
  | exact onP_no
  | simp [resC]
theorem own_nc {b n : Nat} {E : TypeId} {k : Nat} {A : Option Addr} {m c : Nat} {xs : List Value} {w : World} (h : w.ownsRow b E k (.slice A m c) n xs) : m ≤ c := by
 rcases h.2 with ⟨e2, _⟩ | ⟨g2, cap, cur, e2, _, _, hle, _⟩
 ·injection e2 with _ e3 e4; omega
 ·injection e2 with _ e3 e4; omega
section
variable {W : List Nat} {w0 w : World} {l : List Ob} {gv g : Nat} {next : Int} {A : Option Addr} {n c : Nat} {L : List (Value × Nod)}
theorem Hp.nnc (h : Hp W w0 w l) (i : Nat) (hi : l[i]? = some (obN (.slice A n c) n L)) : n ≤ c :=
 own_nc (show w.ownsRow 0 TINO 5 (.slice A n c) n (L.flatMap cNV) from (h.ok _ (List.mem_of_getElem? hi)).1 _ List.mem_cons_self)
end
def NewV (w : World) (out : OutT) (e : Ending) (w' : World) : Prop := ∃ A n c L, e = .returned (.tuple #[.agg #[.int .i64 out.1.1, .slice A n c], .agg (resL out.2).toArray]) ∧ nodes L = out.1.2 ∧ Hp [] w w' [obN (.slice A n c) n L]
def GotV (w : World) (A0 : Option Addr) (n0 c0 : Nat) (L0 : List (Value × Nod)) (out : OutT) (e : Ending) (w' : World) : Prop := ∃ A n c L, e = .returned (.tuple #[.agg #[.int .i64 out.1.1, .slice A n c], .agg (resL out.2).toArray]) ∧ nodes L = out.1.2 ∧ ((A = A0 ∧ n = n0 ∧ c = c0 ∧ L = L0 ∧ Fr w w') ∨ Hp [] w w' [obN (.slice A n c) n L])
section
variable {w w' : World} {A0 : Option Addr} {n0 c0 : Nat} {L0 : List (Value × Nod)} {out : OutT} {next' : Int} {A' : Option Addr} {n' c' gv : Nat} {L' : List (Value × Nod)} {r : ResT} {l : List Ob}
theorem GotV.same (h : out = ((next', nodes L0), r)) (f : Fr w w') : GotV w A0 n0 c0 L0 out (.returned (.tuple #[.agg #[.int .i64 next', .slice A0 n0 c0], .agg (resL r).toArray])) w' := by
 subst h;exact ⟨A0, n0, c0, L0, rfl, rfl, .inl ⟨rfl, rfl, rfl, rfl, f⟩⟩
theorem GotV.newN (h : out = ((next', nodes L'), r)) (H : Hp [] w w' l) (i : Nat) (hi : l[i]? = some (obN (.slice A' n' c') n' L')) : GotV w A0 n0 c0 L0 out (.returned (.tuple #[.agg #[.int .i64 next', .slice A' n' c'], .agg (resL r).toArray])) w' := by
 subst h;exact ⟨A', n', c', L', rfl, rfl, .inr ((H.front i hi).sub (List.singleton_sublist.2 List.mem_cons_self))⟩
theorem GotV.newV (h : out = ((next', nodes L'), r)) (H : Hp [] w w' l) (i : Nat) (hi : l[i]? = some (volOb gv next' A' n' c' L')) : GotV w A0 n0 c0 L0 out (.returned (.tuple #[.agg #[.int .i64 next', .slice A' n' c'], .agg (resL r).toArray])) w' := by
 subst h;exact ⟨A', n', c', L', rfl, rfl, .inr (((H.front i hi).vcore).sub (List.singleton_sublist.2 List.mem_cons_self))⟩
theorem NewV.newN (h : out = ((next', nodes L'), r)) (H : Hp [] w w' l) (i : Nat) (hi : l[i]? = some (obN (.slice A' n' c') n' L')) : NewV w out (.returned (.tuple #[.agg #[.int .i64 next', .slice A' n' c'], .agg (resL r).toArray])) w' := by
 subst h;exact ⟨A', n', c', L', rfl, rfl, (H.front i hi).sub (List.singleton_sublist.2 List.mem_cons_self)⟩
theorem NewV.newV (h : out = ((next', nodes L'), r)) (H : Hp [] w w' l) (i : Nat) (hi : l[i]? = some (volOb gv next' A' n' c' L')) : NewV w out (.returned (.tuple #[.agg #[.int .i64 next', .slice A' n' c'], .agg (resL r).toArray])) w' := by
 subst h;exact ⟨A', n', c', L', rfl, rfl, ((H.front i hi).vcore).sub (List.singleton_sublist.2 List.mem_cons_self)⟩
theorem NewV.zero (h : out = ((0, []), r)) (H : Hp [] w w' l) : NewV w out (.returned (.tuple #[.agg #[.int .i64 0, .slice none 0 0], .agg (resL r).toArray])) w' := by
 subst h;exact ⟨none, 0, 0, [], rfl, rfl, Hp.join2 (r := rowN (.slice none 0 0) 0 []) (((H.sub (List.nil_sublist _)).many0).nil_ TINO 5)⟩
end
end Go.Proofs.YtmpldngnkacnmaaGreatDoor
namespace Go.Proofs.YtmpldngnkacnmaaGreatDoor
open Go.RowKit
end Go.Proofs.YtmpldngnkacnmaaGreatDoor
namespace Go.Proofs.YtmpldngnkacnmaaGreatDoor
open Go.RowKit
def rootL : List (Value × Nod) := [(.slice none 0 0, 1, 2, 1, ⟨#[]⟩, [])]
theorem root_fold {W : List Nat} {w0 w : World} {l : List Ob} {v : Value} (h : Hp W w0 w (.row 53 5 v 1 (rootL.flatMap cNV) :: l)) : Hp W w0 w (obN v 1 rootL :: l) :=
 Hp.join2 (r := rowN v 1 rootL) (rs := rootL.map rowE) (Hp.swap (Hp.push (r := rowE (.slice none 0 0, 1, 2, 1, ⟨#[]⟩, [])) (h.many0.nil_ 90 4) 0 rfl))
set_option maxRecDepth 100000 in
theorem implNewVol_any (w : World) :
 Calls Tryz.prog 23 #[] w fun e w' => ∃ g : Nat, e = .returned (.agg #[.int .i64 2, .slice (some ⟨g, 0, none⟩) 1 1]) ∧ Hp [] w w' [obN (.slice (some ⟨g, 0, none⟩) 1 1) 1 rootL] := by
 have e : (w.alloc (.cells #[.int .i64 2, .slice (some ⟨w.heap.size + 1, 0, none⟩) 1 1] 28)).heap.size = w.heap.size + 1 := by simp
 have H := (((Hp.start w).lay_ 28 [.int .i64 2, .slice (some ⟨w.heap.size + 1, 0, none⟩) 1 1] rfl).lit 53 5 1 [.int .i64 1, .int .i64 2, .int .i64 1, .string ⟨#[]⟩, .slice none 0 0] rfl (by simp [maxLen]));rw [e] at H;have c0 := H.fa 1 0 rfl rfl;have c1 := H.fa 1 1 rfl rfl;have H9 := Lib.hid (root_fold H.drop1);clear H e;go_enter Tryz.func23, Tryz.ntmps23;go_wp2_with fail;exact bodyPost_ret (v := .agg #[.int .i64 2, .slice (some ⟨w.heap.size + 1, 0, none⟩) 1 1]) (by simp [results, Tryz.results23, go_sem, c0, c1]) rfl ⟨_, rfl, H9.out⟩
set_option maxRecDepth 100000 in
theorem specNewVol_any (w : World) :
 Calls Tryz.prog 12 #[] w fun e w' => ∃ g : Nat, e = .returned (.agg #[.int .i64 2, .slice (some ⟨g, 0, none⟩) 1 1]) ∧ Hp [] w w' [obN (.slice (some ⟨g, 0, none⟩) 1 1) 1 rootL] := by
 have e : (w.alloc (.cells #[.int .i64 2, .slice (some ⟨w.heap.size + 1, 0, none⟩) 1 1] 28)).heap.size = w.heap.size + 1 := by simp
 have H := (((Hp.start w).lay_ 28 [.int .i64 2, .slice (some ⟨w.heap.size + 1, 0, none⟩) 1 1] rfl).lit 53 5 1 [.int .i64 1, .int .i64 2, .int .i64 1, .string ⟨#[]⟩, .slice none 0 0] rfl (by simp [maxLen]));rw [e] at H;have c0 := H.fa 1 0 rfl rfl;have c1 := H.fa 1 1 rfl rfl;have H9 := Lib.hid (root_fold H.drop1);clear H e;go_enter Tryz.func12, Tryz.ntmps12;go_wp2_with fail;exact bodyPost_ret (v := .agg #[.int .i64 2, .slice (some ⟨w.heap.size + 1, 0, none⟩) 1 1]) (by simp [results, Tryz.results12, go_sem, c0, c1]) rfl ⟨_, rfl, H9.out⟩
theorem root_V : VOk 2 (nodes rootL) where
 lo := by omega
 hi := by omega
 len := by decide
 srt := List.pairwise_singleton _ _
 rng := fun x hx => by obtain rfl := List.mem_singleton.1 hx; decide
 root := ⟨_, rfl, rfl, rfl⟩
 typ := fun x hx => by obtain rfl := List.mem_singleton.1 hx; exact .inr ⟨rfl, rfl, ⟨by decide, nofun, .nil, .nil⟩⟩
 ent := fun x hx => by obtain rfl := List.mem_singleton.1 hx; exact nofun
 one := fun x hx _ => by obtain rfl := List.mem_singleton.1 hx; rfl
 lnk := fun x hx => by obtain rfl := List.mem_singleton.1 hx; exact .inl rfl
 rch := fun x hx => by obtain rfl := List.mem_singleton.1 hx; exact .inl rfl
abbrev FoldT := (Int × List Nod) × Bool
def NewF (w : World) (out : FoldT) (e : Ending) (w' : World) : Prop := ∃ A n c L, e = .returned (.tuple #[.agg #[.int .i64 out.1.1, .slice A n c], .bool out.2]) ∧ nodes L = out.1.2 ∧ Hp [] w w' [obN (.slice A n c) n L]
theorem NewF.zero {w w' : World} {out : FoldT} {l : List Ob} (h : out = ((0, []), false)) (H : Hp [] w w' l) : NewF w out (.returned (.tuple #[.agg #[.int .i64 0, .slice none 0 0], .bool false])) w' := by
 subst h;exact ⟨none, 0, 0, [], rfl, rfl, Hp.join2 (r := rowN (.slice none 0 0) 0 []) (((H.sub (List.nil_sublist _)).many0).nil_ TINO 5)⟩
end Go.Proofs.YtmpldngnkacnmaaGreatDoor
namespace Go.Proofs.YtmpldngnkacnmaaGreatDoor
open Go.RowKit
theorem root_sz : NodSz rootL := by
 intro p hp;simp only [rootL, List.mem_singleton] at hp;subst hp;refine ⟨by decide, by decide, ?_⟩;have h1 := varB_len 1;have h2 := varB_len 2;have h3 := varB_len (((ByteArray.mk #[]).size : Nat) : Int);have h4 := varB_len ((0 : Nat) : Int);have h5 := toB_len (ByteArray.mk #[]);have h6 : (ByteArray.mk #[]).size = 0 := rfl;rw [h6] at h5;simp only [nodeB, pieceB, List.length_cons, List.length_append, List.flatMap_nil, List.length_nil];omega
def rootB : List ByteArray := blocksB 2 (nodes rootL)
theorem rootB_len : rootB.length = 17 := blocksB_len _ _
set_option maxRecDepth 100000 in
set_option maxHeartbeats 1000000 in
theorem implFormat_any (w : World) :
 Calls Tryz.prog 9 #[] w (Made w 9 1 18 ((rootB ++ [ByteArray.mk #[]]).map Value.string)) := by
 have HL := Lib.hid rootB_len;have hbl : rootB.length ≤ 17 := by rw [rootB_len]; exact Nat.le_refl _
 go_enter Tryz.func9, Tryz.ntmps9;go_wp2_with fail;refine (implNewVol_any _).mono ?_;rintro e w1 ⟨g, rfl, H1⟩;go_wp2_with fail;refine (volBlocks_any 2 _ 1 1 rootL _ (H1.rdN 0 rfl) (by decide) root_sz).mono ?_;rintro e w2 ⟨C, d, rfl, o2, f2⟩;have H2 := (H1.made o2 f2).drop1;clear H1 o2 f2;have H3 : Hp [] w w2 [.row 9 1 (.slice C 17 d) rootB.length (rootB.map Value.string)] := H2.recast (by rw [HL.out]; rfl);clear H2;go_wp2_with (at_builtin; refine wp_appM (f := Value.string) (H3) rfl _ _ _ rfl Tryz.underlying24 infoString rfl 0 _ _ rfl rfl _ _ (ByteArray.mk #[]) rfl (by simp) rfl (by first | (simp only [maxLen]; omega) | (simp [maxLen]; done) | (simp [maxLen]; omega)) (by first | omega | (simp; done) | (simp; omega)) ?_)
 intro v' w6 H6;have H7 : Hp [] w w6 [.row 9 1 v' 18 ((rootB ++ [ByteArray.mk #[]]).map Value.string)] := H6.recast (by
  rw [HL.out, List.map_append]; rfl)
 obtain ⟨D, q, rfl⟩ := H7.shape 0 rfl;have HF := Lib.hid H7;clear H6 H7 H3;go_wp2_with fail;go_ret;exact HF.out.toMade 0 rfl
end Go.Proofs.YtmpldngnkacnmaaGreatDoor
namespace Go.Proofs.YtmpldngnkacnmaaGreatDoor
open Go.RowKit
theorem mount_format : mountB (rootB ++ [ByteArray.mk #[]]) = some ((2, nodes rootL), [], 0) := by
 have h17 : (rootB ++ [ByteArray.mk #[]])[17]? = some (ByteArray.mk #[]) := by
  rw [List.getElem?_append_right (by rw [rootB_len]; omega), rootB_len]; rfl
 have ht : txt (rootB ++ [ByteArray.mk #[]]) 17 = [] := by
  rw [txt, h17];exact List.eq_nil_of_length_eq_zero (toB_len _)
 have hlog : logT (rootB ++ [ByteArray.mk #[]]) = some (0, []) := by rw [logT, if_pos ht]
 have htk : (rootB ++ [ByteArray.mk #[]]).take 17 = rootB := List.take_left' rootB_len;rw [mountB, if_neg (by rw [List.length_append, rootB_len]; simp), hlog];simp only;rw [htk, show putAll rootB [] = rootB from rfl, show readB rootB = some (2, nodes rootL) from readB_yes (V_volB root_V) rfl]
end Go.Proofs.YtmpldngnkacnmaaGreatDoor
namespace Go.Proofs.YtmpldngnkacnmaaGreatDoor
open Go.RowKit
theorem byte_of {y : Int} (h0 : 0 ≤ y) (h1 : y ≤ 255) : ∃ u : UInt8, y = (u.toNat : Int) := by
 refine ⟨UInt8.ofNat y.toNat, ?_⟩;rw [UInt8.toNat_ofNat_of_lt' (by simp [UInt8.size]; omega)];omega
set_option maxRecDepth 100000 in
set_option maxHeartbeats 4000000 in
theorem l1Text_any (g : Nat) (A : Option Addr) (n c : Nat) (bs : List UInt8) (i h : Int) (m : Nat) (w : World) (hb : Bk w g 60 [.slice A n c, .int .i64 i, .int .i64 h])
 (hA : Rd w A n 1 (bs.map cU8)) (hne : 0 < n → ∀ ad, A = some ad → ad.block ≠ g) (h0 : 0 ≤ i) (h1 : i ≤ n) (hn : n ≤ 1048576) (hm : m ≤ 100) :
 Calls Tryz.prog 64 #[.pointer (some ⟨g, 0, none⟩), .int .i64 m] w fun e w' => ∃ x : ByteArray, e = .returned (.string x) ∧ x.size ≤ m ∧ CurOn g A n c w w' := by
 have hneW : 0 < n → ∀ ad, A = some ad → ad.block ∉ [g] := fun hn0 ad he => by simpa using hne hn0 ad he
 have H := (Hp.start_blk hb).lit0 5 1;have G := Lib.hid hA;have NE := Lib.hid hne;have NW := Lib.hid hneW;have hw : IntKind.i64.wrap ((m : Int) + 1) = (m : Int) + 1 := IntWalk.i64_in _ (by omega);clear hb hA hne hneW;go_enter Tryz.func64, Tryz.ntmps64;go_wp2_with fail;refine (l1Below_any g A n c bs i h 4 _ (H.blk 1 rfl) (H.oldN G.out NW.out) NE.out h0 h1 hn (by decide)).mono ?_;rintro e w1 ⟨sx, rfl, s0, s1, _, C⟩;obtain ⟨i1, hh1, a1, b1, H1⟩ := H.cur 1 rfl C;have s2 := s1 (by decide);clear H C s1;go_wp2_with fail;refine (l1Below_any g A n c bs i1 hh1 ((m : Int) + 1) _ (H1.blk 1 rfl) (H1.oldN G.out NW.out) NE.out a1 b1 hn (by omega)).mono ?_;rintro e w2 ⟨x1, rfl, x0, xm, _, C⟩;obtain ⟨i2, hh2, a2, b2, H2⟩ := H1.cur 1 rfl C;have x2 := xm (by omega);obtain ⟨k0, rfl⟩ : ∃ q : Nat, x1 = q := ⟨x1.toNat, by omega⟩;clear H1 C xm hw;go_wp2_with fail
 go_loopw [5, 7] (fun v j wr => ∃ (k : Nat) (L : List UInt8) (i' h' : Int), j = .int .i64 k ∧ L.length + k ≤ m ∧ 0 ≤ i' ∧ i' ≤ n ∧
  Hp [g] w wr [.row 5 1 v L.length (L.map cU8), .blk g 60 [.slice A n c, .int .i64 i', .int .i64 h']]) (fun _ j _ => (intOf j).toNat)
 case atStart => exact ⟨k0, [], i2, hh2, rfl, by simp; omega, a2, b2, H2⟩
 case round =>
  clear H2;obtain ⟨k, L, i3, h3, rfl, hL, a3, b3, H⟩ := hrel
  rcases Nat.eq_zero_or_pos k with hk | hk
  ·subst hk
   obtain ⟨B, d, rfl⟩ := H.shape 0 rfl;have hks := run_str (c := d) 22 9 5 Tryz.underlying22 Tryz.underlying5 Tryz.underlying9 (H.rd 0 rfl);have HH := Lib.hid H.tail;clear H;go_wp2_with fail;go_ret;exact ⟨ofB L, rfl, by rw [ofB_size]; omega, i3, h3, a3, b3, HH.out⟩
  ·have hkk : (0 : Int) < (k : Int) := by omega
   go_wp2_with fail;refine (l1Byte_any g A n c bs i3 h3 _ (H.blk 1 rfl) (H.oldN G.out NW.out) NE.out a3 b3 hn).mono ?_;rintro e w4 ⟨y, rfl, y0, y1, C⟩;obtain ⟨i4, h4, a4, b4, H4⟩ := H.cur 1 rfl C;obtain ⟨u, rfl⟩ := byte_of y0 y1;clear H C;have hmr : ∀ q : Int, 0 < q → q ≤ 4 → IntKind.i64.wrap ((u.toNat : Int).tmod q) = (u.toNat : Int) % q := fun q q0 q4 => by
    rw [Int.tmod_eq_emod_of_nonneg y0];have q1 := Int.emod_nonneg (u.toNat : Int) (show q ≠ 0 by omega);have q2 := Int.emod_lt_of_pos (u.toNat : Int) q0;exact IntWalk.i64_in _ (by omega)
   by_cases hs1 : sx = 1
   ·have d1 : (sx == 1) = true := by simp [hs1]
    have d2 : (sx == 2) = false := by simp [hs1]
    obtain ⟨v, hv⟩ := byte_of (y := (u.toNat : Int) % 2) (by omega) (by omega);have hr := (hmr 2 (by decide) (by decide)).trans hv;clear hmr hs1;have hvv := v.toNat_lt;have wq : IntKind.u8.wrap (v.toNat : Int) = (v.toNat : Int) := wraps_u8 _ (by omega) (by omega);go_wp2_with (at_builtin; refine wp_appM (f := cU8) (H4) rfl _ _ _ rfl Tryz.underlying22 infoU8 rfl 0 _ _ rfl rfl _ _ (v) rfl (by simp) rfl (by first | (simp only [maxLen]; omega) | (simp [maxLen]; done) | (simp [maxLen]; omega)) (by first | omega | (simp; done) | (simp; omega)) ?_)
    intro v' w5 H5;have H6 := Lib.hid (show Hp [g] w w5 [.row 5 1 v' (L ++ [v]).length ((L ++ [v]).map cU8), .blk g 60 [.slice A n c, .int .i64 i4, .int .i64 h4]] by
     rw [List.map_append, List.length_append]; exact H5)
    clear H4 H5;go_wp2_with fail;go_roundw
    case rel => exact ⟨k - 1, L ++ [v], i4, h4, by go_num, by simp; omega, a4, b4, H6.out⟩
    case measure => simp [intOf]; omega
   ·by_cases hs2 : sx = 2
    ·have d1 : (sx == 1) = false := by simp [hs2]
     have d2 : (sx == 2) = true := by simp [hs2]
     obtain ⟨y4, hy4⟩ : ∃ y4, y4 = (u.toNat : Int) % 4 := ⟨_, rfl⟩;obtain ⟨v, hv⟩ := byte_of (y := 97 + y4) (by omega) (by omega);have hr := (hmr 4 (by decide) (by decide)).trans hy4.symm;have hr2 : IntKind.i64.wrap (97 + y4) = (v.toNat : Int) := (IntWalk.i64_in _ (by omega)).trans hv;have hy5 : (u.toNat : Int) % 4 = y4 := hy4.symm;clear hmr hs2 hs1 hy4;have hvv := v.toNat_lt;have wq : IntKind.u8.wrap (v.toNat : Int) = (v.toNat : Int) := wraps_u8 _ (by omega) (by omega);go_wp2_with (at_builtin; refine wp_appM (f := cU8) (H4) rfl _ _ _ rfl Tryz.underlying22 infoU8 rfl 0 _ _ rfl rfl _ _ (v) rfl (by simp) rfl (by first | (simp only [maxLen]; omega) | (simp [maxLen]; done) | (simp [maxLen]; omega)) (by first | omega | (simp; done) | (simp; omega)) ?_)
     intro v' w5 H5;have H6 := Lib.hid (show Hp [g] w w5 [.row 5 1 v' (L ++ [v]).length ((L ++ [v]).map cU8), .blk g 60 [.slice A n c, .int .i64 i4, .int .i64 h4]] by
      rw [List.map_append, List.length_append]; exact H5)
     clear H4 H5;go_wp2_with fail;go_roundw
     case rel => exact ⟨k - 1, L ++ [v], i4, h4, by go_num, by simp; omega, a4, b4, H6.out⟩
     case measure => simp [intOf]; omega
    ·have d1 : (sx == 1) = false := by simpa using hs1
     have d2 : (sx == 2) = false := by simpa using hs2
     obtain ⟨v, hv⟩ : ∃ v, v = u := ⟨_, rfl⟩;subst hv;clear hmr hs1 hs2;have hvv := v.toNat_lt;have wq : IntKind.u8.wrap (v.toNat : Int) = (v.toNat : Int) := wraps_u8 _ (by omega) (by omega);go_wp2_with (at_builtin; refine wp_appM (f := cU8) (H4) rfl _ _ _ rfl Tryz.underlying22 infoU8 rfl 0 _ _ rfl rfl _ _ (v) rfl (by simp) rfl (by first | (simp only [maxLen]; omega) | (simp [maxLen]; done) | (simp [maxLen]; omega)) (by first | omega | (simp; done) | (simp; omega)) ?_)
     intro v' w5 H5;have H6 := Lib.hid (show Hp [g] w w5 [.row 5 1 v' (L ++ [v]).length ((L ++ [v]).map cU8), .blk g 60 [.slice A n c, .int .i64 i4, .int .i64 h4]] by
      rw [List.map_append, List.length_append]; exact H5)
     clear H4 H5;go_wp2_with fail;go_roundw
     case rel => exact ⟨k - 1, L ++ [v], i4, h4, by go_num, by simp; omega, a4, b4, H6.out⟩
     case measure => simp [intOf]; omega
end Go.Proofs.YtmpldngnkacnmaaGreatDoor
namespace Go.Proofs.YtmpldngnkacnmaaGreatDoor
open Go.RowKit
abbrev TCUR : TypeId := 60
def CurP (W : List Nat) (w0 : World) (g : Nat) (A : Option Addr) (n : Nat) : Prop := (∃ bs : List UInt8, Rd w0 A n 1 (bs.map cU8)) ∧ (0 < n → ∀ ad, A = some ad → ad.block ∉ W ∧ ad.block ≠ g) ∧ n ≤ 1048576
def HC (W : List Nat) (w0 w : World) (g : Nat) (A : Option Addr) (n c : Nat) (l : List Ob) : Prop := ∃ i h : Int, 0 ≤ i ∧ i ≤ n ∧ Hp W w0 w (.blk g TCUR [.slice A n c, .int .i64 i, .int .i64 h] :: l)
section
variable {W : List Nat} {w0 w : World} {g : Nat} {A : Option Addr} {n c : Nat} {l : List Ob}
theorem CurP.old (Q : CurP W w0 g A n) : 0 < n → ∀ ad, A = some ad → ad.block ∉ W := fun h0 ad he => (Q.2.1 h0 ad he).1
theorem CurP.ne (Q : CurP W w0 g A n) : 0 < n → ∀ ad, A = some ad → ad.block ≠ g := fun h0 ad he => (Q.2.1 h0 ad he).2
theorem HC.below (K : HC W w0 w g A n c l) (Q : CurP W w0 g A n) (k : Int) (hk : k ≤ 256) :
 Calls Tryz.prog 29 #[.pointer (some ⟨g, 0, none⟩), .int .i64 k] w fun e w' => ∃ x : Int, e = .returned (.int .i64 x) ∧ 0 ≤ x ∧ x ≤ 256 ∧ (0 < k → x < k) ∧ HC W w0 w' g A n c l := by
 obtain ⟨i, h, a, b, H⟩ := K;obtain ⟨bs, hA⟩ := Q.1;refine (l1Below_any g A n c bs i h k _ (H.blk 0 rfl) (H.oldN hA Q.old) Q.ne a b Q.2.2 hk).mono ?_;rintro e w' ⟨x, rfl, x0, x1, x2, C⟩;exact ⟨x, rfl, x0, by by_cases hk0 : 0 < k; (have := x1 hk0; omega); (have := x2 (by omega); omega), x1, H.cur 0 rfl C⟩
theorem HC.once (K : HC W w0 w g A n c l) (Q : CurP W w0 g A n) (k : Int) (hk : k ≤ 256) :
 Calls Tryz.prog 16 #[.pointer (some ⟨g, 0, none⟩), .int .i64 k] w fun e w' => ∃ x : Bool, e = .returned (.bool x) ∧ HC W w0 w' g A n c l := by
 obtain ⟨i, h, a, b, H⟩ := K;obtain ⟨bs, hA⟩ := Q.1;refine (l1Once_any g A n c bs i h k _ (H.blk 0 rfl) (H.oldN hA Q.old) Q.ne a b Q.2.2 hk).mono ?_;rintro e w' ⟨x, rfl, C⟩;exact ⟨x, rfl, H.cur 0 rfl C⟩
theorem HC.name (K : HC W w0 w g A n c l) (Q : CurP W w0 g A n) :
 Calls Tryz.prog 63 #[.pointer (some ⟨g, 0, none⟩)] w fun e w' => ∃ x : ByteArray, e = .returned (.string x) ∧ x.size ≤ 32 ∧ HC W w0 w' g A n c l := by
 obtain ⟨i, h, a, b, H⟩ := K;obtain ⟨bs, hA⟩ := Q.1;refine (l4Name_any g A n c bs i h _ (H.blk 0 rfl) (H.oldN hA Q.old) Q.ne a b Q.2.2).mono ?_;rintro e w' ⟨x, rfl, hx, C⟩;exact ⟨x, rfl, hx, H.cur 0 rfl C⟩
theorem HC.text (K : HC W w0 w g A n c l) (Q : CurP W w0 g A n) (m : Nat) (hm : m ≤ 100) :
 Calls Tryz.prog 64 #[.pointer (some ⟨g, 0, none⟩), .int .i64 m] w fun e w' => ∃ x : ByteArray, e = .returned (.string x) ∧ x.size ≤ m ∧ HC W w0 w' g A n c l := by
 obtain ⟨i, h, a, b, H⟩ := K;obtain ⟨bs, hA⟩ := Q.1;refine (l1Text_any g A n c bs i h m _ (H.blk 0 rfl) (H.oldN hA Q.old) Q.ne a b Q.2.2 hm).mono ?_;rintro e w' ⟨x, rfl, hx, C⟩;exact ⟨x, rfl, hx, H.cur 0 rfl C⟩
theorem HC.pick (K : HC W w0 w g A n c l) (Q : CurP W w0 g A n) (xs : List Int) {m : Nat} (hm : m = xs.length) (hm0 : 0 < m) (hm1 : m ≤ 256) {gz : Nat} (hz : gz = w.heap.size) :
 Calls Tryz.prog 61 #[.pointer (some ⟨g, 0, none⟩), .slice (some ⟨gz, 0, none⟩) m m] (w.alloc (.cells (xs.map (Value.int .i64)).toArray 3)) fun e w' => ∃ x : Int, e = .returned (.int .i64 x) ∧ x ∈ xs ∧ HC W w0 w' g A n c l := by
 subst hz;obtain ⟨i, h, a, b, H⟩ := K;obtain ⟨bs, hA⟩ := Q.1;have hg := H.lt 0 rfl rfl;have H1 := H.lit 3 1 m (xs.map (Value.int .i64)) (by simp [hm]) (by simp only [maxLen]; omega);refine (l1PickInt_any g A n c bs i h (some ⟨w.heap.size, 0, none⟩) m m xs _ (H1.blk 1 rfl) (H1.oldN hA Q.old) Q.ne a b Q.2.2 (H1.rd 0 rfl) (fun ad he => by injection he with he; subst he; simp; omega) hm0 hm1).mono ?_;rintro e w' ⟨x, rfl, hx, C⟩;obtain ⟨i', h', a', b', H2⟩ := H1.cur 1 rfl C;exact ⟨x, rfl, hx, i', h', a', b', H2.tail⟩
end
set_option maxRecDepth 100000 in
theorem l1Size_any (A : Option Addr) (n c : Nat) (m : Int) (w : World) (hn : n ≤ 1048576) (h0 : 0 ≤ m) :
 Calls Tryz.prog 15 #[.slice A n c, .int .i64 m] w fun e w' => ∃ x : Int, e = .returned (.int .i64 x) ∧ 0 ≤ x ∧ x ≤ m ∧ Fr w w' := by
 obtain ⟨q, hq⟩ : ∃ q : Int, q = (n : Int) / 20 := ⟨_, rfl⟩;have hq0 : 0 ≤ q := by omega
 have hq1 : q ≤ 1048576 := by omega
 have hdz : IntKind.i64.wrap ((n : Int).tdiv 20) = q := by rw [Int.tdiv_eq_ediv_of_nonneg (by omega), ← hq]; exact IntWalk.i64_in _ (by omega)
 have hw : IntKind.i64.wrap (2 + q) = 2 + q := IntWalk.i64_in _ (by omega)
 by_cases hm : m < 2 + q
 ·go_enter Tryz.func15, Tryz.ntmps15
  go_wp2
  go_ret;exact ⟨_, rfl, by omega, by omega, Below.refl _ _⟩
 ·go_enter Tryz.func15, Tryz.ntmps15
  go_wp2
  go_ret;exact ⟨_, rfl, by omega, by omega, Below.refl _ _⟩
end Go.Proofs.YtmpldngnkacnmaaGreatDoor