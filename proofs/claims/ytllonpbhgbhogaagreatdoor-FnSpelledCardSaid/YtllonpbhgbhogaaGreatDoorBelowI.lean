/-
below of the program: by a queue of ids.
-/
import Derived.Test.YtllonpbhgbhogaaGreatDoorGg
import Derived.Test.YtllonpbhgbhogaaGreatDoorGh
import Derived.Test.YtllonpbhgbhogaaGreatDoorGf
namespace Go.Proofs.YtllonpbhgbhogaaGreatDoor
open Go.RowKit
set_option linter.unusedVariables false
set_option linter.unusedSimpArgs false
def slen : Value → Nat
 | .slice _ n _ => n
 | _ => 0
theorem Hp.castW {W : List Nat} {w0 w w' : World} {l : List Ob} (h : Hp W w0 w l) (e : w = w') : Hp W w0 w' l := e ▸ h
theorem Hp.lit_ {W : List Nat} {w0 w : World} {l : List Ob} (h : Hp W w0 w l) (E : TypeId) (k n : Nat) (cs : List Value) (hs : cs.length = n * k) (hn : n ≤ maxLen) {g : Nat} (hg : g = w.heap.size) : Hp W w0 (w.alloc (.cells cs.toArray E)) (.row E k (.slice (some ⟨g, 0, none⟩) n n) n cs :: l) := by
 subst hg; exact h.lit E k n cs hs hn
set_option maxRecDepth 100000 in
set_option maxHeartbeats 8000000 in
theorem implBelow_any (next : Int) (A : Option Addr) (n c : Nat) (L : List (Value × Nod)) (id : Int) (w : World) (h : RdN w A n L) (hn : n ≤ 1048576) (hfew : FewE L) (hall : (allIds (nodes L)).length ≤ 1000000) :
 Calls Tryz.prog 52 #[.agg #[.int .i64 next, .slice A n c], .int .i64 id] w fun e w' => ∃ (B : Option Addr) (d : Nat) (out : List Int), e = .returned (.slice B out.length d) ∧ (∀ x, x ∈ out ↔ Blw (nodes L) id x) ∧ out.length ≤ 1000000 ∧ w'.ownsRow w.heap.size 3 1 (.slice B out.length d) out.length (out.map (Value.int .i64)) ∧ Fr w w' := by
 have HL := Lib.hid h.len;have HR := Lib.hid h;have HFE := Lib.hid hfew;obtain ⟨T, hT⟩ : ∃ T, T = (allIds (nodes L)).length := ⟨_, rfl⟩;rw [← hT] at hall;have HT := Lib.hid hT;clear hT h hfew;have H0 := (((Hp.start w).lay_ 31 [.int .i64 next, .slice A n c] rfl).lit_ 3 1 0 [] rfl (by simp [maxLen]) (g := w.heap.size + 1) (by simp)).lit_ 3 1 1 [.int .i64 id] rfl (by simp [maxLen]) (g := w.heap.size + 1 + 1) (by simp);go_enter Tryz.func52, Tryz.ntmps52;go_wp2_with fail
 go_loopw [5, 6] (fun ov qv wr => ∃ (out Q ql : List Int) (gq nq cq j r s : Nat), qv = .slice (some ⟨gq, j, none⟩) r s ∧ Left nq cq j r s Q ql ∧ ql.length = r ∧ nq ≤ out.length + 1 ∧ Bq (nodes L) id out ql none [] ∧ Hp [] w wr [.row 3 1 (.slice (some ⟨gq, 0, none⟩) nq cq) nq (Q.map (Value.int .i64)), .row 3 1 ov out.length (out.map (Value.int .i64)), .blk w.heap.size 31 [.int .i64 next, .slice A n c]]) (fun ov qv _ => 2 * (T - slen ov) + slen qv)
 case atStart => exact ⟨[], [id], [id], w.heap.size + 1 + 1, 1, 1, 0, 1, 1, rfl, .inr ⟨rfl, rfl, rfl⟩, rfl, by simp, Bq.start _ _, H0⟩
 case round =>
  clear H0;obtain ⟨out, Q, ql, gq, nq, cq, j, r, s, rfl, hlf, hqr, hnq, hbq, H⟩ := hrel;obtain ⟨C, oc, rfl⟩ := H.shape 1 rfl;have hol := hbq.len;rw [← HT.out] at hol
  cases ql with
  | nil =>
    have hr0 : r = 0 := hqr.symm;subst hr0;have HB := Lib.hid hbq;clear hlf hbq;go_wp2_with fail;go_ret;exact ⟨_, _, out, rfl, HB.out.done, by omega, H.out 1 rfl, H.fr⟩
  | cons x ql1 =>
    have hr1 : r = ql1.length + 1 := by rw [← hqr]; rfl
    subst hr1;have hlf2 := hlf.resolve_left (fun h => by have := h.1; omega);obtain ⟨hnq1, hcq1, hdr⟩ := hlf2;have hlenQ : Q.length = nq := by simpa using (H.row 0 rfl).1
    have hncap : nq ≤ cq := by
     obtain ⟨_, _, _, e, _, _, h3, _⟩ := ((H.row 0 rfl).2).resolve_left (fun h => by cases h.1);injection e with _ _ e;rw [e]; exact h3
    have HX := Lib.hid (show Q[j]? = some x by
     have := congrArg (fun l => l[0]?) hdr;simpa using this.symm)
    have HQ1 := Lib.hid (show ql1 = Q.drop (j + 1) by
     have := congrArg List.tail hdr;simpa using this)
    have HBQ := Lib.hid hbq;obtain ⟨z, hz⟩ : ∃ z, z = atZ (nodes L) x := ⟨_, rfl⟩;have HZ := Lib.hid hz;have hp0 : (0 : Int) < (ql1.length : Int) + 1 := by omega
    have hp1 : (0 : Int) < ((ql1.length + 1 : Nat) : Int) := by omega
    clear hlf hqr hbq hdr hz;have HN9 := Lib.hid (And.intro hnq1 hcq1);clear hnq1 hcq1;have hs1 : ∃ s1, s = s1 + 1 := ⟨s - 1, by have := HN9.out; omega⟩;obtain ⟨s1, rfl⟩ := hs1;go_wp2_with fail;replace H := H.drew;have y0 := H.fa 2 0 rfl rfl;have y1 := H.fa 2 1 rfl rfl;have y2 := H.atM (f1 := Value.int .i64) 0 rfl HX.out;refine wp_region_held_drew (S := fun w' => w'.cell? ⟨w.heap.size, 0, none⟩ = some (.int .i64 next) ∧ w'.cell? ⟨w.heap.size, 1, none⟩ = some (.slice A n c) ∧ w'.cell? ⟨gq, j, none⟩ = some (.int .i64 x)) (by kernel_rfl) ?_ (fun hHeld => ?_)
    ·exact ⟨y0, y1, y2⟩
    obtain ⟨u0, hu0⟩ : ∃ uu : World, uu = wr.drew := ⟨_, rfl⟩;rw [← hu0] at H hHeld ⊢;clear hu0;refine wpT 0 ?_;refine wpT 1 ?_;refine wpT 2 ?_;refine wpT 3 ?_;refine wpC 4 fun K hK => ?_;go_simp;refine (implAt_any next A n c L x _ (HR.out.fr H.fr) hn).mono ?_;rintro e u1 ⟨rfl, f9⟩;replace H := H.go f9;clear f9;rw [← HZ.out];go_wp2_with fail;refine hK.out _ _ ?_ fun hHeld => ?_
    ·exact ⟨H.fa 2 0 rfl rfl, H.fa 2 1 rfl rfl, H.atM (f1 := Value.int .i64) 0 rfl HX.out⟩
    clear hK K;(try simp only [sX, Act.put]);refine wpT 5 ?_;refine wpAnyH_done (by kernel_rfl) ?_ _;clear y0 y1 y2
    by_cases hs0 : s1 = 0
    ·subst hs0
     have hql : ql1.length = 0 := by have := HN9.out; omega
     have HL2 := Lib.hid (show Left nq cq j 0 0 Q ql1 from .inl ⟨rfl, rfl, List.eq_nil_of_length_eq_zero hql⟩);obtain rfl : ql1 = [] := List.eq_nil_of_length_eq_zero hql;have HBP := Lib.hid (show Bq (nodes L) id out ([] : List Int) (some x) [] from HBQ.out.pop);obtain ⟨M, hM⟩ : ∃ M, M = 2 * (T - out.length) + ([] : List Int).length := ⟨_, rfl⟩;have HM := Lib.hid hM;clear hM
     rcases atZ_cases (nodes L) x with ⟨hza, hzn⟩ | ⟨k, hza, hzn, hkl⟩
     ·have HK0 := Lib.hid (show kidsL (nodes L) x = [] by rw [kidsL, hzn])
      have hz1 : z = -1 := HZ.out.trans hza;subst hz1;clear hza hzn;have HBC := Lib.hid (show Bq (nodes L) id out ([] : List Int) none [] from HBP.out.close (by rw [HK0.out]; simp));go_wp2_with fail;go_roundw
      case rel => exact ⟨out, Q, ([] : List Int), gq, nq, cq, j, 0, 0, rfl, HL2.out, rfl, hnq, HBC.out, H⟩
      case measure => simp only [slen]; omega
     ·have hz1 : z = (k : Int) := HZ.out.trans hza
      subst hz1;have hkn : k < n := by rw [nodes_len, HL.out] at hkl; exact hkl
      have hk0 : (0 : Int) ≤ (k : Int) := by omega
      have hk1 : (k : Int) < (n : Int) := by omega
      have hk2 : ¬ (k : Int) < 0 := by omega
      obtain ⟨⟨v, x0, x1, x2, x3, es⟩, hx⟩ := some_at HL.out hkn;have hm := HFE.out _ (List.mem_of_getElem? hx);obtain ⟨bk, of, B1, d1, rfl, e1, r1, c1⟩ := (HR.out.fr H.fr).elem hx;simp only at e1 r1 hm;subst e1;have ca4 := c1 4 _ rfl;have HKD := Lib.hid (kids_of hzn (nodes_at hx));simp only at HKD;have HRE := Lib.hid (show ∀ w', Fr w w' → Rd w' B1 es.length 4 (es.flatMap cEnt) from fun w' f => by
       obtain ⟨_, _, B2, d2, _, e2, r2, _⟩ := (HR.out.fr f).elem hx;simp only at e2 r2;injection e2 with e2 _ _;subst e2;exact r2)
      obtain ⟨m, hmm⟩ : ∃ m, m = es.length := ⟨_, rfl⟩;have HEM := Lib.hid hmm.symm;rw [← hmm] at hm ca4 HRE;clear hx c1 r1 hmm hza hzn hkl;have t1 := H.fa 2 1 rfl rfl;go_wp2_with fail;clear t1 ca4;have H1 := H;clear H
      go_loopw [5, 6, 32] (fun ov qv kv wr => ∃ (k : Nat) (out Q ql : List Int) (gq nq cq j r s : Nat), kv = .int .i64 k ∧ k ≤ m ∧ qv = .slice (some ⟨gq, j, none⟩) r s ∧ Left nq cq j r s Q ql ∧ ql.length = r ∧ nq ≤ out.length + 1 ∧ Bq (nodes L) id out ql (some x) ((es.map fun e => e.2.2.2).take k) ∧ 2 * (T - out.length) + r ≤ M ∧ Hp [] w wr [.row 3 1 (.slice (some ⟨gq, 0, none⟩) nq cq) nq (Q.map (Value.int .i64)), .row 3 1 ov out.length (out.map (Value.int .i64)), .blk w.heap.size 31 [.int .i64 next, .slice (some ⟨bk, of, none⟩) n c]]) (fun _ _ kv _ => m - (intOf kv).toNat)
      case atStart => exact ⟨0, out, Q, ([] : List Int), gq, nq, cq, j, 0, 0, rfl, by omega, rfl, HL2.out, rfl, hnq, by simpa using HBP.out, by rw [HM.out]; exact Nat.le_refl _, H1⟩
      case round =>
       clear H1 hnq;clear HL2 HBQ HBP;obtain ⟨k, out, Q, ql, gq, nq, cq, j, r, s, rfl, hk, rfl, hlf, hqr, hnq, hbq, hmm, H⟩ := hrel;have HLF := Lib.hid hlf;have HQR := Lib.hid hqr;have HBQ := Lib.hid hbq;have HMM := Lib.hid hmm;have hol := hbq.len;rw [← HT.out] at hol;clear hlf hqr hbq hmm;obtain ⟨C, oc, rfl⟩ := H.shape 1 rfl;have hk0 : (0 : Int) ≤ (k : Int) := by omega
       by_cases hkm : k < m
       ·have hk1 : (k : Int) < (m : Int) := by omega
        obtain ⟨⟨y0, y1, y2, y3⟩, hy⟩ := some_at HEM.out hkm;obtain ⟨bq, oq, rfl, hcell⟩ := (HRE.out _ H.fr).elem cEnt_len hy (by omega);have cb0 := hcell 0 _ rfl; simp only [Nat.add_zero] at cb0;have cb1 := hcell 1 _ rfl;have cb2 := hcell 2 _ rfl;have cb3 := hcell 3 _ rfl;have HY := Lib.hid (show (es.map fun e => e.2.2.2).take (k + 1) = (es.map fun e => e.2.2.2).take k ++ [y3] by
         rw [List.take_add_one, List.getElem?_map, hy]; rfl)
        have HYK := Lib.hid (show y3 ∈ kidsL (nodes L) x by
         rw [HKD.out]; exact List.mem_map_of_mem (f := fun e : EntT => e.2.2.2) (List.mem_of_getElem? hy))
        clear hy hcell;go_wp2_with fail;have H2 := H.lay_ 109 [.int .i64 y0, .int .i64 y1, .string y2, .int .i64 y3] rfl;clear cb0 cb1 cb2 cb3 H;obtain ⟨g2, hg2⟩ : ∃ x, x = wr.heap.size := ⟨_, rfl⟩;rw [← hg2] at H2 ⊢;have HG2 := Lib.hid hg2;clear hg2;obtain ⟨w2, hw2⟩ : ∃ x, x = wr.alloc (.cells #[.int .i64 y0, .int .i64 y1, .string y2, .int .i64 y3] 109) := ⟨_, rfl⟩;have H := H2.castW hw2.symm;rw [← hw2];clear hw2 H2;refine (containsI_any C out.length oc out y3 w2 (H.rd 2 rfl) (by omega)).mono ?_;rintro e w3 ⟨rfl, hw3⟩;subst hw3
        by_cases hin : y3 ∈ out
        ·have hd : decide (y3 ∈ out) = true := decide_eq_true hin
         have HBN := Lib.hid (HBQ.out.old hin);rw [hd];clear hd hin;have H9 := H.tail;clear H;go_wp2_with fail;go_roundw
         case rel => exact ⟨k + 1, out, Q, ql, gq, nq, cq, j, r, s, by go_num, by omega, rfl, HLF.out, HQR.out, hnq, by rw [HY.out]; exact HBN.out, HMM.out, H9⟩
         case measure => simp [intOf]; omega
        ·have hd : decide (y3 ∈ out) = false := decide_eq_false hin
         have HBN := Lib.hid (HBQ.out.fresh hin HYK.out);have hol2 := HBN.out.len;rw [← HT.out, List.length_append, List.length_singleton] at hol2;rw [hd];clear hd hin;have t3 := H.fa 0 3 rfl rfl;have H3 := H;clear H;go_wp2_with (at_builtin; refine wp_appM (f := Value.int .i64) (H3) rfl _ _ _ rfl Tryz.underlying81 infoInt rfl 2 _ _ rfl rfl _ _ (y3) rfl (by simp) rfl (by first | (simp only [maxLen]; omega) | (simp [maxLen]; done) | (simp [maxLen]; omega)) (by first | omega | (simp; done) | (simp; omega)) ?_)
         intro v' w4 H;clear H3 t3;replace H : Hp [] w w4 [.blk g2 109 [.int .i64 y0, .int .i64 y1, .string y2, .int .i64 y3], .row 3 1 (.slice (some ⟨gq, 0, none⟩) nq cq) nq (Q.map (Value.int .i64)), .row 3 1 v' (out ++ [y3]).length ((out ++ [y3]).map (Value.int .i64)), .blk w.heap.size 31 [.int .i64 next, .slice (some ⟨bk, of, none⟩) n c]] := H.recast (by simp);have t3 := H.fa 0 3 rfl rfl;have H3 := H;clear H;go_wp2_with (at_builtin; refine wp_appShift (f := Value.int .i64) H3 rfl _ _ _ rfl Tryz.underlying81 infoInt rfl 1 gq nq cq j r s Q ql rfl HLF.out rfl _ _ y3 rfl (by simp) rfl (by simp only [maxLen]; omega) (by omega) ?_);intro g' j' r' q' n' cap' L' w5 hn' hlf' H;clear H3 t3;have HLN := Lib.hid hlf';have HRL := Lib.hid (show (ql ++ [y3]).length = r' by
          have hl9 : L'.length = n' := by simpa using (H.row 1 rfl).1
          rcases hlf' with ⟨h1, h2, h3⟩ | ⟨h1, h2, h3⟩
          ·rw [h3, h1]; rfl
          ·rw [h3, List.length_drop]; omega)
         have HQ2 := HRL.out;rw [List.length_append, List.length_singleton, HQR.out] at HQ2;clear hlf';have H9 := H.tail;have hn9 : n' ≤ (out ++ [y3]).length + 1 := by rw [List.length_append, List.length_singleton]; omega
         have HM9 := Lib.hid (show 2 * (T - (out ++ [y3]).length) + r' ≤ M by
          have := HMM.out;rw [List.length_append, List.length_singleton]; omega)
         clear H;go_wp2_with fail;go_roundw
         case rel => exact ⟨k + 1, out ++ [y3], L', ql ++ [y3], g', n', cap', j', r', q', by go_num, by omega, rfl, HLN.out, HRL.out, hn9, by rw [HY.out]; exact HBN.out, HM9.out, H9.recast (by simp)⟩
         case measure => simp [intOf]; omega
       ·have hk1 : ¬ (k : Int) < (m : Int) := by omega
        have HBC := Lib.hid (show Bq (nodes L) id out ql none [] from HBQ.out.close (by
         rw [HKD.out];intro y hy
         rwa [List.take_of_length_le (by rw [List.length_map, HEM.out]; omega)]))
        go_wp2_with fail;go_roundw
        case rel => exact ⟨out, Q, ql, gq, nq, cq, j, r, s, rfl, HLF.out, HQR.out, hnq, HBC.out, H⟩
        case measure => have := HMM.out; have := HM.out; simp only [slen]; omega
    ·have hs2 : ¬ (s1 + 1 = 1) := by omega
     have hs3 : (s1 + 1 = 1) = False := eq_false hs2;have hs4 : (s1 = 0) = False := eq_false hs0;have HL2 := Lib.hid (show Left nq cq (j + 1) ql1.length s1 Q ql1 from .inr ⟨by have := HN9.out; omega, by have := HN9.out; omega, HQ1.out⟩);have HBP := Lib.hid (show Bq (nodes L) id out ql1 (some x) [] from HBQ.out.pop);obtain ⟨M, hM⟩ : ∃ M, M = 2 * (T - out.length) + ql1.length := ⟨_, rfl⟩;have HM := Lib.hid hM;clear hM
     rcases atZ_cases (nodes L) x with ⟨hza, hzn⟩ | ⟨k, hza, hzn, hkl⟩
     ·have HK0 := Lib.hid (show kidsL (nodes L) x = [] by rw [kidsL, hzn])
      have hz1 : z = -1 := HZ.out.trans hza;subst hz1;clear hza hzn;have HBC := Lib.hid (show Bq (nodes L) id out ql1 none [] from HBP.out.close (by rw [HK0.out]; simp));go_wp2_with fail;go_roundw
      case rel => exact ⟨out, Q, ql1, gq, nq, cq, j + 1, ql1.length, s1, rfl, HL2.out, rfl, hnq, HBC.out, H⟩
      case measure => simp only [slen]; omega
     ·have hz1 : z = (k : Int) := HZ.out.trans hza
      subst hz1;have hkn : k < n := by rw [nodes_len, HL.out] at hkl; exact hkl
      have hk0 : (0 : Int) ≤ (k : Int) := by omega
      have hk1 : (k : Int) < (n : Int) := by omega
      have hk2 : ¬ (k : Int) < 0 := by omega
      obtain ⟨⟨v, x0, x1, x2, x3, es⟩, hx⟩ := some_at HL.out hkn;have hm := HFE.out _ (List.mem_of_getElem? hx);obtain ⟨bk, of, B1, d1, rfl, e1, r1, c1⟩ := (HR.out.fr H.fr).elem hx;simp only at e1 r1 hm;subst e1;have ca4 := c1 4 _ rfl;have HKD := Lib.hid (kids_of hzn (nodes_at hx));simp only at HKD;have HRE := Lib.hid (show ∀ w', Fr w w' → Rd w' B1 es.length 4 (es.flatMap cEnt) from fun w' f => by
       obtain ⟨_, _, B2, d2, _, e2, r2, _⟩ := (HR.out.fr f).elem hx;simp only at e2 r2;injection e2 with e2 _ _;subst e2;exact r2)
      obtain ⟨m, hmm⟩ : ∃ m, m = es.length := ⟨_, rfl⟩;have HEM := Lib.hid hmm.symm;rw [← hmm] at hm ca4 HRE;clear hx c1 r1 hmm hza hzn hkl;have t1 := H.fa 2 1 rfl rfl;go_wp2_with fail;clear t1 ca4;have H1 := H;clear H
      go_loopw [5, 6, 32] (fun ov qv kv wr => ∃ (k : Nat) (out Q ql : List Int) (gq nq cq j r s : Nat), kv = .int .i64 k ∧ k ≤ m ∧ qv = .slice (some ⟨gq, j, none⟩) r s ∧ Left nq cq j r s Q ql ∧ ql.length = r ∧ nq ≤ out.length + 1 ∧ Bq (nodes L) id out ql (some x) ((es.map fun e => e.2.2.2).take k) ∧ 2 * (T - out.length) + r ≤ M ∧ Hp [] w wr [.row 3 1 (.slice (some ⟨gq, 0, none⟩) nq cq) nq (Q.map (Value.int .i64)), .row 3 1 ov out.length (out.map (Value.int .i64)), .blk w.heap.size 31 [.int .i64 next, .slice (some ⟨bk, of, none⟩) n c]]) (fun _ _ kv _ => m - (intOf kv).toNat)
      case atStart => exact ⟨0, out, Q, ql1, gq, nq, cq, j + 1, ql1.length, s1, rfl, by omega, rfl, HL2.out, rfl, hnq, by simpa using HBP.out, by rw [HM.out]; exact Nat.le_refl _, H1⟩
      case round =>
       clear H1 hnq;clear HL2 HBQ HBP;obtain ⟨k, out, Q, ql, gq, nq, cq, j, r, s, rfl, hk, rfl, hlf, hqr, hnq, hbq, hmm, H⟩ := hrel;have HLF := Lib.hid hlf;have HQR := Lib.hid hqr;have HBQ := Lib.hid hbq;have HMM := Lib.hid hmm;have hol := hbq.len;rw [← HT.out] at hol;clear hlf hqr hbq hmm;obtain ⟨C, oc, rfl⟩ := H.shape 1 rfl;have hk0 : (0 : Int) ≤ (k : Int) := by omega
       by_cases hkm : k < m
       ·have hk1 : (k : Int) < (m : Int) := by omega
        obtain ⟨⟨y0, y1, y2, y3⟩, hy⟩ := some_at HEM.out hkm;obtain ⟨bq, oq, rfl, hcell⟩ := (HRE.out _ H.fr).elem cEnt_len hy (by omega);have cb0 := hcell 0 _ rfl; simp only [Nat.add_zero] at cb0;have cb1 := hcell 1 _ rfl;have cb2 := hcell 2 _ rfl;have cb3 := hcell 3 _ rfl;have HY := Lib.hid (show (es.map fun e => e.2.2.2).take (k + 1) = (es.map fun e => e.2.2.2).take k ++ [y3] by
         rw [List.take_add_one, List.getElem?_map, hy]; rfl)
        have HYK := Lib.hid (show y3 ∈ kidsL (nodes L) x by
         rw [HKD.out]; exact List.mem_map_of_mem (f := fun e : EntT => e.2.2.2) (List.mem_of_getElem? hy))
        clear hy hcell;go_wp2_with fail;have H2 := H.lay_ 109 [.int .i64 y0, .int .i64 y1, .string y2, .int .i64 y3] rfl;clear cb0 cb1 cb2 cb3 H;obtain ⟨g2, hg2⟩ : ∃ x, x = wr.heap.size := ⟨_, rfl⟩;rw [← hg2] at H2 ⊢;have HG2 := Lib.hid hg2;clear hg2;obtain ⟨w2, hw2⟩ : ∃ x, x = wr.alloc (.cells #[.int .i64 y0, .int .i64 y1, .string y2, .int .i64 y3] 109) := ⟨_, rfl⟩;have H := H2.castW hw2.symm;rw [← hw2];clear hw2 H2;refine (containsI_any C out.length oc out y3 w2 (H.rd 2 rfl) (by omega)).mono ?_;rintro e w3 ⟨rfl, hw3⟩;subst hw3
        by_cases hin : y3 ∈ out
        ·have hd : decide (y3 ∈ out) = true := decide_eq_true hin
         have HBN := Lib.hid (HBQ.out.old hin);rw [hd];clear hd hin;have H9 := H.tail;clear H;go_wp2_with fail;go_roundw
         case rel => exact ⟨k + 1, out, Q, ql, gq, nq, cq, j, r, s, by go_num, by omega, rfl, HLF.out, HQR.out, hnq, by rw [HY.out]; exact HBN.out, HMM.out, H9⟩
         case measure => simp [intOf]; omega
        ·have hd : decide (y3 ∈ out) = false := decide_eq_false hin
         have HBN := Lib.hid (HBQ.out.fresh hin HYK.out);have hol2 := HBN.out.len;rw [← HT.out, List.length_append, List.length_singleton] at hol2;rw [hd];clear hd hin;have t3 := H.fa 0 3 rfl rfl;have H3 := H;clear H;go_wp2_with (at_builtin; refine wp_appM (f := Value.int .i64) (H3) rfl _ _ _ rfl Tryz.underlying81 infoInt rfl 2 _ _ rfl rfl _ _ (y3) rfl (by simp) rfl (by first | (simp only [maxLen]; omega) | (simp [maxLen]; done) | (simp [maxLen]; omega)) (by first | omega | (simp; done) | (simp; omega)) ?_)
         intro v' w4 H;clear H3 t3;replace H : Hp [] w w4 [.blk g2 109 [.int .i64 y0, .int .i64 y1, .string y2, .int .i64 y3], .row 3 1 (.slice (some ⟨gq, 0, none⟩) nq cq) nq (Q.map (Value.int .i64)), .row 3 1 v' (out ++ [y3]).length ((out ++ [y3]).map (Value.int .i64)), .blk w.heap.size 31 [.int .i64 next, .slice (some ⟨bk, of, none⟩) n c]] := H.recast (by simp);have t3 := H.fa 0 3 rfl rfl;have H3 := H;clear H;go_wp2_with (at_builtin; refine wp_appShift (f := Value.int .i64) H3 rfl _ _ _ rfl Tryz.underlying81 infoInt rfl 1 gq nq cq j r s Q ql rfl HLF.out rfl _ _ y3 rfl (by simp) rfl (by simp only [maxLen]; omega) (by omega) ?_);intro g' j' r' q' n' cap' L' w5 hn' hlf' H;clear H3 t3;have HLN := Lib.hid hlf';have HRL := Lib.hid (show (ql ++ [y3]).length = r' by
          have hl9 : L'.length = n' := by simpa using (H.row 1 rfl).1
          rcases hlf' with ⟨h1, h2, h3⟩ | ⟨h1, h2, h3⟩
          ·rw [h3, h1]; rfl
          ·rw [h3, List.length_drop]; omega)
         have HQ2 := HRL.out;rw [List.length_append, List.length_singleton, HQR.out] at HQ2;clear hlf';have H9 := H.tail;have hn9 : n' ≤ (out ++ [y3]).length + 1 := by rw [List.length_append, List.length_singleton]; omega
         have HM9 := Lib.hid (show 2 * (T - (out ++ [y3]).length) + r' ≤ M by
          have := HMM.out;rw [List.length_append, List.length_singleton]; omega)
         clear H;go_wp2_with fail;go_roundw
         case rel => exact ⟨k + 1, out ++ [y3], L', ql ++ [y3], g', n', cap', j', r', q', by go_num, by omega, rfl, HLN.out, HRL.out, hn9, by rw [HY.out]; exact HBN.out, HM9.out, H9.recast (by simp)⟩
         case measure => simp [intOf]; omega
       ·have hk1 : ¬ (k : Int) < (m : Int) := by omega
        have HBC := Lib.hid (show Bq (nodes L) id out ql none [] from HBQ.out.close (by
         rw [HKD.out];intro y hy
         rwa [List.take_of_length_le (by rw [List.length_map, HEM.out]; omega)]))
        go_wp2_with fail;go_roundw
        case rel => exact ⟨out, Q, ql, gq, nq, cq, j, r, s, rfl, HLF.out, HQR.out, hnq, HBC.out, H⟩
        case measure => have := HMM.out; have := HM.out; simp only [slen]; omega
end Go.Proofs.YtllonpbhgbhogaaGreatDoor
