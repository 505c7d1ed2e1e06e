/-
  Many texts in one: Scan, InodeOf, BlocksV, MReadB, VolAt.
-/
import Derived.Test.YtmpldngnkacnmaaGreatDoorGh
import Derived.Test.YtmpldngnkacnmaaGreatDoorGe
import Derived.Test.YtmpldngnkacnmaaGreatDoorGg
import Derived.Laws.ResultCell
import Derived.Test.YtmpldngnkacnmaaGreatDoorTextN2
import Derived.Test.YtmpldngnkacnmaaGreatDoorGc
set_option linter.unusedVariables false
set_option linter.unusedSimpArgs false
namespace Go.Proofs.YtmpldngnkacnmaaGreatDoor
open Go.RowKit
theorem Hp.turnBlk {W : List Nat} {w0 w w' : World} {l : List Ob} {g : Nat} {t t' : TypeId} {cs cs' : List Value} (h : Hp W w0 w l) (i : Nat) (hi : l[i]? = some (.blk g t cs)) (K : Hp [g] w w' [.blk g t' cs']) : Hp W w0 w' (l.set i (.blk g t' cs')) :=
 h.turn i hi K.gr (K.ok _ List.mem_cons_self) fun b hb => .inl hb
theorem ext_tail (r : List UInt8) (k : Nat) : (ofB r).extract k (ofB r).size = ofB (r.drop k) := by
 rw [extract_ofB, List.take_of_length_le (by rw [List.length_drop, ofB_size]; omega)]
theorem ext_head (r : List UInt8) (k : Nat) : (ofB r).extract 0 k = ofB (r.take k) := by
 rw [extract_ofB, List.drop_zero, Nat.sub_zero]
abbrev scanC (st : Sc) : List Value := [.string (ofB st.1), .bool st.2]
set_option maxRecDepth 100000 in
set_option maxHeartbeats 2000000 in
theorem scanNum_any (g : Nat) (r : List UInt8) (bad : Bool) (w : World) (h : Bk w g 75 (scanC (r, bad))) (hr : r.length ≤ 1099511627776) :
 Calls Tryz.prog 37 #[.pointer (some ⟨g, 0, none⟩)] w fun e w' => e = .returned (.int .i64 ((numP (r, bad)).1 : Int)) ∧ Hp [g] w w' [.blk g 75 (scanC (numP (r, bad)).2)] := by
 have H := Hp.start_blk h;clear h;obtain ⟨S, hS⟩ : ∃ S, S = ofB r := ⟨_, rfl⟩;have HSZ := Lib.hid (show S.size = r.length by rw [hS, ofB_size]);have HTS := Lib.hid (show toB S = r by rw [hS, toB_ofB]);have HS := Lib.hid hS;simp only [scanC] at H ⊢;rw [← hS] at H;obtain ⟨R, hR⟩ : ∃ R, R = readV r := ⟨_, rfl⟩;have hle := readV_le r;rw [← hR] at hle;have HR := Lib.hid hR;clear hR hS;obtain ⟨R1, R2⟩ := R;simp only at hle;have HN := Lib.hid (show numP (r, bad) = if (bad || decide (R2 = 0)) = true then (0, (r, true)) else (R1, (r.drop R2, false)) by rw [numP, ← HR.out])
 obtain ⟨Q, hQ⟩ : ∃ Q, Q = numP (r, bad) := ⟨_, rfl⟩;rw [← hQ] at HN ⊢;clear hQ;obtain ⟨Q1, Q2, Q3⟩ := Q;simp only;have y0 := H.fa 0 0 rfl rfl;have y1 := H.fa 0 1 rfl rfl;go_enter Tryz.func37, Tryz.ntmps37;go_wp2_with fail;refine (implReadVar_any S _ (by rw [HSZ.out]; exact hr)).mono ?_;rintro e w1 ⟨rfl, f1⟩;rw [HTS.out, ← HR.out];replace H := H.go f1;clear f1 y0 y1;have y0 := H.fa 0 0 rfl rfl;have y1 := H.fa 0 1 rfl rfl;have q0 := H.bfree 0 rfl 0;have q1 := H.bfree 0 rfl 1
 by_cases hz : bad = false ∧ R2 ≠ 0
 ·obtain ⟨rfl, hz⟩ := hz
  have hz1 : ((R2 : Int) == 0) = false := by simpa using hz
  have hz2 : ¬ (R2 : Int) = 0 := by omega
  have hk0 : (0 : Int) ≤ (R2 : Int) := by omega
  have hk2 : R2 ≤ S.size := by rw [HSZ.out]; omega
  have hk1 : (R2 : Int) ≤ (S.size : Int) := by omega
  obtain ⟨t1, ht1⟩ : ∃ t, t = S.extract R2 S.size := ⟨_, rfl⟩;have hex : S.extract R2 S.size = t1 := ht1.symm;have HT1 := Lib.hid (show t1 = ofB (r.drop R2) by rw [ht1, HS.out, ext_tail]);clear ht1;have HQ := Lib.hid (HN.out.trans (if_neg (by simp [hz])));obtain ⟨rfl, rfl, rfl⟩ : Q1 = R1 ∧ Q2 = r.drop R2 ∧ Q3 = false := ⟨congrArg Prod.fst HQ.out, congrArg (fun p => p.2.1) HQ.out, congrArg (fun p => p.2.2) HQ.out⟩;have H2 := Lib.hid (H.bput 0 rfl 0 (.string t1));go_wp2_with fail;go_ret;rw [← HT1.out];exact ⟨rfl, H2.out⟩
 ·have HQ := Lib.hid (HN.out.trans (if_pos (by
   cases bad with
   | true => rfl
   | false => simpa using hz)))
  obtain ⟨rfl, rfl, rfl⟩ : Q1 = 0 ∧ Q2 = r ∧ Q3 = true := ⟨congrArg Prod.fst HQ.out, congrArg (fun p => p.2.1) HQ.out, congrArg (fun p => p.2.2) HQ.out⟩;have H2 := Lib.hid (H.bput 0 rfl 1 (.bool true))
  cases bad with
  | true =>
    clear hz;go_wp2_with fail;go_ret;rw [← HS.out];exact ⟨rfl, H2.out⟩
  | false =>
    have hz0 : R2 = 0 := by simpa using hz
    subst hz0;clear hz;go_wp2_with fail;go_ret;rw [← HS.out];exact ⟨rfl, H2.out⟩
set_option maxRecDepth 100000 in
set_option maxHeartbeats 2000000 in
theorem scanCut_any (g : Nat) (r : List UInt8) (bad : Bool) (n : Nat) (w : World) (h : Bk w g 75 (scanC (r, bad))) (hr : r.length ≤ 1099511627776) :
 Calls Tryz.prog 36 #[.pointer (some ⟨g, 0, none⟩), .int .i64 (n : Int)] w fun e w' => e = .returned (.string (ofB (cutP (r, bad) n).1)) ∧ Hp [g] w w' [.blk g 75 (scanC (cutP (r, bad) n).2)] := by
 have H := Hp.start_blk h;clear h;obtain ⟨S, hS⟩ : ∃ S, S = ofB r := ⟨_, rfl⟩;have HSZ := Lib.hid (show S.size = r.length by rw [hS, ofB_size]);have HS := Lib.hid hS;simp only [scanC] at H ⊢;rw [← hS] at H;clear hS;have HN := Lib.hid (show cutP (r, bad) n = if (bad || decide (r.length < n)) = true then ([], (r, true)) else (r.take n, (r.drop n, false)) from rfl)
 obtain ⟨Q, hQ⟩ : ∃ Q, Q = cutP (r, bad) n := ⟨_, rfl⟩;rw [← hQ] at HN ⊢;clear hQ;obtain ⟨Q1, Q2, Q3⟩ := Q;simp only;have y0 := H.fa 0 0 rfl rfl;have y1 := H.fa 0 1 rfl rfl;have q0 := H.bfree 0 rfl 0;have q1 := H.bfree 0 rfl 1;have hn0 : (0 : Int) ≤ (n : Int) := by omega
 go_enter Tryz.func36, Tryz.ntmps36
 cases bad with
 | true =>
   have HQ := Lib.hid (HN.out.trans (if_pos (by rfl)));obtain ⟨rfl, rfl, rfl⟩ : Q1 = [] ∧ Q2 = r ∧ Q3 = true := ⟨congrArg Prod.fst HQ.out, congrArg (fun p => p.2.1) HQ.out, congrArg (fun p => p.2.2) HQ.out⟩;have H2 := Lib.hid (H.bput 0 rfl 1 (.bool true));go_wp2_with fail;go_ret;rw [← HS.out];exact ⟨rfl, H2.out⟩
 | false =>
   go_wp2_with fail;refine (within_any (n : Int) 0 (S.size : Int) _).mono ?_;rintro e w1 ⟨rfl, hw⟩;subst hw
   by_cases hz : n ≤ S.size
   ·have hb : inB (n : Int) 0 (S.size : Int) = true := inB_iff.2 ⟨by omega, by omega⟩
    have hk1 : (n : Int) ≤ (S.size : Int) := by omega
    rw [hb];clear hb;obtain ⟨t0, ht0⟩ : ∃ t, t = S.extract 0 n := ⟨_, rfl⟩;have hex0 : S.extract 0 n = t0 := ht0.symm;have HT0 := Lib.hid (show t0 = ofB (r.take n) by rw [ht0, HS.out, ext_head]);obtain ⟨t1, ht1⟩ : ∃ t, t = S.extract n S.size := ⟨_, rfl⟩;have hex : S.extract n S.size = t1 := ht1.symm;have HT1 := Lib.hid (show t1 = ofB (r.drop n) by rw [ht1, HS.out, ext_tail]);clear ht0 ht1;have HQ := Lib.hid (HN.out.trans (if_neg (by have := HSZ.out; simp; omega)));obtain ⟨rfl, rfl, rfl⟩ : Q1 = r.take n ∧ Q2 = r.drop n ∧ Q3 = false := ⟨congrArg Prod.fst HQ.out, congrArg (fun p => p.2.1) HQ.out, congrArg (fun p => p.2.2) HQ.out⟩;have H2 := Lib.hid (H.bput 0 rfl 0 (.string t1));go_wp2_with fail;go_ret;rw [← HT1.out, ← HT0.out];exact ⟨rfl, H2.out⟩
   ·have hb : inB (n : Int) 0 (S.size : Int) = false := by
     cases hq : inB (n : Int) 0 (S.size : Int) with
     | false => rfl
     | true => have := inB_iff.1 hq; omega
    rw [hb];clear hb;have HQ := Lib.hid (HN.out.trans (if_pos (by have := HSZ.out; simp; omega)));obtain ⟨rfl, rfl, rfl⟩ : Q1 = [] ∧ Q2 = r ∧ Q3 = true := ⟨congrArg Prod.fst HQ.out, congrArg (fun p => p.2.1) HQ.out, congrArg (fun p => p.2.2) HQ.out⟩;have H2 := Lib.hid (H.bput 0 rfl 1 (.bool true));go_wp2_with fail;go_ret;rw [← HS.out];exact ⟨rfl, H2.out⟩
theorem numP_len (st : Sc) : (numP st).2.1.length ≤ st.1.length := by
 rw [numP]; split
 ·exact Nat.le_refl _
 ·simp only [List.length_drop]; omega
theorem cutP_len (st : Sc) (n : Nat) : (cutP st n).2.1.length ≤ st.1.length := by
 rw [cutP]; split
 ·exact Nat.le_refl _
 ·simp only [List.length_drop]; omega
theorem pieceP_len (st : Sc) : (pieceP st).2.1.length ≤ st.1.length := Nat.le_trans (cutP_len _ _) (numP_len st)
theorem manyP_len (st : Sc) (m : Nat) : (manyP st m).2.1.length ≤ st.1.length := by
 rw [manyP]; split
 ·exact numP_len st
 ·split <;> exact numP_len st
theorem pieceP_size (st : Sc) : (pieceP st).1.length ≤ st.1.length := by
 rw [pieceP, cutP]; split
 ·simp
 ·have := numP_len st
  simp only [List.length_take]; omega
set_option maxRecDepth 100000 in
set_option maxHeartbeats 2000000 in
theorem scanPiece_any (g : Nat) (st : Sc) (w : World) (h : Bk w g 75 (scanC st)) (hr : st.1.length ≤ 1099511627776) :
 Calls Tryz.prog 39 #[.pointer (some ⟨g, 0, none⟩)] w fun e w' => e = .returned (.string (ofB (pieceP st).1)) ∧ Hp [g] w w' [.blk g 75 (scanC (pieceP st).2)] := by
 have hl := numP_len st;rw [show pieceP st = cutP ((numP st).2.1, (numP st).2.2) (numP st).1 from rfl];obtain ⟨Q, hQ⟩ : ∃ Q, Q = numP st := ⟨_, rfl⟩;have HN := Lib.hid (show numP (st.1, st.2) = Q from hQ.symm);rw [← hQ] at hl ⊢;clear hQ;obtain ⟨Q1, Q2, Q3⟩ := Q;simp only at hl ⊢;obtain ⟨P, hP⟩ : ∃ P, P = cutP (Q2, Q3) Q1 := ⟨_, rfl⟩;rw [← hP];have HP := Lib.hid hP;clear hP;have HB := Lib.hid h;clear h;go_enter Tryz.func39, Tryz.ntmps39;go_wp2_with fail;refine (scanNum_any g st.1 st.2 _ HB.out hr).mono ?_;rintro e w1 ⟨rfl, K⟩;rw [HN.out] at K ⊢;have HK := Lib.hid K;clear K;have hq : Q2.length ≤ 1099511627776 := Nat.le_trans hl hr;go_wp2_with fail;refine (scanCut_any g Q2 Q3 Q1 _ (HK.out.blk 0 rfl) hq).mono ?_;rintro e w2 ⟨rfl, K2⟩;rw [← HP.out] at K2 ⊢;have H2 := Lib.hid (HK.out.turnBlk 0 rfl K2);clear K2;go_wp2_with fail;go_ret;exact ⟨rfl, H2.out⟩
set_option maxRecDepth 100000 in
set_option maxHeartbeats 2000000 in
theorem scanMany_any (g : Nat) (st : Sc) (most : Nat) (w : World) (h : Bk w g 75 (scanC st)) (hr : st.1.length ≤ 1099511627776) :
 Calls Tryz.prog 38 #[.pointer (some ⟨g, 0, none⟩), .int .i64 (most : Int)] w fun e w' => e = .returned (.int .i64 ((manyP st most).1 : Int)) ∧ Hp [g] w w' [.blk g 75 (scanC (manyP st most).2)] := by
 rw [show manyP st most = if most < (numP st).1 then (0, ((numP st).2.1, true)) else if (numP st).2.2 = true then (0, (numP st).2) else ((numP st).1, (numP st).2) from rfl];obtain ⟨Q, hQ⟩ : ∃ Q, Q = numP st := ⟨_, rfl⟩;have HN := Lib.hid (show numP (st.1, st.2) = Q from hQ.symm);rw [← hQ];clear hQ;obtain ⟨Q1, Q2, Q3⟩ := Q;simp only;obtain ⟨P, hP⟩ : ∃ P : Nat × Sc, P = if most < Q1 then (0, (Q2, true)) else if Q3 = true then (0, (Q2, Q3)) else (Q1, (Q2, Q3)) := ⟨_, rfl⟩;rw [← hP];have HP := Lib.hid hP;clear hP;have HB := Lib.hid h;clear h;obtain ⟨P1, P2, P3⟩ := P;go_enter Tryz.func38, Tryz.ntmps38;go_wp2_with fail;refine (scanNum_any g st.1 st.2 _ HB.out hr).mono ?_;rintro e w1 ⟨rfl, K⟩;rw [HN.out] at K ⊢;simp only [scanC] at K ⊢;have y1 := K.fa 0 1 rfl rfl;have q1 := K.bfree 0 rfl 1
 by_cases hm : most < Q1
 ·have hm1 : (most : Int) < (Q1 : Int) := by omega
  have H2 := Lib.hid (K.bput 0 rfl 1 (.bool true));have HE := Lib.hid (HP.out.trans (if_pos hm));obtain ⟨rfl, rfl, rfl⟩ : P1 = 0 ∧ P2 = Q2 ∧ P3 = true := ⟨congrArg Prod.fst HE.out, congrArg (fun p => p.2.1) HE.out, congrArg (fun p => p.2.2) HE.out⟩;go_wp2_with fail;go_ret;exact ⟨rfl, H2.out⟩
 ·have hm1 : ¬ (most : Int) < (Q1 : Int) := by omega
  have HE := Lib.hid (HP.out.trans (if_neg hm));have H2 := Lib.hid K;clear K
  cases Q3 with
  | true =>
    obtain ⟨rfl, rfl, rfl⟩ : P1 = 0 ∧ P2 = Q2 ∧ P3 = true := ⟨congrArg Prod.fst HE.out, congrArg (fun p => p.2.1) HE.out, congrArg (fun p => p.2.2) HE.out⟩;go_wp2_with fail;go_ret;exact ⟨rfl, H2.out⟩
  | false =>
    obtain ⟨rfl, rfl, rfl⟩ : P1 = Q1 ∧ P2 = Q2 ∧ P3 = false := ⟨congrArg Prod.fst HE.out, congrArg (fun p => p.2.1) HE.out, congrArg (fun p => p.2.2) HE.out⟩;go_wp2_with fail;go_ret;exact ⟨rfl, H2.out⟩
end Go.Proofs.YtmpldngnkacnmaaGreatDoor
namespace Go.Proofs.YtmpldngnkacnmaaGreatDoor
open Go.RowKit
theorem results_cell_tmp_row {P : Program} {fn : Func} {p u : Tmp} {ty : TypeId} (h : fn.results = #[.cell p ty, .tmp u]) (tmps : Array Value) (w : World) (g : Nat) (t : TypeId) (cs : Array Value) (fr : Nat × Nat) (d : TypeDesc)
 (hp : tmps.getD p undef = .pointer (some ⟨g, 0, none⟩)) (hg : w.heap[g]? = some (.cells cs t fr))
 (hu : P.underlying ty = some d) (hd : (match d with | .struct _ | .array _ _ => true | _ => false) = true) (hi : (P.info? ty).map (·.size) = some cs.size) :
 (results fn tmps).run P w = .ok (.tuple #[.agg cs, tmps.getD u undef]) w := by
 rw [results_cell_tmp h, hp];simp [asAddr, run_loadVar_row w g t ty cs fr d hg hu hd hi, Result.andThen]
def setsW (w : World) (g i : Nat) : List Value → World
 | [] => w
 | v :: vs => setsW (w.setCell ⟨g, i, none⟩ v) g (i + 1) vs
theorem Hp.bputs_aux {W : List Nat} {w0 : World} {g : Nat} {t : TypeId} : ∀ (vs pre post : List Value) (w : World) (l : List Ob) (i : Nat), Hp W w0 w l → l[i]? = some (.blk g t (pre ++ post)) → post.length = vs.length → Hp W w0 (setsW w g pre.length vs) (l.set i (.blk g t (pre ++ vs)))
 | [], pre, post, w, l, i, h, hi, hl => by
   have e : post = [] := List.eq_nil_of_length_eq_zero hl;subst e;have e2 : l.set i (.blk g t (pre ++ [])) = l := by
    apply List.ext_getElem?;intro j
    by_cases hij : i = j
    ·subst hij; rw [List.getElem?_set_self (List.getElem?_eq_some_iff.1 hi).1, hi]
    ·rw [List.getElem?_set_ne hij]
   rw [e2]; exact h
 | v :: vs, pre, [], w, l, i, h, hi, hl => by simp at hl
 | v :: vs, pre, p :: post, w, l, i, h, hi, hl => by
   have h1 := h.bput i hi pre.length v;rw [List.set_append_right _ _ (Nat.le_refl _), Nat.sub_self, List.set_cons_zero] at h1;have h2 := Hp.bputs_aux vs (pre ++ [v]) post _ _ i h1 (by rw [List.getElem?_set_self (List.getElem?_eq_some_iff.1 hi).1, List.append_assoc]; rfl) (by simpa using hl);rw [List.set_set, List.length_append, List.append_assoc] at h2;exact h2
theorem Hp.bputs {W : List Nat} {w0 w : World} {l : List Ob} {g : Nat} {t : TypeId} {cs : List Value} (h : Hp W w0 w l) (i : Nat) (hi : l[i]? = some (.blk g t cs)) (vs : List Value) (hl : cs.length = vs.length) : Hp W w0 (setsW w g 0 vs) (l.set i (.blk g t vs)) :=
 Hp.bputs_aux vs [] cs w l i h hi hl
theorem scanNumS (g : Nat) (st : Sc) (w : World) (h : Bk w g 75 (scanC st)) (hr : st.1.length ≤ 1099511627776) :
 Calls Tryz.prog 37 #[.pointer (some ⟨g, 0, none⟩)] w fun e w' => e = .returned (.int .i64 ((numP st).1 : Int)) ∧ Hp [g] w w' [.blk g 75 (scanC (numP st).2)] := scanNum_any g st.1 st.2 w h hr
theorem manyP_le (st : Sc) (m : Nat) : (manyP st m).1 ≤ m := by
 rw [manyP]; split
 ·exact Nat.zero_le _
 ·split
  ·exact Nat.zero_le _
  ·simp only; omega
theorem entP_len (st : Sc) : (entP st).2.1.length ≤ st.1.length :=
 Nat.le_trans (numP_len _) (Nat.le_trans (pieceP_len _) (numP_len st))
theorem entsP_sz (st : Sc) : ∀ k, (entsP st k).2.1.length ≤ st.1.length
 | 0 => Nat.le_refl _
 | k + 1 => Nat.le_trans (entP_len _) (entsP_sz st k)
theorem entsP_len (st : Sc) : ∀ k, (entsP st k).1.length = k
 | 0 => rfl
 | k + 1 => by rw [entsP, List.length_append, entsP_len st k]; rfl
set_option maxRecDepth 100000 in
set_option maxHeartbeats 8000000 in
theorem implInodeOf_any (r : List UInt8) (w : World) (hr : r.length ≤ 16777216) (hk : KT w) :
 Calls Tryz.prog 41 #[.string (ofB r)] w fun e w' => ∃ V : Value, e = .returned (.tuple #[.agg #[.int .i64 (nodR r).1.1, .int .i64 (nodR r).1.2.1, .int .i64 (nodR r).1.2.2.1, .string (nodR r).1.2.2.2.1, V], .bool (nodR r).2]) ∧ Hp [] w w' [.row 90 4 V (nodR r).1.2.2.2.2.length ((nodR r).1.2.2.2.2.flatMap cEnt)] := by
 have hlen := hr;obtain ⟨q1, hq1⟩ : ∃ q : Sc, nodP1 r = q := ⟨_, rfl⟩;obtain ⟨n2, q2, hq2⟩ : ∃ (n : Nat) (q : Sc), nodP2 r = (n, q) := ⟨_, _, rfl⟩;obtain ⟨n3, q3, hq3⟩ : ∃ (n : Nat) (q : Sc), nodP3 r = (n, q) := ⟨_, _, rfl⟩;obtain ⟨n4, q4, hq4⟩ : ∃ (n : Nat) (q : Sc), nodP4 r = (n, q) := ⟨_, _, rfl⟩;obtain ⟨d5, q5, hq5⟩ : ∃ (n : List UInt8) (q : Sc), nodP5 r = (n, q) := ⟨_, _, rfl⟩;obtain ⟨n6, q6, hq6⟩ : ∃ (n : Nat) (q : Sc), nodP6 r = (n, q) := ⟨_, _, rfl⟩;obtain ⟨es, q7, hq7⟩ : ∃ (n : List EntT) (q : Sc), entsP q6 n6 = (n, q) := ⟨_, _, rfl⟩;have E1 := Lib.hid (show (cutP (r, false) 1).2 = q1 from hq1);have E2 := Lib.hid (show numP q1 = (n2, q2) by rw [← hq2, nodP2, hq1]);have E3 := Lib.hid (show numP q2 = (n3, q3) by rw [← hq3, nodP3, hq2]);have E4 := Lib.hid (show numP q3 = (n4, q4) by rw [← hq4, nodP4, hq3]);have E5 := Lib.hid (show pieceP q4 = (d5, q5) by rw [← hq5, nodP5, hq4]);have E6 := Lib.hid (show manyP q5 12 = (n6, q6) by rw [← hq6, nodP6, hq5]);have E7 := Lib.hid hq7;have E8 := Lib.hid (show nodR r = (((n2 : Int), (n3 : Int), (n4 : Int), ofB d5, es), !q7.2) by rw [nodR, hq2, hq3, hq4, hq5, nodP7, hq6, hq7]);have L1 : q1.1.length ≤ 1099511627776 := by rw [← E1.out]; exact Nat.le_trans (cutP_len _ _) (by simp only; omega)
 have L2 : q2.1.length ≤ 1099511627776 := by have := numP_len q1; rw [E2.out] at this; exact Nat.le_trans this L1
 have L3 : q3.1.length ≤ 1099511627776 := by have := numP_len q2; rw [E3.out] at this; exact Nat.le_trans this L2
 have L4 : q4.1.length ≤ 1099511627776 := by have := numP_len q3; rw [E4.out] at this; exact Nat.le_trans this L3
 have L5 : q5.1.length ≤ 1099511627776 := by have := pieceP_len q4; rw [E5.out] at this; exact Nat.le_trans this L4
 have L6 : q6.1.length ≤ 16777216 := by
  have h1 := manyP_len q5 12; rw [E6.out] at h1;have h2 := pieceP_len q4; rw [E5.out] at h2;have h3 := numP_len q3; rw [E4.out] at h3;have h4 := numP_len q2; rw [E3.out] at h4;have h5 := numP_len q1; rw [E2.out] at h5;have h6 := cutP_len (r, false) 1; rw [E1.out] at h6;simp only at h1 h2 h3 h4 h5 h6;omega
 have hn12 : n6 ≤ 12 := by have := manyP_le q5 12; rw [E6.out] at this; exact this
 rw [E8.out];simp only;have HK := Lib.hid hk;clear hq1 hq2 hq3 hq4 hq5 hq6 hq7 E8 hk;have H0 := ((Hp.start w).lay_ 53 [.int .i64 0, .int .i64 0, .int .i64 0, .string (ByteArray.mk #[]), .slice none 0 0] rfl).lay_ 75 (scanC (r, false)) (g := w.heap.size + 1) (by simp);go_enter Tryz.func41, Tryz.ntmps41;go_wp2_with fail;have hc := scanCut_any (w.heap.size + 1) r false 1 _ (H0.blk 0 rfl) (by omega);rw [show ((1 : Nat) : Int) = 1 from rfl] at hc;refine hc.mono ?_;rintro e wA ⟨rfl, K⟩;rw [E1.out] at K;have H := H0.turnBlk 0 rfl K;clear K hc H0;go_wp2_with fail;refine (scanNumS (w.heap.size + 1) q1 _ (H.blk 0 rfl) L1).mono ?_;rintro e wB ⟨rfl, K⟩;rw [E2.out] at K ⊢;simp only at K ⊢;replace H := H.turnBlk 0 rfl K;clear K;go_wp2_with fail;have H2 := H.lay_ 53 [.int .i64 (n2 : Int), .int .i64 0, .int .i64 0, .string (ByteArray.mk #[]), .slice none 0 0] rfl;obtain ⟨gx, hgx⟩ : ∃ x, x = wB.heap.size := ⟨_, rfl⟩;rw [← hgx] at H2 ⊢;have HGX := Lib.hid hgx;clear hgx H;have H := H2;clear H2;refine (scanNumS (w.heap.size + 1) q2 _ (H.blk 1 rfl) L2).mono ?_;rintro e wC ⟨rfl, K⟩;rw [E3.out] at K ⊢;simp only at K ⊢;replace H := H.turnBlk 1 rfl K;clear K;have s0 := H.fa 0 1 rfl rfl;have s1 := H.bfree 0 rfl 1;go_wp2_with fail;replace H := H.bput 0 rfl 1 (.int .i64 (n3 : Int));replace H := H.recast (l' := [.blk gx 53 [.int .i64 (n2 : Int), .int .i64 (n3 : Int), .int .i64 0, .string (ByteArray.mk #[]), .slice none 0 0], .blk (w.heap.size + 1) 75 (scanC q3), .blk w.heap.size 53 [.int .i64 0, .int .i64 0, .int .i64 0, .string (ByteArray.mk #[]), .slice none 0 0]]) rfl;clear s0 s1;refine (scanNumS (w.heap.size + 1) q3 _ (H.blk 1 rfl) L3).mono ?_;rintro e wD ⟨rfl, K⟩;rw [E4.out] at K ⊢;simp only at K ⊢;replace H := H.turnBlk 1 rfl K;clear K;have s0 := H.fa 0 2 rfl rfl;have s1 := H.bfree 0 rfl 2;go_wp2_with fail;replace H := H.bput 0 rfl 2 (.int .i64 (n4 : Int));replace H := H.recast (l' := [.blk gx 53 [.int .i64 (n2 : Int), .int .i64 (n3 : Int), .int .i64 (n4 : Int), .string (ByteArray.mk #[]), .slice none 0 0], .blk (w.heap.size + 1) 75 (scanC q4), .blk w.heap.size 53 [.int .i64 0, .int .i64 0, .int .i64 0, .string (ByteArray.mk #[]), .slice none 0 0]]) rfl;clear s0 s1;refine (scanPiece_any (w.heap.size + 1) q4 _ (H.blk 1 rfl) L4).mono ?_;rintro e wE ⟨rfl, K⟩;rw [E5.out] at K ⊢;simp only at K ⊢;replace H := H.turnBlk 1 rfl K;clear K;have s0 := H.fa 0 3 rfl rfl;have s1 := H.bfree 0 rfl 3;go_wp2_with fail;replace H := H.bput 0 rfl 3 (.string (ofB d5));replace H := H.recast (l' := [.blk gx 53 [.int .i64 (n2 : Int), .int .i64 (n3 : Int), .int .i64 (n4 : Int), .string (ofB d5), .slice none 0 0], .blk (w.heap.size + 1) 75 (scanC q5), .blk w.heap.size 53 [.int .i64 0, .int .i64 0, .int .i64 0, .string (ByteArray.mk #[]), .slice none 0 0]]) rfl;clear s0 s1;have hc := scanMany_any (w.heap.size + 1) q5 12 _ (H.blk 1 rfl) L5;rw [show ((12 : Nat) : Int) = 12 from rfl] at hc;refine hc.mono ?_;rintro e wF ⟨rfl, K⟩;rw [E6.out] at K ⊢;simp only at K ⊢;have H1_ := H.turnBlk 1 rfl K;have H1 : Hp [] w wF [.row 90 4 (.slice none 0 0) (entsP q6 0).1.length ((entsP q6 0).1.flatMap cEnt), .blk gx 53 [.int .i64 (n2 : Int), .int .i64 (n3 : Int), .int .i64 (n4 : Int), .string (ofB d5), .slice none 0 0], .blk (w.heap.size + 1) 75 (scanC (entsP q6 0).2), .blk w.heap.size 53 [.int .i64 0, .int .i64 0, .int .i64 0, .string (ByteArray.mk #[]), .slice none 0 0]] := H1_.nil_ 90 4;clear K hc H H1_;go_wp2_with fail
 go_loopw [28] (fun kv wr => ∃ (k : Nat) (V : Value), kv = .int .i64 k ∧ k ≤ n6 ∧ Hp [] w wr [.row 90 4 V (entsP q6 k).1.length ((entsP q6 k).1.flatMap cEnt), .blk gx 53 [.int .i64 (n2 : Int), .int .i64 (n3 : Int), .int .i64 (n4 : Int), .string (ofB d5), V], .blk (w.heap.size + 1) 75 (scanC (entsP q6 k).2), .blk w.heap.size 53 [.int .i64 0, .int .i64 0, .int .i64 0, .string (ByteArray.mk #[]), .slice none 0 0]]) (fun kv _ => n6 - (intOf kv).toNat)
 case atStart => exact ⟨0, _, rfl, by omega, H1⟩
 case round =>
  clear H1;obtain ⟨k, V, rfl, hk, H⟩ := hrel;have hk0 : (0 : Int) ≤ (k : Int) := by omega
  by_cases hlt : k < n6
  ·have hlt1 : (k : Int) < (n6 : Int) := by omega
   obtain ⟨el, st, hst⟩ : ∃ (l : List EntT) (q : Sc), entsP q6 k = (l, q) := ⟨_, _, rfl⟩;have S0 : st.1.length ≤ 16777216 := by have := entsP_sz q6 k; rw [hst] at this; exact Nat.le_trans this L6
   have hel : el.length = k := by have := entsP_len q6 k; rw [hst] at this; exact this
   rw [hst] at H;simp only at H;obtain ⟨m1, s1, hs1⟩ : ∃ (n : Nat) (q : Sc), numP st = (n, q) := ⟨_, _, rfl⟩;obtain ⟨d2, s2, hs2⟩ : ∃ (n : List UInt8) (q : Sc), pieceP s1 = (n, q) := ⟨_, _, rfl⟩;obtain ⟨m3, s3, hs3⟩ : ∃ (n : Nat) (q : Sc), numP s2 = (n, q) := ⟨_, _, rfl⟩;have S1 : s1.1.length ≤ 16777216 := by have := numP_len st; rw [hs1] at this; exact Nat.le_trans this S0
   have S2 : s2.1.length ≤ 16777216 := by have := pieceP_len s1; rw [hs2] at this; exact Nat.le_trans this S1
   have D2 : (ofB d2).size ≤ 16777216 := by have := pieceP_size s1; rw [hs2] at this; rw [ofB_size]; exact Nat.le_trans this S1
   have F1 := Lib.hid hs1;have F2 := Lib.hid hs2;have F3 := Lib.hid hs3;have HES := Lib.hid (show entsP q6 (k + 1) = (el ++ [(hashN d2, (m1 : Int), ofB d2, (m3 : Int))], s3) by
    rw [entsP, hst];simp only;rw [entP, hs1];simp only;rw [hs2];simp only;rw [hs3])
   clear hst hs1 hs2 hs3;go_wp2_with fail;refine (scanNumS (w.heap.size + 1) st _ (H.blk 2 rfl) (by omega)).mono ?_;rintro e wA ⟨rfl, K⟩;rw [F1.out] at K ⊢;simp only at K ⊢;replace H := H.turnBlk 2 rfl K;clear K;go_wp2_with fail;have H2 := H.lay_ 90 [.int .i64 0, .int .i64 (m1 : Int), .string (ByteArray.mk #[]), .int .i64 0] rfl;obtain ⟨ge, hge⟩ : ∃ x, x = wA.heap.size := ⟨_, rfl⟩;rw [← hge] at H2 ⊢;have HGE := Lib.hid hge;clear hge H;have H := H2;clear H2;refine (scanPiece_any (w.heap.size + 1) s1 _ (H.blk 3 rfl) (by omega)).mono ?_;rintro e wB ⟨rfl, K⟩;rw [F2.out] at K ⊢;simp only at K ⊢;replace H := H.turnBlk 3 rfl K;clear K;have t0 := H.fa 0 2 rfl rfl;have t1 := H.bfree 0 rfl 2;go_wp2_with fail;replace H := H.bput 0 rfl 2 (.string (ofB d2));clear t0 t1;refine (scanNumS (w.heap.size + 1) s2 _ (H.blk 3 rfl) (by omega)).mono ?_;rintro e wC ⟨rfl, K⟩;rw [F3.out] at K ⊢;simp only at K ⊢;replace H := H.turnBlk 3 rfl K;clear K;have t0 := H.fa 0 3 rfl rfl;have t1 := H.bfree 0 rfl 3;have t2 := H.fa 0 2 rfl rfl;have H5 := H.bput 0 rfl 3 (.int .i64 (m3 : Int));have t3 := H5.fa 0 2 rfl rfl;clear H;have H := H5;clear H5;go_wp2_with fail;refine (implHashOf_any (ofB d2) _ D2 (HK.out.fr H.fr)).mono ?_;rintro e wD ⟨rfl, f9⟩;rw [toB_ofB];replace H := H.go f9;clear f9 t0 t1 t2 t3;have t0 := H.fa 0 0 rfl rfl;have t1 := H.bfree 0 rfl 0;have H5 := H.bput 0 rfl 0 (.int .i64 (hashN d2));have u0 := H5.fa 0 0 rfl rfl;have u1 := H5.fa 0 1 rfl rfl;have u2 := H5.fa 0 2 rfl rfl;have u3 := H5.fa 0 3 rfl rfl;have u4 := H5.fa 2 4 rfl rfl;have HX5 : Hp [] w (wD.setCell ⟨ge, 0, none⟩ (.int .i64 (hashN d2))) [.blk ge 90 [.int .i64 (hashN d2), .int .i64 (m1 : Int), .string (ofB d2), .int .i64 (m3 : Int)], .row 90 4 V el.length (el.flatMap cEnt), .blk gx 53 [.int .i64 (n2 : Int), .int .i64 (n3 : Int), .int .i64 (n4 : Int), .string (ofB d5), V], .blk (w.heap.size + 1) 75 (scanC s3), .blk w.heap.size 53 [.int .i64 0, .int .i64 0, .int .i64 0, .string (ByteArray.mk #[]), .slice none 0 0]] := H5;clear H H5;have v1 := HX5.fa 0 1 rfl rfl;go_wp2_with (at_builtin; refine wp_appL (f := cEnt) (HX5) rfl _ _ _ rfl Tryz.underlying51 infoEnt rfl (by decide) 1 _ _ rfl rfl _ _ (((hashN d2, (m1 : Int), ofB d2, (m3 : Int)) : EntT)) rfl (by simp) rfl (by simp [cEnt, Value.oneCell']) (by first | (simp only [maxLen]; omega) | (simp [maxLen]; done) | (simp [maxLen]; omega)) (by first | omega | (simp; done) | (simp; omega)) ?_)
   intro v' w6 H6;have p0 := H6.fa 2 4 rfl rfl;have p1 := H6.bfree 2 rfl 4;have H7 := H6.bput 2 rfl 4 v';have H8 := Lib.hid (show Hp [] w (w6.setCell ⟨gx, 4, none⟩ v') [.row 90 4 v' (entsP q6 (k + 1)).1.length ((entsP q6 (k + 1)).1.flatMap cEnt), .blk gx 53 [.int .i64 (n2 : Int), .int .i64 (n3 : Int), .int .i64 (n4 : Int), .string (ofB d5), v'], .blk (w.heap.size + 1) 75 (scanC (entsP q6 (k + 1)).2), .blk w.heap.size 53 [.int .i64 0, .int .i64 0, .int .i64 0, .string (ByteArray.mk #[]), .slice none 0 0]] by rw [HES.out]; exact H7.tail.recast (by simp [hel]));obtain ⟨C9, q9, hv9⟩ := H6.shape 1 rfl;clear HX5 H6 H7 t0 t1 u0 u1 u2 u3 u4 v1;subst hv9;go_wp2_with fail;go_roundw
   case rel => exact ⟨k + 1, _, by go_num, by omega, H8.out⟩
   case measure => simp [intOf]; omega
  ·have hlt1 : ¬ (k : Int) < (n6 : Int) := by omega
   rw [show k = n6 by omega, E7.out] at H;simp only at H;obtain ⟨C, q, rfl⟩ := H.shape 0 rfl;go_wp2_with fail;replace H := H.drew;have y0 := H.fa 1 0 rfl rfl;have y1 := H.fa 1 1 rfl rfl;have y2 := H.fa 1 2 rfl rfl;have y3 := H.fa 1 3 rfl rfl;have y4 := H.fa 1 4 rfl rfl;have y5 := H.fa 2 1 rfl rfl;refine wp_region_held_drew (S := fun w' => w'.cell? ⟨gx, 0, none⟩ = some (.int .i64 (n2 : Int)) ∧ w'.cell? ⟨gx, 1, none⟩ = some (.int .i64 (n3 : Int)) ∧ w'.cell? ⟨gx, 2, none⟩ = some (.int .i64 (n4 : Int)) ∧ w'.cell? ⟨gx, 3, none⟩ = some (.string (ofB d5)) ∧ w'.cell? ⟨gx, 4, none⟩ = some (.slice C es.length q) ∧ w'.cell? ⟨w.heap.size + 1, 1, none⟩ = some (.bool q7.2)) (by kernel_rfl) ?_ (fun hHeld => ?_)
   ·exact ⟨y0, y1, y2, y3, y4, y5⟩
   obtain ⟨u0, hu0⟩ : ∃ uu : World, uu = wr.drew := ⟨_, rfl⟩;rw [← hu0] at H hHeld ⊢;clear hu0;refine wpT 0 ?_;refine wpT 1 ?_;refine wpT 2 ?_;refine wpT 3 ?_;refine wpT 4 ?_;refine wpT 5 ?_;refine wpC 6 fun K hK => ?_;have e0 := H.bfree 3 rfl 0;have e1 := H.bfree 3 rfl 1;have e2 := H.bfree 3 rfl 2;have e3 := H.bfree 3 rfl 3;have e4 := H.bfree 3 rfl 4;have s0 := H.fa 3 0 rfl rfl;have s1 := H.fa 3 1 rfl rfl;have s2 := H.fa 3 2 rfl rfl;have s3 := H.fa 3 3 rfl rfl;have s4 := H.fa 3 4 rfl rfl;replace H := H.bputs 3 rfl [.int .i64 (n2 : Int), .int .i64 (n3 : Int), .int .i64 (n4 : Int), .string (ofB d5), .slice C es.length q] rfl;simp only [setsW] at H;go_simp;refine hK.out _ _ ?_ fun hHeld => ?_
   ·exact ⟨H.fa 1 0 rfl rfl, H.fa 1 1 rfl rfl, H.fa 1 2 rfl rfl, H.fa 1 3 rfl rfl, H.fa 1 4 rfl rfl, H.fa 2 1 rfl rfl⟩
   clear hK K;(try simp only [sX, Act.put]);refine wpT 7 ?_;refine wpAnyH_done (by kernel_rfl) ?_ _;go_wp2_with fail
   ((try simp only [Exit.inBlock, Exit.then]); refine bodyPost_ret (results_cell_tmp_row rfl _ _ w.heap.size 53 #[.int .i64 (n2 : Int), .int .i64 (n3 : Int), .int .i64 (n4 : Int), .string (ofB d5), .slice C es.length q] (0, 0) _ rfl (H.blk 3 rfl) Tryz.underlying53 rfl (by kernel_rfl)) rfl ?_)
   exact ⟨_, rfl, H.sub (by simp)⟩
end Go.Proofs.YtmpldngnkacnmaaGreatDoor
namespace Go.Proofs.YtmpldngnkacnmaaGreatDoor
open Go.RowKit
def blkAt (l : List Nod) (i : Nat) : ByteArray := match l[i]? with
 | some x => ofB (nodeB x)
 | none => ⟨#[]⟩
theorem blocksB_eq (next : Int) (l : List Nod) : blocksB next l = ofB (headB next l.length) :: (List.range 16).map (blkAt l) := rfl
theorem blocksB_len (next : Int) (l : List Nod) : (blocksB next l).length = 17 := by rw [blocksB_eq]; simp
theorem blocksB_take (next : Int) (l : List Nod) {i : Nat} (h : i < 16) : (blocksB next l).take (i + 2) = (blocksB next l).take (i + 1) ++ [blkAt l i] := by
 have hx : (blocksB next l)[i + 1]? = some (blkAt l i) := by rw [blocksB_eq]; simp [h]
 rw [List.take_add_one, hx]; rfl
theorem headB_ofB (next : Int) (n : Nat) : (ByteArray.mk #[117] ++ varS next) ++ varS (n : Int) = ofB (headB next n) := by
 have e : ByteArray.mk #[117] = ofB [117] := rfl;rw [e, varS, varS, ofB_append, ofB_append, headB];simp [List.append_assoc]
def NodSz (L : List (Value × Nod)) : Prop := ∀ p ∈ L, p.2.2.2.2.1.size ≤ 1099511627776 ∧ p.2.2.2.2.2.length ≤ 1048576 ∧ (nodeB p.2).length ≤ 2199023255552
set_option maxRecDepth 100000 in
set_option maxHeartbeats 8000000 in
theorem volBlocks_any (next : Int) (A : Option Addr) (n c : Nat) (L : List (Value × Nod)) (w : World) (h : RdN w A n L) (hn : n ≤ 1048576) (hsz : NodSz L) :
 Calls Tryz.prog 22 #[.agg #[.int .i64 next, .slice A n c]] w (Made w 9 1 17 ((blocksB next (nodes L)).map Value.string)) := by
 have hz0 := varS_size next;have hz1 := varS_size (n : Int);have HE := Lib.hid (headB_ofB next n);obtain ⟨t0, ht0⟩ : ∃ x, varS next = x := ⟨_, rfl⟩;obtain ⟨t1, ht1⟩ : ∃ x, varS (n : Int) = x := ⟨_, rfl⟩;rw [ht0] at hz0;rw [ht1] at hz1;have HE := Lib.hid (show (ByteArray.mk #[117] ++ t0) ++ t1 = ofB (headB next n) by rw [← ht0, ← ht1]; exact HE.out);have HT0 := Lib.hid ht0;have HT1 := Lib.hid ht1;clear ht0 ht1;obtain ⟨BB, hBB⟩ : ∃ x, x = blocksB next (nodes L) := ⟨_, rfl⟩;rw [← hBB];have HNL := Lib.hid (show (nodes L).length = n by rw [nodes_len]; exact h.len);have HB0 := Lib.hid (show BB.take 1 = [ofB (headB next n)] by rw [hBB, blocksB_eq, HNL.out]; rfl);have HBL := Lib.hid (show BB.length = 17 by rw [hBB]; exact blocksB_len _ _);have HBT := Lib.hid (show ∀ i : Nat, i < 16 → BB.take (i + 2) = BB.take (i + 1) ++ [blkAt (nodes L) i] from fun i hi => by rw [hBB]; exact blocksB_take _ _ hi);clear hBB;have HL := Lib.hid h.len;have HR := Lib.hid h;have HSZ := Lib.hid hsz;clear h hsz;have cc0 : (9223372036854775807 < 1 + t0.size) = False := eq_false (by omega);have cc1 : (9223372036854775807 < 1 + t0.size + t1.size) = False := eq_false (by omega);have H := ((Hp.start w).lay_ 28 [.int .i64 next, .slice A n c] rfl).drew;obtain ⟨g, hg⟩ : ∃ x, x = w.heap.size := ⟨_, rfl⟩;rw [← hg] at H;have HG := Lib.hid hg;clear hg;have y0 := H.fa 0 0 rfl rfl;have y1 := H.fa 0 1 rfl rfl;go_enter Tryz.func22, Tryz.ntmps22;go_wp2_with fail;rw [← HG.out];refine wp_region_held_drew (S := fun w' => w'.cell? ⟨g, 0, none⟩ = some (.int .i64 next) ∧ w'.cell? ⟨g, 1, none⟩ = some (.slice A n c)) (by kernel_rfl) ?_ (fun hHeld => ?_)
 ·exact ⟨y0, y1⟩
 obtain ⟨u0, hu0⟩ : ∃ uu : World, uu = (w.alloc (.cells #[.int .i64 next, .slice A n c] 28)).drew := ⟨_, rfl⟩;rw [← hu0] at H hHeld ⊢;clear hu0;refine wpT 0 ?_;refine wpT 1 ?_;refine wpT 4 ?_;refine wpT 5 ?_;refine wpT 6 ?_;refine wpC 2 fun K hK => ?_;go_simp;refine (implVar_any next _).mono ?_;rintro e u1 ⟨rfl, f9⟩;replace H := H.go f9;clear f9;rw [HT0.out];go_wp2_with fail;refine hK.out _ _ ?_ fun hHeld => ?_
 ·exact ⟨H.fa 0 0 rfl rfl, H.fa 0 1 rfl rfl⟩
 clear hK K;(try simp only [sX, Act.put]);refine wpT 3 ?_;refine wpC 7 fun K hK => ?_;go_simp;refine (implVar_any (n : Int) _).mono ?_;rintro e u2 ⟨rfl, f9⟩;replace H := H.go f9;clear f9;rw [HT1.out];go_wp2_with fail;refine hK.out _ _ ?_ fun hHeld => ?_
 ·exact ⟨H.fa 0 0 rfl rfl, H.fa 0 1 rfl rfl⟩
 clear hK K;(try simp only [sX, Act.put]);refine wpT 8 ?_;refine wpC 9 fun K hK => ?_;replace H := H.lit 9 1 1 [.string ((ByteArray.mk #[117] ++ t0) ++ t1)] rfl (by simp [maxLen]);go_simp;obtain ⟨h5, hh5⟩ : ∃ x, x = u2.heap.size := ⟨_, rfl⟩;rw [← hh5] at H ⊢;clear hh5;obtain ⟨u3, hv⟩ : ∃ uu : World, uu = u2.alloc (.cells #[.string ((ByteArray.mk #[117] ++ t0) ++ t1)] 9) := ⟨_, rfl⟩;rw [← hv] at H ⊢;clear hv;refine hK.out _ _ ?_ fun hHeld => ?_
 ·exact ⟨H.fa 1 0 rfl rfl, H.fa 1 1 rfl rfl⟩
 clear hK K;(try simp only [sX, Act.put]);refine wpT 10 ?_;refine wpAnyH_done (by kernel_rfl) ?_ _;clear y0 y1 cc0 cc1 hz0 hz1 HT0 HT1;have H0 : Hp [] w _ [.row 9 1 (.slice (some ⟨h5, 0, none⟩) 1 1) (BB.take 1).length ((BB.take 1).map Value.string), .blk g 28 [.int .i64 next, .slice A n c]] := H.recast (by rw [HB0.out, ← HE.out]; rfl);clear H HE HG;go_wp2_with fail
 go_loopw [3, 16] (fun sv iv wr => ∃ i : Nat, iv = .int .i64 i ∧ i ≤ 16 ∧ Hp [] w wr [.row 9 1 sv (BB.take (i + 1)).length ((BB.take (i + 1)).map Value.string), .blk g 28 [.int .i64 next, .slice A n c]]) (fun _ iv _ => 16 - (intOf iv).toNat)
 case atStart => exact ⟨0, rfl, by omega, H0⟩
 case round =>
  clear H0;obtain ⟨i, rfl, hi, H⟩ := hrel;have y1 := H.fa 1 1 rfl rfl;have hi0 : (0 : Int) ≤ (i : Int) := by omega
  by_cases hlt : i < 16
  ·have hlt1 : (i : Int) < 16 := by omega
   by_cases hin : i < n
   ·have hin1 : (i : Int) < (n : Int) := by omega
    obtain ⟨⟨v, x0, x1, x2, x3, es⟩, hx⟩ := some_at HL.out hin;obtain ⟨bk, of, B1, d1, rfl, e1, r1, c1⟩ := (HR.out.fr H.fr).elem hx;simp only at e1 r1;subst e1;have ca0 := c1 0 _ rfl; simp only [Nat.add_zero] at ca0;have ca1 := c1 1 _ rfl;have ca2 := c1 2 _ rfl;have ca3 := c1 3 _ rfl;have ca4 := c1 4 _ rfl;have HSX := Lib.hid (HSZ.out _ (List.mem_of_getElem? hx));have HBA := Lib.hid (show blkAt (nodes L) i = ofB (nodeB (x0, x1, x2, x3, es)) by rw [blkAt, nodes, List.getElem?_map, hx]; rfl);clear hx c1;go_wp2_with fail;refine (inodeText_any x0 x1 x2 x3 es B1 es.length d1 _ r1 HSX.out.2.1 HSX.out.1 HSX.out.2.2).mono ?_;rintro e w5 ⟨rfl, f5⟩;rw [← HBA.out];have H5 := H.go f5;clear H f5 r1 ca0 ca1 ca2 ca3 ca4 y1;go_wp2_with (at_builtin; refine wp_appM (f := Value.string) (H5) rfl _ _ _ rfl Tryz.underlying24 infoString rfl 0 _ _ rfl rfl _ _ (blkAt (nodes L) i) rfl (by simp) rfl (by first | (simp only [maxLen]; omega) | (simp [maxLen]; done) | (simp [maxLen]; omega)) (by first | omega | (simp; done) | (simp; omega)) ?_)
    intro v' w6 H6;have H7 := Lib.hid (show Hp [] w w6 [.row 9 1 v' (BB.take (i + 1 + 1)).length ((BB.take (i + 1 + 1)).map Value.string), .blk g 28 [.int .i64 next, .slice (some ⟨bk, of, none⟩) n c]] from H6.recast (by
     rw [HBT.out i hlt]; simp))
    clear H5 H6;go_wp2_with fail;go_roundw
    case rel => exact ⟨i + 1, by go_num, by omega, H7.out⟩
    case measure => simp [intOf]; omega
   ·have hin1 : ¬ ((i : Int) < (n : Int)) := by omega
    have HBA := Lib.hid (show blkAt (nodes L) i = ByteArray.mk #[] by rw [blkAt, List.getElem?_eq_none (by rw [HNL.out]; omega)]);go_wp2_with (at_builtin; refine wp_appM (f := Value.string) (H) rfl _ _ _ rfl Tryz.underlying24 infoString rfl 0 _ _ rfl rfl _ _ (ByteArray.mk #[]) rfl (by simp) rfl (by first | (simp only [maxLen]; omega) | (simp [maxLen]; done) | (simp [maxLen]; omega)) (by first | omega | (simp; done) | (simp; omega)) ?_)
    intro v' w6 H6;have H7 := Lib.hid (show Hp [] w w6 [.row 9 1 v' (BB.take (i + 1 + 1)).length ((BB.take (i + 1 + 1)).map Value.string), .blk g 28 [.int .i64 next, .slice A n c]] from H6.recast (by
     rw [HBT.out i hlt, HBA.out]; simp))
    clear H H6 y1;go_wp2_with fail;go_roundw
    case rel => exact ⟨i + 1, by go_num, by omega, H7.out⟩
    case measure => simp [intOf]; omega
  ·have hlt1 : ¬ ((i : Int) < 16) := by omega
   have hi16 : i + 1 = 17 := by omega
   have ht : BB.take (i + 1) = BB := List.take_of_length_le (by rw [HBL.out]; omega);rw [ht, HBL.out] at H;obtain ⟨C, q, rfl⟩ := H.shape 0 rfl;have H9 := Lib.hid H.drop1;clear H y1;go_wp2_with fail;go_ret;exact H9.out.toMade 0 rfl
set_option maxRecDepth 100000 in
set_option maxHeartbeats 8000000 in
theorem l7Blocks_any (next : Int) (A : Option Addr) (n c : Nat) (L : List (Value × Nod)) (w : World) (h : RdN w A n L) (hn : n ≤ 1048576) (hsz : NodSz L) :
 Calls Tryz.prog 32 #[.agg #[.int .i64 next, .slice A n c]] w (Made w 9 1 17 ((blocksB next (nodes L)).map Value.string)) := by
 have hz0 := varS_size next;have hz1 := varS_size (n : Int);have HE := Lib.hid (headB_ofB next n);obtain ⟨t0, ht0⟩ : ∃ x, varS next = x := ⟨_, rfl⟩;obtain ⟨t1, ht1⟩ : ∃ x, varS (n : Int) = x := ⟨_, rfl⟩;rw [ht0] at hz0;rw [ht1] at hz1;have HE := Lib.hid (show (ByteArray.mk #[117] ++ t0) ++ t1 = ofB (headB next n) by rw [← ht0, ← ht1]; exact HE.out);have HT0 := Lib.hid ht0;have HT1 := Lib.hid ht1;clear ht0 ht1;obtain ⟨BB, hBB⟩ : ∃ x, x = blocksB next (nodes L) := ⟨_, rfl⟩;rw [← hBB];have HNL := Lib.hid (show (nodes L).length = n by rw [nodes_len]; exact h.len);have HB0 := Lib.hid (show BB.take 1 = [ofB (headB next n)] by rw [hBB, blocksB_eq, HNL.out]; rfl);have HBL := Lib.hid (show BB.length = 17 by rw [hBB]; exact blocksB_len _ _);have HBT := Lib.hid (show ∀ i : Nat, i < 16 → BB.take (i + 2) = BB.take (i + 1) ++ [blkAt (nodes L) i] from fun i hi => by rw [hBB]; exact blocksB_take _ _ hi);clear hBB;have HL := Lib.hid h.len;have HR := Lib.hid h;have HSZ := Lib.hid hsz;clear h hsz;have cc0 : (9223372036854775807 < 1 + t0.size) = False := eq_false (by omega);have cc1 : (9223372036854775807 < 1 + t0.size + t1.size) = False := eq_false (by omega);have H := ((Hp.start w).lay_ 28 [.int .i64 next, .slice A n c] rfl).drew;obtain ⟨g, hg⟩ : ∃ x, x = w.heap.size := ⟨_, rfl⟩;rw [← hg] at H;have HG := Lib.hid hg;clear hg;have y0 := H.fa 0 0 rfl rfl;have y1 := H.fa 0 1 rfl rfl;go_enter Tryz.func32, Tryz.ntmps32;go_wp2_with fail;rw [← HG.out];refine wp_region_held_drew (S := fun w' => w'.cell? ⟨g, 0, none⟩ = some (.int .i64 next) ∧ w'.cell? ⟨g, 1, none⟩ = some (.slice A n c)) (by kernel_rfl) ?_ (fun hHeld => ?_)
 ·exact ⟨y0, y1⟩
 obtain ⟨u0, hu0⟩ : ∃ uu : World, uu = (w.alloc (.cells #[.int .i64 next, .slice A n c] 28)).drew := ⟨_, rfl⟩;rw [← hu0] at H hHeld ⊢;clear hu0;refine wpT 0 ?_;refine wpT 1 ?_;refine wpT 4 ?_;refine wpT 5 ?_;refine wpT 6 ?_;refine wpC 2 fun K hK => ?_;go_simp;refine (specVar_any next _).mono ?_;rintro e u1 ⟨rfl, f9⟩;replace H := H.go f9;clear f9;rw [HT0.out];go_wp2_with fail;refine hK.out _ _ ?_ fun hHeld => ?_
 ·exact ⟨H.fa 0 0 rfl rfl, H.fa 0 1 rfl rfl⟩
 clear hK K;(try simp only [sX, Act.put]);refine wpT 3 ?_;refine wpC 7 fun K hK => ?_;go_simp;refine (specVar_any (n : Int) _).mono ?_;rintro e u2 ⟨rfl, f9⟩;replace H := H.go f9;clear f9;rw [HT1.out];go_wp2_with fail;refine hK.out _ _ ?_ fun hHeld => ?_
 ·exact ⟨H.fa 0 0 rfl rfl, H.fa 0 1 rfl rfl⟩
 clear hK K;(try simp only [sX, Act.put]);refine wpT 8 ?_;refine wpC 9 fun K hK => ?_;replace H := H.lit 9 1 1 [.string ((ByteArray.mk #[117] ++ t0) ++ t1)] rfl (by simp [maxLen]);go_simp;obtain ⟨h5, hh5⟩ : ∃ x, x = u2.heap.size := ⟨_, rfl⟩;rw [← hh5] at H ⊢;clear hh5;obtain ⟨u3, hv⟩ : ∃ uu : World, uu = u2.alloc (.cells #[.string ((ByteArray.mk #[117] ++ t0) ++ t1)] 9) := ⟨_, rfl⟩;rw [← hv] at H ⊢;clear hv;refine hK.out _ _ ?_ fun hHeld => ?_
 ·exact ⟨H.fa 1 0 rfl rfl, H.fa 1 1 rfl rfl⟩
 clear hK K;(try simp only [sX, Act.put]);refine wpT 10 ?_;refine wpAnyH_done (by kernel_rfl) ?_ _;clear y0 y1 cc0 cc1 hz0 hz1 HT0 HT1;have H0 : Hp [] w _ [.row 9 1 (.slice (some ⟨h5, 0, none⟩) 1 1) (BB.take 1).length ((BB.take 1).map Value.string), .blk g 28 [.int .i64 next, .slice A n c]] := H.recast (by rw [HB0.out, ← HE.out]; rfl);clear H HE HG;go_wp2_with fail
 go_loopw [3, 4] (fun sv iv wr => ∃ i : Nat, iv = .int .i64 i ∧ i ≤ 16 ∧ Hp [] w wr [.row 9 1 sv (BB.take (i + 1)).length ((BB.take (i + 1)).map Value.string), .blk g 28 [.int .i64 next, .slice A n c]]) (fun _ iv _ => 16 - (intOf iv).toNat)
 case atStart => exact ⟨0, rfl, by omega, H0⟩
 case round =>
  clear H0;obtain ⟨i, rfl, hi, H⟩ := hrel;have y1 := H.fa 1 1 rfl rfl;have hi0 : (0 : Int) ≤ (i : Int) := by omega
  by_cases hlt : i < 16
  ·have hlt1 : (i : Int) < 16 := by omega
   by_cases hin : i < n
   ·have hin1 : (i : Int) < (n : Int) := by omega
    obtain ⟨⟨v, x0, x1, x2, x3, es⟩, hx⟩ := some_at HL.out hin;obtain ⟨bk, of, B1, d1, rfl, e1, r1, c1⟩ := (HR.out.fr H.fr).elem hx;simp only at e1 r1;subst e1;have ca0 := c1 0 _ rfl; simp only [Nat.add_zero] at ca0;have ca1 := c1 1 _ rfl;have ca2 := c1 2 _ rfl;have ca3 := c1 3 _ rfl;have ca4 := c1 4 _ rfl;have HSX := Lib.hid (HSZ.out _ (List.mem_of_getElem? hx));have HBA := Lib.hid (show blkAt (nodes L) i = ofB (nodeB (x0, x1, x2, x3, es)) by rw [blkAt, nodes, List.getElem?_map, hx]; rfl);clear hx c1;go_wp2_with fail;refine (l7Inode_any x0 x1 x2 x3 es B1 es.length d1 _ r1 HSX.out.2.1 HSX.out.1 HSX.out.2.2).mono ?_;rintro e w5 ⟨rfl, f5⟩;rw [← HBA.out];have H5 := H.go f5;clear H f5 r1 ca0 ca1 ca2 ca3 ca4 y1;go_wp2_with (at_builtin; refine wp_appM (f := Value.string) (H5) rfl _ _ _ rfl Tryz.underlying24 infoString rfl 0 _ _ rfl rfl _ _ (blkAt (nodes L) i) rfl (by simp) rfl (by first | (simp only [maxLen]; omega) | (simp [maxLen]; done) | (simp [maxLen]; omega)) (by first | omega | (simp; done) | (simp; omega)) ?_)
    intro v' w6 H6;have H7 := Lib.hid (show Hp [] w w6 [.row 9 1 v' (BB.take (i + 1 + 1)).length ((BB.take (i + 1 + 1)).map Value.string), .blk g 28 [.int .i64 next, .slice (some ⟨bk, of, none⟩) n c]] from H6.recast (by
     rw [HBT.out i hlt]; simp))
    clear H5 H6;go_wp2_with fail;go_roundw
    case rel => exact ⟨i + 1, by go_num, by omega, H7.out⟩
    case measure => simp [intOf]; omega
   ·have hin1 : ¬ ((i : Int) < (n : Int)) := by omega
    have HBA := Lib.hid (show blkAt (nodes L) i = ByteArray.mk #[] by rw [blkAt, List.getElem?_eq_none (by rw [HNL.out]; omega)]);go_wp2_with (at_builtin; refine wp_appM (f := Value.string) (H) rfl _ _ _ rfl Tryz.underlying24 infoString rfl 0 _ _ rfl rfl _ _ (ByteArray.mk #[]) rfl (by simp) rfl (by first | (simp only [maxLen]; omega) | (simp [maxLen]; done) | (simp [maxLen]; omega)) (by first | omega | (simp; done) | (simp; omega)) ?_)
    intro v' w6 H6;have H7 := Lib.hid (show Hp [] w w6 [.row 9 1 v' (BB.take (i + 1 + 1)).length ((BB.take (i + 1 + 1)).map Value.string), .blk g 28 [.int .i64 next, .slice A n c]] from H6.recast (by
     rw [HBT.out i hlt, HBA.out]; simp))
    clear H H6 y1;go_wp2_with fail;go_roundw
    case rel => exact ⟨i + 1, by go_num, by omega, H7.out⟩
    case measure => simp [intOf]; omega
  ·have hlt1 : ¬ ((i : Int) < 16) := by omega
   have hi16 : i + 1 = 17 := by omega
   have ht : BB.take (i + 1) = BB := List.take_of_length_le (by rw [HBL.out]; omega);rw [ht, HBL.out] at H;obtain ⟨C, q, rfl⟩ := H.shape 0 rfl;have H9 := Lib.hid H.drop1;clear H y1;go_wp2_with fail;go_ret;exact H9.out.toMade 0 rfl
end Go.Proofs.YtmpldngnkacnmaaGreatDoor
namespace Go.Proofs.YtmpldngnkacnmaaGreatDoor
open Go.RowKit
theorem key_size {s : List UInt8} (h : (keyR s).2 = true) : s.length ≤ 24 := by
 cases hn : nameB s with
 | false => rw [keyR_no hn] at h; cases h
 | true =>
   simp only [nameB, Bool.and_eq_true] at hn;have := inB_iff.1 hn.1.1.1.1;omega
theorem ent1_fine {e : EntT} (h : entB1 e = true) : FineE e := by
 simp only [entB1, Bool.and_eq_true, beq_iff_eq] at h;have h1 := inB_iff.1 h.1.2;have h2 := inB_iff.1 h.2;have h3 := key_size h.1.1.1;rw [toB_len] at h3;exact ⟨h.1.1.2, h1.1, by omega, by omega, by omega, by omega⟩
theorem namedN_few (id : Int) : ∀ (l : List Nod) (n : Nat), (∀ x ∈ l, x.2.2.2.2.length ≤ 12) → l.foldl (fun n x => n + entsN x.2.2.2.2 id) n ≤ n + 12 * l.length
 | [], n, _ => by simp
 | x :: l, n, h => by
   have h1 := namedN_few id l (n + entsN x.2.2.2.2 id) fun y hy => h y (List.mem_cons_of_mem _ hy);have h2 := h x List.mem_cons_self;have h3 : entsN x.2.2.2.2 id ≤ x.2.2.2.2.length := List.countP_le_length;rw [List.foldl_cons, List.length_cons]; omega
structure VolR (next : Int) (l : List Nod) : Prop where
 lo : 2 ≤ next
 hi : next ≤ 100000
 len : 1 ≤ l.length ∧ l.length ≤ 16
 nods : nodsTo next l l.length = true
theorem volB_R {next : Int} {l : List Nod} (h : volB next l = true) : VolR next l := by
 simp only [volB, Bool.and_eq_true] at h;have h1 := h.1.1;simp only [headOk, Bool.and_eq_true] at h1;have h2 := inB_iff.1 h1.1.1;have h3 := inB_iff.1 h1.1.2;exact ⟨h2.1, h2.2, ⟨by omega, by omega⟩, h.1.2⟩
theorem nod_fine {next : Int} {l : List Nod} (h : VolR next l) : ∀ x ∈ l, FineN x := by
 intro x hx;obtain ⟨k, hk⟩ := List.getElem?_of_mem hx;have h1 := nodsTo_at h.nods hk;have hf := nodsTo_few h.nods;have hn : namedN l x.1 ≤ 192 := by
  have := namedN_few x.1 l 0 hf;have := h.len.2;rw [namedN]; omega
 unfold nodAt at h1;simp only [Bool.and_eq_true] at h1;have hid := inB_iff.1 h1.1.1;have hok := h1.2;have hhi := h.hi;unfold nodOk at hok
 split at hok
 ·rename_i hk1
  simp only [Bool.and_eq_true, decide_eq_true_eq] at hok;obtain ⟨⟨o1, o2⟩, o3⟩ := hok;exact ⟨by omega, by omega, by omega, by omega, by omega, by omega, by omega, by omega, fun e he => by
   rw [List.eq_nil_of_length_eq_zero o1] at he; simp at he⟩
 ·simp only [Bool.and_eq_true, decide_eq_true_eq] at hok
  obtain ⟨⟨⟨⟨⟨o1, o2⟩, o3⟩, o4⟩, _⟩, _⟩ := hok;have hR := dirB_R o4;exact ⟨by omega, by omega, by omega, by omega, by omega, by omega, by omega, hR.len, fun e he => ent1_fine (hR.one e he)⟩
open Classical in
noncomputable def readB (l : List ByteArray) : Option (Int × List Nod) :=
 if h : ∃ p : Int × List Nod, volB p.1 p.2 = true ∧ blocksB p.1 p.2 = l then some (Classical.choose h) else none
def hdP1 (t : List UInt8) : Sc := (cutP (t, false) 1).2
def hdP2 (t : List UInt8) : Nat × Sc := numP (hdP1 t)
def hdP3 (t : List UInt8) : Nat × Sc := manyP (hdP2 t).2 16
def txt (l : List ByteArray) (k : Nat) : List UInt8 := match l[k]? with
 | some t => toB t
 | none => []
def nodesP (l : List ByteArray) : Nat → List Nod
 | 0 => []
 | k + 1 => nodesP l k ++ [(nodR (txt l (k + 1))).1]
theorem nodesP_len (l : List ByteArray) : ∀ k, (nodesP l k).length = k
 | 0 => rfl
 | k + 1 => by rw [nodesP, List.length_append, nodesP_len l k]; rfl
theorem blocksB_at {next : Int} {ns : List Nod} {k : Nat} {x : Nod} (hk : k < 16) (hx : ns[k]? = some x) : txt (blocksB next ns) (k + 1) = nodeB x := by
 have : (blocksB next ns)[k + 1]? = some (ofB (nodeB x)) := by
  rw [blocksB_eq];simp only [List.getElem?_cons_succ, List.getElem?_map, List.getElem?_range hk, Option.map_some];rw [blkAt, hx]
 rw [txt, this];exact toB_ofB _
theorem blocksB_0 (next : Int) (ns : List Nod) : txt (blocksB next ns) 0 = headB next ns.length := by
 rw [txt, blocksB_eq];exact toB_ofB _
theorem hd_app {next : Int} {n : Nat} (h0 : 0 ≤ next) (h1 : next ≤ 1000000) (hn : n ≤ 16) : (hdP2 (headB next n)).1 = next.toNat ∧ hdP3 (headB next n) = (n, ([], false)) := by
 have hb : headB next n = [117] ++ (varT next.toNat ++ (varT n ++ [])) := by
  simp only [headB, varB_int h0 (by omega), varB_nat (show n ≤ 562949953421311 by omega), List.append_nil, List.cons_append, List.nil_append]
 have key : ∀ R0 R1 : List UInt8, R0 = varT next.toNat ++ R1 → R1 = varT n ++ [] → (hdP2 ([117] ++ R0)).1 = next.toNat ∧ hdP3 ([117] ++ R0) = (n, ([], false)) := by
  intro R0 R1 q0 q1;have k0 : hdP1 ([117] ++ R0) = (R0, false) := congrArg Prod.snd (cutP_app [117] _);have k1 : hdP2 ([117] ++ R0) = (next.toNat, (R1, false)) := by rw [hdP2, k0, q0]; exact numP_app (by omega) _
  exact ⟨by rw [k1], by rw [hdP3, k1, q1]; exact manyP_app (by omega) hn _⟩
 rw [hb];exact key _ _ rfl rfl
theorem nodesP_app {next : Int} {ns : List Nod} (hn : ns.length ≤ 16) (hf : ∀ x ∈ ns, FineN x) : ∀ k, k ≤ ns.length → nodesP (blocksB next ns) k = ns.take k
 | 0, _ => by simp [nodesP]
 | k + 1, hk => by
   obtain ⟨x, hx⟩ : ∃ x, ns[k]? = some x := ⟨_, List.getElem?_eq_getElem (by omega)⟩;rw [nodesP, nodesP_app hn hf k (by omega), blocksB_at (by omega) hx, nodR_app (hf x (List.mem_of_getElem? hx)), List.take_add_one, hx]; rfl
theorem read_back {next : Int} {ns : List Nod} (h : VolR next ns) : (hdP2 (txt (blocksB next ns) 0)).1 = next.toNat ∧ hdP3 (txt (blocksB next ns) 0) = (ns.length, ([], false)) ∧ (∀ k, k < ns.length → (nodR (txt (blocksB next ns) (k + 1))).2 = true) ∧ nodesP (blocksB next ns) ns.length = ns := by
 have hl := h.len;have hf := nod_fine h;obtain ⟨h1, h2⟩ := hd_app (n := ns.length) (show 0 ≤ next by have := h.lo; omega) (by have := h.hi; omega) hl.2;rw [blocksB_0];refine ⟨h1, h2, fun k hk => ?_, by rw [nodesP_app hl.2 hf _ (Nat.le_refl _), List.take_length]⟩;obtain ⟨x, hx⟩ : ∃ x, ns[k]? = some x := ⟨_, List.getElem?_eq_getElem hk⟩;rw [blocksB_at (by omega) hx, nodR_app (hf x (List.mem_of_getElem? hx))]
theorem readB_yes {next : Int} {ns : List Nod} {l : List ByteArray} (h : volB next ns = true) (hb : blocksB next ns = l) : readB l = some (next, ns) := by
 classical
 have hex : ∃ p : Int × List Nod, volB p.1 p.2 = true ∧ blocksB p.1 p.2 = l := ⟨(next, ns), h, hb⟩;rw [readB, dif_pos hex]
 congr 1
 obtain ⟨c1, c2⟩ := Classical.choose_spec hex;obtain ⟨a1, a2, _, a4⟩ := read_back (volB_R h);obtain ⟨b1, b2, _, b4⟩ := read_back (volB_R c1);rw [c2] at b1 b2 b4;rw [hb] at a1 a2 a4;have e1 : (Classical.choose hex).1 = next := by
  have l1 := (volB_R c1).lo;have l2 := (volB_R h).lo;have := b1.symm.trans a1;omega
 have e2 : (Classical.choose hex).2.length = ns.length := congrArg Prod.fst (b2.symm.trans a2);rw [e2] at b4;exact Prod.ext e1 (b4.symm.trans a4)
theorem readB_no {l : List ByteArray} (h : ∀ next ns, volB next ns = true → blocksB next ns ≠ l) : readB l = none := by
 classical
 rw [readB, dif_neg];rintro ⟨p, h1, h2⟩;exact h _ _ h1 h2
theorem readB_len {l : List ByteArray} (h : l.length ≠ 17) : readB l = none := readB_no fun next ns _ hb => h (by rw [← hb]; exact blocksB_len _ _)
theorem readI_no1 {l : List ByteArray} (h : (hdP3 (txt l 0)).2.2 = true) : readB l = none := readB_no fun next ns hv hb => by
 obtain ⟨_, h2, _⟩ := read_back (volB_R hv);rw [hb] at h2;rw [h2] at h; cases h
theorem readI_no2 {l : List ByteArray} {k : Nat} (hk : k < (hdP3 (txt l 0)).1) (h : (nodR (txt l (k + 1))).2 = false) : readB l = none := readB_no fun next ns hv hb => by
 obtain ⟨_, h2, h3, _⟩ := read_back (volB_R hv);rw [hb] at h2 h3;rw [h2] at hk;rw [h3 k hk] at h; cases h
theorem readI_no3 {l : List ByteArray} (h : volB ((hdP2 (txt l 0)).1 : Int) (nodesP l (hdP3 (txt l 0)).1) = false) : readB l = none := readB_no fun next ns hv hb => by
 obtain ⟨h1, h2, _, h4⟩ := read_back (volB_R hv);rw [hb] at h1 h2 h4;rw [h1, h2, h4, Int.toNat_of_nonneg (by have := (volB_R hv).lo; omega), hv] at h
 cases h
theorem readI_no4 {l : List ByteArray} (h : blocksB ((hdP2 (txt l 0)).1 : Int) (nodesP l (hdP3 (txt l 0)).1) ≠ l) : readB l = none := readB_no fun next ns hv hb => by
 obtain ⟨h1, h2, _, h4⟩ := read_back (volB_R hv);rw [hb] at h1 h2 h4;rw [h1, h2, h4, Int.toNat_of_nonneg (by have := (volB_R hv).lo; omega)] at h;exact h hb
end Go.Proofs.YtmpldngnkacnmaaGreatDoor
namespace Go.Proofs.YtmpldngnkacnmaaGreatDoor
open Go.RowKit
theorem atZ_hit {l : List Nod} {id : Int} {k : Nat} {x : Nod} (hno : ∀ y ∈ l.take k, y.1 ≠ id) (hx : l[k]? = some x) (he : x.1 = id) : atZ l id = (k : Int) := by
 have : atN l id = some k := by
  obtain ⟨hk, hxe⟩ := List.getElem?_eq_some_iff.1 hx;refine List.findIdx?_eq_some_iff_getElem.2 ⟨hk, by rw [hxe]; simpa using he, fun j hj => ?_⟩;have hjm : l[j] ∈ l.take k := by
   rw [List.mem_take_iff_getElem];exact ⟨j, by omega, rfl⟩
  simpa using hno _ hjm
 rw [atZ, this]
theorem atZ_miss {l : List Nod} {id : Int} (hno : ∀ y ∈ l, y.1 ≠ id) : atZ l id = -1 := by
 have : atN l id = none := by
  refine List.findIdx?_eq_none_iff.2 fun x hx => ?_;simpa using hno x hx
 rw [atZ, this]
theorem atZ_cases (l : List Nod) (id : Int) : (atZ l id = -1 ∧ atN l id = none) ∨ ∃ k : Nat, atZ l id = (k : Int) ∧ atN l id = some k ∧ k < l.length := by
 cases h : atN l id with
 | none => exact .inl ⟨by rw [atZ, h], rfl⟩
 | some k => exact .inr ⟨k, by rw [atZ, h], rfl, atN_lt h⟩
theorem nodes_at {L : List (Value × Nod)} {k : Nat} {p : Value × Nod} (h : L[k]? = some p) : (nodes L)[k]? = some p.2 := by rw [nodes, List.getElem?_map, h]; rfl
set_option maxRecDepth 100000 in
theorem atC_any (x0 x1 x2 : Int) (x3 : ByteArray) (v : Value) (id : Int) (g : Nat) (w : World) (hg : w.cell? ⟨g, 0, none⟩ = some (.int .i64 id)) (hv : v.oneCell' = true) :
 Calls Tryz.prog 123 #[.agg #[.int .i64 x0, .int .i64 x1, .int .i64 x2, .string x3, v], .pointer (some ⟨g, 0, none⟩)] w fun e w' => e = .returned (.bool (decide (x0 = id))) ∧ Fr w w' := by
 have hgl := World.block_lt_of_cell? w _ hg;simp only at hgl;have H := (Hp.start w).lay_ 53 [.int .i64 x0, .int .i64 x1, .int .i64 x2, .string x3, v] rfl;have F := Lib.hid H.fr;have h1 := fr_cellM F.out hg
 by_cases h2 : x0 = id
 ·subst h2
  go_enter Tryz.func123, Tryz.ntmps123;go_wp2_with fail;go_ret;exact ⟨by simp, F.out⟩
 ·have h2' : (x0 == id) = false := by simpa using h2
  have HE := Lib.hid (show decide (x0 = id) = false from decide_eq_false h2);go_enter Tryz.func123, Tryz.ntmps123;go_wp2_with fail;go_ret;rw [HE.out];exact ⟨rfl, F.out⟩
set_option maxRecDepth 100000 in
set_option maxHeartbeats 2000000 in
theorem implAtF_any (A : Option Addr) (n c : Nat) (L : List (Value × Nod)) (id : Int) (g : Nat) (w : World) (h : RdN w A n L) (hg : w.cell? ⟨g, 0, none⟩ = some (.int .i64 id)) (hn : n ≤ 1048576) :
 Calls Tryz.prog 106 #[.slice A n c, .func (.func 123) #[] #[.pointer (some ⟨g, 0, none⟩)]] w fun e w' => e = .returned (.int .i64 (atZ (nodes L) id)) ∧ Fr w w' := by
 have HL := Lib.hid h.len;have HR := Lib.hid h;have HG := Lib.hid hg;clear h hg;obtain ⟨z, hz⟩ : ∃ z, z = atZ (nodes L) id := ⟨_, rfl⟩;rw [← hz];have HZ := Lib.hid hz;clear hz;go_enter Tryz.func106, Tryz.ntmps106;go_wp2_with fail
 go_loopw [5, 8] (fun jv iv wr => ∃ i : Nat, iv = .int .i64 i ∧ i ≤ n ∧ (∀ y ∈ (nodes L).take i, y.1 ≠ id) ∧ Fr w wr) (fun _ iv _ => n - (intOf iv).toNat)
 case atStart => exact ⟨0, rfl, by omega, by simp, Below.refl _ _⟩
 case round =>
  obtain ⟨i, rfl, hi, hno, hf⟩ := hrel;have HO := Lib.hid hno;have HF := Lib.hid hf;clear hno hf;have hi0 : (0 : Int) ≤ (i : Int) := by omega
  by_cases hlt : i < n
  ·have hi1 : (i : Int) < (n : Int) := by omega
   obtain ⟨⟨v, x0, x1, x2, x3, es⟩, hx⟩ := some_at HL.out hlt;obtain ⟨bk, of, B1, d1, rfl, e1, r1, c1⟩ := (HR.out.fr HF.out).elem hx;simp only at e1 r1;subst e1;have ca0 := c1 0 _ rfl; simp only [Nat.add_zero] at ca0;have ca1 := c1 1 _ rfl;have ca2 := c1 2 _ rfl;have ca3 := c1 3 _ rfl;have ca4 := c1 4 _ rfl;have HX := Lib.hid (nodes_at hx);clear hx c1 r1;go_wp2_with fail;refine (atC_any x0 x1 x2 x3 _ id g _ (fr_cellM HF.out HG.out) rfl).mono ?_;rintro e w2 ⟨rfl, f2⟩
   by_cases he : x0 = id
   ·have HE := Lib.hid (HZ.out.trans (atZ_hit HO.out HX.out he))
    have hd : decide (x0 = id) = true := decide_eq_true he;rw [hd];clear he hd;go_wp2_with fail;go_ret;rw [HE.out];exact ⟨rfl, HF.out.then f2⟩
   ·have HO2 := Lib.hid (show ∀ y ∈ (nodes L).take (i + 1), y.1 ≠ id from fun y hy => by
     rw [List.take_add_one, HX.out] at hy
     rcases List.mem_append.1 hy with h | h
     ·exact HO.out y h
     ·simp only [Option.toList_some, List.mem_singleton] at h
      rw [h]; exact he)
    have hd : decide (x0 = id) = false := decide_eq_false he;rw [hd];clear he hd;have F2 := Lib.hid (HF.out.then f2);clear f2;go_wp2_with fail;go_roundw
    case rel => exact ⟨i + 1, by go_num, by omega, HO2.out, F2.out⟩
    case measure => simp [intOf]; omega
  ·have hi1 : ¬ (i : Int) < (n : Int) := by omega
   have HE := Lib.hid (HZ.out.trans (atZ_miss (by
    have := HO.out
    rwa [List.take_of_length_le (by rw [nodes_len, HL.out]; omega)] at this)))
   go_wp2_with fail;go_ret;rw [HE.out];exact ⟨rfl, HF.out⟩
set_option maxRecDepth 100000 in
set_option maxHeartbeats 1000000 in
theorem implAt_any (next : Int) (A : Option Addr) (n c : Nat) (L : List (Value × Nod)) (id : Int) (w : World) (h : RdN w A n L) (hn : n ≤ 1048576) :
 Calls Tryz.prog 105 #[.agg #[.int .i64 next, .slice A n c], .int .i64 id] w fun e w' => e = .returned (.int .i64 (atZ (nodes L) id)) ∧ Fr w w' := by
 have H := ((Hp.start w).lay_ 28 [.int .i64 next, .slice A n c] rfl).lay_ 3 [.int .i64 id] (g := w.heap.size + 1) (by simp);have HR := Lib.hid (h.fr H.fr);have HG := Lib.hid (H.fa 0 0 rfl rfl);have HF := Lib.hid H.fr;clear h H;have hmf : ∀ (fn : Fn) (first cap : Array Value) (w : World), (Instr.makeFunc fn first cap).run Tryz.prog w = .ok (.func fn first cap) w := fun _ _ _ _ => rfl;go_enter Tryz.func105, Tryz.ntmps105;go_wp2_with fail;refine (implAtF_any A n c L id _ _ HR.out HG.out hn).mono ?_;rintro e w2 ⟨rfl, f2⟩;go_wp2_with fail;go_ret;exact ⟨rfl, HF.out.then f2⟩
set_option maxRecDepth 100000 in
set_option maxHeartbeats 2000000 in
theorem specAt_any (next : Int) (A : Option Addr) (n c : Nat) (L : List (Value × Nod)) (id : Int) (w : World) (h : RdN w A n L) (hn : n ≤ 1048576) :
 Calls Tryz.prog 53 #[.agg #[.int .i64 next, .slice A n c], .int .i64 id] w fun e w' => e = .returned (.int .i64 (atZ (nodes L) id)) ∧ Fr w w' := by
 have HL := Lib.hid h.len;have H := (Hp.start w).lay_ 28 [.int .i64 next, .slice A n c] rfl;obtain ⟨w1, hw1⟩ : ∃ x, x = w.alloc (.cells #[.int .i64 next, .slice A n c] 28) := ⟨_, rfl⟩;have HR := Lib.hid (h.fr H.fr);have HF := Lib.hid H.fr;have y1 := H.fa 0 1 rfl rfl;clear h H;obtain ⟨z, hz⟩ : ∃ z, z = atZ (nodes L) id := ⟨_, rfl⟩;rw [← hz];have HZ := Lib.hid hz;clear hz;go_enter Tryz.func53, Tryz.ntmps53;go_wp2_with fail
 go_loopw [5] (fun iv wr => ∃ i : Nat, iv = .int .i64 i ∧ i ≤ n ∧ (∀ y ∈ (nodes L).take i, y.1 ≠ id) ∧ wr = w.alloc (.cells #[.int .i64 next, .slice A n c] 28)) (fun iv _ => n - (intOf iv).toNat)
 case atStart => exact ⟨0, rfl, by omega, by simp, rfl⟩
 case round =>
  obtain ⟨i, rfl, hi, hno, rfl⟩ := hrel;have HO := Lib.hid hno;clear hno;have hi0 : (0 : Int) ≤ (i : Int) := by omega
  by_cases hlt : i < n
  ·have hi1 : (i : Int) < (n : Int) := by omega
   obtain ⟨⟨v, x0, x1, x2, x3, es⟩, hx⟩ := some_at HL.out hlt;obtain ⟨bk, of, B1, d1, rfl, e1, r1, c1⟩ := HR.out.elem hx;simp only at e1 r1;subst e1;have ca0 := c1 0 _ rfl; simp only [Nat.add_zero] at ca0;have HX := Lib.hid (nodes_at hx);clear hx c1 r1
   by_cases he : x0 = id
   ·have HE := Lib.hid (HZ.out.trans (atZ_hit HO.out HX.out he))
    subst he;go_wp2_with fail;go_ret;rw [HE.out];exact ⟨rfl, HF.out⟩
   ·have HO2 := Lib.hid (show ∀ y ∈ (nodes L).take (i + 1), y.1 ≠ id from fun y hy => by
     rw [List.take_add_one, HX.out] at hy
     rcases List.mem_append.1 hy with h | h
     ·exact HO.out y h
     ·simp only [Option.toList_some, List.mem_singleton] at h
      rw [h]; exact he)
    have hd : (x0 == id) = false := by simpa using he
    go_wp2_with fail;go_roundw
    case rel => exact ⟨i + 1, by go_num, by omega, HO2.out, trivial⟩
    case measure => simp [intOf]; omega
  ·have hi1 : ¬ (i : Int) < (n : Int) := by omega
   have HE := Lib.hid (HZ.out.trans (atZ_miss (by
    have := HO.out
    rwa [List.take_of_length_le (by rw [nodes_len, HL.out]; omega)] at this)))
   go_wp2_with fail;go_ret;rw [HE.out];exact ⟨rfl, HF.out⟩
end Go.Proofs.YtmpldngnkacnmaaGreatDoor