/-
Mount of the reference.
-/
import Derived.Test.YtmpldngnkacnmaaGreatDoorGl
import Derived.Test.YtmpldngnkacnmaaGreatDoorGn
namespace Go.Proofs.YtmpldngnkacnmaaGreatDoor
open Go.RowKit
set_option linter.unusedVariables false
set_option linter.unusedSimpArgs false
set_option maxRecDepth 100000 in
set_option maxHeartbeats 8000000 in
theorem specMount_any (A : Option Addr) (n c : Nat) (l : List ByteArray) (w : World) (h : Rd w A n 1 (l.map Value.string)) (hc : n ≤ c) (hn : n ≤ 1048576) (hsz : ∀ t ∈ l, t.size ≤ 16777216) :
 Calls Tryz.prog 7 #[.slice A n c] w (MountGave w l) := by
 have HL := Lib.hid h.len1;have HR := Lib.hid h;have HSZ := Lib.hid hsz;clear hsz
 by_cases h18 : n = 18
 case neg =>
  have h181 : ¬ (n : Int) = 18 := by omega
  have h182 : ((n : Int) != 18) = true := bne_iff_ne.2 h181;have HNO := Lib.hid (show mountB l = none by rw [mountB, if_pos (by rw [HL.out]; exact h18)]);have H := (((Hp.start w).lay_ 28 [.int .i64 0, .slice none 0 0] rfl).lit_ 34 2 0 [] rfl (by simp [maxLen]) (g := w.heap.size + 1) (by simp));go_enter Tryz.func7, Tryz.ntmps7;have e0 := H.fa 1 0 rfl rfl;have e1 := H.fa 1 1 rfl rfl;have f0 := H.bfree 1 rfl 0;have f1 := H.bfree 1 rfl 1;go_wp2_with fail
  ((try simp only [Exit.inBlock, Exit.then]); refine bodyPost_ret (results_cell_tmp3_row rfl _ _ w.heap.size 28 #[.int .i64 0, .slice none 0 0] (0, 0) _ rfl (H.blk 1 rfl) Tryz.underlying28 rfl (by kernel_rfl)) rfl ?_)
  exact mountGave_no HNO.out (H.sub (l' := [.row 34 2 (.slice (some ⟨w.heap.size + 1, 0, none⟩) 0 0) 0 []]) (by simp))
 have h181 : (n : Int) = 18 := by omega
 have h182 : ((n : Int) != 18) = false := by rw [h181]; rfl
 obtain ⟨t0, ht0⟩ := some_at HL.out (show 17 < n by omega);obtain ⟨bk, of, rfl, c0⟩ := h.get1 ht0;have H0 := (((Hp.start w).lay_ 28 [.int .i64 0, .slice none 0 0] rfl).lit_ 34 2 0 [] rfl (by simp [maxLen]) (g := w.heap.size + 1) (by simp)).lay_ 44 [.int .i64 0, .slice none 0 0] (g := w.heap.size + 1 + 1) (by simp);have c0' := fr_cellM H0.fr c0;have hs0 := HSZ.out t0 (List.mem_of_getElem? ht0);have HX0 := Lib.hid (txt_at ht0);clear h ht0 c0;obtain ⟨r, hr⟩ : ∃ r, r = toB t0 := ⟨_, rfl⟩;have hrl : r.length ≤ 16777216 := by rw [hr, toB_len]; exact hs0
 have HT0 := Lib.hid (show ofB r = t0 by rw [hr, ofB_toB]);rw [← hr] at HX0;have HRE := Lib.hid hr;clear hr hs0;have hcall : ∀ w0, Calls Tryz.prog 20 #[.string t0] w0 (ReadTGave w0 r) := fun w0 => by
  have := specReadTxn_any r w0 hrl
  rwa [HT0.out] at this
 subst h18
 by_cases hemp : t0 = ByteArray.mk #[]
 ·have HLG0 := Lib.hid (show logT l = some (0, []) by rw [logT, HX0.out, if_pos (by rw [HRE.out, hemp]; rfl)])
  clear hcall;subst hemp;obtain ⟨seq, outs, C, d, hlg, hout, ho17, hdd, H⟩ : ∃ (seq : Int) (outs : List WrT) (C : Option Addr) (d : Nat), logT l = some (seq, outs) ∧ (∀ x ∈ outs, 0 ≤ x.1 ∧ x.1 ≤ 16 ∧ x.2.size ≤ 400) ∧ outs.length ≤ 17 ∧ outs.length ≤ d ∧ Hp [] w _ [.row 34 2 (.slice C outs.length d) outs.length (outs.flatMap cWrite), .blk (w.heap.size + 1 + 1) 44 [.int .i64 seq, .slice C outs.length d], .row 34 2 (.slice (some ⟨w.heap.size + 1, 0, none⟩) 0 0) 0 [], .blk w.heap.size 28 [.int .i64 0, .slice none 0 0]] := ⟨0, [], none, 0, HLG0.out, (fun x hx => nomatch hx), by simp, by simp, H0.nil_ 34 2⟩;have HLG := Lib.hid hlg;have HOUT := Lib.hid hout;have HO17 := Lib.hid ho17;have HDD := Lib.hid hdd;clear hlg hout H0;go_enter Tryz.func7, Tryz.ntmps7;go_wp2_with (at_builtin; refine wp_appRd (H.lit_ 9 1 0 [] rfl (by simp [maxLen]) (g := w.heap.size + 1 + 1 + 1) (by simp)) rfl _ _ _ rfl Tryz.underlying24 infoString rfl (by decide) 0 _ _ _ rfl rfl _ _ _ _ rfl ((fun h => nomatch h)) ((rd_take17 (HR.out.fr (H.lit_ 9 1 0 [] rfl (by simp [maxLen]) (g := w.heap.size + 1 + 1 + 1) (by simp)).fr))) (one_strM _) (by first | (simp only [maxLen]; omega) | (simp [maxLen]; done) | (simp [maxLen]; omega)) (by first | omega | (simp; done) | (simp; omega)) ?_)
  intro v9 wC H9;clear c0';replace H : Hp [] w wC [.row 9 1 v9 17 ((l.take 17).map Value.string), .row 34 2 (.slice C outs.length d) outs.length (outs.flatMap cWrite), .blk (w.heap.size + 1 + 1) 44 [.int .i64 seq, .slice C outs.length d], .row 34 2 (.slice (some ⟨w.heap.size + 1, 0, none⟩) 0 0) 0 [], .blk w.heap.size 28 [.int .i64 0, .slice none 0 0]] := H9.recast (by simp);clear H9;obtain ⟨ga, cga, ea, _⟩ := H.form 0 rfl (by omega);subst ea;have y6 := H.fa 2 1 rfl rfl;have HS0 : Hp [] w wC [.row 9 1 (.slice (some ⟨ga, 0, none⟩) 17 cga) 17 ((putAll (l.take 17) (outs.take 0)).map Value.string), .row 34 2 (.slice C outs.length d) outs.length (outs.flatMap cWrite), .blk (w.heap.size + 1 + 1) 44 [.int .i64 seq, .slice C outs.length d], .row 34 2 (.slice (some ⟨w.heap.size + 1, 0, none⟩) 0 0) 0 [], .blk w.heap.size 28 [.int .i64 0, .slice none 0 0]] := H;clear H;go_wp2_with fail
  go_loopw [11] (fun kv wr => ∃ k : Nat, kv = .int .i64 k ∧ k ≤ outs.length ∧ Hp [] w wr [.row 9 1 (.slice (some ⟨ga, 0, none⟩) 17 cga) 17 ((putAll (l.take 17) (outs.take k)).map Value.string), .row 34 2 (.slice C outs.length d) outs.length (outs.flatMap cWrite), .blk (w.heap.size + 1 + 1) 44 [.int .i64 seq, .slice C outs.length d], .row 34 2 (.slice (some ⟨w.heap.size + 1, 0, none⟩) 0 0) 0 [], .blk w.heap.size 28 [.int .i64 0, .slice none 0 0]]) (fun kv _ => outs.length - (intOf kv).toNat)
  case atStart => exact ⟨0, rfl, by omega, HS0⟩
  case round =>
   clear HS0 y6;obtain ⟨k, rfl, hk, H⟩ := hrel;have hk0 : (0 : Int) ≤ (k : Int) := by omega
   have y6 := H.fa 2 1 rfl rfl;obtain ⟨T, hT⟩ : ∃ T, T = putAll (l.take 17) (outs.take k) := ⟨_, rfl⟩;have HT := Lib.hid hT;rw [← hT] at H;have HTL := Lib.hid (show T.length = 17 by rw [hT, putAll_len, List.length_take, HL.out]; rfl);clear hT
   by_cases hlt : k < outs.length
   ·have hlt1 : (k : Int) < (outs.length : Int) := by omega
    obtain ⟨⟨x0, x1⟩, hx⟩ := some_at rfl hlt;have hxb := HOUT.out _ (List.mem_of_getElem? hx);obtain ⟨z, hz⟩ : ∃ z : Nat, z = x0.toNat := ⟨_, rfl⟩;have hxz : x0 = (z : Int) := by have := hxb.1; simp only at this; omega
    have hz17 : z < 17 := by have := hxb.2.1; simp only at this; omega
    obtain rfl := hxz;have hz0 : (0 : Int) ≤ (z : Int) := by omega
    have hz1 : (z : Int) < 17 := by omega
    have HES := Lib.hid (show T.set z x1 = putAll (l.take 17) (outs.take (k + 1)) by
     rw [putAll_snoc hx, ← HT.out, ← hz])
    obtain ⟨g1, c1, e1, _⟩ := H.form 1 rfl (by omega);injection e1 with e11 _ e12;obtain ⟨yo, hyo⟩ := some_at HTL.out hz17;rw [e11] at H y6;have HE11 := Lib.hid e11;clear e11 e12;have ca0 := H.atL 1 rfl cWrite_len (r := 0) hx rfl;have ca1 := H.atL 1 rfl cWrite_len (r := 1) hx rfl;simp only [Nat.add_zero] at ca0;have hx9 := Lib.hid hx;have hyo9 := Lib.hid hyo;clear hx hxb hz;clear hyo;go_wp2_with fail;replace H := H.drew;have y6 := H.fa 2 1 rfl rfl;have ca0 := H.atL 1 rfl cWrite_len (r := 0) hx9.out rfl;have ca1 := H.atL 1 rfl cWrite_len (r := 1) hx9.out rfl;simp only [Nat.add_zero] at ca0;refine wp_region_held_drew (S := fun w' => w'.cell? ⟨w.heap.size + 1 + 1, 1, none⟩ = some (.slice (some ⟨g1, 0, none⟩) outs.length d) ∧ w'.cell? ⟨g1, k * 2, none⟩ = some (.int .i64 (z : Int)) ∧ w'.cell? ⟨g1, k * 2 + 1, none⟩ = some (.string x1)) (by kernel_rfl) ?_ (fun hHeld => ?_)
    ·exact ⟨y6, ca0, ca1⟩
    obtain ⟨u0, hu0⟩ : ∃ uu : World, uu = wr.drew := ⟨_, rfl⟩;rw [← hu0] at H hHeld ⊢;clear hu0;refine wpT 0 ?_;refine wpT 1 ?_;refine wpT 2 ?_;refine wpT 3 ?_;refine wpT 4 ?_;refine wpT 5 ?_;refine wpT 6 ?_;refine wpT 7 ?_;refine wpT 8 ?_;refine wpT 9 ?_;refine wpT 10 ?_;refine wpT 11 ?_;refine wpT 12 ?_;refine wpT 13 ?_;refine wpC 14 fun K hK => ?_;have t0 := H.atM 0 rfl (j := z) hyo9.out;have t1 := H.free 0 rfl z;replace H := H.putM 0 rfl z x1;go_simp;refine hK.out _ _ ?_ fun hHeld => ?_
    ·exact ⟨H.fa 2 1 rfl rfl, (by have q := H.atL 1 rfl cWrite_len (r := 0) hx9.out rfl; simp only [Nat.add_zero] at q; exact q), H.atL 1 rfl cWrite_len (r := 1) hx9.out rfl⟩
    clear hK K;(try simp only [sX, Act.put]);refine wpAnyH_done (by kernel_rfl) ?_ _;have H9 := Lib.hid H;clear H y6 ca0 ca1;go_wp2_with fail;go_roundw
    case rel => exact ⟨k + 1, by go_num, by omega, by have h9 := H9.out; rw [HES.out, ← HE11.out] at h9; exact h9⟩
    case measure => simp [intOf]; omega
   ·have hlt1 : ¬ (k : Int) < (outs.length : Int) := by omega
    have HPT := Lib.hid (show putAll (l.take 17) outs = T by rw [HT.out, show outs.take k = outs from List.take_of_length_le (by omega)]);have HTS := Lib.hid (show ∀ t ∈ T, t.size ≤ 16777216 by
     rw [HT.out];exact putAll_sz (fun t ht => HSZ.out t (List.mem_of_mem_take ht)) (fun x hx => Nat.le_trans (HOUT.out x (List.mem_of_mem_take hx)).2.2 (by omega)))
    have HRW := Lib.hid (H.rd 0 rfl);go_wp2_with fail;refine (specReadBlocks_any (some ⟨ga, 0, none⟩) 17 cga T _ HRW.out (by omega) HTS.out).mono ?_;rintro e wR hg;unfold ReadGave at hg;clear y6;obtain ⟨o, ho⟩ : ∃ o, readB T = o := ⟨_, rfl⟩;rw [ho] at hg;have HO := Lib.hid ho;clear ho
    cases o with
    | none =>
      obtain ⟨rfl, fR⟩ := hg;have HNO := Lib.hid (mount_no2 HL.out HLG.out (by rw [HPT.out]; exact HO.out));replace H := (H.go fR).lay_ 28 [.int .i64 0, .slice none 0 0] rfl;clear fR;have e0 := H.fa 5 0 rfl rfl;have e1 := H.fa 5 1 rfl rfl;have f0 := H.bfree 5 rfl 0;have f1 := H.bfree 5 rfl 1;have H9 := H.bputs 5 rfl [.int .i64 0, .slice none 0 0] rfl;simp only [setsW] at H9;clear H;go_wp2_with fail
      ((try simp only [Exit.inBlock, Exit.then]); refine bodyPost_ret (results_cell_tmp3_row rfl _ _ w.heap.size 28 #[.int .i64 0, .slice none 0 0] (0, 0) _ rfl (H9.blk 5 rfl) Tryz.underlying28 rfl (by kernel_rfl)) rfl ?_)
      exact mountGave_no HNO.out (H9.sub (l' := [.row 34 2 (.slice (some ⟨w.heap.size + 1, 0, none⟩) 0 0) 0 []]) (by simp))
    | some q9 =>
      obtain ⟨next, nds⟩ := q9;obtain ⟨D, cq, L, hnd, hvb, hbb, hrs, rfl, hcq, Hj⟩ := hg;have HND := Lib.hid hnd;have HVB := Lib.hid hvb;have HRS := Lib.hid hrs;have HCQ := Lib.hid hcq;have HYS := Lib.hid (mount_yes HL.out HLG.out (by rw [HPT.out]; exact HO.out));replace H := H.join Hj;clear Hj hnd hvb hrs hcq hbb;replace H := H.lay_ 28 [.int .i64 next, .slice D L.length cq] rfl;obtain ⟨gv, hgv⟩ : ∃ x, x = wR.heap.size := ⟨_, rfl⟩;rw [← hgv] at H;have HGV := Lib.hid hgv;clear hgv;go_wp2_with fail;rw [← HGV.out];replace H := H.drew;have s0 := H.fa 0 0 rfl rfl;have s1 := H.fa 0 1 rfl rfl;have s2 := H.fa 4 0 rfl rfl;have s3 := H.fa 4 1 rfl rfl;refine wp_region_held_drew (S := fun w' => w'.cell? ⟨gv, 0, none⟩ = some (.int .i64 next) ∧ w'.cell? ⟨gv, 1, none⟩ = some (.slice D L.length cq) ∧ w'.cell? ⟨w.heap.size + 1 + 1, 0, none⟩ = some (.int .i64 seq) ∧ w'.cell? ⟨w.heap.size + 1 + 1, 1, none⟩ = some (.slice C outs.length d)) (by kernel_rfl) ?_ (fun hHeld => ?_)
      ·exact ⟨s0, s1, s2, s3⟩
      obtain ⟨u0, hu0⟩ : ∃ uu : World, uu = (wR.alloc (.cells #[.int .i64 next, .slice D L.length cq] 28)).drew := ⟨_, rfl⟩;rw [← hu0] at H hHeld ⊢;clear hu0;refine wpT 0 ?_;refine wpT 1 ?_;refine wpT 2 ?_;refine wpT 3 ?_;refine wpT 4 ?_;refine wpC 5 fun K hK => ?_;have e0 := H.bfree 6 rfl 0;have e1 := H.bfree 6 rfl 1;have e2 := H.fa 6 0 rfl rfl;have e3 := H.fa 6 1 rfl rfl;replace H := (H.bput 6 rfl 0 (.int .i64 next)).bput 6 rfl 1 (.slice D L.length cq);go_simp;refine hK.out _ _ ?_ fun hHeld => ?_
      ·exact ⟨H.fa 0 0 rfl rfl, H.fa 0 1 rfl rfl, H.fa 4 0 rfl rfl, H.fa 4 1 rfl rfl⟩
      clear hK K;(try simp only [sX, Act.put]);refine wpT 6 ?_;refine wpT 7 ?_;refine wpT 8 ?_;refine wpAnyH_done (by kernel_rfl) ?_ _;go_wp2_with fail
      ((try simp only [Exit.inBlock, Exit.then]); refine bodyPost_ret (results_cell_tmp3_row rfl _ _ w.heap.size 28 #[.int .i64 next, .slice D L.length cq] (0, 0) _ rfl (H.blk 6 rfl) Tryz.underlying28 rfl (by kernel_rfl)) rfl ?_)
      exact mountGave_yes HYS.out HND.out HVB.out HRS.out (fun x hx => (HOUT.out x hx).2.2) HO17.out HCQ.out HDD.out (H.sub (by simp))
 ·have hs0 : ¬ t0.size = 0 := fun e => hemp (ba_empty e)
  obtain ⟨hsa, hsb, hsc, hsd⟩ := nonempty_facts hs0;have HNE := Lib.hid (show r ≠ [] from fun e => hs0 (by rw [← HT0.out, e]; rfl));clear hemp hs0;go_enter Tryz.func7, Tryz.ntmps7;go_wp2_with fail;clear c0';refine (hcall _).mono ?_;clear hcall;rintro e wT hg;unfold ReadTGave at hg;obtain ⟨o, ho⟩ : ∃ o, readT r = o := ⟨_, rfl⟩;rw [ho] at hg;have HRT := Lib.hid ho;clear ho
  cases o with
  | none =>
    obtain ⟨rfl, fT⟩ := hg;have HNO := Lib.hid (mount_no1 HL.out (show logT l = none by rw [logT, HX0.out, if_neg HNE.out]; exact HRT.out));have H := (H0.go fT).lay_ 44 [.int .i64 0, .slice none 0 0] rfl;clear H0 fT;have e0 := H.fa 3 0 rfl rfl;have e1 := H.fa 3 1 rfl rfl;have f0 := H.bfree 3 rfl 0;have f1 := H.bfree 3 rfl 1;have H9 := H.bputs 3 rfl [.int .i64 0, .slice none 0 0] rfl;simp only [setsW] at H9;clear H;go_wp2_with fail
    ((try simp only [Exit.inBlock, Exit.then]); refine bodyPost_ret (results_cell_tmp3_row rfl _ _ w.heap.size 28 #[.int .i64 0, .slice none 0 0] (0, 0) _ rfl (H9.blk 3 rfl) Tryz.underlying28 rfl (by kernel_rfl)) rfl ?_)
    exact mountGave_no HNO.out (H9.sub (l' := [.row 34 2 (.slice (some ⟨w.heap.size + 1, 0, none⟩) 0 0) 0 []]) (by simp))
  | some p9 =>
    obtain ⟨seq, outs⟩ := p9;obtain ⟨C, d, hsh, rfl, hcd, Hj⟩ := hg;have HLG := Lib.hid (show logT l = some (seq, outs) by rw [logT, HX0.out, if_neg HNE.out]; exact HRT.out);have HX := txnB_R (readT_ok HRT.out);have HOUT := Lib.hid HX.outs;have HO17 := Lib.hid HX.len.2;have ho17 : outs.length ≤ 17 := HX.len.2;have HDD := Lib.hid hcd;clear HX hsh;have H := (H0.join Hj).lay_ 44 [.int .i64 seq, .slice C outs.length d] rfl;clear H0 Hj;obtain ⟨gt, hgt⟩ : ∃ x, x = wT.heap.size := ⟨_, rfl⟩;rw [← hgt] at H;have HGT := Lib.hid hgt;clear hgt;have y7 := H.fa 0 0 rfl rfl;have y8 := H.fa 0 1 rfl rfl;have e0 := H.fa 2 0 rfl rfl;have e1 := H.fa 2 1 rfl rfl;have f0 := H.bfree 2 rfl 0;have f1 := H.bfree 2 rfl 1;have H9 := H.bputs 2 rfl [.int .i64 seq, .slice C outs.length d] rfl;simp only [setsW] at H9;rw [HGT.out] at y7 y8 H H9;have H6 := H9.tail;clear H H9;have H := H6;clear H6;go_wp2_with (at_builtin; refine wp_appRd (H.lit_ 9 1 0 [] rfl (by simp [maxLen]) (g := wT.heap.size + 1) (by simp)) rfl _ _ _ rfl Tryz.underlying24 infoString rfl (by decide) 0 _ _ _ rfl rfl _ _ _ _ rfl ((fun h => nomatch h)) ((rd_take17 (HR.out.fr (H.lit_ 9 1 0 [] rfl (by simp [maxLen]) (g := wT.heap.size + 1) (by simp)).fr))) (one_strM _) (by first | (simp only [maxLen]; omega) | (simp [maxLen]; done) | (simp [maxLen]; omega)) (by first | omega | (simp; done) | (simp; omega)) ?_)
    intro v9 wC H9;clear y7 y8 e0 e1 f0 f1;replace H : Hp [] w wC [.row 9 1 v9 17 ((l.take 17).map Value.string), .row 34 2 (.slice C outs.length d) outs.length (outs.flatMap cWrite), .blk (w.heap.size + 1 + 1) 44 [.int .i64 seq, .slice C outs.length d], .row 34 2 (.slice (some ⟨w.heap.size + 1, 0, none⟩) 0 0) 0 [], .blk w.heap.size 28 [.int .i64 0, .slice none 0 0]] := H9.recast (by simp);clear H9;obtain ⟨ga, cga, ea, _⟩ := H.form 0 rfl (by omega);subst ea;have y6 := H.fa 2 1 rfl rfl;have HS0 : Hp [] w wC [.row 9 1 (.slice (some ⟨ga, 0, none⟩) 17 cga) 17 ((putAll (l.take 17) (outs.take 0)).map Value.string), .row 34 2 (.slice C outs.length d) outs.length (outs.flatMap cWrite), .blk (w.heap.size + 1 + 1) 44 [.int .i64 seq, .slice C outs.length d], .row 34 2 (.slice (some ⟨w.heap.size + 1, 0, none⟩) 0 0) 0 [], .blk w.heap.size 28 [.int .i64 0, .slice none 0 0]] := H;clear H;go_wp2_with fail
    go_loopw [11] (fun kv wr => ∃ k : Nat, kv = .int .i64 k ∧ k ≤ outs.length ∧ Hp [] w wr [.row 9 1 (.slice (some ⟨ga, 0, none⟩) 17 cga) 17 ((putAll (l.take 17) (outs.take k)).map Value.string), .row 34 2 (.slice C outs.length d) outs.length (outs.flatMap cWrite), .blk (w.heap.size + 1 + 1) 44 [.int .i64 seq, .slice C outs.length d], .row 34 2 (.slice (some ⟨w.heap.size + 1, 0, none⟩) 0 0) 0 [], .blk w.heap.size 28 [.int .i64 0, .slice none 0 0]]) (fun kv _ => outs.length - (intOf kv).toNat)
    case atStart => exact ⟨0, rfl, by omega, HS0⟩
    case round =>
     clear HS0 y6;obtain ⟨k, rfl, hk, H⟩ := hrel;have hk0 : (0 : Int) ≤ (k : Int) := by omega
     have y6 := H.fa 2 1 rfl rfl;obtain ⟨T, hT⟩ : ∃ T, T = putAll (l.take 17) (outs.take k) := ⟨_, rfl⟩;have HT := Lib.hid hT;rw [← hT] at H;have HTL := Lib.hid (show T.length = 17 by rw [hT, putAll_len, List.length_take, HL.out]; rfl);clear hT
     by_cases hlt : k < outs.length
     ·have hlt1 : (k : Int) < (outs.length : Int) := by omega
      obtain ⟨⟨x0, x1⟩, hx⟩ := some_at rfl hlt;have hxb := HOUT.out _ (List.mem_of_getElem? hx);obtain ⟨z, hz⟩ : ∃ z : Nat, z = x0.toNat := ⟨_, rfl⟩;have hxz : x0 = (z : Int) := by have := hxb.1; simp only at this; omega
      have hz17 : z < 17 := by have := hxb.2.1; simp only at this; omega
      obtain rfl := hxz;have hz0 : (0 : Int) ≤ (z : Int) := by omega
      have hz1 : (z : Int) < 17 := by omega
      have HES := Lib.hid (show T.set z x1 = putAll (l.take 17) (outs.take (k + 1)) by
       rw [putAll_snoc hx, ← HT.out, ← hz])
      obtain ⟨g1, c1, e1, _⟩ := H.form 1 rfl (by omega);injection e1 with e11 _ e12;obtain ⟨yo, hyo⟩ := some_at HTL.out hz17;rw [e11] at H y6;have HE11 := Lib.hid e11;clear e11 e12;have ca0 := H.atL 1 rfl cWrite_len (r := 0) hx rfl;have ca1 := H.atL 1 rfl cWrite_len (r := 1) hx rfl;simp only [Nat.add_zero] at ca0;have hx9 := Lib.hid hx;have hyo9 := Lib.hid hyo;clear hx hxb hz;clear hyo;go_wp2_with fail;replace H := H.drew;have y6 := H.fa 2 1 rfl rfl;have ca0 := H.atL 1 rfl cWrite_len (r := 0) hx9.out rfl;have ca1 := H.atL 1 rfl cWrite_len (r := 1) hx9.out rfl;simp only [Nat.add_zero] at ca0;refine wp_region_held_drew (S := fun w' => w'.cell? ⟨w.heap.size + 1 + 1, 1, none⟩ = some (.slice (some ⟨g1, 0, none⟩) outs.length d) ∧ w'.cell? ⟨g1, k * 2, none⟩ = some (.int .i64 (z : Int)) ∧ w'.cell? ⟨g1, k * 2 + 1, none⟩ = some (.string x1)) (by kernel_rfl) ?_ (fun hHeld => ?_)
      ·exact ⟨y6, ca0, ca1⟩
      obtain ⟨u0, hu0⟩ : ∃ uu : World, uu = wr.drew := ⟨_, rfl⟩;rw [← hu0] at H hHeld ⊢;clear hu0;refine wpT 0 ?_;refine wpT 1 ?_;refine wpT 2 ?_;refine wpT 3 ?_;refine wpT 4 ?_;refine wpT 5 ?_;refine wpT 6 ?_;refine wpT 7 ?_;refine wpT 8 ?_;refine wpT 9 ?_;refine wpT 10 ?_;refine wpT 11 ?_;refine wpT 12 ?_;refine wpT 13 ?_;refine wpC 14 fun K hK => ?_;have t0 := H.atM 0 rfl (j := z) hyo9.out;have t1 := H.free 0 rfl z;replace H := H.putM 0 rfl z x1;go_simp;refine hK.out _ _ ?_ fun hHeld => ?_
      ·exact ⟨H.fa 2 1 rfl rfl, (by have q := H.atL 1 rfl cWrite_len (r := 0) hx9.out rfl; simp only [Nat.add_zero] at q; exact q), H.atL 1 rfl cWrite_len (r := 1) hx9.out rfl⟩
      clear hK K;(try simp only [sX, Act.put]);refine wpAnyH_done (by kernel_rfl) ?_ _;have H9 := Lib.hid H;clear H y6 ca0 ca1;go_wp2_with fail;go_roundw
      case rel => exact ⟨k + 1, by go_num, by omega, by have h9 := H9.out; rw [HES.out, ← HE11.out] at h9; exact h9⟩
      case measure => simp [intOf]; omega
     ·have hlt1 : ¬ (k : Int) < (outs.length : Int) := by omega
      have HPT := Lib.hid (show putAll (l.take 17) outs = T by rw [HT.out, show outs.take k = outs from List.take_of_length_le (by omega)]);have HTS := Lib.hid (show ∀ t ∈ T, t.size ≤ 16777216 by
       rw [HT.out];exact putAll_sz (fun t ht => HSZ.out t (List.mem_of_mem_take ht)) (fun x hx => Nat.le_trans (HOUT.out x (List.mem_of_mem_take hx)).2.2 (by omega)))
      have HRW := Lib.hid (H.rd 0 rfl);go_wp2_with fail;refine (specReadBlocks_any (some ⟨ga, 0, none⟩) 17 cga T _ HRW.out (by omega) HTS.out).mono ?_;rintro e wR hg;unfold ReadGave at hg;clear y6;obtain ⟨o, ho⟩ : ∃ o, readB T = o := ⟨_, rfl⟩;rw [ho] at hg;have HO := Lib.hid ho;clear ho
      cases o with
      | none =>
        obtain ⟨rfl, fR⟩ := hg;have HNO := Lib.hid (mount_no2 HL.out HLG.out (by rw [HPT.out]; exact HO.out));replace H := (H.go fR).lay_ 28 [.int .i64 0, .slice none 0 0] rfl;clear fR;have e0 := H.fa 5 0 rfl rfl;have e1 := H.fa 5 1 rfl rfl;have f0 := H.bfree 5 rfl 0;have f1 := H.bfree 5 rfl 1;have H9 := H.bputs 5 rfl [.int .i64 0, .slice none 0 0] rfl;simp only [setsW] at H9;clear H;go_wp2_with fail
        ((try simp only [Exit.inBlock, Exit.then]); refine bodyPost_ret (results_cell_tmp3_row rfl _ _ w.heap.size 28 #[.int .i64 0, .slice none 0 0] (0, 0) _ rfl (H9.blk 5 rfl) Tryz.underlying28 rfl (by kernel_rfl)) rfl ?_)
        exact mountGave_no HNO.out (H9.sub (l' := [.row 34 2 (.slice (some ⟨w.heap.size + 1, 0, none⟩) 0 0) 0 []]) (by simp))
      | some q9 =>
        obtain ⟨next, nds⟩ := q9;obtain ⟨D, cq, L, hnd, hvb, hbb, hrs, rfl, hcq, Hj⟩ := hg;have HND := Lib.hid hnd;have HVB := Lib.hid hvb;have HRS := Lib.hid hrs;have HCQ := Lib.hid hcq;have HYS := Lib.hid (mount_yes HL.out HLG.out (by rw [HPT.out]; exact HO.out));replace H := H.join Hj;clear Hj hnd hvb hrs hcq hbb;replace H := H.lay_ 28 [.int .i64 next, .slice D L.length cq] rfl;obtain ⟨gv, hgv⟩ : ∃ x, x = wR.heap.size := ⟨_, rfl⟩;rw [← hgv] at H;have HGV := Lib.hid hgv;clear hgv;go_wp2_with fail;rw [← HGV.out];replace H := H.drew;have s0 := H.fa 0 0 rfl rfl;have s1 := H.fa 0 1 rfl rfl;have s2 := H.fa 4 0 rfl rfl;have s3 := H.fa 4 1 rfl rfl;refine wp_region_held_drew (S := fun w' => w'.cell? ⟨gv, 0, none⟩ = some (.int .i64 next) ∧ w'.cell? ⟨gv, 1, none⟩ = some (.slice D L.length cq) ∧ w'.cell? ⟨w.heap.size + 1 + 1, 0, none⟩ = some (.int .i64 seq) ∧ w'.cell? ⟨w.heap.size + 1 + 1, 1, none⟩ = some (.slice C outs.length d)) (by kernel_rfl) ?_ (fun hHeld => ?_)
        ·exact ⟨s0, s1, s2, s3⟩
        obtain ⟨u0, hu0⟩ : ∃ uu : World, uu = (wR.alloc (.cells #[.int .i64 next, .slice D L.length cq] 28)).drew := ⟨_, rfl⟩;rw [← hu0] at H hHeld ⊢;clear hu0;refine wpT 0 ?_;refine wpT 1 ?_;refine wpT 2 ?_;refine wpT 3 ?_;refine wpT 4 ?_;refine wpC 5 fun K hK => ?_;have e0 := H.bfree 6 rfl 0;have e1 := H.bfree 6 rfl 1;have e2 := H.fa 6 0 rfl rfl;have e3 := H.fa 6 1 rfl rfl;replace H := (H.bput 6 rfl 0 (.int .i64 next)).bput 6 rfl 1 (.slice D L.length cq);go_simp;refine hK.out _ _ ?_ fun hHeld => ?_
        ·exact ⟨H.fa 0 0 rfl rfl, H.fa 0 1 rfl rfl, H.fa 4 0 rfl rfl, H.fa 4 1 rfl rfl⟩
        clear hK K;(try simp only [sX, Act.put]);refine wpT 6 ?_;refine wpT 7 ?_;refine wpT 8 ?_;refine wpAnyH_done (by kernel_rfl) ?_ _;go_wp2_with fail
        ((try simp only [Exit.inBlock, Exit.then]); refine bodyPost_ret (results_cell_tmp3_row rfl _ _ w.heap.size 28 #[.int .i64 next, .slice D L.length cq] (0, 0) _ rfl (H.blk 6 rfl) Tryz.underlying28 rfl (by kernel_rfl)) rfl ?_)
        exact mountGave_yes HYS.out HND.out HVB.out HRS.out (fun x hx => (HOUT.out x hx).2.2) HO17.out HCQ.out HDD.out (H.sub (by simp))
end Go.Proofs.YtmpldngnkacnmaaGreatDoor
