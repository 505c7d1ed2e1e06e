/-
  Many texts in one: MountI, Law2, Door.
-/
import Derived.Test.YtaogikhpglcmjaaGreatDoorGv
import Derived.Test.YtaogikhpglcmjaaGreatDoorGZb
import Derived.Test.YtaogikhpglcmjaaGreatDoorGb
import Derived.Test.YtaogikhpglcmjaaGreatDoorGg
import Derived.Test.YtaogikhpglcmjaaGreatDoorRows
import Derived.Lib.LaidTab
import Derived.LaidMore
import Derived.MakeChecks
import Derived.OpenShut
import Derived.Stop.Joined
namespace Go.Proofs.YtaogikhpglcmjaaGreatDoor
open Go.RowKit

set_option linter.unusedVariables false
set_option linter.unusedSimpArgs false
theorem results_cell_tmp3_row {P : Program} {fn : Func} {p u v x : Tmp} {ty : TypeId} (h : fn.results = #[.cell p ty, .tmp u, .tmp v, .tmp x]) (tmps : Array Value) (w : World) (g : Nat) (t : TypeId) (cs : Array Value) (fr : Nat × Nat) (d : TypeDesc)
    (hp : tmps.getD p undef = .pointer (some ⟨g, 0, none⟩)) (hg : w.heap[g]? = some (.cells cs t fr))
    (hu : P.underlying ty = some d) (hd : (match d with | .struct _ | .array _ _ => true | _ => false) = true) (hi : (P.info? ty).map (·.size) = some cs.size) :
    (results fn tmps).run P w = .ok (.tuple #[.agg cs, tmps.getD u undef, tmps.getD v undef, tmps.getD x undef]) w := by
  have hp' : tmps[p]?.getD undef = .pointer (some ⟨g, 0, none⟩) := by simpa using hp
  simp [results, h, hp', asAddr, run_loadVar_row w g t ty cs fr d hg hu hd hi]
theorem one_strM (l : List ByteArray) : ∀ u ∈ l.map Value.string, u.oneCell' = true := by
  intro u hu
  obtain ⟨e, _, rfl⟩ := List.mem_map.1 hu
  rfl
set_option maxRecDepth 100000 in
set_option maxHeartbeats 1000000 in
theorem copyTextsM_any (B : Option Addr) (m d : Nat) (data : List ByteArray) (w : World) (h : Rd w B m 1 (data.map Value.string)) (hc : B = none → d = 0) (hm : m ≤ 1048576) :
    Calls Tryz.prog 25 #[.slice B m d] w fun e w' => Made w 9 1 m (data.map Value.string) e w' := by
  go_enter Tryz.func25, Tryz.ntmps25
  go_wp2_with (at_builtin; refine wp_appRd ((Hp.start w).nil_ 9 1) rfl _ _ _ rfl Tryz.underlying22 infoString rfl (by decide) 0 _ _ _ rfl rfl _ _ _ _ rfl (hc) (h) (one_strM _) (by first | (simp only [maxLen]; omega) | (simp [maxLen]; done) | (simp [maxLen]; omega)) (by first | omega | (simp; done) | (simp; omega)) ?_)
  intro v' w9 H9
  obtain ⟨B, d, rfl⟩ := H9.shape 0 rfl
  have HF := Lib.hid H9
  clear H9 h hc
  go_wp2_with fail
  go_ret
  have h9 := HF.out
  exact h9.toMade 0 rfl
theorem rd_take17 {w : World} {A : Option Addr} {l : List ByteArray} (h : Rd w A 18 1 (l.map Value.string)) : Rd w A 17 1 ((l.take 17).map Value.string) := by
  have hl := h.len1
  refine ⟨by simp [hl], fun _ => ?_⟩
  obtain ⟨b, o, rfl, hc⟩ := h.2 (by omega)
  refine ⟨b, o, rfl, fun j u hu => hc j u ?_⟩
  rw [List.map_take, List.getElem?_take] at hu
  split at hu
  · exact hu
  · cases hu
theorem readT_ok {s : List UInt8} {p : Int × List WrT} (h : readT s = some p) : txnB p.1 p.2 = true := by
  classical
  rw [readT] at h
  split at h
  · rename_i hex
    have hc := Classical.choose_spec hex
    injection h with h
    rw [h] at hc
    exact (showT_ok (by rw [hc.1]; exact hc.2)).1
  · cases h
theorem putAll_len (l : List ByteArray) (o : List WrT) : (putAll l o).length = l.length := by
  induction o generalizing l with
  | nil => rfl
  | cons x o ih => rw [putAll, List.foldl_cons]; exact (ih _).trans (List.length_set ..)
theorem putAll_snoc {l : List ByteArray} {o : List WrT} {k : Nat} {x : WrT} (h : o[k]? = some x) : putAll l (o.take (k + 1)) = (putAll l (o.take k)).set x.1.toNat x.2 := by
  rw [List.take_add_one, h, Option.toList_some, putAll, List.foldl_append]
  rfl
theorem putAll_sz {B : Nat} {l : List ByteArray} {o : List WrT} (hl : ∀ t ∈ l, t.size ≤ B) (ho : ∀ x ∈ o, x.2.size ≤ B) : ∀ t ∈ putAll l o, t.size ≤ B := by
  induction o generalizing l with
  | nil => exact hl
  | cons x o ih =>
    rw [putAll, List.foldl_cons]
    refine ih (fun t ht => ?_) (fun y hy => ho y (List.mem_cons_of_mem _ hy))
    rcases List.mem_or_eq_of_mem_set ht with h1 | h1
    · exact hl t h1
    · rw [h1]; exact ho x List.mem_cons_self
theorem mount_no1 {l : List ByteArray} (hl : l.length = 18) (h : logT l = none) : mountB l = none := by
  rw [mountB, if_neg (by omega), h]
theorem mount_no2 {l : List ByteArray} {seq : Int} {outs : List WrT} (hl : l.length = 18) (h : logT l = some (seq, outs)) (hr : readB (putAll (l.take 17) outs) = none) : mountB l = none := by
  rw [mountB, if_neg (by omega), h]
  simp only [hr]
theorem mount_yes {l : List ByteArray} {seq : Int} {outs : List WrT} {v : Int × List Nod} (hl : l.length = 18) (h : logT l = some (seq, outs)) (hr : readB (putAll (l.take 17) outs) = some v) : mountB l = some (v, outs, seq) := by
  rw [mountB, if_neg (by omega), h]
  simp only [hr]
/-- What Mount hands back. -/
def MountGave (w : World) (l : List ByteArray) (e : Ending) (w' : World) : Prop := match mountB l with
  | none => ∃ (C : Option Addr) (d : Nat), e = .returned (.tuple #[.agg #[.int .i64 0, .slice none 0 0], .slice C 0 d, .int .i64 0, .int .i64 1]) ∧ Hp [] w w' [.row 61 2 (.slice C 0 d) 0 []]
  | some p => ∃ (A : Option Addr) (c : Nat) (L : List (Value × Nod)) (C : Option Addr) (d : Nat), nodes L = p.1.2 ∧ volB p.1.1 p.1.2 = true ∧ ReadSz L ∧ (∀ x ∈ p.2.1, x.2.size ≤ 400) ∧ p.2.1.length ≤ 17 ∧ L.length ≤ c ∧ p.2.1.length ≤ d ∧
      e = .returned (.tuple #[.agg #[.int .i64 p.1.1, .slice A L.length c], .slice C p.2.1.length d, .int .i64 p.2.2, .int .i64 0]) ∧ Hp [] w w' [obN (.slice A L.length c) L.length L, .row 61 2 (.slice C p.2.1.length d) p.2.1.length (p.2.1.flatMap cWrite)]
theorem mountGave_no {w w' : World} {l : List ByteArray} {C : Option Addr} {d : Nat} (h : mountB l = none) (H : Hp [] w w' [.row 61 2 (.slice C 0 d) 0 []]) :
    MountGave w l (.returned (.tuple #[.agg #[.int .i64 0, .slice none 0 0], .slice C 0 d, .int .i64 0, .int .i64 1])) w' := by
  unfold MountGave; rw [h]; exact ⟨C, d, rfl, H⟩
theorem mountGave_yes {w w' : World} {l : List ByteArray} {next seq : Int} {nds : List Nod} {outs : List WrT} {A C : Option Addr} {c d : Nat} {L : List (Value × Nod)} (h : mountB l = some ((next, nds), outs, seq)) (hn : nodes L = nds) (hv : volB next nds = true) (hs : ReadSz L) (ho : ∀ x ∈ outs, x.2.size ≤ 400) (h17 : outs.length ≤ 17) (hc : L.length ≤ c) (hd : outs.length ≤ d)
    (H : Hp [] w w' [obN (.slice A L.length c) L.length L, .row 61 2 (.slice C outs.length d) outs.length (outs.flatMap cWrite)]) :
    MountGave w l (.returned (.tuple #[.agg #[.int .i64 next, .slice A L.length c], .slice C outs.length d, .int .i64 seq, .int .i64 0])) w' := by
  unfold MountGave; rw [h]; exact ⟨A, c, L, C, d, hn, hv, hs, ho, h17, hc, hd, rfl, H⟩
set_option maxRecDepth 100000 in
set_option maxHeartbeats 8000000 in
theorem implMount_any (A : Option Addr) (n c : Nat) (l : List ByteArray) (w : World) (h : Rd w A n 1 (l.map Value.string)) (hc : n ≤ c) (hn : n ≤ 1048576) (hsz : ∀ t ∈ l, t.size ≤ 16777216) (hk : KT w) :
    Calls Tryz.prog 8 #[.slice A n c] w (MountGave w l) := by
  have HL := Lib.hid h.len1
  have HR := Lib.hid h
  have HSZ := Lib.hid hsz
  have HK := Lib.hid hk
  clear hk
  clear hsz
  by_cases h18 : n = 18
  case neg =>
    have h181 : ¬ (n : Int) = 18 := by omega
    have h182 : ((n : Int) != 18) = true := bne_iff_ne.2 h181
    have HNO := Lib.hid (show mountB l = none by rw [mountB, if_pos (by rw [HL.out]; exact h18)])
    have H := ((Hp.start w).lay_ 26 [.int .i64 0, .slice none 0 0] rfl)
    go_enter Tryz.func8, Tryz.ntmps8
    have e0 := H.bat 0 rfl (j := 0) rfl
    have e1 := H.bat 0 rfl (j := 1) rfl
    have f0 := H.bfree 0 rfl 0
    have f1 := H.bfree 0 rfl 1
    go_wp2_with fail
    ((try simp only [Exit.inBlock, Exit.then]); refine bodyPost_ret (results_cell_tmp3_row rfl _ _ w.heap.size 26 #[.int .i64 0, .slice none 0 0] (0, 0) _ rfl (H.blk 0 rfl) Tryz.underlying26 rfl (by kernel_rfl)) rfl ?_)
    exact mountGave_no HNO.out (show Hp [] w _ [.row 61 2 (.slice none 0 0) 0 []] from (H.sub (List.nil_sublist _)).nil_ 61 2)
  have h181 : (n : Int) = 18 := by omega
  have h182 : ((n : Int) != 18) = false := by rw [h181]; rfl
  obtain ⟨t0, ht0⟩ := some_at HL.out (show 17 < n by omega)
  obtain ⟨bk, of, rfl, c0⟩ := h.get1 ht0
  have H0 := ((Hp.start w).lay_ 26 [.int .i64 0, .slice none 0 0] rfl).lay_ 57 [.int .i64 0, .slice none 0 0] (g := w.heap.size + 1) (by simp)
  have c0' := fr_cellM H0.fr c0
  have hs0 := HSZ.out t0 (List.mem_of_getElem? ht0)
  have HX0 := Lib.hid (txt_at ht0)
  clear h ht0 c0
  obtain ⟨r, hr⟩ : ∃ r, r = toB t0 := ⟨_, rfl⟩
  have hrl : r.length ≤ 16777216 := by rw [hr, toB_len]; exact hs0
  have HT0 := Lib.hid (show ofB r = t0 by rw [hr, ofB_toB])
  rw [← hr] at HX0
  have HRE := Lib.hid hr
  clear hr hs0
  have hcall : ∀ w0, Calls Tryz.prog 24 #[.string t0] w0 (ReadTGave w0 r) := fun w0 => by
    have := implReadTxn_any r w0 hrl
    rwa [HT0.out] at this
  subst h18
  by_cases hemp : t0 = ByteArray.mk #[]
  · have HLG0 := Lib.hid (show logT l = some (0, []) by rw [logT, HX0.out, if_pos (by rw [HRE.out, hemp]; rfl)])
    clear hcall
    subst hemp
    obtain ⟨seq, outs, C, d, hlg, hout, ho17, hdd, H⟩ : ∃ (seq : Int) (outs : List WrT) (C : Option Addr) (d : Nat), logT l = some (seq, outs) ∧ (∀ x ∈ outs, 0 ≤ x.1 ∧ x.1 ≤ 16 ∧ x.2.size ≤ 400) ∧ outs.length ≤ 17 ∧ outs.length ≤ d ∧ Hp [] w _ [.row 61 2 (.slice C outs.length d) outs.length (outs.flatMap cWrite), .blk (w.heap.size + 1) 57 [.int .i64 seq, .slice C outs.length d], .blk w.heap.size 26 [.int .i64 0, .slice none 0 0]] := ⟨0, [], none, 0, HLG0.out, (fun x hx => nomatch hx), by simp, by simp, H0.nil_ 61 2⟩
    have HLG := Lib.hid hlg
    have HOUT := Lib.hid hout
    have HO17 := Lib.hid ho17
    have HDD := Lib.hid hdd
    clear hlg hout H0
    go_enter Tryz.func8, Tryz.ntmps8
    go_wp2_with fail
    clear c0'
    refine (copyTextsM_any (some ⟨bk, of, none⟩) 17 c (l.take 17) _ (rd_take17 (HR.out.fr H.fr)) (fun h => nomatch h) (by omega)).mono ?_
    rintro e wC ⟨B9, d9, rfl, oC, fC⟩
    replace H := H.made oC fC
    clear oC fC
    obtain ⟨ga, cga, ea, _⟩ := H.form 0 rfl (by omega)
    injection ea with ea1 _ ea2
    subst ea1 ea2
    have y6 := H.bat 2 rfl (j := 1) rfl
    have HS0 : Hp [] w wC [.row 9 1 (.slice (some ⟨ga, 0, none⟩) 17 d9) 17 ((putAll (l.take 17) (outs.take 0)).map Value.string), .row 61 2 (.slice C outs.length d) outs.length (outs.flatMap cWrite), .blk (w.heap.size + 1) 57 [.int .i64 seq, .slice C outs.length d], .blk w.heap.size 26 [.int .i64 0, .slice none 0 0]] := H
    clear H
    go_wp2_with fail
    go_loopw [40] (fun kv wr => ∃ k : Nat, kv = .int .i64 k ∧ k ≤ outs.length ∧ Hp [] w wr [.row 9 1 (.slice (some ⟨ga, 0, none⟩) 17 d9) 17 ((putAll (l.take 17) (outs.take k)).map Value.string), .row 61 2 (.slice C outs.length d) outs.length (outs.flatMap cWrite), .blk (w.heap.size + 1) 57 [.int .i64 seq, .slice C outs.length d], .blk w.heap.size 26 [.int .i64 0, .slice none 0 0]]) (fun kv _ => outs.length - (intOf kv).toNat)
    case atStart => exact ⟨0, rfl, by omega, HS0⟩
    case round =>
      clear HS0 y6
      obtain ⟨k, rfl, hk, H⟩ := hrel
      have hk0 : (0 : Int) ≤ (k : Int) := by omega
      have y6 := H.bat 2 rfl (j := 1) rfl
      obtain ⟨T, hT⟩ : ∃ T, T = putAll (l.take 17) (outs.take k) := ⟨_, rfl⟩
      have HT := Lib.hid hT
      rw [← hT] at H
      have HTL := Lib.hid (show T.length = 17 by rw [hT, putAll_len, List.length_take, HL.out]; rfl)
      clear hT
      by_cases hlt : k < outs.length
      · have hlt1 : (k : Int) < (outs.length : Int) := by omega
        obtain ⟨⟨x0, x1⟩, hx⟩ := some_at rfl hlt
        have hxb := HOUT.out _ (List.mem_of_getElem? hx)
        obtain ⟨z, hz⟩ : ∃ z : Nat, z = x0.toNat := ⟨_, rfl⟩
        have hxz : x0 = (z : Int) := by have := hxb.1; simp only at this; omega
        have hz17 : z < 17 := by have := hxb.2.1; simp only at this; omega
        obtain rfl := hxz
        have hz0 : (0 : Int) ≤ (z : Int) := by omega
        have hz1 : (z : Int) < 17 := by omega
        have HES := Lib.hid (show T.set z x1 = putAll (l.take 17) (outs.take (k + 1)) by
          rw [putAll_snoc hx, ← HT.out, ← hz])
        obtain ⟨g1, c1, e1, _⟩ := H.form 1 rfl (by omega)
        injection e1 with e11 _ e12
        obtain ⟨yo, hyo⟩ := some_at HTL.out hz17
        rw [e11] at H y6
        have HE11 := Lib.hid e11
        have ca0 := H.atL 1 rfl cWrite_len (r := 0) hx rfl
        have ca1 := H.atL 1 rfl cWrite_len (r := 1) hx rfl
        simp only [Nat.add_zero] at ca0
        clear hx hxb hz
        have H2 := H.lay_ 61 [.int .i64 (z : Int), .string x1] rfl
        have t0 := H2.atM 1 rfl (j := z) hyo
        have t1 := H2.free 1 rfl z
        have H3 := H2.putM 1 rfl z x1
        clear hyo
        have H9 := Lib.hid H3.tail
        clear H H2 H3
        go_wp2_with fail
        go_roundw
        case rel => exact ⟨k + 1, by go_num, by omega, by have h9 := H9.out; rw [HES.out, ← HE11.out] at h9; exact h9⟩
        case measure => simp [intOf]; omega
      · have hlt1 : ¬ (k : Int) < (outs.length : Int) := by omega
        have HPT := Lib.hid (show putAll (l.take 17) outs = T by rw [HT.out, show outs.take k = outs from List.take_of_length_le (by omega)])
        have HTS := Lib.hid (show ∀ t ∈ T, t.size ≤ 16777216 by
          rw [HT.out]
          exact putAll_sz (fun t ht => HSZ.out t (List.mem_of_mem_take ht)) (fun x hx => Nat.le_trans (HOUT.out x (List.mem_of_mem_take hx)).2.2 (by omega)))
        have HRW := Lib.hid (H.rd 0 rfl)
        go_wp2_with fail
        refine (implReadBlocks_any (some ⟨ga, 0, none⟩) 17 d9 T _ HRW.out (by omega) HTS.out (HK.out.fr H.fr)).mono ?_
        rintro e wR hg
        unfold ReadGave at hg
        clear y6
        obtain ⟨o, ho⟩ : ∃ o, readB T = o := ⟨_, rfl⟩
        rw [ho] at hg
        have HO := Lib.hid ho
        clear ho
        cases o with
        | none =>
          obtain ⟨rfl, fR⟩ := hg
          have HNO := Lib.hid (mount_no2 HL.out HLG.out (by rw [HPT.out]; exact HO.out))
          replace H := (H.go fR).lay_ 26 [.int .i64 0, .slice none 0 0] rfl
          clear fR
          have e0 := H.bat 4 rfl (j := 0) rfl
          have e1 := H.bat 4 rfl (j := 1) rfl
          have f0 := H.bfree 4 rfl 0
          have f1 := H.bfree 4 rfl 1
          have H9 := H.bputs 4 rfl [.int .i64 0, .slice none 0 0] rfl
          simp only [setsW] at H9
          clear H
          go_wp2_with fail
          ((try simp only [Exit.inBlock, Exit.then]); refine bodyPost_ret (results_cell_tmp3_row rfl _ _ w.heap.size 26 #[.int .i64 0, .slice none 0 0] (0, 0) _ rfl (H9.blk 4 rfl) Tryz.underlying26 rfl (by kernel_rfl)) rfl ?_)
          exact mountGave_no HNO.out (show Hp [] w _ [.row 61 2 (.slice none 0 0) 0 []] from (H9.sub (List.nil_sublist _)).nil_ 61 2)
        | some q9 =>
          obtain ⟨next, nds⟩ := q9
          obtain ⟨D, cq, L, hnd, hvb, hbb, hrs, rfl, hcq, Hj⟩ := hg
          have HND := Lib.hid hnd
          have HVB := Lib.hid hvb
          have HRS := Lib.hid hrs
          have HCQ := Lib.hid hcq
          have HYS := Lib.hid (mount_yes HL.out HLG.out (by rw [HPT.out]; exact HO.out))
          replace H := H.join Hj
          clear Hj hnd hvb hrs hcq hbb
          replace H := H.lay_ 26 [.int .i64 next, .slice D L.length cq] rfl
          obtain ⟨gv, hgv⟩ : ∃ x, x = wR.heap.size := ⟨_, rfl⟩
          rw [← hgv] at H
          have HGV := Lib.hid hgv
          clear hgv
          go_wp2_with fail
          rw [← HGV.out]
          replace H := H.drew
          have s0 := H.bat 0 rfl (j := 0) rfl
          have s1 := H.bat 0 rfl (j := 1) rfl
          have s2 := H.bat 4 rfl (j := 0) rfl
          have s3 := H.bat 4 rfl (j := 1) rfl
          refine wp_region_held_drew (S := fun w' => w'.cell? ⟨gv, 0, none⟩ = some (.int .i64 next) ∧ w'.cell? ⟨gv, 1, none⟩ = some (.slice D L.length cq) ∧ w'.cell? ⟨w.heap.size + 1, 0, none⟩ = some (.int .i64 seq) ∧ w'.cell? ⟨w.heap.size + 1, 1, none⟩ = some (.slice C outs.length d)) (by kernel_rfl) ?_ (fun hHeld => ?_)
          · exact ⟨s0, s1, s2, s3⟩
          obtain ⟨u0, hu0⟩ : ∃ uu : World, uu = (wR.alloc (.cells #[.int .i64 next, .slice D L.length cq] 26)).drew := ⟨_, rfl⟩
          rw [← hu0] at H hHeld ⊢
          clear hu0
          refine wpT 0 ?_
          refine wpT 1 ?_
          refine wpT 2 ?_
          refine wpT 3 ?_
          refine wpT 4 ?_
          refine wpC 5 fun K hK => ?_
          have e0 := H.bfree 5 rfl 0
          have e1 := H.bfree 5 rfl 1
          have e2 := H.bat 5 rfl (j := 0) rfl
          have e3 := H.bat 5 rfl (j := 1) rfl
          replace H := (H.bput 5 rfl 0 (.int .i64 next)).bput 5 rfl 1 (.slice D L.length cq)
          go_simp
          refine hK.out _ _ ?_ (fun hHeld => ?_)
          · exact ⟨H.bat 0 rfl (j := 0) rfl, H.bat 0 rfl (j := 1) rfl, H.bat 4 rfl (j := 0) rfl, H.bat 4 rfl (j := 1) rfl⟩
          clear hK K
          try simp only [sA, sB, sC, Act.put, sD, sE, sF]
          refine wpT 6 ?_
          refine wpT 7 ?_
          refine wpT 8 ?_
          refine wpAnyH_done (by kernel_rfl) ?_ _
          go_wp2_with fail
          ((try simp only [Exit.inBlock, Exit.then]); refine bodyPost_ret (results_cell_tmp3_row rfl _ _ w.heap.size 26 #[.int .i64 next, .slice D L.length cq] (0, 0) _ rfl (H.blk 5 rfl) Tryz.underlying26 rfl (by kernel_rfl)) rfl ?_)
          exact mountGave_yes HYS.out HND.out HVB.out HRS.out (fun x hx => (HOUT.out x hx).2.2) HO17.out HCQ.out HDD.out (H.sub (by simp))
  · have hs0 : ¬ t0.size = 0 := fun e => hemp (ba_empty e)
    obtain ⟨hsa, hsb, hsc, hsd⟩ := nonempty_facts hs0
    have HNE := Lib.hid (show r ≠ [] from fun e => hs0 (by rw [← HT0.out, e]; rfl))
    clear hemp hs0
    go_enter Tryz.func8, Tryz.ntmps8
    go_wp2_with fail
    clear c0'
    refine (hcall _).mono ?_
    clear hcall
    rintro e wT hg
    unfold ReadTGave at hg
    obtain ⟨o, ho⟩ : ∃ o, readT r = o := ⟨_, rfl⟩
    rw [ho] at hg
    have HRT := Lib.hid ho
    clear ho
    cases o with
    | none =>
      obtain ⟨rfl, fT⟩ := hg
      have HNO := Lib.hid (mount_no1 HL.out (show logT l = none by rw [logT, HX0.out, if_neg HNE.out]; exact HRT.out))
      have H := (H0.go fT).lay_ 57 [.int .i64 0, .slice none 0 0] rfl
      clear H0 fT
      have e0 := H.bat 2 rfl (j := 0) rfl
      have e1 := H.bat 2 rfl (j := 1) rfl
      have f0 := H.bfree 2 rfl 0
      have f1 := H.bfree 2 rfl 1
      have H9 := H.bputs 2 rfl [.int .i64 0, .slice none 0 0] rfl
      simp only [setsW] at H9
      clear H
      go_wp2_with fail
      ((try simp only [Exit.inBlock, Exit.then]); refine bodyPost_ret (results_cell_tmp3_row rfl _ _ w.heap.size 26 #[.int .i64 0, .slice none 0 0] (0, 0) _ rfl (H9.blk 2 rfl) Tryz.underlying26 rfl (by kernel_rfl)) rfl ?_)
      exact mountGave_no HNO.out (show Hp [] w _ [.row 61 2 (.slice none 0 0) 0 []] from (H9.sub (List.nil_sublist _)).nil_ 61 2)
    | some p9 =>
      obtain ⟨seq, outs⟩ := p9
      obtain ⟨C, d, hsh, rfl, hcd, Hj⟩ := hg
      have HLG := Lib.hid (show logT l = some (seq, outs) by rw [logT, HX0.out, if_neg HNE.out]; exact HRT.out)
      have HX := txnB_R (readT_ok HRT.out)
      have HOUT := Lib.hid HX.outs
      have HO17 := Lib.hid HX.len.2
      have ho17 : outs.length ≤ 17 := HX.len.2
      have HDD := Lib.hid hcd
      clear HX hsh
      have H := (H0.join Hj).lay_ 57 [.int .i64 seq, .slice C outs.length d] rfl
      clear H0 Hj
      obtain ⟨gt, hgt⟩ : ∃ x, x = wT.heap.size := ⟨_, rfl⟩
      rw [← hgt] at H
      have HGT := Lib.hid hgt
      clear hgt
      have y7 := H.bat 0 rfl (j := 0) rfl
      have y8 := H.bat 0 rfl (j := 1) rfl
      have e0 := H.bat 2 rfl (j := 0) rfl
      have e1 := H.bat 2 rfl (j := 1) rfl
      have f0 := H.bfree 2 rfl 0
      have f1 := H.bfree 2 rfl 1
      have H9 := H.bputs 2 rfl [.int .i64 seq, .slice C outs.length d] rfl
      simp only [setsW] at H9
      rw [HGT.out] at y7 y8 H H9
      have H6 := H9.tail
      clear H H9
      go_wp2_with fail
      clear y7 y8 e0 e1 f0 f1
      have H := H6
      clear H6
      refine (copyTextsM_any (some ⟨bk, of, none⟩) 17 c (l.take 17) _ (rd_take17 (HR.out.fr H.fr)) (fun h => nomatch h) (by omega)).mono ?_
      rintro e wC ⟨B9, d9, rfl, oC, fC⟩
      replace H := H.made oC fC
      clear oC fC
      obtain ⟨ga, cga, ea, _⟩ := H.form 0 rfl (by omega)
      injection ea with ea1 _ ea2
      subst ea1 ea2
      have y6 := H.bat 2 rfl (j := 1) rfl
      have HS0 : Hp [] w wC [.row 9 1 (.slice (some ⟨ga, 0, none⟩) 17 d9) 17 ((putAll (l.take 17) (outs.take 0)).map Value.string), .row 61 2 (.slice C outs.length d) outs.length (outs.flatMap cWrite), .blk (w.heap.size + 1) 57 [.int .i64 seq, .slice C outs.length d], .blk w.heap.size 26 [.int .i64 0, .slice none 0 0]] := H
      clear H
      go_wp2_with fail
      go_loopw [40] (fun kv wr => ∃ k : Nat, kv = .int .i64 k ∧ k ≤ outs.length ∧ Hp [] w wr [.row 9 1 (.slice (some ⟨ga, 0, none⟩) 17 d9) 17 ((putAll (l.take 17) (outs.take k)).map Value.string), .row 61 2 (.slice C outs.length d) outs.length (outs.flatMap cWrite), .blk (w.heap.size + 1) 57 [.int .i64 seq, .slice C outs.length d], .blk w.heap.size 26 [.int .i64 0, .slice none 0 0]]) (fun kv _ => outs.length - (intOf kv).toNat)
      case atStart => exact ⟨0, rfl, by omega, HS0⟩
      case round =>
        clear HS0 y6
        obtain ⟨k, rfl, hk, H⟩ := hrel
        have hk0 : (0 : Int) ≤ (k : Int) := by omega
        have y6 := H.bat 2 rfl (j := 1) rfl
        obtain ⟨T, hT⟩ : ∃ T, T = putAll (l.take 17) (outs.take k) := ⟨_, rfl⟩
        have HT := Lib.hid hT
        rw [← hT] at H
        have HTL := Lib.hid (show T.length = 17 by rw [hT, putAll_len, List.length_take, HL.out]; rfl)
        clear hT
        by_cases hlt : k < outs.length
        · have hlt1 : (k : Int) < (outs.length : Int) := by omega
          obtain ⟨⟨x0, x1⟩, hx⟩ := some_at rfl hlt
          have hxb := HOUT.out _ (List.mem_of_getElem? hx)
          obtain ⟨z, hz⟩ : ∃ z : Nat, z = x0.toNat := ⟨_, rfl⟩
          have hxz : x0 = (z : Int) := by have := hxb.1; simp only at this; omega
          have hz17 : z < 17 := by have := hxb.2.1; simp only at this; omega
          obtain rfl := hxz
          have hz0 : (0 : Int) ≤ (z : Int) := by omega
          have hz1 : (z : Int) < 17 := by omega
          have HES := Lib.hid (show T.set z x1 = putAll (l.take 17) (outs.take (k + 1)) by
            rw [putAll_snoc hx, ← HT.out, ← hz])
          obtain ⟨g1, c1, e1, _⟩ := H.form 1 rfl (by omega)
          injection e1 with e11 _ e12
          obtain ⟨yo, hyo⟩ := some_at HTL.out hz17
          rw [e11] at H y6
          have HE11 := Lib.hid e11
          have ca0 := H.atL 1 rfl cWrite_len (r := 0) hx rfl
          have ca1 := H.atL 1 rfl cWrite_len (r := 1) hx rfl
          simp only [Nat.add_zero] at ca0
          clear hx hxb hz
          have H2 := H.lay_ 61 [.int .i64 (z : Int), .string x1] rfl
          have t0 := H2.atM 1 rfl (j := z) hyo
          have t1 := H2.free 1 rfl z
          have H3 := H2.putM 1 rfl z x1
          clear hyo
          have H9 := Lib.hid H3.tail
          clear H H2 H3
          go_wp2_with fail
          go_roundw
          case rel => exact ⟨k + 1, by go_num, by omega, by have h9 := H9.out; rw [HES.out, ← HE11.out] at h9; exact h9⟩
          case measure => simp [intOf]; omega
        · have hlt1 : ¬ (k : Int) < (outs.length : Int) := by omega
          have HPT := Lib.hid (show putAll (l.take 17) outs = T by rw [HT.out, show outs.take k = outs from List.take_of_length_le (by omega)])
          have HTS := Lib.hid (show ∀ t ∈ T, t.size ≤ 16777216 by
            rw [HT.out]
            exact putAll_sz (fun t ht => HSZ.out t (List.mem_of_mem_take ht)) (fun x hx => Nat.le_trans (HOUT.out x (List.mem_of_mem_take hx)).2.2 (by omega)))
          have HRW := Lib.hid (H.rd 0 rfl)
          go_wp2_with fail
          refine (implReadBlocks_any (some ⟨ga, 0, none⟩) 17 d9 T _ HRW.out (by omega) HTS.out (HK.out.fr H.fr)).mono ?_
          rintro e wR hg
          unfold ReadGave at hg
          clear y6
          obtain ⟨o, ho⟩ : ∃ o, readB T = o := ⟨_, rfl⟩
          rw [ho] at hg
          have HO := Lib.hid ho
          clear ho
          cases o with
          | none =>
            obtain ⟨rfl, fR⟩ := hg
            have HNO := Lib.hid (mount_no2 HL.out HLG.out (by rw [HPT.out]; exact HO.out))
            replace H := (H.go fR).lay_ 26 [.int .i64 0, .slice none 0 0] rfl
            clear fR
            have e0 := H.bat 4 rfl (j := 0) rfl
            have e1 := H.bat 4 rfl (j := 1) rfl
            have f0 := H.bfree 4 rfl 0
            have f1 := H.bfree 4 rfl 1
            have H9 := H.bputs 4 rfl [.int .i64 0, .slice none 0 0] rfl
            simp only [setsW] at H9
            clear H
            go_wp2_with fail
            ((try simp only [Exit.inBlock, Exit.then]); refine bodyPost_ret (results_cell_tmp3_row rfl _ _ w.heap.size 26 #[.int .i64 0, .slice none 0 0] (0, 0) _ rfl (H9.blk 4 rfl) Tryz.underlying26 rfl (by kernel_rfl)) rfl ?_)
            exact mountGave_no HNO.out (show Hp [] w _ [.row 61 2 (.slice none 0 0) 0 []] from (H9.sub (List.nil_sublist _)).nil_ 61 2)
          | some q9 =>
            obtain ⟨next, nds⟩ := q9
            obtain ⟨D, cq, L, hnd, hvb, hbb, hrs, rfl, hcq, Hj⟩ := hg
            have HND := Lib.hid hnd
            have HVB := Lib.hid hvb
            have HRS := Lib.hid hrs
            have HCQ := Lib.hid hcq
            have HYS := Lib.hid (mount_yes HL.out HLG.out (by rw [HPT.out]; exact HO.out))
            replace H := H.join Hj
            clear Hj hnd hvb hrs hcq hbb
            replace H := H.lay_ 26 [.int .i64 next, .slice D L.length cq] rfl
            obtain ⟨gv, hgv⟩ : ∃ x, x = wR.heap.size := ⟨_, rfl⟩
            rw [← hgv] at H
            have HGV := Lib.hid hgv
            clear hgv
            go_wp2_with fail
            rw [← HGV.out]
            replace H := H.drew
            have s0 := H.bat 0 rfl (j := 0) rfl
            have s1 := H.bat 0 rfl (j := 1) rfl
            have s2 := H.bat 4 rfl (j := 0) rfl
            have s3 := H.bat 4 rfl (j := 1) rfl
            refine wp_region_held_drew (S := fun w' => w'.cell? ⟨gv, 0, none⟩ = some (.int .i64 next) ∧ w'.cell? ⟨gv, 1, none⟩ = some (.slice D L.length cq) ∧ w'.cell? ⟨w.heap.size + 1, 0, none⟩ = some (.int .i64 seq) ∧ w'.cell? ⟨w.heap.size + 1, 1, none⟩ = some (.slice C outs.length d)) (by kernel_rfl) ?_ (fun hHeld => ?_)
            · exact ⟨s0, s1, s2, s3⟩
            obtain ⟨u0, hu0⟩ : ∃ uu : World, uu = (wR.alloc (.cells #[.int .i64 next, .slice D L.length cq] 26)).drew := ⟨_, rfl⟩
            rw [← hu0] at H hHeld ⊢
            clear hu0
            refine wpT 0 ?_
            refine wpT 1 ?_
            refine wpT 2 ?_
            refine wpT 3 ?_
            refine wpT 4 ?_
            refine wpC 5 fun K hK => ?_
            have e0 := H.bfree 5 rfl 0
            have e1 := H.bfree 5 rfl 1
            have e2 := H.bat 5 rfl (j := 0) rfl
            have e3 := H.bat 5 rfl (j := 1) rfl
            replace H := (H.bput 5 rfl 0 (.int .i64 next)).bput 5 rfl 1 (.slice D L.length cq)
            go_simp
            refine hK.out _ _ ?_ (fun hHeld => ?_)
            · exact ⟨H.bat 0 rfl (j := 0) rfl, H.bat 0 rfl (j := 1) rfl, H.bat 4 rfl (j := 0) rfl, H.bat 4 rfl (j := 1) rfl⟩
            clear hK K
            try simp only [sA, sB, sC, Act.put, sD, sE, sF]
            refine wpT 6 ?_
            refine wpT 7 ?_
            refine wpT 8 ?_
            refine wpAnyH_done (by kernel_rfl) ?_ _
            go_wp2_with fail
            ((try simp only [Exit.inBlock, Exit.then]); refine bodyPost_ret (results_cell_tmp3_row rfl _ _ w.heap.size 26 #[.int .i64 next, .slice D L.length cq] (0, 0) _ rfl (H.blk 5 rfl) Tryz.underlying26 rfl (by kernel_rfl)) rfl ?_)
            exact mountGave_yes HYS.out HND.out HVB.out HRS.out (fun x hx => (HOUT.out x hx).2.2) HO17.out HCQ.out HDD.out (H.sub (by simp))
end Go.Proofs.YtaogikhpglcmjaaGreatDoor

namespace Go.Proofs.YtaogikhpglcmjaaGreatDoor
open Go.ChangeShapes Go.WideShapes Go.ChangeAt Go.RowKit Go.Deep
section
variable {H : Type} {enc : TypeId × Value → H} {P : Program}
theorem rd_triples_of {W : World} {t e ti : TypeId} {f0 f1 f2 : Field} (ht : P.underlying t = some (.slice e)) (he : P.underlying e = some (.struct #[f0, f1, f2])) (hc : P.cellsOf e = 3)
    (hf0 : f0.type = ti ∧ f0.offset = 0) (hf1 : f1.type = ti ∧ f1.offset = 1) (hf2 : f2.type = ti ∧ f2.offset = 2) (hti : P.underlying ti = some (.int .i64)) (hci : P.cellsOf ti = 1)
    {fuel : Nat} {v : Value} {x : DataW H × List MemPlace} (hf : DataW.trod enc P W 0 (fun _ => true) true fuel t [v] = some x) :
    ∃ (A : Option Addr) (n c : Nat) (l : List (Int × Int × Int)), v = .slice A n c ∧ Rd W A n 3 (l.flatMap fun r => [.int .i64 r.1, .int .i64 r.2.1, .int .i64 r.2.2]) ∧ (∀ r ∈ l, I64 r.1 ∧ I64 r.2.1 ∧ I64 r.2.2) ∧ n ≤ c ∧ c ≤ maxLen := by
  obtain ⟨A, n, c, l, hv, h1, _, hok, h2, h3⟩ := rd_of_cells (fun r : Int × Int × Int => [.int .i64 r.1, .int .i64 r.2.1, .int .i64 r.2.2]) (fun r => I64 r.1 ∧ I64 r.2.1 ∧ I64 r.2.2) (by omega) (fun _ => rfl) ht hc (fun n cs y hl h => by
    obtain ⟨y0, y1, y2, m, _, _, t0, t1, t2⟩ := trod_struct3 he h
    rw [hf0.1, hf0.2, hci] at t0
    rw [hf1.1, hf1.2, hci] at t1
    rw [hf2.1, hf2.2, hci] at t2
    match cs, hl with
    | [u0, u1, u2], _ =>
      obtain ⟨a, ha, _, wa⟩ := DataW.trod_int hti t0
      obtain ⟨b, hb, _, wb⟩ := DataW.trod_int hti t1
      obtain ⟨c, hc, _, wc⟩ := DataW.trod_int hti t2
      simp at ha hb hc
      subst ha hb hc
      exact ⟨(a, b, c), rfl, i64_of_wf wa, i64_of_wf wb, i64_of_wf wc⟩) hf
  exact ⟨A, n, c, l, by simpa using hv, h1, hok, h2, h3⟩
theorem rd_bytes {W : World} {t e : TypeId} (ht : P.underlying t = some (.slice e)) (he : P.underlying e = some (.int .u8)) (hc : P.cellsOf e = 1)
    {v : Value} {d : DataW H} {p : List MemPlace} (hv : Value.okWide P W .any 0 t v) (h : DataW.Trod enc P W 0 (fun _ => true) true t v d p) :
    ∃ (A : Option Addr) (n c : Nat) (l : List UInt8), v = .slice A n c ∧ Rd W A n 1 (l.map cU8) ∧ n ≤ c ∧ c ≤ maxLen := by
  obtain ⟨A, n, c, l, rfl, h1, _, _, h2, h3⟩ := rd_of_trod (fun b : UInt8 => [cU8 b]) (fun _ => True) Nat.one_pos (fun _ => rfl) ht hc (fun n cs y _ h => by
    obtain ⟨a, ha, _, hw⟩ := DataW.trod_int he h
    have hb : 0 ≤ a ∧ a ≤ 255 := by simpa [Lit.wf, IntKind.min, IntKind.max, IntKind.signed, IntKind.bits] using hw
    refine ⟨UInt8.ofNat a.toNat, ?_, trivial⟩
    rw [ha, cU8, UInt8.toNat_ofNat_of_lt' (by simp [UInt8.size]; omega)]
    congr 2
    omega) hv h
  exact ⟨A, n, c, l, rfl, by rwa [← List.map_eq_flatMap] at h1, h2, h3⟩
end
end Go.Proofs.YtaogikhpglcmjaaGreatDoor

namespace Go.Proofs.YtaogikhpglcmjaaGreatDoor
open Go.ChangeShapes Go.WideShapes Go.ChangeAt Go.RowKit

theorem gKn : Tryz.prog.globalNamed "loop.example/g00773/impl.knownParts" = some 0 := by kernel_rfl
theorem tKn : (Tryz.prog.globals[0]?).map (·.type) = some 164 := by kernel_rfl
theorem cKnT : Tryz.prog.cellsOf 164 = 54 := by kernel_rfl
theorem cKnE : Tryz.prog.cellsOf 3 = 1 := by kernel_rfl
theorem kpTab_cells : (kpTab.map fun z => Value.int .i64 z) = kpPairs.flatMap cPair := by rfl
theorem kpTab_data : (Rows.laid_loop_example_g00773_impl_knownParts : DataW Unit) = Lib.tabData .i64 kpTab := by rfl

theorem KT_of_laid {W : World} {rest : List (String × DataW Unit)} (h : laidMet Tryz.prog (("loop.example/g00773/impl.knownParts", Rows.laid_loop_example_g00773_impl_knownParts) :: rest) W) : KT W := by
  rw [kpTab_data] at h
  have hT := Lib.tabIs_of_head gKn tKn Tryz.underlying164 Tryz.underlying3 cKnE cKnT h
  refine ⟨by decide, fun _ => ⟨0, 0, rfl, fun j u hu => ?_⟩⟩
  have := World.var?_cell gKn hT j
  rw [kpTab_cells] at this
  rw [Nat.zero_add]
  simpa [hu] using this
end Go.Proofs.YtaogikhpglcmjaaGreatDoor
