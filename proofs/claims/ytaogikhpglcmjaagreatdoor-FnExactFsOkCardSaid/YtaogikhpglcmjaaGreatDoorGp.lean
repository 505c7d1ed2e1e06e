/-
  Many texts in one: InodeOf, BlocksV.
-/
import Derived.Test.YtaogikhpglcmjaaGreatDoorGo
import Derived.Test.YtaogikhpglcmjaaGreatDoorGj
import Derived.Laws.ResultCell
import Derived.Test.YtaogikhpglcmjaaGreatDoorTextN2
import Derived.Test.YtaogikhpglcmjaaGreatDoorGq
namespace Go.Proofs.YtaogikhpglcmjaaGreatDoor
open Go.RowKit

set_option linter.unusedVariables false
set_option linter.unusedSimpArgs false
theorem results_cell_tmp_row {P : Program} {fn : Func} {p u : Tmp} {ty : TypeId} (h : fn.results = #[.cell p ty, .tmp u]) (tmps : Array Value) (w : World) (g : Nat) (t : TypeId) (cs : Array Value) (fr : Nat × Nat) (d : TypeDesc)
    (hp : tmps.getD p undef = .pointer (some ⟨g, 0, none⟩)) (hg : w.heap[g]? = some (.cells cs t fr))
    (hu : P.underlying ty = some d) (hd : (match d with | .struct _ | .array _ _ => true | _ => false) = true) (hi : (P.info? ty).map (·.size) = some cs.size) :
    (results fn tmps).run P w = .ok (.tuple #[.agg cs, tmps.getD u undef]) w := by
  rw [results_cell_tmp h, hp]
  simp [asAddr, run_loadVar_row w g t ty cs fr d hg hu hd hi, Result.andThen]
def setsW (w : World) (g i : Nat) : List Value → World
  | [] => w
  | v :: vs => setsW (w.setCell ⟨g, i, none⟩ v) g (i + 1) vs
theorem Hp.bputs_aux {W : List Nat} {w0 : World} {g : Nat} {t : TypeId} : ∀ (vs pre post : List Value) (w : World) (l : List Ob) (i : Nat), Hp W w0 w l → l[i]? = some (.blk g t (pre ++ post)) → post.length = vs.length → Hp W w0 (setsW w g pre.length vs) (l.set i (.blk g t (pre ++ vs)))
  | [], pre, post, w, l, i, h, hi, hl => by
    have e : post = [] := List.eq_nil_of_length_eq_zero hl
    subst e
    have e2 : l.set i (.blk g t (pre ++ [])) = l := by
      apply List.ext_getElem?
      intro j
      by_cases hij : i = j
      · subst hij; rw [List.getElem?_set_self (List.getElem?_eq_some_iff.1 hi).1, hi]
      · rw [List.getElem?_set_ne hij]
    rw [e2]; exact h
  | v :: vs, pre, [], w, l, i, h, hi, hl => by simp at hl
  | v :: vs, pre, p :: post, w, l, i, h, hi, hl => by
    have h1 := h.bput i hi pre.length v
    rw [List.set_append_right _ _ (Nat.le_refl _), Nat.sub_self, List.set_cons_zero] at h1
    have h2 := Hp.bputs_aux vs (pre ++ [v]) post _ _ i h1 (by rw [List.getElem?_set_self (List.getElem?_eq_some_iff.1 hi).1, List.append_assoc]; rfl) (by simpa using hl)
    rw [List.set_set, List.length_append, List.append_assoc] at h2
    exact h2
theorem Hp.bputs {W : List Nat} {w0 w : World} {l : List Ob} {g : Nat} {t : TypeId} {cs : List Value} (h : Hp W w0 w l) (i : Nat) (hi : l[i]? = some (.blk g t cs)) (vs : List Value) (hl : cs.length = vs.length) : Hp W w0 (setsW w g 0 vs) (l.set i (.blk g t vs)) :=
  Hp.bputs_aux vs [] cs w l i h hi hl
theorem scanNumS (g : Nat) (st : Sc) (w : World) (h : Bk w g 96 (scanC st)) (hr : st.1.length ≤ 1099511627776) :
    Calls Tryz.prog 57 #[.pointer (some ⟨g, 0, none⟩)] w fun e w' => e = .returned (.int .i64 ((numP st).1 : Int)) ∧ Hp [g] w w' [.blk g 96 (scanC (numP st).2)] := scanNum_any g st.1 st.2 w h hr
theorem manyP_le (st : Sc) (m : Nat) : (manyP st m).1 ≤ m := by
  rw [manyP]; split
  · exact Nat.zero_le _
  · split
    · exact Nat.zero_le _
    · simp only; omega
theorem entP_len (st : Sc) : (entP st).2.1.length ≤ st.1.length :=
  Nat.le_trans (numP_len _) (Nat.le_trans (pieceP_len _) (numP_len st))
theorem entsP_sz (st : Sc) : ∀ k, (entsP st k).2.1.length ≤ st.1.length
  | 0 => Nat.le_refl _
  | k + 1 => Nat.le_trans (entP_len _) (entsP_sz st k)
theorem entsP_len (st : Sc) : ∀ k, (entsP st k).1.length = k
  | 0 => rfl
  | k + 1 => by rw [entsP, List.length_append, entsP_len st k]; rfl
set_option maxRecDepth 100000 in
set_option maxHeartbeats 8000000 in
theorem implInodeOf_any (r : List UInt8) (w : World) (hr : r.length ≤ 16777216) (hk : KT w) :
    Calls Tryz.prog 61 #[.string (ofB r)] w fun e w' => ∃ V : Value, e = .returned (.tuple #[.agg #[.int .i64 (nodR r).1.1, .int .i64 (nodR r).1.2.1, .int .i64 (nodR r).1.2.2.1, .string (nodR r).1.2.2.2.1, V], .bool (nodR r).2]) ∧ Hp [] w w' [.row 127 4 V (nodR r).1.2.2.2.2.length ((nodR r).1.2.2.2.2.flatMap cEnt)] := by
  have hlen := hr
  obtain ⟨q1, hq1⟩ : ∃ q : Sc, nodP1 r = q := ⟨_, rfl⟩
  obtain ⟨n2, q2, hq2⟩ : ∃ (n : Nat) (q : Sc), nodP2 r = (n, q) := ⟨_, _, rfl⟩
  obtain ⟨n3, q3, hq3⟩ : ∃ (n : Nat) (q : Sc), nodP3 r = (n, q) := ⟨_, _, rfl⟩
  obtain ⟨n4, q4, hq4⟩ : ∃ (n : Nat) (q : Sc), nodP4 r = (n, q) := ⟨_, _, rfl⟩
  obtain ⟨d5, q5, hq5⟩ : ∃ (n : List UInt8) (q : Sc), nodP5 r = (n, q) := ⟨_, _, rfl⟩
  obtain ⟨n6, q6, hq6⟩ : ∃ (n : Nat) (q : Sc), nodP6 r = (n, q) := ⟨_, _, rfl⟩
  obtain ⟨es, q7, hq7⟩ : ∃ (n : List EntT) (q : Sc), entsP q6 n6 = (n, q) := ⟨_, _, rfl⟩
  have E1 := Lib.hid (show (cutP (r, false) 1).2 = q1 from hq1)
  have E2 := Lib.hid (show numP q1 = (n2, q2) by rw [← hq2, nodP2, hq1])
  have E3 := Lib.hid (show numP q2 = (n3, q3) by rw [← hq3, nodP3, hq2])
  have E4 := Lib.hid (show numP q3 = (n4, q4) by rw [← hq4, nodP4, hq3])
  have E5 := Lib.hid (show pieceP q4 = (d5, q5) by rw [← hq5, nodP5, hq4])
  have E6 := Lib.hid (show manyP q5 12 = (n6, q6) by rw [← hq6, nodP6, hq5])
  have E7 := Lib.hid hq7
  have E8 := Lib.hid (show nodR r = (((n2 : Int), (n3 : Int), (n4 : Int), ofB d5, es), !q7.2) by rw [nodR, hq2, hq3, hq4, hq5, nodP7, hq6, hq7])
  have L1 : q1.1.length ≤ 1099511627776 := by rw [← E1.out]; exact Nat.le_trans (cutP_len _ _) (by simp only; omega)
  have L2 : q2.1.length ≤ 1099511627776 := by have := numP_len q1; rw [E2.out] at this; exact Nat.le_trans this L1
  have L3 : q3.1.length ≤ 1099511627776 := by have := numP_len q2; rw [E3.out] at this; exact Nat.le_trans this L2
  have L4 : q4.1.length ≤ 1099511627776 := by have := numP_len q3; rw [E4.out] at this; exact Nat.le_trans this L3
  have L5 : q5.1.length ≤ 1099511627776 := by have := pieceP_len q4; rw [E5.out] at this; exact Nat.le_trans this L4
  have L6 : q6.1.length ≤ 16777216 := by
    have h1 := manyP_len q5 12; rw [E6.out] at h1
    have h2 := pieceP_len q4; rw [E5.out] at h2
    have h3 := numP_len q3; rw [E4.out] at h3
    have h4 := numP_len q2; rw [E3.out] at h4
    have h5 := numP_len q1; rw [E2.out] at h5
    have h6 := cutP_len (r, false) 1; rw [E1.out] at h6
    simp only at h1 h2 h3 h4 h5 h6
    omega
  have hn12 : n6 ≤ 12 := by have := manyP_le q5 12; rw [E6.out] at this; exact this
  rw [E8.out]
  simp only
  have HK := Lib.hid hk
  clear hq1 hq2 hq3 hq4 hq5 hq6 hq7 E8 hk
  have H0 := ((Hp.start w).lay_ 90 [.int .i64 0, .int .i64 0, .int .i64 0, .string (ByteArray.mk #[]), .slice none 0 0] rfl).lay_ 96 (scanC (r, false)) (g := w.heap.size + 1) (by simp)
  go_enter Tryz.func61, Tryz.ntmps61
  go_wp2_with fail
  have hc := scanCut_any (w.heap.size + 1) r false 1 _ (H0.blk 0 rfl) (by omega)
  rw [show ((1 : Nat) : Int) = 1 from rfl] at hc
  refine hc.mono ?_
  rintro e wA ⟨rfl, K⟩
  rw [E1.out] at K
  have H := H0.turnBlk 0 rfl K
  clear K hc H0
  go_wp2_with fail
  refine (scanNumS (w.heap.size + 1) q1 _ (H.blk 0 rfl) L1).mono ?_
  rintro e wB ⟨rfl, K⟩
  rw [E2.out] at K ⊢
  simp only at K ⊢
  replace H := H.turnBlk 0 rfl K
  clear K
  go_wp2_with fail
  have H2 := H.lay_ 90 [.int .i64 (n2 : Int), .int .i64 0, .int .i64 0, .string (ByteArray.mk #[]), .slice none 0 0] rfl
  obtain ⟨gx, hgx⟩ : ∃ x, x = wB.heap.size := ⟨_, rfl⟩
  rw [← hgx] at H2 ⊢
  have HGX := Lib.hid hgx
  clear hgx H
  have H := H2
  clear H2
  refine (scanNumS (w.heap.size + 1) q2 _ (H.blk 1 rfl) L2).mono ?_
  rintro e wC ⟨rfl, K⟩
  rw [E3.out] at K ⊢
  simp only at K ⊢
  replace H := H.turnBlk 1 rfl K
  clear K
  have s0 := H.bat 0 rfl (j := 1) rfl
  have s1 := H.bfree 0 rfl 1
  go_wp2_with fail
  replace H := H.bput 0 rfl 1 (.int .i64 (n3 : Int))
  replace H := H.recast (l' := [.blk gx 90 [.int .i64 (n2 : Int), .int .i64 (n3 : Int), .int .i64 0, .string (ByteArray.mk #[]), .slice none 0 0], .blk (w.heap.size + 1) 96 (scanC q3), .blk w.heap.size 90 [.int .i64 0, .int .i64 0, .int .i64 0, .string (ByteArray.mk #[]), .slice none 0 0]]) rfl
  clear s0 s1
  refine (scanNumS (w.heap.size + 1) q3 _ (H.blk 1 rfl) L3).mono ?_
  rintro e wD ⟨rfl, K⟩
  rw [E4.out] at K ⊢
  simp only at K ⊢
  replace H := H.turnBlk 1 rfl K
  clear K
  have s0 := H.bat 0 rfl (j := 2) rfl
  have s1 := H.bfree 0 rfl 2
  go_wp2_with fail
  replace H := H.bput 0 rfl 2 (.int .i64 (n4 : Int))
  replace H := H.recast (l' := [.blk gx 90 [.int .i64 (n2 : Int), .int .i64 (n3 : Int), .int .i64 (n4 : Int), .string (ByteArray.mk #[]), .slice none 0 0], .blk (w.heap.size + 1) 96 (scanC q4), .blk w.heap.size 90 [.int .i64 0, .int .i64 0, .int .i64 0, .string (ByteArray.mk #[]), .slice none 0 0]]) rfl
  clear s0 s1
  refine (scanPiece_any (w.heap.size + 1) q4 _ (H.blk 1 rfl) L4).mono ?_
  rintro e wE ⟨rfl, K⟩
  rw [E5.out] at K ⊢
  simp only at K ⊢
  replace H := H.turnBlk 1 rfl K
  clear K
  have s0 := H.bat 0 rfl (j := 3) rfl
  have s1 := H.bfree 0 rfl 3
  go_wp2_with fail
  replace H := H.bput 0 rfl 3 (.string (ofB d5))
  replace H := H.recast (l' := [.blk gx 90 [.int .i64 (n2 : Int), .int .i64 (n3 : Int), .int .i64 (n4 : Int), .string (ofB d5), .slice none 0 0], .blk (w.heap.size + 1) 96 (scanC q5), .blk w.heap.size 90 [.int .i64 0, .int .i64 0, .int .i64 0, .string (ByteArray.mk #[]), .slice none 0 0]]) rfl
  clear s0 s1
  have hc := scanMany_any (w.heap.size + 1) q5 12 _ (H.blk 1 rfl) L5
  rw [show ((12 : Nat) : Int) = 12 from rfl] at hc
  refine hc.mono ?_
  rintro e wF ⟨rfl, K⟩
  rw [E6.out] at K ⊢
  simp only at K ⊢
  have H1_ := H.turnBlk 1 rfl K
  have H1 : Hp [] w wF [.row 127 4 (.slice none 0 0) (entsP q6 0).1.length ((entsP q6 0).1.flatMap cEnt), .blk gx 90 [.int .i64 (n2 : Int), .int .i64 (n3 : Int), .int .i64 (n4 : Int), .string (ofB d5), .slice none 0 0], .blk (w.heap.size + 1) 96 (scanC (entsP q6 0).2), .blk w.heap.size 90 [.int .i64 0, .int .i64 0, .int .i64 0, .string (ByteArray.mk #[]), .slice none 0 0]] := H1_.nil_ 127 4
  clear K hc H H1_
  go_wp2_with fail
  go_loopw [28] (fun kv wr => ∃ (k : Nat) (V : Value), kv = .int .i64 k ∧ k ≤ n6 ∧ Hp [] w wr [.row 127 4 V (entsP q6 k).1.length ((entsP q6 k).1.flatMap cEnt), .blk gx 90 [.int .i64 (n2 : Int), .int .i64 (n3 : Int), .int .i64 (n4 : Int), .string (ofB d5), V], .blk (w.heap.size + 1) 96 (scanC (entsP q6 k).2), .blk w.heap.size 90 [.int .i64 0, .int .i64 0, .int .i64 0, .string (ByteArray.mk #[]), .slice none 0 0]]) (fun kv _ => n6 - (intOf kv).toNat)
  case atStart => exact ⟨0, _, rfl, by omega, H1⟩
  case round =>
    clear H1
    obtain ⟨k, V, rfl, hk, H⟩ := hrel
    have hk0 : (0 : Int) ≤ (k : Int) := by omega
    by_cases hlt : k < n6
    · have hlt1 : (k : Int) < (n6 : Int) := by omega
      obtain ⟨el, st, hst⟩ : ∃ (l : List EntT) (q : Sc), entsP q6 k = (l, q) := ⟨_, _, rfl⟩
      have S0 : st.1.length ≤ 16777216 := by have := entsP_sz q6 k; rw [hst] at this; exact Nat.le_trans this L6
      have hel : el.length = k := by have := entsP_len q6 k; rw [hst] at this; exact this
      rw [hst] at H
      simp only at H
      obtain ⟨m1, s1, hs1⟩ : ∃ (n : Nat) (q : Sc), numP st = (n, q) := ⟨_, _, rfl⟩
      obtain ⟨d2, s2, hs2⟩ : ∃ (n : List UInt8) (q : Sc), pieceP s1 = (n, q) := ⟨_, _, rfl⟩
      obtain ⟨m3, s3, hs3⟩ : ∃ (n : Nat) (q : Sc), numP s2 = (n, q) := ⟨_, _, rfl⟩
      have S1 : s1.1.length ≤ 16777216 := by have := numP_len st; rw [hs1] at this; exact Nat.le_trans this S0
      have S2 : s2.1.length ≤ 16777216 := by have := pieceP_len s1; rw [hs2] at this; exact Nat.le_trans this S1
      have D2 : (ofB d2).size ≤ 16777216 := by have := pieceP_size s1; rw [hs2] at this; rw [ofB_size]; exact Nat.le_trans this S1
      have F1 := Lib.hid hs1
      have F2 := Lib.hid hs2
      have F3 := Lib.hid hs3
      have HES := Lib.hid (show entsP q6 (k + 1) = (el ++ [(hashN d2, (m1 : Int), ofB d2, (m3 : Int))], s3) by
        rw [entsP, hst]
        simp only
        rw [entP, hs1]
        simp only
        rw [hs2]
        simp only
        rw [hs3])
      clear hst hs1 hs2 hs3
      go_wp2_with fail
      refine (scanNumS (w.heap.size + 1) st _ (H.blk 2 rfl) (by omega)).mono ?_
      rintro e wA ⟨rfl, K⟩
      rw [F1.out] at K ⊢
      simp only at K ⊢
      replace H := H.turnBlk 2 rfl K
      clear K
      go_wp2_with fail
      have H2 := H.lay_ 127 [.int .i64 0, .int .i64 (m1 : Int), .string (ByteArray.mk #[]), .int .i64 0] rfl
      obtain ⟨ge, hge⟩ : ∃ x, x = wA.heap.size := ⟨_, rfl⟩
      rw [← hge] at H2 ⊢
      have HGE := Lib.hid hge
      clear hge H
      have H := H2
      clear H2
      refine (scanPiece_any (w.heap.size + 1) s1 _ (H.blk 3 rfl) (by omega)).mono ?_
      rintro e wB ⟨rfl, K⟩
      rw [F2.out] at K ⊢
      simp only at K ⊢
      replace H := H.turnBlk 3 rfl K
      clear K
      have t0 := H.bat 0 rfl (j := 2) rfl
      have t1 := H.bfree 0 rfl 2
      go_wp2_with fail
      replace H := H.bput 0 rfl 2 (.string (ofB d2))
      clear t0 t1
      refine (scanNumS (w.heap.size + 1) s2 _ (H.blk 3 rfl) (by omega)).mono ?_
      rintro e wC ⟨rfl, K⟩
      rw [F3.out] at K ⊢
      simp only at K ⊢
      replace H := H.turnBlk 3 rfl K
      clear K
      have t0 := H.bat 0 rfl (j := 3) rfl
      have t1 := H.bfree 0 rfl 3
      have t2 := H.bat 0 rfl (j := 2) rfl
      have H5 := H.bput 0 rfl 3 (.int .i64 (m3 : Int))
      have t3 := H5.bat 0 rfl (j := 2) rfl
      clear H
      have H := H5
      clear H5
      go_wp2_with fail
      refine (implHashOf_any (ofB d2) _ D2 (HK.out.fr H.fr)).mono ?_
      rintro e wD ⟨rfl, f9⟩
      rw [toB_ofB]
      replace H := H.go f9
      clear f9 t0 t1 t2 t3
      have t0 := H.bat 0 rfl (j := 0) rfl
      have t1 := H.bfree 0 rfl 0
      have H5 := H.bput 0 rfl 0 (.int .i64 (hashN d2))
      have u0 := H5.bat 0 rfl (j := 0) rfl
      have u1 := H5.bat 0 rfl (j := 1) rfl
      have u2 := H5.bat 0 rfl (j := 2) rfl
      have u3 := H5.bat 0 rfl (j := 3) rfl
      have u4 := H5.bat 2 rfl (j := 4) rfl
      have HX5 : Hp [] w (wD.setCell ⟨ge, 0, none⟩ (.int .i64 (hashN d2))) [.blk ge 127 [.int .i64 (hashN d2), .int .i64 (m1 : Int), .string (ofB d2), .int .i64 (m3 : Int)], .row 127 4 V el.length (el.flatMap cEnt), .blk gx 90 [.int .i64 (n2 : Int), .int .i64 (n3 : Int), .int .i64 (n4 : Int), .string (ofB d5), V], .blk (w.heap.size + 1) 96 (scanC s3), .blk w.heap.size 90 [.int .i64 0, .int .i64 0, .int .i64 0, .string (ByteArray.mk #[]), .slice none 0 0]] := H5
      clear H H5
      have v1 := HX5.bat 0 rfl (j := 1) rfl
      go_wp2_with (at_builtin; refine wp_appL (f := cEnt) (HX5) rfl _ _ _ rfl Tryz.underlying88 infoEnt rfl (by decide) 1 _ _ rfl rfl _ _ (((hashN d2, (m1 : Int), ofB d2, (m3 : Int)) : EntT)) rfl (by simp) rfl (by simp [cEnt, Value.oneCell']) (by first | (simp only [maxLen]; omega) | (simp [maxLen]; done) | (simp [maxLen]; omega)) (by first | omega | (simp; done) | (simp; omega)) ?_)
      intro v' w6 H6
      have p0 := H6.bat 2 rfl (j := 4) rfl
      have p1 := H6.bfree 2 rfl 4
      have H7 := H6.bput 2 rfl 4 v'
      have H8 := Lib.hid (show Hp [] w (w6.setCell ⟨gx, 4, none⟩ v') [.row 127 4 v' (entsP q6 (k + 1)).1.length ((entsP q6 (k + 1)).1.flatMap cEnt), .blk gx 90 [.int .i64 (n2 : Int), .int .i64 (n3 : Int), .int .i64 (n4 : Int), .string (ofB d5), v'], .blk (w.heap.size + 1) 96 (scanC (entsP q6 (k + 1)).2), .blk w.heap.size 90 [.int .i64 0, .int .i64 0, .int .i64 0, .string (ByteArray.mk #[]), .slice none 0 0]] by rw [HES.out]; exact H7.tail.recast (by simp [hel]))
      obtain ⟨C9, q9, hv9⟩ := H6.shape 1 rfl
      clear HX5 H6 H7 t0 t1 u0 u1 u2 u3 u4 v1
      subst hv9
      go_wp2_with fail
      go_roundw
      case rel => exact ⟨k + 1, _, by go_num, by omega, H8.out⟩
      case measure => simp [intOf]; omega
    · have hlt1 : ¬ (k : Int) < (n6 : Int) := by omega
      rw [show k = n6 by omega, E7.out] at H
      simp only at H
      obtain ⟨C, q, rfl⟩ := H.shape 0 rfl
      go_wp2_with fail
      replace H := H.drew
      have y0 := H.bat 1 rfl (j := 0) rfl
      have y1 := H.bat 1 rfl (j := 1) rfl
      have y2 := H.bat 1 rfl (j := 2) rfl
      have y3 := H.bat 1 rfl (j := 3) rfl
      have y4 := H.bat 1 rfl (j := 4) rfl
      have y5 := H.bat 2 rfl (j := 1) rfl
      refine wp_region_held_drew (S := fun w' => w'.cell? ⟨gx, 0, none⟩ = some (.int .i64 (n2 : Int)) ∧ w'.cell? ⟨gx, 1, none⟩ = some (.int .i64 (n3 : Int)) ∧ w'.cell? ⟨gx, 2, none⟩ = some (.int .i64 (n4 : Int)) ∧ w'.cell? ⟨gx, 3, none⟩ = some (.string (ofB d5)) ∧ w'.cell? ⟨gx, 4, none⟩ = some (.slice C es.length q) ∧ w'.cell? ⟨w.heap.size + 1, 1, none⟩ = some (.bool q7.2)) (by kernel_rfl) ?_ (fun hHeld => ?_)
      · exact ⟨y0, y1, y2, y3, y4, y5⟩
      obtain ⟨u0, hu0⟩ : ∃ uu : World, uu = wr.drew := ⟨_, rfl⟩
      rw [← hu0] at H hHeld ⊢
      clear hu0
      refine wpT 0 ?_
      refine wpT 1 ?_
      refine wpT 2 ?_
      refine wpT 3 ?_
      refine wpT 4 ?_
      refine wpT 5 ?_
      refine wpC 6 fun K hK => ?_
      have e0 := H.bfree 3 rfl 0
      have e1 := H.bfree 3 rfl 1
      have e2 := H.bfree 3 rfl 2
      have e3 := H.bfree 3 rfl 3
      have e4 := H.bfree 3 rfl 4
      have s0 := H.bat 3 rfl (j := 0) rfl
      have s1 := H.bat 3 rfl (j := 1) rfl
      have s2 := H.bat 3 rfl (j := 2) rfl
      have s3 := H.bat 3 rfl (j := 3) rfl
      have s4 := H.bat 3 rfl (j := 4) rfl
      replace H := H.bputs 3 rfl [.int .i64 (n2 : Int), .int .i64 (n3 : Int), .int .i64 (n4 : Int), .string (ofB d5), .slice C es.length q] rfl
      simp only [setsW] at H
      go_simp
      refine hK.out _ _ ?_ (fun hHeld => ?_)
      · exact ⟨H.bat 1 rfl (j := 0) rfl, H.bat 1 rfl (j := 1) rfl, H.bat 1 rfl (j := 2) rfl, H.bat 1 rfl (j := 3) rfl, H.bat 1 rfl (j := 4) rfl, H.bat 2 rfl (j := 1) rfl⟩
      clear hK K
      try simp only [sA, sB, sC, Act.put, sD, sE, sF]
      refine wpT 7 ?_
      refine wpAnyH_done (by kernel_rfl) ?_ _
      go_wp2_with fail
      ((try simp only [Exit.inBlock, Exit.then]); refine bodyPost_ret (results_cell_tmp_row rfl _ _ w.heap.size 90 #[.int .i64 (n2 : Int), .int .i64 (n3 : Int), .int .i64 (n4 : Int), .string (ofB d5), .slice C es.length q] (0, 0) _ rfl (H.blk 3 rfl) Tryz.underlying90 rfl (by kernel_rfl)) rfl ?_)
      exact ⟨_, rfl, H.sub (by simp)⟩
end Go.Proofs.YtaogikhpglcmjaaGreatDoor

namespace Go.Proofs.YtaogikhpglcmjaaGreatDoor
open Go.RowKit

set_option linter.unusedVariables false
set_option linter.unusedSimpArgs false
def blkAt (l : List Nod) (i : Nat) : ByteArray := match l[i]? with
  | some x => ofB (nodeB x)
  | none => ⟨#[]⟩
theorem blocksB_eq (next : Int) (l : List Nod) : blocksB next l = ofB (headB next l.length) :: (List.range 16).map (blkAt l) := rfl
theorem blocksB_len (next : Int) (l : List Nod) : (blocksB next l).length = 17 := by rw [blocksB_eq]; simp
theorem blocksB_take (next : Int) (l : List Nod) {i : Nat} (h : i < 16) : (blocksB next l).take (i + 2) = (blocksB next l).take (i + 1) ++ [blkAt l i] := by
  have hx : (blocksB next l)[i + 1]? = some (blkAt l i) := by rw [blocksB_eq]; simp [h]
  rw [List.take_add_one, hx]; rfl
theorem headB_ofB (next : Int) (n : Nat) : (ByteArray.mk #[117] ++ varS next) ++ varS (n : Int) = ofB (headB next n) := by
  have e : ByteArray.mk #[117] = ofB [117] := rfl
  rw [e, varS, varS, ofB_append, ofB_append, headB]
  simp [List.append_assoc]
def NodSz (L : List (Value × Nod)) : Prop := ∀ p ∈ L, p.2.2.2.2.1.size ≤ 1099511627776 ∧ p.2.2.2.2.2.length ≤ 1048576 ∧ (nodeB p.2).length ≤ 2199023255552
set_option maxRecDepth 100000 in
set_option maxHeartbeats 8000000 in
theorem volBlocks_any (next : Int) (A : Option Addr) (n c : Nat) (L : List (Value × Nod)) (w : World) (h : RdN w A n L) (hn : n ≤ 1048576) (hsz : NodSz L) :
    Calls Tryz.prog 63 #[.agg #[.int .i64 next, .slice A n c]] w (Made w 9 1 17 ((blocksB next (nodes L)).map Value.string)) := by
  have hz0 := varS_size next
  have hz1 := varS_size (n : Int)
  have HE := Lib.hid (headB_ofB next n)
  obtain ⟨t0, ht0⟩ : ∃ x, varS next = x := ⟨_, rfl⟩
  obtain ⟨t1, ht1⟩ : ∃ x, varS (n : Int) = x := ⟨_, rfl⟩
  rw [ht0] at hz0
  rw [ht1] at hz1
  have HE := Lib.hid (show (ByteArray.mk #[117] ++ t0) ++ t1 = ofB (headB next n) by rw [← ht0, ← ht1]; exact HE.out)
  have HT0 := Lib.hid ht0
  have HT1 := Lib.hid ht1
  clear ht0 ht1
  obtain ⟨BB, hBB⟩ : ∃ x, x = blocksB next (nodes L) := ⟨_, rfl⟩
  rw [← hBB]
  have HNL := Lib.hid (show (nodes L).length = n by rw [nodes_len]; exact h.len)
  have HB0 := Lib.hid (show BB.take 1 = [ofB (headB next n)] by rw [hBB, blocksB_eq, HNL.out]; rfl)
  have HBL := Lib.hid (show BB.length = 17 by rw [hBB]; exact blocksB_len _ _)
  have HBT := Lib.hid (show ∀ i : Nat, i < 16 → BB.take (i + 2) = BB.take (i + 1) ++ [blkAt (nodes L) i] from fun i hi => by rw [hBB]; exact blocksB_take _ _ hi)
  clear hBB
  have HL := Lib.hid h.len
  have HR := Lib.hid h
  have HSZ := Lib.hid hsz
  clear h hsz
  have cc0 : (9223372036854775807 < 1 + t0.size) = False := eq_false (by omega)
  have cc1 : (9223372036854775807 < 1 + t0.size + t1.size) = False := eq_false (by omega)
  have H := ((Hp.start w).lay_ 26 [.int .i64 next, .slice A n c] rfl).drew
  obtain ⟨g, hg⟩ : ∃ x, x = w.heap.size := ⟨_, rfl⟩
  rw [← hg] at H
  have HG := Lib.hid hg
  clear hg
  have y0 := H.bat 0 rfl (j := 0) rfl
  have y1 := H.bat 0 rfl (j := 1) rfl
  go_enter Tryz.func63, Tryz.ntmps63
  go_wp2_with fail
  rw [← HG.out]
  refine wp_region_held_drew (S := fun w' => w'.cell? ⟨g, 0, none⟩ = some (.int .i64 next) ∧ w'.cell? ⟨g, 1, none⟩ = some (.slice A n c)) (by kernel_rfl) ?_ (fun hHeld => ?_)
  · exact ⟨y0, y1⟩
  obtain ⟨u0, hu0⟩ : ∃ uu : World, uu = (w.alloc (.cells #[.int .i64 next, .slice A n c] 26)).drew := ⟨_, rfl⟩
  rw [← hu0] at H hHeld ⊢
  clear hu0
  refine wpT 0 ?_
  refine wpT 1 ?_
  refine wpT 4 ?_
  refine wpT 5 ?_
  refine wpT 6 ?_
  refine wpC 2 fun K hK => ?_
  go_simp
  refine (implVar_any next _).mono ?_
  rintro e u1 ⟨rfl, f9⟩
  replace H := H.go f9
  clear f9
  rw [HT0.out]
  go_wp2_with fail
  refine hK.out _ _ ?_ (fun hHeld => ?_)
  · exact ⟨H.bat 0 rfl (j := 0) rfl, H.bat 0 rfl (j := 1) rfl⟩
  clear hK K
  try simp only [sA, sB, sC, Act.put, sD, sE, sF]
  refine wpT 3 ?_
  refine wpC 7 fun K hK => ?_
  go_simp
  refine (implVar_any (n : Int) _).mono ?_
  rintro e u2 ⟨rfl, f9⟩
  replace H := H.go f9
  clear f9
  rw [HT1.out]
  go_wp2_with fail
  refine hK.out _ _ ?_ (fun hHeld => ?_)
  · exact ⟨H.bat 0 rfl (j := 0) rfl, H.bat 0 rfl (j := 1) rfl⟩
  clear hK K
  try simp only [sA, sB, sC, Act.put, sD, sE, sF]
  refine wpT 8 ?_
  refine wpC 9 fun K hK => ?_
  replace H := H.lit 9 1 1 [.string ((ByteArray.mk #[117] ++ t0) ++ t1)] rfl (by simp [maxLen])
  go_simp
  obtain ⟨h5, hh5⟩ : ∃ x, x = u2.heap.size := ⟨_, rfl⟩
  rw [← hh5] at H ⊢
  clear hh5
  obtain ⟨u3, hv⟩ : ∃ uu : World, uu = u2.alloc (.cells #[.string ((ByteArray.mk #[117] ++ t0) ++ t1)] 9) := ⟨_, rfl⟩
  rw [← hv] at H ⊢
  clear hv
  refine hK.out _ _ ?_ (fun hHeld => ?_)
  · exact ⟨H.bat 1 rfl (j := 0) rfl, H.bat 1 rfl (j := 1) rfl⟩
  clear hK K
  try simp only [sA, sB, sC, Act.put, sD, sE, sF]
  refine wpT 10 ?_
  refine wpAnyH_done (by kernel_rfl) ?_ _
  clear y0 y1 cc0 cc1 hz0 hz1 HT0 HT1
  have H0 : Hp [] w _ [.row 9 1 (.slice (some ⟨h5, 0, none⟩) 1 1) (BB.take 1).length ((BB.take 1).map Value.string), .blk g 26 [.int .i64 next, .slice A n c]] := H.recast (by rw [HB0.out, ← HE.out]; rfl)
  clear H HE HG
  go_wp2_with fail
  go_loopw [3, 16] (fun sv iv wr => ∃ i : Nat, iv = .int .i64 i ∧ i ≤ 16 ∧ Hp [] w wr [.row 9 1 sv (BB.take (i + 1)).length ((BB.take (i + 1)).map Value.string), .blk g 26 [.int .i64 next, .slice A n c]]) (fun _ iv _ => 16 - (intOf iv).toNat)
  case atStart => exact ⟨0, rfl, by omega, H0⟩
  case round =>
    clear H0
    obtain ⟨i, rfl, hi, H⟩ := hrel
    have y1 := H.bat 1 rfl (j := 1) rfl
    have hi0 : (0 : Int) ≤ (i : Int) := by omega
    by_cases hlt : i < 16
    · have hlt1 : (i : Int) < 16 := by omega
      by_cases hin : i < n
      · have hin1 : (i : Int) < (n : Int) := by omega
        obtain ⟨⟨v, x0, x1, x2, x3, es⟩, hx⟩ := some_at HL.out hin
        obtain ⟨bk, of, B1, d1, rfl, e1, r1, c1⟩ := (HR.out.fr H.fr).elem hx
        simp only at e1 r1
        subst e1
        have ca0 := c1 0 _ rfl; simp only [Nat.add_zero] at ca0
        have ca1 := c1 1 _ rfl
        have ca2 := c1 2 _ rfl
        have ca3 := c1 3 _ rfl
        have ca4 := c1 4 _ rfl
        have HSX := Lib.hid (HSZ.out _ (List.mem_of_getElem? hx))
        have HBA := Lib.hid (show blkAt (nodes L) i = ofB (nodeB (x0, x1, x2, x3, es)) by rw [blkAt, nodes, List.getElem?_map, hx]; rfl)
        clear hx c1
        go_wp2_with fail
        refine (inodeText_any x0 x1 x2 x3 es B1 es.length d1 _ r1 HSX.out.2.1 HSX.out.1 HSX.out.2.2).mono ?_
        rintro e w5 ⟨rfl, f5⟩
        rw [← HBA.out]
        have H5 := H.go f5
        clear H f5 r1 ca0 ca1 ca2 ca3 ca4 y1
        go_wp2_with (at_builtin; refine wp_appM (f := Value.string) (H5) rfl _ _ _ rfl Tryz.underlying22 infoString rfl 0 _ _ rfl rfl _ _ (blkAt (nodes L) i) rfl (by simp) rfl (by first | (simp only [maxLen]; omega) | (simp [maxLen]; done) | (simp [maxLen]; omega)) (by first | omega | (simp; done) | (simp; omega)) ?_)
        intro v' w6 H6
        have H7 := Lib.hid (show Hp [] w w6 [.row 9 1 v' (BB.take (i + 1 + 1)).length ((BB.take (i + 1 + 1)).map Value.string), .blk g 26 [.int .i64 next, .slice (some ⟨bk, of, none⟩) n c]] from H6.recast (by
          rw [HBT.out i hlt]; simp))
        clear H5 H6
        go_wp2_with fail
        go_roundw
        case rel => exact ⟨i + 1, by go_num, by omega, H7.out⟩
        case measure => simp [intOf]; omega
      · have hin1 : ¬ ((i : Int) < (n : Int)) := by omega
        have HBA := Lib.hid (show blkAt (nodes L) i = ByteArray.mk #[] by rw [blkAt, List.getElem?_eq_none (by rw [HNL.out]; omega)])
        go_wp2_with (at_builtin; refine wp_appM (f := Value.string) (H) rfl _ _ _ rfl Tryz.underlying22 infoString rfl 0 _ _ rfl rfl _ _ (ByteArray.mk #[]) rfl (by simp) rfl (by first | (simp only [maxLen]; omega) | (simp [maxLen]; done) | (simp [maxLen]; omega)) (by first | omega | (simp; done) | (simp; omega)) ?_)
        intro v' w6 H6
        have H7 := Lib.hid (show Hp [] w w6 [.row 9 1 v' (BB.take (i + 1 + 1)).length ((BB.take (i + 1 + 1)).map Value.string), .blk g 26 [.int .i64 next, .slice A n c]] from H6.recast (by
          rw [HBT.out i hlt, HBA.out]; simp))
        clear H H6 y1
        go_wp2_with fail
        go_roundw
        case rel => exact ⟨i + 1, by go_num, by omega, H7.out⟩
        case measure => simp [intOf]; omega
    · have hlt1 : ¬ ((i : Int) < 16) := by omega
      have hi16 : i + 1 = 17 := by omega
      have ht : BB.take (i + 1) = BB := List.take_of_length_le (by rw [HBL.out]; omega)
      rw [ht, HBL.out] at H
      obtain ⟨C, q, rfl⟩ := H.shape 0 rfl
      have H9 := Lib.hid H.drop1
      clear H y1
      go_wp2_with fail
      go_ret
      exact H9.out.toMade 0 rfl
set_option maxRecDepth 100000 in
set_option maxHeartbeats 8000000 in
theorem l7Blocks_any (next : Int) (A : Option Addr) (n c : Nat) (L : List (Value × Nod)) (w : World) (h : RdN w A n L) (hn : n ≤ 1048576) (hsz : NodSz L) :
    Calls Tryz.prog 91 #[.agg #[.int .i64 next, .slice A n c]] w (Made w 9 1 17 ((blocksB next (nodes L)).map Value.string)) := by
  have hz0 := varS_size next
  have hz1 := varS_size (n : Int)
  have HE := Lib.hid (headB_ofB next n)
  obtain ⟨t0, ht0⟩ : ∃ x, varS next = x := ⟨_, rfl⟩
  obtain ⟨t1, ht1⟩ : ∃ x, varS (n : Int) = x := ⟨_, rfl⟩
  rw [ht0] at hz0
  rw [ht1] at hz1
  have HE := Lib.hid (show (ByteArray.mk #[117] ++ t0) ++ t1 = ofB (headB next n) by rw [← ht0, ← ht1]; exact HE.out)
  have HT0 := Lib.hid ht0
  have HT1 := Lib.hid ht1
  clear ht0 ht1
  obtain ⟨BB, hBB⟩ : ∃ x, x = blocksB next (nodes L) := ⟨_, rfl⟩
  rw [← hBB]
  have HNL := Lib.hid (show (nodes L).length = n by rw [nodes_len]; exact h.len)
  have HB0 := Lib.hid (show BB.take 1 = [ofB (headB next n)] by rw [hBB, blocksB_eq, HNL.out]; rfl)
  have HBL := Lib.hid (show BB.length = 17 by rw [hBB]; exact blocksB_len _ _)
  have HBT := Lib.hid (show ∀ i : Nat, i < 16 → BB.take (i + 2) = BB.take (i + 1) ++ [blkAt (nodes L) i] from fun i hi => by rw [hBB]; exact blocksB_take _ _ hi)
  clear hBB
  have HL := Lib.hid h.len
  have HR := Lib.hid h
  have HSZ := Lib.hid hsz
  clear h hsz
  have cc0 : (9223372036854775807 < 1 + t0.size) = False := eq_false (by omega)
  have cc1 : (9223372036854775807 < 1 + t0.size + t1.size) = False := eq_false (by omega)
  have H := ((Hp.start w).lay_ 26 [.int .i64 next, .slice A n c] rfl).drew
  obtain ⟨g, hg⟩ : ∃ x, x = w.heap.size := ⟨_, rfl⟩
  rw [← hg] at H
  have HG := Lib.hid hg
  clear hg
  have y0 := H.bat 0 rfl (j := 0) rfl
  have y1 := H.bat 0 rfl (j := 1) rfl
  go_enter Tryz.func91, Tryz.ntmps91
  go_wp2_with fail
  rw [← HG.out]
  refine wp_region_held_drew (S := fun w' => w'.cell? ⟨g, 0, none⟩ = some (.int .i64 next) ∧ w'.cell? ⟨g, 1, none⟩ = some (.slice A n c)) (by kernel_rfl) ?_ (fun hHeld => ?_)
  · exact ⟨y0, y1⟩
  obtain ⟨u0, hu0⟩ : ∃ uu : World, uu = (w.alloc (.cells #[.int .i64 next, .slice A n c] 26)).drew := ⟨_, rfl⟩
  rw [← hu0] at H hHeld ⊢
  clear hu0
  refine wpT 0 ?_
  refine wpT 1 ?_
  refine wpT 4 ?_
  refine wpT 5 ?_
  refine wpT 6 ?_
  refine wpC 2 fun K hK => ?_
  go_simp
  refine (specVar_any next _).mono ?_
  rintro e u1 ⟨rfl, f9⟩
  replace H := H.go f9
  clear f9
  rw [HT0.out]
  go_wp2_with fail
  refine hK.out _ _ ?_ (fun hHeld => ?_)
  · exact ⟨H.bat 0 rfl (j := 0) rfl, H.bat 0 rfl (j := 1) rfl⟩
  clear hK K
  try simp only [sA, sB, sC, Act.put, sD, sE, sF]
  refine wpT 3 ?_
  refine wpC 7 fun K hK => ?_
  go_simp
  refine (specVar_any (n : Int) _).mono ?_
  rintro e u2 ⟨rfl, f9⟩
  replace H := H.go f9
  clear f9
  rw [HT1.out]
  go_wp2_with fail
  refine hK.out _ _ ?_ (fun hHeld => ?_)
  · exact ⟨H.bat 0 rfl (j := 0) rfl, H.bat 0 rfl (j := 1) rfl⟩
  clear hK K
  try simp only [sA, sB, sC, Act.put, sD, sE, sF]
  refine wpT 8 ?_
  refine wpC 9 fun K hK => ?_
  replace H := H.lit 9 1 1 [.string ((ByteArray.mk #[117] ++ t0) ++ t1)] rfl (by simp [maxLen])
  go_simp
  obtain ⟨h5, hh5⟩ : ∃ x, x = u2.heap.size := ⟨_, rfl⟩
  rw [← hh5] at H ⊢
  clear hh5
  obtain ⟨u3, hv⟩ : ∃ uu : World, uu = u2.alloc (.cells #[.string ((ByteArray.mk #[117] ++ t0) ++ t1)] 9) := ⟨_, rfl⟩
  rw [← hv] at H ⊢
  clear hv
  refine hK.out _ _ ?_ (fun hHeld => ?_)
  · exact ⟨H.bat 1 rfl (j := 0) rfl, H.bat 1 rfl (j := 1) rfl⟩
  clear hK K
  try simp only [sA, sB, sC, Act.put, sD, sE, sF]
  refine wpT 10 ?_
  refine wpAnyH_done (by kernel_rfl) ?_ _
  clear y0 y1 cc0 cc1 hz0 hz1 HT0 HT1
  have H0 : Hp [] w _ [.row 9 1 (.slice (some ⟨h5, 0, none⟩) 1 1) (BB.take 1).length ((BB.take 1).map Value.string), .blk g 26 [.int .i64 next, .slice A n c]] := H.recast (by rw [HB0.out, ← HE.out]; rfl)
  clear H HE HG
  go_wp2_with fail
  go_loopw [3, 4] (fun sv iv wr => ∃ i : Nat, iv = .int .i64 i ∧ i ≤ 16 ∧ Hp [] w wr [.row 9 1 sv (BB.take (i + 1)).length ((BB.take (i + 1)).map Value.string), .blk g 26 [.int .i64 next, .slice A n c]]) (fun _ iv _ => 16 - (intOf iv).toNat)
  case atStart => exact ⟨0, rfl, by omega, H0⟩
  case round =>
    clear H0
    obtain ⟨i, rfl, hi, H⟩ := hrel
    have y1 := H.bat 1 rfl (j := 1) rfl
    have hi0 : (0 : Int) ≤ (i : Int) := by omega
    by_cases hlt : i < 16
    · have hlt1 : (i : Int) < 16 := by omega
      by_cases hin : i < n
      · have hin1 : (i : Int) < (n : Int) := by omega
        obtain ⟨⟨v, x0, x1, x2, x3, es⟩, hx⟩ := some_at HL.out hin
        obtain ⟨bk, of, B1, d1, rfl, e1, r1, c1⟩ := (HR.out.fr H.fr).elem hx
        simp only at e1 r1
        subst e1
        have ca0 := c1 0 _ rfl; simp only [Nat.add_zero] at ca0
        have ca1 := c1 1 _ rfl
        have ca2 := c1 2 _ rfl
        have ca3 := c1 3 _ rfl
        have ca4 := c1 4 _ rfl
        have HSX := Lib.hid (HSZ.out _ (List.mem_of_getElem? hx))
        have HBA := Lib.hid (show blkAt (nodes L) i = ofB (nodeB (x0, x1, x2, x3, es)) by rw [blkAt, nodes, List.getElem?_map, hx]; rfl)
        clear hx c1
        go_wp2_with fail
        refine (l7Inode_any x0 x1 x2 x3 es B1 es.length d1 _ r1 HSX.out.2.1 HSX.out.1 HSX.out.2.2).mono ?_
        rintro e w5 ⟨rfl, f5⟩
        rw [← HBA.out]
        have H5 := H.go f5
        clear H f5 r1 ca0 ca1 ca2 ca3 ca4 y1
        go_wp2_with (at_builtin; refine wp_appM (f := Value.string) (H5) rfl _ _ _ rfl Tryz.underlying22 infoString rfl 0 _ _ rfl rfl _ _ (blkAt (nodes L) i) rfl (by simp) rfl (by first | (simp only [maxLen]; omega) | (simp [maxLen]; done) | (simp [maxLen]; omega)) (by first | omega | (simp; done) | (simp; omega)) ?_)
        intro v' w6 H6
        have H7 := Lib.hid (show Hp [] w w6 [.row 9 1 v' (BB.take (i + 1 + 1)).length ((BB.take (i + 1 + 1)).map Value.string), .blk g 26 [.int .i64 next, .slice (some ⟨bk, of, none⟩) n c]] from H6.recast (by
          rw [HBT.out i hlt]; simp))
        clear H5 H6
        go_wp2_with fail
        go_roundw
        case rel => exact ⟨i + 1, by go_num, by omega, H7.out⟩
        case measure => simp [intOf]; omega
      · have hin1 : ¬ ((i : Int) < (n : Int)) := by omega
        have HBA := Lib.hid (show blkAt (nodes L) i = ByteArray.mk #[] by rw [blkAt, List.getElem?_eq_none (by rw [HNL.out]; omega)])
        go_wp2_with (at_builtin; refine wp_appM (f := Value.string) (H) rfl _ _ _ rfl Tryz.underlying22 infoString rfl 0 _ _ rfl rfl _ _ (ByteArray.mk #[]) rfl (by simp) rfl (by first | (simp only [maxLen]; omega) | (simp [maxLen]; done) | (simp [maxLen]; omega)) (by first | omega | (simp; done) | (simp; omega)) ?_)
        intro v' w6 H6
        have H7 := Lib.hid (show Hp [] w w6 [.row 9 1 v' (BB.take (i + 1 + 1)).length ((BB.take (i + 1 + 1)).map Value.string), .blk g 26 [.int .i64 next, .slice A n c]] from H6.recast (by
          rw [HBT.out i hlt, HBA.out]; simp))
        clear H H6 y1
        go_wp2_with fail
        go_roundw
        case rel => exact ⟨i + 1, by go_num, by omega, H7.out⟩
        case measure => simp [intOf]; omega
    · have hlt1 : ¬ ((i : Int) < 16) := by omega
      have hi16 : i + 1 = 17 := by omega
      have ht : BB.take (i + 1) = BB := List.take_of_length_le (by rw [HBL.out]; omega)
      rw [ht, HBL.out] at H
      obtain ⟨C, q, rfl⟩ := H.shape 0 rfl
      have H9 := Lib.hid H.drop1
      clear H y1
      go_wp2_with fail
      go_ret
      exact H9.out.toMade 0 rfl
end Go.Proofs.YtaogikhpglcmjaaGreatDoor
