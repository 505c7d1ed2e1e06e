/-
  The law FnExactMount, walked.
-/
import Derived.Test.YtaogikhpglcmjaaGreatDoorMountS
import Derived.Test.YtaogikhpglcmjaaGreatDoorGZa
import Derived.Test.YtaogikhpglcmjaaGreatDoorGw
import Derived.Test.YtaogikhpglcmjaaGreatDoorGi
import Derived.Test.YtaogikhpglcmjaaGreatDoorGx
namespace Go.Proofs.YtaogikhpglcmjaaGreatDoor
open Go.RowKit

set_option linter.unusedVariables false
set_option linter.unusedSimpArgs false
/-- All that Mount hands back, as one value. -/
noncomputable def mountV (l : List ByteArray) : Int × List Nod × List WrT × Int × Int := match mountB l with
  | none => (0, [], [], 0, 1)
  | some p => (p.1.1, p.1.2, p.2.1, p.2.2, 0)
theorem totN_leM : ∀ (L : List (Value × Nod)), (∀ p ∈ L, p.2.2.2.2.2.length ≤ 12) → totN L ≤ L.length * 52
  | [], _ => Nat.le_refl _
  | p :: L, h => by
    rw [totN, List.length_cons]
    have h1 := h p List.mem_cons_self
    have h2 := totN_leM L fun q hq => h q (List.mem_cons_of_mem _ hq)
    omega
theorem volB_few {next : Int} {l : List Nod} (h : volB next l = true) : l.length ≤ 16 := by
  simp only [volB, headOk, Bool.and_eq_true] at h
  have := inB_iff.1 h.1.1.1.2
  omega
theorem Hp.nilM {W : List Nat} {w0 w : World} {l : List Ob} (h : Hp W w0 w l) : Hp W w0 w (obN (.slice none 0 0) 0 [] :: l) :=
  Hp.join2 (r := rowN (.slice none 0 0) 0 []) (rs := []) (h.many0.nil_ 90 5)
theorem mount_out {w w' : World} {l : List ByteArray} {e : Ending} {next seq code : Int} {nds : List Nod} {outs : List WrT} (h : MountGave w l e w') (hv : mountV l = (next, nds, outs, seq, code)) :
    ∃ (A : Option Addr) (c : Nat) (L : List (Value × Nod)) (C : Option Addr) (d : Nat), nodes L = nds ∧ L.length ≤ 1048576 ∧ (∀ p ∈ L, p.2.2.2.2.2.length ≤ 1048576) ∧ totN L ≤ 60000000 ∧ outs.length ≤ 17 ∧
      e = .returned (.tuple #[.agg #[.int .i64 next, .slice A L.length c], .slice C outs.length d, .int .i64 seq, .int .i64 code]) ∧ Hp [] w w' [obN (.slice A L.length c) L.length L, .row 61 2 (.slice C outs.length d) outs.length (outs.flatMap cWrite)] := by
  unfold MountGave at h
  unfold mountV at hv
  cases hb : mountB l with
  | none =>
    rw [hb] at h hv
    obtain ⟨C, d, he, H⟩ := h
    injection hv with e1 hv; injection hv with e2 hv; injection hv with e3 hv; injection hv with e4 e5
    subst e1 e2 e3 e4 e5
    exact ⟨none, 0, [], C, d, rfl, by decide, by simp, by decide, by decide, he, H.nilM⟩
  | some p =>
    rw [hb] at h hv
    obtain ⟨A, c, L, C, d, hn, hvb, hs, hx, h17, hc, hd, he, H⟩ := h
    injection hv with e1 hv; injection hv with e2 hv; injection hv with e3 hv; injection hv with e4 e5
    subst e1 e2 e3 e4 e5
    have h12 : ∀ p ∈ L, p.2.2.2.2.2.length ≤ 12 := fun p hp => (hs p hp).2.1
    have hl : L.length ≤ 1048576 := by
      have := volB_few hvb
      rw [← hn] at this
      simp only [nodes, List.length_map] at this
      omega
    have ht := totN_leM L h12
    exact ⟨A, c, L, C, d, hn, hl, fun p hp => Nat.le_trans (h12 p hp) (by decide), by omega, h17, he, H⟩
set_option maxRecDepth 100000 in
set_option maxHeartbeats 8000000 in
theorem lawFnExactMount_walk (A0 : Option Addr) (n0 c0 : Nat) (l0 : List ByteArray) (w : World) (h0 : Rd w A0 n0 1 ((l0).map Value.string)) (ok0 : ∀ s ∈ l0, s.size ≤ 9223372036854775807) (hcap0 : n0 ≤ 9223372036854775807) (hk : KT w) :
    Calls Tryz.prog 3 #[.slice A0 n0 c0] w fun e w' => e = .returned (.bool true) ∧ Fr w w' := by
  by_cases hbig0 : (1048576 : Int) < (strTot l0 : Nat)
  ·
    have H := Hp.start w
    go_enter Tryz.func3, Tryz.ntmps3
    go_wp2_with fail
    refine (szStringS_fr A0 n0 c0 l0 _ _ (H.old h0) ok0 hcap0 (by omega) (by omega)).mono ?_
    rintro e w1 ⟨rfl, f1⟩
    have H1 := H.go f1
    rw [szOf_no (by omega)]
    go_wp2_with fail
    go_ret
    exact ⟨rfl, H1.fr⟩
  have hs0 : n0 ≤ 1048576 := by have q1 := strTot_len l0; have q2 := h0.len1; omega
  have hz0 : ∀ s ∈ l0, s.size ≤ 16777216 := fun s hs => by have q1 := strTot_mem hs; omega
  obtain ⟨next, nds, outs, seq, code, hv⟩ : ∃ (next : Int) (nds : List Nod) (outs : List WrT) (seq code : Int), mountV l0 = (next, nds, outs, seq, code) := ⟨_, _, _, _, _, rfl⟩
  have HV := Lib.hid hv
  clear hv
  have hseq : (seq != seq) = false := by simp
  have hcode : (code != code) = false := by simp
  have H := Hp.start w
  go_enter Tryz.func3, Tryz.ntmps3
  go_wp2_with fail
  refine (szStringS_fr A0 n0 c0 l0 _ _ (H.old h0) ok0 hcap0 (by omega) (by omega)).mono ?_
  rintro e w1 ⟨rfl, f1⟩
  replace H := H.go f1
  clear f1
  rw [szOf_yes (by omega)]
  go_wp2_with fail
  refine (toStringS_any A0 n0 c0 l0 _ (H.old h0) hs0).mono ?_
  rintro e wz ⟨gs, rfl, oz, fz⟩
  replace H := H.made oz fz
  clear oz fz
  go_wp2_with fail
  refine (specMount_any (some ⟨gs, 0, none⟩) n0 n0 l0 _ (H.rd 0 rfl) (Nat.le_refl _) hs0 hz0).mono ?_
  rintro e ww hg
  obtain ⟨Aw, cw, Lw, Cw, dw, hnw, hlw, hew, htw, how, rfl, K⟩ := mount_out hg HV.out
  have ho : outs.length ≤ 1048576 := by omega
  have HNw := Lib.hid hnw
  replace H := (H.join K).lay_ 26 [.int .i64 next, .slice Aw Lw.length cw] rfl
  clear K hg hnw
  obtain ⟨bw, hbw⟩ : ∃ x, x = ww.heap.size := ⟨_, rfl⟩
  rw [← hbw] at H
  have HBw := Lib.hid hbw
  clear hbw
  go_wp2_with fail
  rw [← HBw.out]
  refine (toStringS_any A0 n0 c0 l0 _ (H.old h0) hs0).mono ?_
  rintro e wz ⟨gx, rfl, oz, fz⟩
  replace H := H.made oz fz
  clear oz fz
  go_wp2_with fail
  refine (implMount_any (some ⟨gx, 0, none⟩) n0 n0 l0 _ (H.rd 0 rfl) (Nat.le_refl _) hs0 hz0 (hk.fr H.fr)).mono ?_
  rintro e wg hg
  obtain ⟨Ag, cg, Lg, Cg, dg, hng, hlg, heg, htg, hog, rfl, K⟩ := mount_out hg HV.out
  have HNg := Lib.hid hng
  replace H := (H.join K).lay_ 26 [.int .i64 next, .slice Ag Lg.length cg] rfl
  clear K hg hng
  obtain ⟨bg, hbg⟩ : ∃ x, x = wg.heap.size := ⟨_, rfl⟩
  rw [← hbg] at H
  have HBg := Lib.hid hbg
  clear hbg
  have y0 := H.bat 0 rfl (j := 0) rfl
  have y1 := H.bat 0 rfl (j := 1) rfl
  have z0 := H.bat 4 rfl (j := 0) rfl
  have z1 := H.bat 4 rfl (j := 1) rfl
  go_wp2_with fail
  rw [← HBg.out]
  refine (eqVol_yes next Ag Aw Lg.length Lw.length cg cw Lg Lw _ (H.rdN 1 rfl) (H.rdN 5 rfl) (HNg.out.trans HNw.out.symm) hlg hlw heg hew).mono ?_
  rintro e wz ⟨rfl, fz⟩
  replace H := H.go fz
  clear fz y0 y1 z0 z1
  go_wp2_with fail
  refine (eqWriteS_any Cg Cw outs.length outs.length dg dw outs outs _ (H.rd 2 rfl) (H.rd 6 rfl) ho ho).mono ?_
  rintro e wz ⟨rfl, fz⟩
  rw [decide_eq_true rfl]
  replace H := H.go fz
  clear fz
  go_wp2_with fail
  refine (toStringS_any A0 n0 c0 l0 _ (H.old h0) hs0).mono ?_
  rintro e wz ⟨gy, rfl, oz, fz⟩
  replace H := H.made oz fz
  clear oz fz
  go_wp2_with fail
  refine (eqStringS_any _ _ _ _ _ _ l0 l0 _ (H.rd 4 rfl) (H.rd 0 rfl) hs0 hs0).mono ?_
  rintro e wz ⟨rfl, dz⟩
  rw [decide_eq_true rfl]
  replace H := (H.go dz.fr).tail
  clear dz
  go_wp2_with fail
  refine (markStringS_any _ _ _ 1 _ _ _ (H.row 3 rfl) (by omega) (by omega)).mono ?_
  rintro e wz ⟨rfl, oz, gz⟩
  replace H := H.grow 3 rfl gz oz (.inl rfl)
  clear oz gz
  obtain ⟨k9, ek9⟩ : ∃ q : Nat, q = 1 + n0 := ⟨_, rfl⟩
  rw [← ek9]
  have bk9 : ¬ (k9 : Int) < 0 := by omega
  clear ek9
  have y0 := H.bat 0 rfl (j := 0) rfl
  have y1 := H.bat 0 rfl (j := 1) rfl
  have z0 := H.bat 4 rfl (j := 0) rfl
  have z1 := H.bat 4 rfl (j := 1) rfl
  go_wp2_with fail
  refine (eqVol_yes next Ag Aw Lg.length Lw.length cg cw Lg Lw _ (H.rdN 1 rfl) (H.rdN 5 rfl) (HNg.out.trans HNw.out.symm) hlg hlw heg hew).mono ?_
  rintro e wz ⟨rfl, fz⟩
  replace H := H.go fz
  clear fz y0 y1 z0 z1
  go_wp2_with fail
  refine (eqWriteS_any Cg Cw outs.length outs.length dg dw outs outs _ (H.rd 2 rfl) (H.rd 6 rfl) ho ho).mono ?_
  rintro e wz ⟨rfl, fz⟩
  rw [decide_eq_true rfl]
  replace H := H.go fz
  clear fz
  have y0 := H.bat 0 rfl (j := 0) rfl
  have y1 := H.bat 0 rfl (j := 1) rfl
  go_wp2_with fail
  refine (markVol_any next Ag Lg.length cg 1 Lg _ (H.ok _ (List.mem_cons_of_mem _ List.mem_cons_self)) hlg htg (by decide)).mono ?_
  rintro e wz ⟨rfl, K⟩
  replace H := H.turnMany 1 rfl K
  clear K y0 y1
  obtain ⟨m1, hm1⟩ : ∃ q : Nat, q = 1 + totN Lg := ⟨_, rfl⟩
  rw [← hm1]
  have bm1 : m1 ≤ 60000001 := by omega
  have nm1 : ¬ (m1 : Int) < 0 := by omega
  have HM1 := Lib.hid hm1
  clear hm1
  go_wp2_with fail
  refine (markWriteS_any _ _ _ m1 _ _ _ (H.row 2 rfl) (by omega) (by omega)).mono ?_
  rintro e wz ⟨rfl, oz, gz⟩
  replace H := H.grow 2 rfl gz oz (.inl rfl)
  clear oz gz
  obtain ⟨m2, hm2⟩ : ∃ q : Nat, q = m1 + outs.length * 2 := ⟨_, rfl⟩
  rw [← hm2]
  have nm2 : ¬ (m2 : Int) < 0 := by omega
  have HM2 := Lib.hid hm2
  clear hm2
  have y0 := H.bat 0 rfl (j := 0) rfl
  have y1 := H.bat 0 rfl (j := 1) rfl
  go_wp2_with fail
  refine (heldVol_any next Ag Lg.length cg 1 Lg _ (H.rdN 1 rfl) hlg htg (by decide)).mono ?_
  rintro e wz ⟨rfl, fz⟩
  replace H := H.go fz
  clear fz y0 y1
  rw [← HM1.out]
  go_wp2_with fail
  refine (heldWriteS_any Cg outs.length dg m1 _ (H.rd 2 rfl) (by omega) (by omega)).mono ?_
  rintro e wz ⟨rfl, fz⟩
  replace H := H.go fz
  clear fz
  rw [← HM2.out]
  go_wp2_with fail
  refine (toStringS_any A0 n0 c0 l0 _ (H.old h0) hs0).mono ?_
  rintro e wz ⟨gt, rfl, oz, fz⟩
  replace H := H.made oz fz
  clear oz fz
  go_wp2_with fail
  refine (implMount_any (some ⟨gt, 0, none⟩) n0 n0 l0 _ (H.rd 0 rfl) (Nat.le_refl _) hs0 hz0 (hk.fr H.fr)).mono ?_
  rintro e wh hg
  obtain ⟨Ah, ch, Lh, Ch, dh, hnh, hlh, heh, hth, hoh, rfl, K⟩ := mount_out hg HV.out
  have HNh := Lib.hid hnh
  replace H := (H.join K).lay_ 26 [.int .i64 next, .slice Ah Lh.length ch] rfl
  clear K hg hnh
  obtain ⟨bh, hbh⟩ : ∃ x, x = wh.heap.size := ⟨_, rfl⟩
  rw [← hbh] at H
  have HBh := Lib.hid hbh
  clear hbh
  have y0 := H.bat 0 rfl (j := 0) rfl
  have y1 := H.bat 0 rfl (j := 1) rfl
  have z0 := H.bat 8 rfl (j := 0) rfl
  have z1 := H.bat 8 rfl (j := 1) rfl
  go_wp2_with fail
  rw [← HBh.out]
  refine (eqVol_yes next Ah Aw Lh.length Lw.length ch cw Lh Lw _ (H.rdN 1 rfl) (H.rdN 9 rfl) (HNh.out.trans HNw.out.symm) hlh hlw heh hew).mono ?_
  rintro e wz ⟨rfl, fz⟩
  replace H := H.go fz
  clear fz y0 y1 z0 z1
  go_wp2_with fail
  refine (eqWriteS_any Ch Cw outs.length outs.length dh dw outs outs _ (H.rd 2 rfl) (H.rd 10 rfl) ho ho).mono ?_
  rintro e wz ⟨rfl, fz⟩
  rw [decide_eq_true rfl]
  replace H := H.go fz
  clear fz
  have y0 := H.bat 4 rfl (j := 0) rfl
  have y1 := H.bat 4 rfl (j := 1) rfl
  go_wp2_with fail
  refine (heldVol_any next Ag Lg.length cg 1 Lg _ (H.rdN 5 rfl) hlg htg (by decide)).mono ?_
  rintro e wz ⟨rfl, fz⟩
  replace H := H.go fz
  clear fz y0 y1
  rw [← HM1.out]
  go_wp2_with fail
  refine (heldWriteS_any Cg outs.length dg m1 _ (H.rd 6 rfl) (by omega) (by omega)).mono ?_
  rintro e wz ⟨rfl, fz⟩
  replace H := H.go fz
  clear fz
  rw [← HM2.out]
  go_wp2_with fail
  go_ret
  exact ⟨rfl, H.fr⟩
end Go.Proofs.YtaogikhpglcmjaaGreatDoor
