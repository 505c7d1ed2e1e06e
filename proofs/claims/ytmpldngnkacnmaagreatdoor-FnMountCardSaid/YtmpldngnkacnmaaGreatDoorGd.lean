/-
  Many texts in one: PartsI, Taken, MNames, Class, Apart, ApartS, TextN, Crc.
-/
import Derived.Test.YtmpldngnkacnmaaGreatDoorGc
import Derived.Test.YtmpldngnkacnmaaGreatDoorPartsS
import Derived.Test.YtmpldngnkacnmaaGreatDoorGb
import Derived.Deep.RegionHeld3
import Derived.Test.YtmpldngnkacnmaaGreatDoorGg
set_option linter.unusedVariables false
set_option linter.unusedSimpArgs false
namespace Go.Proofs.YtmpldngnkacnmaaGreatDoor
open Go.RowKit
set_option maxRecDepth 100000 in
set_option maxHeartbeats 8000000 in
theorem implParts_any (c : Int) (w : World) (ic : -9223372036854775808 ≤ c ∧ c ≤ 9223372036854775807) :
 Calls Tryz.prog 137 #[.int .i64 c] w (Made w 3 1 (partsS c).length ((partsS c).map (Value.int .i64))) := by
 have H0 := Hp.start w;obtain ⟨ps, hps⟩ : ∃ q, q = partsS c := ⟨_, rfl⟩;have HPS := Lib.hid hps;rw [← hps];clear hps;go_enter Tryz.func137, Tryz.ntmps137;go_wp2_with fail;refine (within_any _ _ _ _).mono ?_;rintro e w ⟨rfl, rfl⟩
 rcases (show inB c 44032 55203 = true ∨ inB c 44032 55203 = false by cases inB c 44032 55203 <;> simp) with hin | hin
 ·have hin2 := inB_iff.1 hin
  have HE := Lib.hid (HPS.out.trans (parts_hangul hin));rw [hin];have H5 := H0.lit 3 1 2 ([4352 + (c - 44032) / 588, 4449 + (c - 44032) % 588 / 28].map (Value.int .i64)) rfl (by simp [maxLen]);clear H0;have hw0 : IntKind.i64.wrap (c - 44032) = c - 44032 := IntWalk.i64_in _ (by omega)
  by_cases hr : 0 < (c - 44032) % 28
  ·have HE2 := Lib.hid (HE.out.trans (by rw [hangulP, if_pos hr]; rfl : _ = [4352 + (c - 44032) / 588, 4449 + (c - 44032) % 588 / 28, 4519 + (c - 44032) % 28]))
   clear HE;replace H5 := H5.recast (l' := [.row 3 1 (.slice (some ⟨w.heap.size, 0, none⟩) 2 2) ([4352 + (c - 44032) / 588, 4449 + (c - 44032) % 588 / 28] : List Int).length (([4352 + (c - 44032) / 588, 4449 + (c - 44032) % 588 / 28] : List Int).map (Value.int .i64))]) rfl;go_wp2_with (at_builtin; refine wp_appM (f := Value.int .i64) (H5) rfl _ _ _ rfl Tryz.underlying83 infoInt rfl 0 _ _ rfl rfl _ _ (4519 + (c - 44032) % 28) rfl (by simp) rfl (by first | (simp only [maxLen]; omega) | (simp [maxLen]; done) | (simp [maxLen]; omega)) (by first | omega | (simp; done) | (simp; omega)) ?_)
   intro v' w' H';obtain ⟨B', d', rfl⟩ := H'.shape 0 rfl;go_wp2_with fail;go_ret;rw [HE2.out];exact H'.toMade 0 rfl
  ·have HE2 := Lib.hid (HE.out.trans (by rw [hangulP, if_neg hr]; rfl : _ = [4352 + (c - 44032) / 588, 4449 + (c - 44032) % 588 / 28]))
   clear HE;go_wp2_with fail;go_ret;rw [HE2.out];exact H5.toMade 0 rfl
 rw [hin];go_wp2_with fail;refine (within_any _ _ _ _).mono ?_;rintro e w ⟨rfl, rfl⟩
 rcases (show inB c 192 8491 = true ∨ inB c 192 8491 = false by cases inB c 192 8491 <;> simp) with hin2 | hin2
 ·have HIN := Lib.hid hin
  rw [hin2];clear hin hin2;go_wp2_with fail
  go_loopw [36] (fun iv wr => ∃ i : Nat, iv = .int .i64 i ∧ i ≤ 13 ∧ (∀ (j : Nat) (r : List Int × List Int × Int), j < i → rowTbl[j]? = some r → c ∉ r.1) ∧ Hp [] w wr []) (fun iv _ => 13 - (intOf iv).toNat)
  case atStart => exact ⟨0, rfl, by omega, fun j r hj => by omega, H0⟩
  case round =>
   clear H0;obtain ⟨i, rfl, hi, hno, H⟩ := hrel
   by_cases hlt : i < 13
   ·obtain ⟨r, hr, K⟩ := implRow_any i hlt wr
    have HR := Lib.hid hr;have HN := Lib.hid hno;have hsm : r.1.length ≤ 1000 := by
     have h : rowTbl.all (fun r => decide (r.1.length ≤ 1000)) = true := by decide
     simpa using List.all_eq_true.1 h r (List.mem_of_getElem? hr)
    have HLE := Lib.hid (rows_len hr);clear hr hno;go_wp2_with fail;refine K.mono ?_;rintro e w1 ⟨A, ca, B, d, rfl, K1⟩;have H1 := H.join K1;clear H K1 K;go_wp2_with fail;refine (index_any A r.1.length ca r.1 c _ (H1.rd 1 rfl) (by omega)).mono ?_;rintro e w2 ⟨z, rfl, hz, rfl⟩
    rcases hz with ⟨rfl, hn⟩ | ⟨k, rfl, hk, hz⟩
    ·have HT : Hid (∀ (j : Nat) (r : List Int × List Int × Int), j < i + 1 → rowTbl[j]? = some r → c ∉ r.1) := Lib.hid fun j r' hj hr' => by
      by_cases hji : j = i
      ·subst hji
       rw [HR.out] at hr';injection hr' with hr';rw [← hr'];exact hn
      ·exact HN.out j r' (by omega) hr'
     clear hn;go_wp2_with fail;go_roundw
     case rel => exact ⟨i + 1, by go_num, by omega, HT.out, H1.tail2⟩
     case measure => simp [intOf]; omega
    ·have hk0 : (0 : Int) ≤ (k : Int) := by omega
     obtain ⟨y, hy⟩ := some_at (l := r.2.1) (n := r.2.1.length) rfl (show k < r.2.1.length by rw [← HLE.out]; exact hk);have hlb : 0 < r.2.1.length := by rw [← HLE.out]; omega
     obtain ⟨gB, cB, e, _⟩ := H1.form 0 rfl hlb;injection e with e1 _ e2;subst e1 e2;have cl := H1.atM 0 rfl hy;have HE := Lib.hid (HPS.out.trans (parts_at_row HR.out hz hy));have hk1 : (k : Int) < (r.2.1.length : Int) := by rw [← HLE.out]; omega
     clear hz hy
     by_cases hm : 0 < r.2.2
     ·have HE2 := Lib.hid (HE.out.trans (if_pos hm))
      have H5 := H1.lit 3 1 2 ([y, r.2.2].map (Value.int .i64)) rfl (by simp [maxLen]);clear H1 HE;go_wp2_with fail;go_ret;rw [HE2.out];exact H5.toMade 0 rfl
     ·have HE2 := Lib.hid (HE.out.trans (if_neg hm))
      have H5 := H1.lit 3 1 1 ([y].map (Value.int .i64)) rfl (by simp [maxLen]);clear H1 HE;go_wp2_with fail;go_ret;rw [HE2.out];exact H5.toMade 0 rfl
   ·have HE := Lib.hid (HPS.out.trans (parts_norow (fun j r hr => hno j r (by have := (List.getElem?_eq_some_iff.1 hr).1; rw [show rowTbl.length = 13 from rfl] at this; omega) hr) HIN.out))
    have H5 := H.lit0 3 1;clear hno H;go_wp2_with fail;go_ret;rw [HE.out];exact H5.toMade 0 rfl
 ·have HE := Lib.hid (HPS.out.trans (parts_far hin2 hin))
  have H5 := H0.lit0 3 1;rw [hin2];clear hin hin2 H0;go_wp2_with fail;go_ret;rw [HE.out];exact H5.toMade 0 rfl
end Go.Proofs.YtmpldngnkacnmaaGreatDoor
namespace Go.Proofs.YtmpldngnkacnmaaGreatDoor
open Go.RowKit
def flatT (n : Nat) (l : List Int) : List Int := l.flatMap (takeF n)
theorem flatT_len {n : Nat} (hn : n ≤ 3) {l : List Int} (hl : l.length ≤ 3) : (flatT n l).length ≤ 81 :=
 Nat.le_trans (flat_le (takeF_len n) l) (Nat.mul_le_mul hl (Nat.pow_le_pow_right (by omega) hn))
theorem takeF_len27 {n : Nat} (hn : n ≤ 3) (c : Int) : (takeF n c).length ≤ 27 := Nat.le_trans (takeF_len n c) (Nat.pow_le_pow_right (by omega) hn)
theorem parts_in {c : Int} (x : Int) (hx : x ∈ partsS c) : -9223372036854775808 ≤ x ∧ x ≤ 9223372036854775807 := by
 by_cases hk : c ∈ keysP
 ·have h : keysP.all (fun c => (pickP c).all fun x => inB x 0 100000) = true := by decide +kernel
  rw [parts_key hk] at hx;have := inB_iff.1 (List.all_eq_true.1 (List.all_eq_true.1 h c hk) x hx);omega
 ·rcases (show inB c 44032 55203 = true ∨ inB c 44032 55203 = false by cases inB c 44032 55203 <;> simp) with h | h
  ·rw [parts_hangul h] at hx
   have := hangul_in h hx;omega
  ·rw [parts_none hk h] at hx
   simp at hx
set_option maxRecDepth 100000 in
set_option maxHeartbeats 4000000 in
theorem taken_n : ∀ (n : Nat) (c : Int) (w : World), lvl n c = true → n ≤ 3 → (-9223372036854775808 ≤ c ∧ c ≤ 9223372036854775807) →
 Calls Tryz.prog 129 #[.int .i64 c] w (Made w 3 1 (takeF n c).length ((takeF n c).map (Value.int .i64))) := by
 intro n
 induction n with
 | zero =>
   intro c w hlv hn ic;have h0 : (partsS c).length = 0 := by simpa [lvl] using hlv
   have H0 := Hp.start w;go_enter Tryz.func129, Tryz.ntmps129;go_wp2_with fail;refine (implParts_any c _ ic).mono ?_;rintro e w1 ⟨B, d, rfl, o1, f1⟩;have H1 := H0.made o1 f1;clear H0 o1 f1;have h0' : (((partsS c).length : Int) == 0) = true := by rw [h0]; rfl
   have H2 := H1.lit 3 1 1 ([c].map (Value.int .i64)) rfl (by simp [maxLen]);clear H1 hlv;go_wp2_with fail;go_ret;exact H2.toMade 0 rfl
 | succ n ih =>
   intro c w hlv hn ic;have H0 := Hp.start w;have IH := Lib.hid ih;clear ih;go_enter Tryz.func129, Tryz.ntmps129;go_wp2_with fail;refine (implParts_any c _ ic).mono ?_;rintro e w1 ⟨B, d_, rfl, o1, f1⟩;obtain ⟨ps, hps⟩ : ∃ q, q = partsS c := ⟨_, rfl⟩;have HPS := Lib.hid hps;have hpl : ps.length ≤ 3 := by rw [hps]; exact parts_len c
   rw [← hps] at o1 ⊢;clear hps;have H1 := H0.made o1 f1;clear H0 o1 f1
   by_cases h0 : ps.length = 0
   ·have HE := Lib.hid (show takeF (n + 1) c = [c] by rw [takeF, ← HPS.out, if_pos h0])
    have h0' : ((ps.length : Int) == 0) = true := by rw [h0]; rfl
    have H2 := H1.lit 3 1 1 ([c].map (Value.int .i64)) rfl (by simp [maxLen]);clear H1;go_wp2_with fail;go_ret;rw [HE.out];exact H2.toMade 0 rfl
   have HE := Lib.hid (show takeF (n + 1) c = flatT n ps by rw [takeF, ← HPS.out, if_neg h0]; rfl);have HLV : Hid (∀ x ∈ ps, lvl n x = true) := Lib.hid fun x hx => by
    rw [lvl, ← HPS.out] at hlv;exact List.all_eq_true.1 hlv x hx
   have HIN : Hid (∀ x ∈ ps, -9223372036854775808 ≤ x ∧ x ≤ 9223372036854775807) := Lib.hid fun x hx => by
    rw [HPS.out] at hx;exact parts_in x hx
   clear hlv ic;obtain ⟨gP, cP, e, _⟩ := H1.form 0 rfl (by omega);injection e with e1 _ e2;subst e1 e2;have h0' : ((ps.length : Int) == 0) = false := beq_eq_false_iff_ne.2 (by omega);obtain ⟨b2, hb2⟩ : ∃ q, q = w1.heap.size := ⟨_, rfl⟩;have HB2 := Lib.hid hb2;have H2 := H1.lit0 3 1;rw [← hb2] at H2;clear H1 hb2;go_wp2_with fail;rw [← HB2.out]
   go_loopw [4, 17] (fun v iv wr => ∃ (i : Nat), iv = .int .i64 i ∧ i ≤ ps.length ∧ Hp [] w wr [.row 3 1 v (flatT n (ps.take i)).length ((flatT n (ps.take i)).map (Value.int .i64)), .row 3 1 (.slice (some ⟨gP, 0, none⟩) ps.length d_) ps.length (ps.map (Value.int .i64))]) (fun _ iv _ => ps.length - (intOf iv).toNat)
   case atStart => exact ⟨0, rfl, by omega, H2⟩
   case round =>
    clear H2;obtain ⟨i, rfl, hi, H⟩ := hrel;obtain ⟨B, d, rfl⟩ := H.shape 0 rfl
    by_cases hlt : i < ps.length
    ·obtain ⟨x, hx⟩ := at_some (l := ps) rfl hlt
     have cx := H.atM 1 rfl hx;have hi0 : (0 : Int) ≤ (i : Int) := by omega
     have hi1 : (i : Int) < (ps.length : Int) := by omega
     have HX := Lib.hid hx;have HT := Lib.hid (show flatT n (ps.take (i + 1)) = flatT n (ps.take i) ++ takeF n x by rw [At.take hx, flatT, List.flatMap_append, List.flatMap_singleton]; rfl);have hlo2 : (flatT n (ps.take i)).length ≤ 81 := flatT_len (by omega) (by rw [List.length_take]; omega);have hlx2 : (takeF n x).length ≤ 27 := takeF_len27 (by omega) x;clear hx
     generalize flatT n (ps.take i) = o at H HT hlo2 ⊢
     go_wp2_with fail;refine (IH.out x _ (HLV.out x HX.out.mem) (by omega) (HIN.out x HX.out.mem)).mono ?_;rintro e w3 ⟨B3, d3, rfl, o3, f3⟩;have H3 := H.made o3 f3;clear H o3 f3 cx
     generalize takeF n x = m at H3 HT hlx2 ⊢
     go_wp2_with (at_builtin; refine wp_appS (f := Value.int .i64) H3 rfl _ _ _ rfl Tryz.underlying83 infoInt rfl 1 _ o rfl rfl B3 d3 m rfl (own_cap' (H3.row 0 rfl)) (H3.rd 0 rfl) (by simp [Value.oneCell']) (by simp only [maxLen]; omega) (by omega) ?_);intro v' w' H';have H2 : Hp [] w w' [.row 3 1 v' (flatT n (ps.take (i + 1))).length ((flatT n (ps.take (i + 1))).map (Value.int .i64)), .row 3 1 (.slice (some ⟨gP, 0, none⟩) ps.length d_) ps.length (ps.map (Value.int .i64))] := by
      rw [HT.out, List.map_append, List.length_append];exact H'.tail
     clear H';go_wp2_with fail;go_roundw
     case rel => exact ⟨i + 1, by go_num, by omega, H2⟩
     case measure => simp [intOf]; omega
    ·have ht : ps.take i = ps := List.take_of_length_le (by omega)
     rw [ht] at H ⊢;clear ht;have hge : ¬ ((i : Int) < (ps.length : Int)) := by omega
     go_wp2_with fail;go_ret;rw [HE.out];exact H.toMade 0 rfl
theorem taken_any (c : Int) (w : World) (ic : -9223372036854775808 ≤ c ∧ c ≤ 9223372036854775807) :
 Calls Tryz.prog 129 #[.int .i64 c] w (Made w 3 1 (takeS c).length ((takeS c).map (Value.int .i64))) := taken_n 3 c w (lvl_all c) (by omega) ic
set_option maxRecDepth 100000 in
set_option maxHeartbeats 4000000 in
theorem l4Take_n : ∀ (n : Nat) (c : Int) (w : World), lvl n c = true → n ≤ 3 → (-9223372036854775808 ≤ c ∧ c ≤ 9223372036854775807) →
 Calls Tryz.prog 133 #[.int .i64 c] w (Made w 3 1 (takeF n c).length ((takeF n c).map (Value.int .i64))) := by
 intro n
 induction n with
 | zero =>
   intro c w hlv hn ic;have h0 : (partsS c).length = 0 := by simpa [lvl] using hlv
   have H0 := Hp.start w;go_enter Tryz.func133, Tryz.ntmps133;go_wp2_with fail;refine (specParts_any c _ ic).mono ?_;rintro e w1 ⟨B, d, rfl, o1, f1⟩;have H1 := H0.made o1 f1;clear H0 o1 f1;have h0' : (((partsS c).length : Int) == 0) = true := by rw [h0]; rfl
   have H2 := H1.lit 3 1 1 ([c].map (Value.int .i64)) rfl (by simp [maxLen]);clear H1 hlv;go_wp2_with fail;go_ret;exact H2.toMade 0 rfl
 | succ n ih =>
   intro c w hlv hn ic;have H0 := Hp.start w;have IH := Lib.hid ih;clear ih;go_enter Tryz.func133, Tryz.ntmps133;go_wp2_with fail;refine (specParts_any c _ ic).mono ?_;rintro e w1 ⟨B, d_, rfl, o1, f1⟩;obtain ⟨ps, hps⟩ : ∃ q, q = partsS c := ⟨_, rfl⟩;have HPS := Lib.hid hps;have hpl : ps.length ≤ 3 := by rw [hps]; exact parts_len c
   rw [← hps] at o1 ⊢;clear hps;have H1 := H0.made o1 f1;clear H0 o1 f1
   by_cases h0 : ps.length = 0
   ·have HE := Lib.hid (show takeF (n + 1) c = [c] by rw [takeF, ← HPS.out, if_pos h0])
    have h0' : ((ps.length : Int) == 0) = true := by rw [h0]; rfl
    have H2 := H1.lit 3 1 1 ([c].map (Value.int .i64)) rfl (by simp [maxLen]);clear H1;go_wp2_with fail;go_ret;rw [HE.out];exact H2.toMade 0 rfl
   have HE := Lib.hid (show takeF (n + 1) c = flatT n ps by rw [takeF, ← HPS.out, if_neg h0]; rfl);have HLV : Hid (∀ x ∈ ps, lvl n x = true) := Lib.hid fun x hx => by
    rw [lvl, ← HPS.out] at hlv;exact List.all_eq_true.1 hlv x hx
   have HIN : Hid (∀ x ∈ ps, -9223372036854775808 ≤ x ∧ x ≤ 9223372036854775807) := Lib.hid fun x hx => by
    rw [HPS.out] at hx;exact parts_in x hx
   clear hlv ic;obtain ⟨gP, cP, e, _⟩ := H1.form 0 rfl (by omega);injection e with e1 _ e2;subst e1 e2;have h0' : ((ps.length : Int) == 0) = false := beq_eq_false_iff_ne.2 (by omega);obtain ⟨b2, hb2⟩ : ∃ q, q = w1.heap.size := ⟨_, rfl⟩;have HB2 := Lib.hid hb2;have H2 := H1.lit0 3 1;rw [← hb2] at H2;clear H1 hb2;go_wp2_with fail;rw [← HB2.out]
   go_loopw [4, 5] (fun v iv wr => ∃ (i : Nat), iv = .int .i64 i ∧ i ≤ ps.length ∧ Hp [] w wr [.row 3 1 v (flatT n (ps.take i)).length ((flatT n (ps.take i)).map (Value.int .i64)), .row 3 1 (.slice (some ⟨gP, 0, none⟩) ps.length d_) ps.length (ps.map (Value.int .i64))]) (fun _ iv _ => ps.length - (intOf iv).toNat)
   case atStart => exact ⟨0, rfl, by omega, H2⟩
   case round =>
    clear H2;obtain ⟨i, rfl, hi, H⟩ := hrel;obtain ⟨B, d, rfl⟩ := H.shape 0 rfl
    by_cases hlt : i < ps.length
    ·obtain ⟨x, hx⟩ := at_some (l := ps) rfl hlt
     have cx := H.atM 1 rfl hx;have hi0 : (0 : Int) ≤ (i : Int) := by omega
     have hi1 : (i : Int) < (ps.length : Int) := by omega
     have HX := Lib.hid hx;have HT := Lib.hid (show flatT n (ps.take (i + 1)) = flatT n (ps.take i) ++ takeF n x by rw [At.take hx, flatT, List.flatMap_append, List.flatMap_singleton]; rfl);have hlo2 : (flatT n (ps.take i)).length ≤ 81 := flatT_len (by omega) (by rw [List.length_take]; omega);have hlx2 : (takeF n x).length ≤ 27 := takeF_len27 (by omega) x;clear hx
     generalize flatT n (ps.take i) = o at H HT hlo2 ⊢
     go_wp2_with fail;refine (IH.out x _ (HLV.out x HX.out.mem) (by omega) (HIN.out x HX.out.mem)).mono ?_;rintro e w3 ⟨B3, d3, rfl, o3, f3⟩;have H3 := H.made o3 f3;clear H o3 f3 cx
     generalize takeF n x = m at H3 HT hlx2 ⊢
     go_wp2_with (at_builtin; refine wp_appS (f := Value.int .i64) H3 rfl _ _ _ rfl Tryz.underlying83 infoInt rfl 1 _ o rfl rfl B3 d3 m rfl (own_cap' (H3.row 0 rfl)) (H3.rd 0 rfl) (by simp [Value.oneCell']) (by simp only [maxLen]; omega) (by omega) ?_);intro v' w' H';have H2 : Hp [] w w' [.row 3 1 v' (flatT n (ps.take (i + 1))).length ((flatT n (ps.take (i + 1))).map (Value.int .i64)), .row 3 1 (.slice (some ⟨gP, 0, none⟩) ps.length d_) ps.length (ps.map (Value.int .i64))] := by
      rw [HT.out, List.map_append, List.length_append];exact H'.tail
     clear H';go_wp2_with fail;go_roundw
     case rel => exact ⟨i + 1, by go_num, by omega, H2⟩
     case measure => simp [intOf]; omega
    ·have ht : ps.take i = ps := List.take_of_length_le (by omega)
     rw [ht] at H ⊢;clear ht;have hge : ¬ ((i : Int) < (ps.length : Int)) := by omega
     go_wp2_with fail;go_ret;rw [HE.out];exact H.toMade 0 rfl
theorem l4Take_any (c : Int) (w : World) (ic : -9223372036854775808 ≤ c ∧ c ≤ 9223372036854775807) :
 Calls Tryz.prog 133 #[.int .i64 c] w (Made w 3 1 (takeS c).length ((takeS c).map (Value.int .i64))) := l4Take_n 3 c w (lvl_all c) (by omega) ic
end Go.Proofs.YtmpldngnkacnmaaGreatDoor
namespace Go.Proofs.YtmpldngnkacnmaaGreatDoor
open Go.RowKit
def InZ (x : Int) : Prop := -9223372036854775808 ≤ x ∧ x ≤ 9223372036854775807
theorem mem_insF {x y : Int} : ∀ {l : List Int}, y ∈ insF x l ↔ y = x ∨ y ∈ l
 | [] => by simp [insF]
 | z :: l => by
   rw [insF]
   split
   ·rw [List.mem_cons, mem_insF, List.mem_cons]
    constructor
    ·rintro (h | h | h) <;> simp [h]
    ·rintro (h | h | h) <;> simp [h]
   ·simp
theorem mem_ins {o : List Int} {x y : Int} : y ∈ ins o x ↔ y = x ∨ y ∈ o := by
 rw [ins]
 split
 ·rw [List.mem_reverse, mem_insF, List.mem_reverse]
 ·rw [List.mem_append, List.mem_singleton]; exact Or.comm
theorem mem_foldl_ins {y : Int} : ∀ {l o : List Int}, y ∈ l.foldl ins o ↔ y ∈ o ∨ y ∈ l
 | [], o => by simp
 | x :: l, o => by
   rw [List.foldl_cons, mem_foldl_ins, mem_ins, List.mem_cons];constructor
   ·rintro ((h | h) | h) <;> simp [h]
   ·rintro (h | h | h) <;> simp [h]
theorem takeF_in : ∀ (n : Nat) (c : Int), InZ c → ∀ x ∈ takeF n c, InZ x
 | 0, c, h, x, hx => by simp only [takeF, List.mem_singleton] at hx; subst hx; exact h
 | n + 1, c, h, x, hx => by
   rw [takeF] at hx
   split at hx
   ·simp only [List.mem_singleton] at hx; subst hx; exact h
   ·rw [List.mem_flatMap] at hx
    obtain ⟨y, hy, hx⟩ := hx;exact takeF_in n y (parts_in y hy) x hx
theorem apart_in {l : List Int} (h : ∀ x ∈ l, InZ x) : ∀ x ∈ apartL l, InZ x := by
 intro x hx;rw [apartL, mem_foldl_ins, List.mem_flatMap] at hx
 rcases hx with hx | ⟨y, hy, hx⟩
 ·simp at hx
 ·exact takeF_in 3 y (h y hy) x hx
def foldF (c : Int) : List Int :=
 if inB c 65 90 || inB c 913 929 || inB c 931 937 || inB c 1040 1071 || (c == 198 || c == 208 || c == 216 || c == 222) then [c + 32] else if c = 223 then [115, 115] else if c = 962 then [963] else [c]
def foldL (l : List Int) : List Int := l.flatMap foldF
theorem foldF_yes {c : Int} (h : (inB c 65 90 || inB c 913 929 || inB c 931 937 || inB c 1040 1071 || (c == 198 || c == 208 || c == 216 || c == 222)) = true) : foldF c = [c + 32] := by rw [foldF, if_pos h]
theorem foldF_no {c : Int} (h : (inB c 65 90 || inB c 913 929 || inB c 931 937 || inB c 1040 1071 || (c == 198 || c == 208 || c == 216 || c == 222)) = false) : foldF c = if c = 223 then [115, 115] else if c = 962 then [963] else [c] := by rw [foldF, if_neg (by rw [h]; simp)]
theorem foldF_top {c : Int} (h : (inB c 65 90 || inB c 913 929 || inB c 931 937 || inB c 1040 1071 || (c == 198 || c == 208 || c == 216 || c == 222)) = true) : 0 ≤ c ∧ c ≤ 1071 := by
 simp only [Bool.or_eq_true, inB_iff, beq_iff_eq] at h;omega
theorem foldF_in {c : Int} (hc : InZ c) : ∀ x ∈ foldF c, InZ x := by
 rcases (show (inB c 65 90 || inB c 913 929 || inB c 931 937 || inB c 1040 1071 || (c == 198 || c == 208 || c == 216 || c == 222)) = true ∨ (inB c 65 90 || inB c 913 929 || inB c 931 937 || inB c 1040 1071 || (c == 198 || c == 208 || c == 216 || c == 222)) = false by cases (inB c 65 90 || inB c 913 929 || inB c 931 937 || inB c 1040 1071 || (c == 198 || c == 208 || c == 216 || c == 222)) <;> simp) with h | h
 ·have h2 := foldF_top h
  rw [foldF_yes h];intro x hx;rw [List.mem_singleton.1 hx];exact ⟨by omega, by omega⟩
 ·rw [foldF_no h]
  split
  ·simp [InZ]
  ·split
   ·simp [InZ]
   ·simpa using hc
theorem foldF_len (c : Int) : (foldF c).length ≤ 2 := by
 rw [foldF]; split
 ·simp
 ·split
  ·simp
  ·split <;> simp
theorem foldL_len (l : List Int) : (foldL l).length ≤ l.length * 2 := flat_le foldF_len l
theorem fold_in {l : List Int} (h : ∀ x ∈ l, InZ x) : ∀ x ∈ foldL l, InZ x := by
 intro x hx;rw [foldL, List.mem_flatMap] at hx;obtain ⟨y, hy, hx⟩ := hx;exact foldF_in (h y hy) x hx
def nameB (s : List UInt8) : Bool := (((inB (s.length : Int) 1 24 && !decide (s = [46])) && !decide (s = [46, 46])) && (decR s).2) && (decR s).1.all knownS
theorem nameB_len {s : List UInt8} (h : nameB s = true) : 1 ≤ s.length ∧ s.length ≤ 24 := by
 simp only [nameB, Bool.and_eq_true, inB_iff] at h;have := h.1.1.1.1;omega
def keysL (l : List Int) : List Int := apartL (foldL (apartL l))
theorem sgn_in {l : List Int} (h : ∀ x ∈ l, sgnB x = true) : ∀ x ∈ l, InZ x := fun x hx => by
 have := sgn_bounds (h x hx);exact ⟨by omega, by omega⟩
def keyR (s : List UInt8) : List UInt8 × Bool := if nameB s = true then (encL (keysL (decR s).1), true) else ([], false)
theorem keyR_no {s : List UInt8} (h : nameB s = false) : keyR s = ([], false) := by rw [keyR, if_neg (by rw [h]; simp)]
theorem keyR_yes {s : List UInt8} (h : nameB s = true) : keyR s = (encL (keysL (decR s).1), true) := by rw [keyR, if_pos h]
theorem keyR_len (s : List UInt8) : (keyR s).1.length ≤ 300000 := by
 rw [keyR]
 split
 ·rename_i h
  have h1 := (decR_good s).1;have h2 := nameB_len h;have h3 := apart_len (decR s).1;have h4 := foldL_len (apartL (decR s).1);have h5 := apart_len (foldL (apartL (decR s).1));have h6 := encL_le (keysL (decR s).1);simp only [keysL] at h6 ⊢;omega
 ·simp
end Go.Proofs.YtmpldngnkacnmaaGreatDoor
namespace Go.Proofs.YtmpldngnkacnmaaGreatDoor
open Go.RowKit
set_option maxRecDepth 100000 in
set_option maxHeartbeats 2000000 in
theorem implClass_any (c : Int) (w : World) :
 Calls Tryz.prog 130 #[.int .i64 c] w fun e w' => e = .returned (.int .i64 (cls c)) ∧ w' = w := by
 obtain ⟨k, hk⟩ : ∃ q, q = cls c := ⟨_, rfl⟩;have HK := Lib.hid hk;rw [← hk];clear hk;go_enter Tryz.func130, Tryz.ntmps130;go_wp2_with fail;refine (within_any _ _ _ _).mono ?_;rintro e w ⟨rfl, rfl⟩
 rcases (show inB c 768 772 = true ∨ inB c 768 772 = false by cases inB c 768 772 <;> simp) with hb | hb
 ·have HE := Lib.hid (HK.out.trans (show cls c = 230 by unfold cls; rw [hb]; rfl))
  rw [hb];go_wp2_with fail;go_ret;rw [HE.out];exact ⟨rfl, rfl⟩
 ·by_cases h1 : c = 776
  ·subst h1
   have HE := Lib.hid (HK.out.trans (show cls 776 = 230 by decide));rw [hb];go_wp2_with fail;go_ret;rw [HE.out];exact ⟨rfl, rfl⟩
  ·by_cases h2 : c = 778
   ·subst h2
    have HE := Lib.hid (HK.out.trans (show cls 778 = 230 by decide));rw [hb];go_wp2_with fail;go_ret;rw [HE.out];exact ⟨rfl, rfl⟩
   ·have h1' : (c == 776) = false := by simpa using h1
    have h2' : (c == 778) = false := by simpa using h2
    have HE := Lib.hid (HK.out.trans (show cls c = if c = 803 then 220 else if c = 807 then 202 else 0 by unfold cls; rw [hb, h1', h2']; rfl));rw [hb]
    by_cases h3 : c = 803
    ·have HE2 := Lib.hid (HE.out.trans (if_pos h3))
     have h3' : (c == 803) = true := by simpa using h3
     go_wp2_with fail;go_ret;rw [HE2.out];exact ⟨rfl, rfl⟩
    ·have h3' : (c == 803) = false := by simpa using h3
     by_cases h4 : c = 807
     ·have HE2 := Lib.hid (HE.out.trans ((if_neg h3).trans (if_pos h4)))
      have h4' : (c == 807) = true := by simpa using h4
      go_wp2_with fail;go_ret;rw [HE2.out];exact ⟨rfl, rfl⟩
     ·have HE2 := Lib.hid (HE.out.trans ((if_neg h3).trans (if_neg h4)))
      have h4' : (c == 807) = false := by simpa using h4
      go_wp2_with fail;go_ret;rw [HE2.out];exact ⟨rfl, rfl⟩
set_option maxRecDepth 100000 in
set_option maxHeartbeats 2000000 in
theorem l3Among_any (c : Int) (A : Option Addr) (n cc : Nat) (l : List Int) (w : World) (h : Rd w A n 1 (l.map (Value.int .i64))) (hn : n ≤ 1000) :
 Calls Tryz.prog 139 #[.int .i64 c, .slice A n cc] w fun e w' => e = .returned (.bool (l.contains c)) ∧ w' = w := by
 have HL := Lib.hid h.len1;have G := Lib.hid h;obtain ⟨k, hk⟩ : ∃ q, q = l.contains c := ⟨_, rfl⟩;have HK := Lib.hid hk;rw [← hk];clear h hk;go_enter Tryz.func139, Tryz.ntmps139;go_wp2_with fail
 go_loopw [5] (fun iv wr => ∃ i : Nat, iv = .int .i64 i ∧ i ≤ n ∧ c ∉ l.take i ∧ wr = w) (fun iv _ => n - (intOf iv).toNat)
 case atStart => exact ⟨0, rfl, by omega, by simp, rfl⟩
 case round =>
  obtain ⟨i, rfl, hi, hno, rfl⟩ := hrel
  by_cases hlt : i < n
  ·obtain ⟨y, hy⟩ := some_at HL.out hlt
   obtain ⟨bk, of, rfl, hc⟩ := G.out.get1 hy;have hi0 : (0 : Int) ≤ (i : Int) := by omega
   have hi1 : (i : Int) < (n : Int) := by omega
   have HY := Lib.hid hy;have HO := Lib.hid hno;clear hy hno
   by_cases hxy : y = c
   ·subst hxy
    have HE := Lib.hid (HK.out.trans (by rw [List.contains_iff_mem]; exact List.mem_of_getElem? HY.out : _ = true));go_wp2_with fail;go_ret;rw [HE.out];exact ⟨rfl, rfl⟩
   ·have HN := Lib.hid (show c ∉ l.take (i + 1) by rw [At.take HY.out, List.mem_append, not_or]; exact ⟨HO.out, by simpa using fun h => hxy h.symm⟩)
    go_wp2_with fail;go_roundw
    case rel => exact ⟨i + 1, by go_num, by omega, HN.out, trivial⟩
    case measure => simp [intOf]; omega
  ·have HE := Lib.hid (HK.out.trans (by rw [List.take_of_length_le (by rw [HL.out]; omega)] at hno; simpa using hno : _ = false))
   clear hno;go_wp2_with fail;go_ret;rw [HE.out];exact ⟨rfl, rfl⟩
theorem among_cls (c : Int) : ([768, 769, 770, 771, 772, 776, 778] : List Int).contains c = ((inB c 768 772 || c == 776) || c == 778) := by
 rw [Bool.eq_iff_iff, List.contains_iff_mem];simp only [List.mem_cons, List.not_mem_nil, or_false, Bool.or_eq_true, inB_iff, beq_iff_eq];omega
set_option maxRecDepth 100000 in
set_option maxHeartbeats 2000000 in
theorem specClass_any (c : Int) (w : World) :
 Calls Tryz.prog 134 #[.int .i64 c] w fun e w' => e = .returned (.int .i64 (cls c)) ∧ Fr w w' := by
 obtain ⟨k, hk⟩ : ∃ q, q = cls c := ⟨_, rfl⟩;have HK := Lib.hid hk;rw [← hk];clear hk;have H1 := (Hp.start w).lit 3 1 7 (([768, 769, 770, 771, 772, 776, 778] : List Int).map (Value.int .i64)) rfl (by simp [maxLen]);go_enter Tryz.func134, Tryz.ntmps134;go_wp2_with fail;refine (l3Among_any c _ 7 7 [768, 769, 770, 771, 772, 776, 778] _ (H1.rd 0 rfl) (by decide)).mono ?_;rintro e w1 ⟨rfl, hw1⟩;rw [← hw1] at H1;clear hw1;rw [among_cls]
 rcases (show ((inB c 768 772 || c == 776) || c == 778) = true ∨ ((inB c 768 772 || c == 776) || c == 778) = false by cases ((inB c 768 772 || c == 776) || c == 778) <;> simp) with hb | hb
 ·have HE := Lib.hid (HK.out.trans (show cls c = 230 by unfold cls; rw [hb]; rfl))
  rw [hb];go_wp2_with fail;go_ret;rw [HE.out];exact ⟨rfl, H1.fr⟩
 ·have HE := Lib.hid (HK.out.trans (show cls c = if c = 803 then 220 else if c = 807 then 202 else 0 by unfold cls; rw [hb]; rfl))
  rw [hb]
  by_cases h3 : c = 803
  ·have HE2 := Lib.hid (HE.out.trans (if_pos h3))
   have h3' : (c == 803) = true := by simpa using h3
   go_wp2_with fail;go_ret;rw [HE2.out];exact ⟨rfl, H1.fr⟩
  ·have h3' : (c == 803) = false := by simpa using h3
   by_cases h4 : c = 807
   ·have HE2 := Lib.hid (HE.out.trans ((if_neg h3).trans (if_pos h4)))
    have h4' : (c == 807) = true := by simpa using h4
    go_wp2_with fail;go_ret;rw [HE2.out];exact ⟨rfl, H1.fr⟩
   ·have HE2 := Lib.hid (HE.out.trans ((if_neg h3).trans (if_neg h4)))
    have h4' : (c == 807) = false := by simpa using h4
    go_wp2_with fail;go_ret;rw [HE2.out];exact ⟨rfl, H1.fr⟩
end Go.Proofs.YtmpldngnkacnmaaGreatDoor
namespace Go.Proofs.YtmpldngnkacnmaaGreatDoor
open Go.RowKit
def InI (x : Int) : Prop := -9223372036854775808 ≤ x ∧ x ≤ 9223372036854775807
theorem At.app {α : Type} {a b : List α} {x : α} {k : Nat} (hk : k = a.length) : At (a ++ x :: b) k x := by
 subst hk; simp [At]
theorem At.pre {α : Type} {a b : List α} {x : α} {k : Nat} (h : At a k x) : At (a ++ b) k x := by
 rw [At, List.getElem?_append_left h.lt]; exact h
theorem ins_at_len {o : List Int} {x : Int} {k : Nat} (hk : k ≤ o.length) : (o.take k ++ x :: o.drop k).length = o.length + 1 := by
 rw [List.length_append, List.length_cons, List.length_take, List.length_drop]; omega
def pre (l : List Int) (i : Nat) : List Int := ((l.take i).flatMap takeS).foldl ins []
theorem pre_succ {l : List Int} {i : Nat} {c : Int} (h : At l i c) : pre l (i + 1) = (takeS c).foldl ins (pre l i) := by
 rw [pre, h.take, List.flatMap_append, List.flatMap_singleton, List.foldl_append]; rfl
theorem pre_len (l : List Int) (i : Nat) : (pre l i).length ≤ 27 * l.length := by
 rw [pre, foldl_len];have := flat_le take_len (l.take i);have h2 : (l.take i).length ≤ l.length := by rw [List.length_take]; omega
 simp only [List.length_nil, Nat.zero_add];omega
theorem pre_all {l : List Int} {i : Nat} (h : l.length ≤ i) : pre l i = apartL l := by rw [pre, List.take_of_length_le h]; rfl
set_option maxRecDepth 100000 in
set_option maxHeartbeats 8000000 in
theorem implApart_any (A : Option Addr) (n c : Nat) (l : List Int) (w : World) (h : Rd w A n 1 (l.map (Value.int .i64))) (hn : n ≤ 2097152) (hok : ∀ x ∈ l, InI x) :
 Calls Tryz.prog 117 #[.slice A n c] w (Made w 3 1 (apartL l).length ((apartL l).map (Value.int .i64))) := by
 have HL := Lib.hid h.len1;have G := Lib.hid h;have OK := Lib.hid hok;have H0 := (Hp.start w).lit0 3 1;have HAP := Lib.hid (fun i (hi : l.length ≤ i) => pre_all (l := l) hi)
 generalize apartL l = ap at HAP ⊢
 clear h hok;go_enter Tryz.func117, Tryz.ntmps117;go_wp2_with fail
 go_loopw [3, 12] (fun v iv wr => ∃ i : Nat, iv = .int .i64 i ∧ i ≤ n ∧ Hp [] w wr [.row 3 1 v (pre l i).length ((pre l i).map (Value.int .i64))]) (fun _ iv _ => n - (intOf iv).toNat)
 case atStart => exact ⟨0, rfl, by omega, H0⟩
 case round =>
  clear H0;obtain ⟨i, rfl, hi, H⟩ := hrel;obtain ⟨B, d, rfl⟩ := H.shape 0 rfl
  by_cases hlt : i < n
  ·obtain ⟨cc, hx⟩ := at_some HL.out hlt
   obtain ⟨bk, of, rfl, hc⟩ := (H.old G.out).get1 hx;have hi0 : (0 : Int) ≤ (i : Int) := by omega
   have hi1 : (i : Int) < (n : Int) := by omega
   have hic := OK.out cc hx.mem;have HP := Lib.hid (pre_succ hx);have hpl := pre_len l i;rw [HL.out] at hpl;clear hx
   generalize pre l i = o0 at H HP hpl
   go_wp2_with fail;refine (taken_any cc _ hic).mono ?_;rintro e w1 ⟨T, dt, rfl, ot, ft⟩;have H1 := (H.made ot ft).swap;clear H ot ft hc hic;have htl := take_len cc
   generalize takeS cc = ts at H1 HP htl ⊢
   go_wp2_with fail
   go_loopw [3, 19] (fun v jv wr => ∃ j : Nat, jv = .int .i64 j ∧ j ≤ ts.length ∧ Hp [] w wr [.row 3 1 v ((ts.take j).foldl ins o0).length (((ts.take j).foldl ins o0).map (Value.int .i64)), .row 3 1 (.slice T ts.length dt) ts.length (ts.map (Value.int .i64))]) (fun _ jv _ => ts.length - (intOf jv).toNat)
   case atStart => exact ⟨0, rfl, by omega, H1⟩
   case round =>
    clear H1;obtain ⟨j, rfl, hj, H⟩ := hrel;obtain ⟨B, d, rfl⟩ := H.shape 0 rfl
    by_cases hjt : j < ts.length
    ·obtain ⟨x, hx⟩ := at_some (l := ts) rfl hjt
     obtain ⟨gT, cT, e, _⟩ := H.form 1 rfl (by omega);injection e with e1 _ e2;subst e1 e2;have cx := H.atM 1 rfl hx;have hj0 : (0 : Int) ≤ (j : Int) := by omega
     have hj1 : (j : Int) < (ts.length : Int) := by omega
     have HF := Lib.hid (show (ts.take (j + 1)).foldl ins o0 = ins ((ts.take j).foldl ins o0) x by rw [hx.take, List.foldl_append]; rfl);have hol : ((ts.take j).foldl ins o0).length ≤ 27 * n + 27 := by
      rw [foldl_len];have : (ts.take j).length ≤ ts.length := by rw [List.length_take]; omega
      omega
     clear hx
     generalize (ts.take j).foldl ins o0 = o at H HF hol ⊢
     go_wp2_with (at_builtin; refine wp_appM (f := Value.int .i64) (H) rfl _ _ _ rfl Tryz.underlying83 infoInt rfl 0 _ _ rfl rfl _ _ (x) rfl (by simp) rfl (by first | (simp only [maxLen]; omega) | (simp [maxLen]; done) | (simp [maxLen]; omega)) (by first | omega | (simp; done) | (simp; omega)) ?_)
     intro v' w' H';have H2 : Hp [] w w' [.row 3 1 v' (o.length + 1) ((o ++ [x]).map (Value.int .i64)), .row 3 1 (.slice (some ⟨gT, 0, none⟩) ts.length dt) ts.length (ts.map (Value.int .i64))] := by
      rw [List.map_append];exact H'
     clear H' H cx;obtain ⟨gO, dO, rfl, _⟩ := H2.form 0 rfl (by omega);obtain ⟨N, hN⟩ : ∃ N, N = o.length + 1 := ⟨_, rfl⟩;have HN := Lib.hid hN;have hNb : N ≤ 100000000 := by omega
     have hN1 : 1 ≤ N := by omega
     rw [← hN] at H2 ⊢;clear hN hol;go_wp2_with fail
     go_loopw [8] (fun kv wr => ∃ k : Nat, kv = .int .i64 k ∧ k < N ∧ (∀ y ∈ o.drop k, cls x < cls y) ∧ (k < o.length → 0 < cls x) ∧ Hp [] w wr [.row 3 1 (.slice (some ⟨gO, 0, none⟩) N dO) N ((o.take k ++ x :: (o.drop k ++ [])).map (Value.int .i64)), .row 3 1 (.slice (some ⟨gT, 0, none⟩) ts.length dt) ts.length (ts.map (Value.int .i64))]) (fun kv _ => (intOf kv).toNat)
     case atStart => exact ⟨N - 1, by go_num, by omega, by rw [HN.out]; simp, by rw [HN.out]; omega, by rw [show o.take (N - 1) ++ x :: (o.drop (N - 1) ++ []) = o ++ [x] by have := HN.out; rw [show N - 1 = o.length by omega]; simp]; exact H2⟩
     case round =>
      clear H2;obtain ⟨k, rfl, hk, hd, h0, H⟩ := hrel;have HD := Lib.hid hd;have HZ := Lib.hid h0;clear hd h0;have hko : k ≤ o.length := by have := HN.out; omega
      have HKO := Lib.hid hko;have HNL := Lib.hid ((ins_at_len (x := x) hko).trans HN.out.symm);clear hko
      rcases Nat.eq_zero_or_pos k with hk0 | hk0
      ·subst hk0
       have HE := Lib.hid (HF.out.trans (ins_stop HKO.out HD.out HZ.out (.inl rfl)));go_wp2_with fail;refine wp_region_quiet_lit (by kernel_rfl) (by kernel_rfl) ?_
       repeat (any_goals (first | go_big_quiet_step ((fail)) | quiet_step ((fail)) | (refine wpQuiet_step (fun K hK => ?_); go_simp; split <;> (refine hK _ ?_; clear hK K))))
       all_goals (refine wpQuiet_nil ?_; intro _ hw_; obtain ⟨nq, hw__⟩ := hw_; subst hw__)
       replace H := H.on nq;go_wp2_with fail;go_roundw
       case rel => exact ⟨j + 1, by go_num, by omega, by rw [HE.out, HNL.out]; rw [List.append_nil] at H; exact H⟩
       case measure => simp [intOf]; omega
      ·obtain ⟨q, rfl⟩ : ∃ q, k = q + 1 := ⟨k - 1, by omega⟩
       obtain ⟨y, hy⟩ := at_some (l := o) rfl (show q < o.length by have := HKO.out; omega);have HY := Lib.hid hy;have hax : At (o.take (q + 1) ++ x :: (o.drop (q + 1) ++ [])) (q + 1) x := At.app (by have := HKO.out; rw [List.length_take]; omega);have hay : At (o.take (q + 1) ++ x :: (o.drop (q + 1) ++ [])) q y := At.pre (by rw [At, List.getElem?_take_of_lt (by omega)]; exact hy);have cx := H.atM 0 rfl hax;have cy := H.atM 0 rfl hay;have fx := H.free 0 rfl (q + 1);have fy := H.free 0 rfl q;have hj1' : (0 : Int) < ((q + 1 : Nat) : Int) := by omega
       have hw1 : IntKind.i64.wrap ((q : Int)) = (q : Int) := IntWalk.i64_in _ (by omega);have hi0' : (0 : Int) ≤ (q : Int) + 1 := by omega
       have hi1' : (q : Int) + 1 < (N : Int) := by omega
       have hi2' : (0 : Int) ≤ (q : Int) := by omega
       have hi3' : (q : Int) < (N : Int) := by omega
       by_cases hx0 : 0 < cls x
       ·have hd1 : decide (0 < cls x) = true := by simpa using hx0
        by_cases hxy : cls x < cls y
        ·have hd2 : decide (cls x < cls y) = true := by simpa using hxy
         go_wp2_with fail;refine wp_region_quiet_lit (by kernel_rfl) (by kernel_rfl) ?_
         repeat (any_goals (first | go_big_quiet_step ((go_at_call 130; exact Calls.quiet_of_same (implClass_any _ _))) | quiet_step ((go_at_call 130; exact Calls.quiet_of_same (implClass_any _ _))) | (refine wpQuiet_step (fun K hK => ?_); go_simp; split <;> (refine hK _ ?_; clear hK K))))
         all_goals (refine wpQuiet_nil ?_; intro _ hw_; obtain ⟨nq, hw__⟩ := hw_; subst hw__)
         replace H := H.on nq;obtain ⟨w8, hw8⟩ : ∃ q : World, q = wr.drewN nq := ⟨_, rfl⟩;rw [← hw8] at H ⊢;clear hw8 cx cy fx fy;have cx := H.atM 0 rfl hax;have cy := H.atM 0 rfl hay;have fx := H.free 0 rfl (q + 1);have fy := H.free 0 rfl q;go_wp2_with fail
         go_region
         go_wp2_with fail;have H9 := ((H.putM 0 rfl (q + 1) y).putM 0 rfl q x).drew;simp only [List.set_cons_zero] at H9;rw [ins_swap (rest := []) hy] at H9;have H10 := Lib.hid H9;go_roundw
         case rel => exact ⟨q, rfl, by omega, fun z hz => by
          rw [List.drop_eq_getElem_cons (show q < o.length by have := HKO.out; omega), List.mem_cons] at hz
          rcases hz with rfl | hz
          ·have := (List.getElem?_eq_some_iff.1 HY.out).2
           rw [this]; exact hxy
          ·exact HD.out z hz, fun _ => hx0, H10.out⟩
         case measure => simp [intOf]
        ·have hd2 : decide (cls x < cls y) = false := by simpa using hxy
         have HE := Lib.hid (HF.out.trans (ins_stop HKO.out HD.out HZ.out (.inr (.inr ⟨y, HY.out, hxy, by omega⟩))));go_wp2_with fail;refine wp_region_quiet_lit (by kernel_rfl) (by kernel_rfl) ?_
         repeat (any_goals (first | go_big_quiet_step ((go_at_call 130; exact Calls.quiet_of_same (implClass_any _ _))) | quiet_step ((go_at_call 130; exact Calls.quiet_of_same (implClass_any _ _))) | (refine wpQuiet_step (fun K hK => ?_); go_simp; split <;> (refine hK _ ?_; clear hK K))))
         all_goals (refine wpQuiet_nil ?_; intro _ hw_; obtain ⟨nq, hw__⟩ := hw_; subst hw__)
         replace H := H.on nq;go_wp2_with fail;go_roundw
         case rel => exact ⟨j + 1, by go_num, by omega, by rw [HE.out, HNL.out]; rw [List.append_nil] at H; exact H⟩
         case measure => simp [intOf]; omega
       ·have hd1 : decide (0 < cls x) = false := by simpa using hx0
        have HE := Lib.hid (HF.out.trans (ins_stop HKO.out HD.out HZ.out (.inr (.inl hx0))));go_wp2_with fail;refine wp_region_quiet_lit (by kernel_rfl) (by kernel_rfl) ?_
        repeat (any_goals (first | go_big_quiet_step ((go_at_call 130; exact Calls.quiet_of_same (implClass_any _ _))) | quiet_step ((go_at_call 130; exact Calls.quiet_of_same (implClass_any _ _))) | (refine wpQuiet_step (fun K hK => ?_); go_simp; split <;> (refine hK _ ?_; clear hK K))))
        all_goals (refine wpQuiet_nil ?_; intro _ hw_; obtain ⟨nq, hw__⟩ := hw_; subst hw__)
        replace H := H.on nq;go_wp2_with fail;go_roundw
        case rel => exact ⟨j + 1, by go_num, by omega, by rw [HE.out, HNL.out]; rw [List.append_nil] at H; exact H⟩
        case measure => simp [intOf]; omega
    ·have ht : (ts.take j).foldl ins o0 = pre l (i + 1) := by rw [HP.out, List.take_of_length_le (by omega)]
     rw [ht] at H ⊢;clear ht;have hge : ¬ ((j : Int) < (ts.length : Int)) := by omega
     go_wp2_with fail;go_roundw
     case rel => exact ⟨i + 1, by go_num, by omega, H.drop1⟩
     case measure => simp [intOf]; omega
  ·have hge : ¬ ((i : Int) < (n : Int)) := by omega
   rw [HAP.out i (by rw [HL.out]; omega)] at H ⊢;go_wp2_with fail;go_ret;exact H.toMade 0 rfl
end Go.Proofs.YtmpldngnkacnmaaGreatDoor
namespace Go.Proofs.YtmpldngnkacnmaaGreatDoor
open Go.RowKit
def allT (l : List Int) : List Int := l.flatMap takeS
theorem allT_len (l : List Int) : (allT l).length ≤ 27 * l.length := by
 have := flat_le take_len l;rw [allT]; omega
theorem apart_all (l : List Int) : apartL l = (allT l).foldl ins [] := rfl
def part (F : List Int) (i : Nat) : List Int := (F.take i).foldl ins [] ++ F.drop i
theorem part_len {F : List Int} (i : Nat) : (part F i).length = F.length := by
 rw [part, List.length_append, foldl_len, List.length_take, List.length_drop, List.length_nil]; omega
theorem part_one (F : List Int) : part F 1 = F := by
 cases F with
 | nil => rfl
 | cons x r => rw [part, List.take_succ_cons, List.take_zero, List.foldl_cons, ins_nil]; rfl
theorem part_all {F : List Int} {i : Nat} (h : F.length ≤ i) : part F i = F.foldl ins [] := by
 rw [part, List.take_of_length_le h, List.drop_of_length_le h, List.append_nil]
set_option maxRecDepth 100000 in
set_option maxHeartbeats 8000000 in
theorem specApart_any (A : Option Addr) (n c : Nat) (l : List Int) (w : World) (h : Rd w A n 1 (l.map (Value.int .i64))) (hn : n ≤ 2097152) (hok : ∀ x ∈ l, InI x) :
 Calls Tryz.prog 124 #[.slice A n c] w (Made w 3 1 (apartL l).length ((apartL l).map (Value.int .i64))) := by
 have HL := Lib.hid h.len1;have G := Lib.hid h;have OK := Lib.hid hok;have H0 := (Hp.start w).lit0 3 1;have HAP := Lib.hid (apart_all l);have hfl : (allT l).length ≤ 100000000 := by
  have := allT_len l;rw [HL.out] at this;omega
 generalize apartL l = ap at HAP ⊢
 clear h hok;go_enter Tryz.func124, Tryz.ntmps124;go_wp2_with fail
 go_loopw [3, 4] (fun v iv wr => ∃ i : Nat, iv = .int .i64 i ∧ i ≤ n ∧ Hp [] w wr [.row 3 1 v (allT (l.take i)).length ((allT (l.take i)).map (Value.int .i64))]) (fun _ iv _ => n - (intOf iv).toNat)
 case atStart => exact ⟨0, rfl, by omega, H0⟩
 case round =>
  clear H0;obtain ⟨i, rfl, hi, H⟩ := hrel;obtain ⟨B, d, rfl⟩ := H.shape 0 rfl
  by_cases hlt : i < n
  ·obtain ⟨cc, hx⟩ := at_some HL.out hlt
   obtain ⟨bk, of, rfl, hc⟩ := (H.old G.out).get1 hx;have hi0 : (0 : Int) ≤ (i : Int) := by omega
   have hi1 : (i : Int) < (n : Int) := by omega
   have hic := OK.out cc hx.mem;have HT := Lib.hid (show allT (l.take (i + 1)) = allT (l.take i) ++ takeS cc by rw [hx.take, allT, List.flatMap_append, List.flatMap_singleton]; rfl);have hol : (allT (l.take i)).length ≤ 27 * 2097152 := by
    have := allT_len (l.take i);have h2 : (l.take i).length ≤ n := by rw [List.length_take]; omega
    omega
   have htl := take_len cc;clear hx
   generalize allT (l.take i) = o at H HT hol ⊢
   go_wp2_with fail;refine (l4Take_any cc _ hic).mono ?_;rintro e w1 ⟨T, dt, rfl, ot, ft⟩;have H1 := H.made ot ft;clear H ot ft hc hic
   generalize takeS cc = ts at H1 HT htl ⊢
   go_wp2_with (at_builtin; refine wp_appS (f := Value.int .i64) H1 rfl _ _ _ rfl Tryz.underlying83 infoInt rfl 1 _ o rfl rfl T dt ts rfl (own_cap' (H1.row 0 rfl)) (H1.rd 0 rfl) (by simp [Value.oneCell']) (by simp only [maxLen]; omega) (by omega) ?_);intro v' w' H';have H2 : Hp [] w w' [.row 3 1 v' (allT (l.take (i + 1))).length ((allT (l.take (i + 1))).map (Value.int .i64))] := by
    rw [HT.out, List.map_append, List.length_append];exact H'.tail
   clear H' H1;go_wp2_with fail;go_roundw
   case rel => exact ⟨i + 1, by go_num, by omega, H2⟩
   case measure => simp [intOf]; omega
  ·rw [List.take_of_length_le (by rw [HL.out]; omega)] at H ⊢
   have hge : ¬ ((i : Int) < (n : Int)) := by omega
   generalize allT l = F at H HAP hfl ⊢
   obtain ⟨N, hN⟩ : ∃ N, N = F.length := ⟨_, rfl⟩;have HN := Lib.hid hN;rw [← hN] at H hfl ⊢;have HP0 := Lib.hid (part_one F);clear hN;go_wp2_with fail
   go_loopw [5] (fun iv wr => ∃ i : Nat, iv = .int .i64 i ∧ 1 ≤ i ∧ (i ≤ N ∨ i = 1) ∧ Hp [] w wr [.row 3 1 (.slice B N d) N ((part F i).map (Value.int .i64))]) (fun iv _ => N - (intOf iv).toNat)
   case atStart => exact ⟨1, rfl, by omega, .inr rfl, by rw [HP0.out]; exact H⟩
   case round =>
    clear H;obtain ⟨i, rfl, hi1, hi2, H⟩ := hrel
    by_cases hlt2 : i < N
    ·obtain ⟨x, hx⟩ := at_some (l := F) HN.out.symm hlt2
     have HX := Lib.hid hx;obtain ⟨gO, dO, e, _⟩ := H.form 0 rfl (by omega);injection e with e1 _ e2;subst e1 e2;obtain ⟨o, ho⟩ : ∃ o, o = (F.take i).foldl ins [] := ⟨_, rfl⟩;have HO := Lib.hid ho;have hol : o.length = i := by
      rw [ho, foldl_len, List.length_take, ← HN.out];simp only [List.length_nil]; omega
     have HOL := Lib.hid hol;have HPI := Lib.hid (show part F i = o.take i ++ x :: (o.drop i ++ F.drop (i + 1)) by
      rw [part, ← ho, List.take_of_length_le (l := o) (by omega), List.drop_of_length_le (l := o) (by omega), List.nil_append]
      congr 1
      have := hx;obtain ⟨hk, he⟩ := List.getElem?_eq_some_iff.1 this;rw [List.drop_eq_getElem_cons hk, he])
     clear hx ho hol;rw [HPI.out] at H;go_wp2_with fail
     go_loopw [6] (fun kv wr => ∃ k : Nat, kv = .int .i64 k ∧ k ≤ i ∧ (∀ y ∈ o.drop k, cls x < cls y) ∧ (k < o.length → 0 < cls x) ∧ Hp [] w wr [.row 3 1 (.slice (some ⟨gO, 0, none⟩) N d) N ((o.take k ++ x :: (o.drop k ++ F.drop (i + 1))).map (Value.int .i64))]) (fun kv _ => (intOf kv).toNat)
     case atStart => exact ⟨i, rfl, by omega, by rw [List.drop_of_length_le (by rw [HOL.out]; omega)]; simp, by rw [HOL.out]; omega, H⟩
     case round =>
      clear H;obtain ⟨k, rfl, hk, hd, h0, H⟩ := hrel;have HD := Lib.hid hd;have HZ := Lib.hid h0;clear hd h0;have HKO := Lib.hid (show k ≤ o.length by rw [HOL.out]; exact hk)
      rcases Nat.eq_zero_or_pos k with hk0 | hk0
      ·subst hk0
       have HS := Lib.hid (ins_stop HKO.out HD.out HZ.out (.inl rfl));have HE := Lib.hid (show part F (i + 1) = o.take 0 ++ x :: (o.drop 0 ++ F.drop (i + 1)) by
        rw [part, HX.out.take, List.foldl_append, ← HO.out]
        show ins o x ++ _ = _
        rw [HS.out, List.append_assoc]; rfl)
       go_wp2_with fail;refine wp_region_quiet_lit (by kernel_rfl) (by kernel_rfl) ?_
       repeat (any_goals (first | go_big_quiet_step ((fail)) | quiet_step ((fail)) | (refine wpQuiet_step (fun K hK => ?_); go_simp; split <;> (refine hK _ ?_; clear hK K))))
       all_goals (refine wpQuiet_nil ?_; intro _ hw_; obtain ⟨nq, hw__⟩ := hw_; subst hw__)
       replace H := H.on nq;go_wp2_with fail;go_roundw
       case rel => exact ⟨i + 1, by go_num, by omega, .inl (by omega), by rw [HE.out]; exact H⟩
       case measure => simp [intOf]; omega
      ·obtain ⟨q, rfl⟩ : ∃ q, k = q + 1 := ⟨k - 1, by omega⟩
       obtain ⟨y, hy⟩ := at_some (l := o) HOL.out (show q < i by omega);have HY := Lib.hid hy;have hax : At (o.take (q + 1) ++ x :: (o.drop (q + 1) ++ F.drop (i + 1))) (q + 1) x := At.app (by have := HKO.out; rw [List.length_take]; omega);have hay : At (o.take (q + 1) ++ x :: (o.drop (q + 1) ++ F.drop (i + 1))) q y := At.pre (by rw [At, List.getElem?_take_of_lt (by omega)]; exact hy);have cx := H.drew.atM 0 rfl hax;have cy := H.drew.atM 0 rfl hay;have hj1' : (0 : Int) < ((q + 1 : Nat) : Int) := by omega
       have hw1 : IntKind.i64.wrap ((q : Int)) = (q : Int) := IntWalk.i64_in _ (by omega);have hi0' : (0 : Int) ≤ (q : Int) + 1 := by omega
       have hi1' : (q : Int) + 1 < (N : Int) := by omega
       have hi2' : (0 : Int) ≤ (q : Int) := by omega
       have hi3' : (q : Int) < (N : Int) := by omega
       by_cases hx0 : 0 < cls x
       ·have hd1 : decide (0 < cls x) = true := by simpa using hx0
        have ht1 : (0 < cls x) = True := eq_true hx0
        by_cases hxy : cls x < cls y
        ·have hd2 : decide (cls x < cls y) = true := by simpa using hxy
         have ht2 : (cls x < cls y) = True := eq_true hxy;go_wp2_with fail
         go_region_held3 (fun w' => w'.cell? ⟨gO, q + 1, none⟩ = some (.int .i64 x) ∧ w'.cell? ⟨gO, q, none⟩ = some (.int .i64 y))
          (first
           | exact ⟨cxc, cyc⟩
           | exact ⟨cxb, cyb⟩
           | exact ⟨cxa, cya⟩
           | exact ⟨cx, cy⟩)
          ((first
            | (go_at_call 134
               refine (specClass_any _ _).mono ?_;rintro e w5 ⟨rfl, f5⟩
               first
                | (have HC := HB.go f5
                   have cxc := HC.atM 0 rfl hax;have cyc := HC.atM 0 rfl hay)
                | (have HB := HA.go f5
                   have cxb := HB.atM 0 rfl hax;have cyb := HB.atM 0 rfl hay)
                | (have HA := H.drew.go f5
                   have cxa := HA.atM 0 rfl hax;have cya := HA.atM 0 rfl hay))))
         clear H HA HB cx cy cxa cya cxb cyb cxc cyc;have cx := HC.atM 0 rfl hax;have cy := HC.atM 0 rfl hay;have fx := HC.free 0 rfl (q + 1);have H8 := HC.putM 0 rfl (q + 1) y;have fy := H8.free 0 rfl q;have H9 := H8.putM 0 rfl q x;simp only [List.set_cons_zero] at H9;rw [ins_swap hy] at H9;have H10 := Lib.hid H9;have HC' := Lib.hid HC;clear H9 HC;go_wp2_with fail;go_roundw
         case rel => exact ⟨q, rfl, by omega, fun z hz => by
          rw [List.drop_eq_getElem_cons (show q < o.length by rw [HOL.out]; omega), List.mem_cons] at hz
          rcases hz with rfl | hz
          ·have := (List.getElem?_eq_some_iff.1 HY.out).2
           rw [this]; exact hxy
          ·exact HD.out z hz, fun _ => hx0, H10.out⟩
         case measure => simp [intOf]
        ·have hd2 : decide (cls x < cls y) = false := by simpa using hxy
         have ht2 : (cls x < cls y) = False := eq_false hxy;have HS := Lib.hid (ins_stop HKO.out HD.out HZ.out (.inr (.inr ⟨y, HY.out, hxy, by omega⟩)));have HE := Lib.hid (show part F (i + 1) = o.take (q + 1) ++ x :: (o.drop (q + 1) ++ F.drop (i + 1)) by
          rw [part, HX.out.take, List.foldl_append, ← HO.out]
          show ins o x ++ _ = _
          rw [HS.out, List.append_assoc]; rfl)
         go_wp2_with fail
         go_region_held3 (fun w' => w'.cell? ⟨gO, q + 1, none⟩ = some (.int .i64 x) ∧ w'.cell? ⟨gO, q, none⟩ = some (.int .i64 y))
          (first
           | exact ⟨cxc, cyc⟩
           | exact ⟨cxb, cyb⟩
           | exact ⟨cxa, cya⟩
           | exact ⟨cx, cy⟩)
          ((first
            | (go_at_call 134
               refine (specClass_any _ _).mono ?_;rintro e w5 ⟨rfl, f5⟩
               first
                | (have HC := HB.go f5
                   have cxc := HC.atM 0 rfl hax;have cyc := HC.atM 0 rfl hay)
                | (have HB := HA.go f5
                   have cxb := HB.atM 0 rfl hax;have cyb := HB.atM 0 rfl hay)
                | (have HA := H.drew.go f5
                   have cxa := HA.atM 0 rfl hax;have cya := HA.atM 0 rfl hay))))
         go_wp2_with fail;go_roundw
         case rel => exact ⟨i + 1, by go_num, by omega, .inl (by omega), by rw [HE.out]; exact HC⟩
         case measure => simp [intOf]; omega
       ·have hcx0 : cls x = 0 := by have := cls_bound x; omega
        have HS := Lib.hid (ins_stop HKO.out HD.out HZ.out (.inr (.inl hx0)));clear hx0;have HE := Lib.hid (show part F (i + 1) = o.take (q + 1) ++ x :: (o.drop (q + 1) ++ F.drop (i + 1)) by
         rw [part, HX.out.take, List.foldl_append, ← HO.out]
         show ins o x ++ _ = _
         rw [HS.out, List.append_assoc]; rfl)
        go_wp2_with fail;refine wp_region_held_drew (S := fun w' => w'.cell? ⟨gO, q + 1, none⟩ = some (.int .i64 x) ∧ w'.cell? ⟨gO, q, none⟩ = some (.int .i64 y)) (by kernel_rfl) ?_ (fun hHeld => ?_)
        ·exact ⟨cx, cy⟩
        refine wpAnyH_take (i := 0) (v := ?_) rfl (by kernel_rfl) (by kernel_rfl) (by kernel_rfl) (fun _ _ _ h => h) (Or.inl ⟨by kernel_rfl, ?_⟩) (by assumption) ?_;rotate_left
        ·(intro w hSw; (try dsimp only at hSw); go_simp; try (with_reducible rfl))
        (try simp only [List.getElem_toArray, List.getElem_cons_succ, List.getElem_cons_zero, Act.put, List.setIfInBounds_toArray, List.set_cons_zero, List.set_cons_succ]);refine wpAnyH_take (i := 1) (v := ?_) rfl (by kernel_rfl) (by kernel_rfl) (by kernel_rfl) (fun _ _ _ h => h) (Or.inl ⟨by kernel_rfl, ?_⟩) (by assumption) ?_;rotate_left
        ·(intro w hSw; (try dsimp only at hSw); go_simp; try (with_reducible rfl))
        (try simp only [List.getElem_toArray, List.getElem_cons_succ, List.getElem_cons_zero, Act.put, List.setIfInBounds_toArray, List.set_cons_zero, List.set_cons_succ]);refine wpAnyH_take (i := 2) (v := ?_) rfl (by kernel_rfl) (by kernel_rfl) (by kernel_rfl) (fun _ _ _ h => h) (Or.inl ⟨by kernel_rfl, ?_⟩) (by assumption) ?_;rotate_left
        ·(intro w hSw; (try dsimp only at hSw); go_simp; try (with_reducible rfl))
        (try simp only [List.getElem_toArray, List.getElem_cons_succ, List.getElem_cons_zero, Act.put, List.setIfInBounds_toArray, List.set_cons_zero, List.set_cons_succ]);refine wpAnyH_take (i := 3) (v := ?_) rfl (by kernel_rfl) (by kernel_rfl) (by kernel_rfl) (fun _ _ _ h => h) (Or.inl ⟨by kernel_rfl, ?_⟩) (by assumption) ?_;rotate_left
        ·(intro w hSw; (try dsimp only at hSw); go_simp; try (with_reducible rfl))
        (try simp only [List.getElem_toArray, List.getElem_cons_succ, List.getElem_cons_zero, Act.put, List.setIfInBounds_toArray, List.set_cons_zero, List.set_cons_succ]);refine wpAnyH_take (i := 4) (v := ?_) rfl (by kernel_rfl) (by kernel_rfl) (by kernel_rfl) (fun _ _ _ h => h) (Or.inl ⟨by kernel_rfl, ?_⟩) (by assumption) ?_;rotate_left
        ·(intro w hSw; (try dsimp only at hSw); go_simp; try (with_reducible rfl))
        (try simp only [List.getElem_toArray, List.getElem_cons_succ, List.getElem_cons_zero, Act.put, List.setIfInBounds_toArray, List.set_cons_zero, List.set_cons_succ]);refine wpAnyH_take (i := 5) (v := ?_) rfl (by kernel_rfl) (by kernel_rfl) (by kernel_rfl) (fun _ _ _ h => h) (Or.inl ⟨by kernel_rfl, ?_⟩) (by assumption) ?_;rotate_left
        ·(intro w hSw; (try dsimp only at hSw); go_simp; try (with_reducible rfl))
        (try simp only [List.getElem_toArray, List.getElem_cons_succ, List.getElem_cons_zero, Act.put, List.setIfInBounds_toArray, List.set_cons_zero, List.set_cons_succ]);refine wpAnyH_take (i := 6) (v := ?_) rfl (by kernel_rfl) (by kernel_rfl) (by kernel_rfl) (fun _ _ _ h => h) (Or.inl ⟨by kernel_rfl, ?_⟩) (by assumption) ?_;rotate_left
        ·(intro w hSw; (try dsimp only at hSw); go_simp; try (with_reducible rfl))
        (try simp only [List.getElem_toArray, List.getElem_cons_succ, List.getElem_cons_zero, Act.put, List.setIfInBounds_toArray, List.set_cons_zero, List.set_cons_succ]);refine wpAnyH_ready (rs := [7]) (by kernel_rfl) (by simp) ?_;refine AllReadyH.cons rfl (fun K hK => ?_) AllReadyH.nil;go_simp;refine (specClass_any _ _).mono ?_;rintro e w5 ⟨rfl, f5⟩;have HA := H.drew.go f5;have cxa := HA.atM 0 rfl hax;have cya := HA.atM 0 rfl hay;go_wp2_with fail;refine hK.out _ _ ?_ fun hHeld => ?_
        ·exact ⟨cxa, cya⟩
        clear hK K;(try simp only [List.getElem_toArray, List.getElem_cons_succ, List.getElem_cons_zero, Act.put, List.setIfInBounds_toArray, List.set_cons_zero, List.set_cons_succ]);refine wpAnyH_take (i := 8) (v := ?_) rfl (by kernel_rfl) (by kernel_rfl) (by kernel_rfl) (fun _ _ _ h => h) (Or.inl ⟨by kernel_rfl, ?_⟩) (by assumption) ?_;rotate_left
        ·(intro w hSw; (try dsimp only at hSw); go_simp; try (with_reducible rfl))
        (try simp only [List.getElem_toArray, List.getElem_cons_succ, List.getElem_cons_zero, Act.put, List.setIfInBounds_toArray, List.set_cons_zero, List.set_cons_succ]);refine wpAnyH_take (i := 9) (v := ?_) rfl (by kernel_rfl) (by kernel_rfl) (by kernel_rfl) (fun _ _ _ h => h) (Or.inl ⟨by kernel_rfl, ?_⟩) (by assumption) ?_;rotate_left
        ·(intro w hSw; (try dsimp only at hSw); go_simp; try (with_reducible rfl))
        (try simp only [List.getElem_toArray, List.getElem_cons_succ, List.getElem_cons_zero, Act.put, List.setIfInBounds_toArray, List.set_cons_zero, List.set_cons_succ]);refine wpAnyH_take (i := 10) (v := ?_) rfl (by kernel_rfl) (by kernel_rfl) (by kernel_rfl) (fun _ _ _ h => h) (Or.inl ⟨by kernel_rfl, ?_⟩) (by assumption) ?_;rotate_left
        ·(intro w hSw; (try dsimp only at hSw); go_simp; try (with_reducible rfl))
        (try simp only [List.getElem_toArray, List.getElem_cons_succ, List.getElem_cons_zero, Act.put, List.setIfInBounds_toArray, List.set_cons_zero, List.set_cons_succ]);refine wpAnyH_take (i := 11) (v := undef) rfl (by kernel_rfl) (by kernel_rfl) (by kernel_rfl) (fun _ _ _ h => h) (Or.inr ⟨by kernel_rfl, rfl⟩) (by assumption) ?_;(try simp only [List.getElem_toArray, List.getElem_cons_succ, List.getElem_cons_zero, Act.put, List.setIfInBounds_toArray, List.set_cons_zero, List.set_cons_succ]);refine wpAnyH_take (i := 12) (v := undef) rfl (by kernel_rfl) (by kernel_rfl) (by kernel_rfl) (fun _ _ _ h => h) (Or.inr ⟨by kernel_rfl, rfl⟩) (by assumption) ?_;(try simp only [List.getElem_toArray, List.getElem_cons_succ, List.getElem_cons_zero, Act.put, List.setIfInBounds_toArray, List.set_cons_zero, List.set_cons_succ]);refine wpAnyH_take (i := 13) (v := undef) rfl (by kernel_rfl) (by kernel_rfl) (by kernel_rfl) (fun _ _ _ h => h) (Or.inr ⟨by kernel_rfl, rfl⟩) (by assumption) ?_;(try simp only [List.getElem_toArray, List.getElem_cons_succ, List.getElem_cons_zero, Act.put, List.setIfInBounds_toArray, List.set_cons_zero, List.set_cons_succ]);refine wpAnyH_take (i := 14) (v := undef) rfl (by kernel_rfl) (by kernel_rfl) (by kernel_rfl) (fun _ _ _ h => h) (Or.inr ⟨by kernel_rfl, rfl⟩) (by assumption) ?_;(try simp only [List.getElem_toArray, List.getElem_cons_succ, List.getElem_cons_zero, Act.put, List.setIfInBounds_toArray, List.set_cons_zero, List.set_cons_succ]);refine wpAnyH_take (i := 15) (v := undef) rfl (by kernel_rfl) (by kernel_rfl) (by kernel_rfl) (fun _ _ _ h => h) (Or.inr ⟨by kernel_rfl, rfl⟩) (by assumption) ?_;(try simp only [List.getElem_toArray, List.getElem_cons_succ, List.getElem_cons_zero, Act.put, List.setIfInBounds_toArray, List.set_cons_zero, List.set_cons_succ]);refine wpAnyH_take (i := 16) (v := undef) rfl (by kernel_rfl) (by kernel_rfl) (by kernel_rfl) (fun _ _ _ h => h) (Or.inr ⟨by kernel_rfl, rfl⟩) (by assumption) ?_;(try simp only [List.getElem_toArray, List.getElem_cons_succ, List.getElem_cons_zero, Act.put, List.setIfInBounds_toArray, List.set_cons_zero, List.set_cons_succ]);refine wpAnyH_take (i := 17) (v := undef) rfl (by kernel_rfl) (by kernel_rfl) (by kernel_rfl) (fun _ _ _ h => h) (Or.inr ⟨by kernel_rfl, rfl⟩) (by assumption) ?_;(try simp only [List.getElem_toArray, List.getElem_cons_succ, List.getElem_cons_zero, Act.put, List.setIfInBounds_toArray, List.set_cons_zero, List.set_cons_succ]);refine wpAnyH_take (i := 18) (v := undef) rfl (by kernel_rfl) (by kernel_rfl) (by kernel_rfl) (fun _ _ _ h => h) (Or.inr ⟨by kernel_rfl, rfl⟩) (by assumption) ?_;(try simp only [List.getElem_toArray, List.getElem_cons_succ, List.getElem_cons_zero, Act.put, List.setIfInBounds_toArray, List.set_cons_zero, List.set_cons_succ]);refine wpAnyH_take (i := 19) (v := undef) rfl (by kernel_rfl) (by kernel_rfl) (by kernel_rfl) (fun _ _ _ h => h) (Or.inr ⟨by kernel_rfl, rfl⟩) (by assumption) ?_;(try simp only [List.getElem_toArray, List.getElem_cons_succ, List.getElem_cons_zero, Act.put, List.setIfInBounds_toArray, List.set_cons_zero, List.set_cons_succ]);refine wpAnyH_take (i := 20) (v := undef) rfl (by kernel_rfl) (by kernel_rfl) (by kernel_rfl) (fun _ _ _ h => h) (Or.inr ⟨by kernel_rfl, rfl⟩) (by assumption) ?_;(try simp only [List.getElem_toArray, List.getElem_cons_succ, List.getElem_cons_zero, Act.put, List.setIfInBounds_toArray, List.set_cons_zero, List.set_cons_succ]);refine wpAnyH_take (i := 21) (v := undef) rfl (by kernel_rfl) (by kernel_rfl) (by kernel_rfl) (fun _ _ _ h => h) (Or.inr ⟨by kernel_rfl, rfl⟩) (by assumption) ?_;(try simp only [List.getElem_toArray, List.getElem_cons_succ, List.getElem_cons_zero, Act.put, List.setIfInBounds_toArray, List.set_cons_zero, List.set_cons_succ]);refine wpAnyH_take (i := 22) (v := undef) rfl (by kernel_rfl) (by kernel_rfl) (by kernel_rfl) (fun _ _ _ h => h) (Or.inr ⟨by kernel_rfl, rfl⟩) (by assumption) ?_;(try simp only [List.getElem_toArray, List.getElem_cons_succ, List.getElem_cons_zero, Act.put, List.setIfInBounds_toArray, List.set_cons_zero, List.set_cons_succ]);refine wpAnyH_take (i := 23) (v := ?_) rfl (by kernel_rfl) (by kernel_rfl) (by kernel_rfl) (fun _ _ _ h => h) (Or.inl ⟨by kernel_rfl, ?_⟩) (by assumption) ?_;rotate_left
        ·(intro w hSw; (try dsimp only at hSw); go_simp; try (with_reducible rfl))
        (try simp only [List.getElem_toArray, List.getElem_cons_succ, List.getElem_cons_zero, Act.put, List.setIfInBounds_toArray, List.set_cons_zero, List.set_cons_succ]);refine wpAnyH_done (by kernel_rfl) ?_ _;go_wp2_with fail;go_roundw
        case rel => exact ⟨i + 1, by go_num, by omega, .inl (by omega), by rw [HE.out]; exact HA⟩
        case measure => simp [intOf]; omega
    ·have hFN : F.length ≤ i := by rw [← HN.out]; omega
     have hE := part_all hFN;rw [← HAP.out] at hE;have hl := part_len (F := F) i;rw [hE, ← HN.out] at hl;have HE := Lib.hid hE;have HLN := Lib.hid hl;have hge : ¬ ((i : Int) < (N : Int)) := by omega
     clear hFN hE hl;rw [HE.out] at H;go_wp2_with fail;go_ret;rw [HLN.out];exact H.toMade 0 rfl
end Go.Proofs.YtmpldngnkacnmaaGreatDoor
namespace Go.Proofs.YtmpldngnkacnmaaGreatDoor
open Go.RowKit
def pieceB (s : ByteArray) : List UInt8 := varB (s.size : Int) ++ toB s
def entB (e : Int × Int × ByteArray × Int) : List UInt8 := varB e.2.1 ++ (pieceB e.2.2.1 ++ varB e.2.2.2)
def nodeB (x : Nod) : List UInt8 := (105 :: (varB x.1 ++ (varB x.2.1 ++ (varB x.2.2.1 ++ (pieceB x.2.2.2.1 ++ varB (x.2.2.2.2.length : Int)))))) ++ x.2.2.2.2.flatMap entB
def headB (next : Int) (n : Nat) : List UInt8 := 117 :: (varB next ++ varB (n : Int))
def blocksB (next : Int) (l : List Nod) : List ByteArray := ofB (headB next l.length) :: (List.range 16).map fun i => match l[i]? with
 | some x => ofB (nodeB x)
 | none => ⟨#[]⟩
theorem pieceB_ofB (s : ByteArray) : varS (s.size : Int) ++ s = ofB (pieceB s) := by
 rw [varS, pieceB, ← ofB_append, ofB_toB]
theorem implPiece_any (s : ByteArray) (w : World) (hs : s.size ≤ 4398046511104) :
 Calls Tryz.prog 74 #[.string s] w fun e w' => e = .returned (.string (ofB (pieceB s))) ∧ Fr w w' := by
 have HE := Lib.hid (pieceB_ofB s);have hv := varS_size (s.size : Int);go_enter Tryz.func74, Tryz.ntmps74;go_wp2_with fail;refine (implVar_any _ _).mono ?_;rintro e w1 ⟨rfl, f1⟩;go_wp2_with fail;go_ret;rw [HE.out];exact ⟨rfl, f1⟩
theorem specPiece_any (s : ByteArray) (w : World) (hs : s.size ≤ 4398046511104) :
 Calls Tryz.prog 68 #[.string s] w fun e w' => e = .returned (.string (ofB (pieceB s))) ∧ Fr w w' := by
 have HE := Lib.hid (pieceB_ofB s);have hv := varS_size (s.size : Int);go_enter Tryz.func68, Tryz.ntmps68;go_wp2_with fail;refine (specVar_any _ _).mono ?_;rintro e w1 ⟨rfl, f1⟩;go_wp2_with fail;go_ret;rw [HE.out];exact ⟨rfl, f1⟩
end Go.Proofs.YtmpldngnkacnmaaGreatDoor
namespace Go.Proofs.YtmpldngnkacnmaaGreatDoor
open Go.RowKit
set_option maxRecDepth 100000 in
set_option maxHeartbeats 2000000 in
theorem implCrc_any (s : ByteArray) (w : World) (hs : s.size ≤ 1099511627776) :
 Calls Tryz.prog 76 #[.string s] w fun e w' => e = .returned (.int .i64 (crcZ (toB s))) ∧ w' = w := by
 have HT := Lib.hid (show (toB s).length = s.size from toB_len s);obtain ⟨n, hn⟩ : ∃ n, n = s.size := ⟨_, rfl⟩;have HN := Lib.hid hn;clear hn;go_enter Tryz.func76, Tryz.ntmps76;go_wp2_with fail
 go_loopw [3, 4] (fun cv iv wr => ∃ (i c : Nat), iv = .int .i64 i ∧ cv = .int .i64 c ∧ i ≤ n ∧ c < 4294967296 ∧ c = ((toB s).take i).foldl crcByte 4294967295 ∧ w = wr) (fun _ iv _ => n - (intOf iv).toNat)
 case atStart => exact ⟨0, 4294967295, rfl, rfl, by omega, by decide, rfl, rfl⟩
 case round =>
  obtain ⟨i, c, rfl, rfl, hi, hc, hcf, hw⟩ := hrel;have HC := Lib.hid hcf;have HW := Lib.hid hw;clear hcf hw
  by_cases hlt : i < n
  ·have hlt1 : (i : Int) < (s.size : Int) := by rw [← HN.out]; omega
   have hks : i < s.size := by rw [← HN.out]; exact hlt
   have hi0 : (0 : Int) ≤ (i : Int) := by omega
   obtain ⟨b, hb⟩ := at_some (HT.out.trans HN.out.symm) hlt;have hbb := b.toNat_lt;have hg := toB_getC hb hks;have HS := Lib.hid (crc_take hb);obtain ⟨c0, hc0⟩ : ∃ x, x = c ^^^ b.toNat := ⟨_, rfl⟩;have hc0b : c0 < 4294967296 := by rw [hc0]; exact xor32 hc (by omega)
   have hx : bits .xor .i64 (c : Int) (b.toNat : Int) = (c0 : Int) := by rw [hc0]; exact bits_xor hc (by omega)
   have HC0 := Lib.hid hc0;clear hc0 hb;go_wp2_with fail
   go_loopw [3, 18] (fun cv kv wr => ∃ (k d : Nat), kv = .int .i64 k ∧ cv = .int .i64 d ∧ k ≤ 8 ∧ d < 4294967296 ∧ d = crcBits k c0 ∧ w = wr) (fun _ kv _ => 8 - (intOf kv).toNat)
   case atStart => exact ⟨0, c0, rfl, rfl, by omega, hc0b, rfl, HW.out⟩
   case round =>
    obtain ⟨k, d, rfl, rfl, hk, hd, hdf, hw⟩ := hrel;have HD := Lib.hid hdf;have HW := Lib.hid hw;clear hdf hw;have hk0 : (0 : Int) ≤ (k : Int) := by omega
    by_cases hk8 : k < 8
    ·have hk81 : (k : Int) < 8 := by omega
     obtain ⟨q, hq1, hq2⟩ : ∃ q : Nat, 2 * q ≤ d ∧ d ≤ 2 * q + 1 := ⟨d / 2, by omega, by omega⟩;have a2 : (d : Int) / 2 = (q : Int) := by omega
     have a4 : (d : Int).tdiv 2 = (q : Int) := by rw [Int.tdiv_eq_ediv_of_nonneg (by omega)]; omega
     have hqd : d / 2 = q := by omega
     by_cases hr : d % 2 = 1
     ·have a1 : bits .and .i64 (d : Int) 1 = 1 := by rw [and_1c (by omega) (by omega)]; omega
      have a3 : (d : Int).tmod 2 = 1 := by rw [Int.tmod_eq_emod_of_nonneg (by omega)]; omega
      obtain ⟨e, he⟩ : ∃ x, x = q ^^^ 2197175160 := ⟨_, rfl⟩;have heb : e < 4294967296 := by rw [he]; exact xor32 (by omega) (by decide)
      have hx2 : bits .xor .i64 (q : Int) 2197175160 = (e : Int) := by rw [he]; exact bits_xor (b := 2197175160) (by omega) (by decide)
      have HE := Lib.hid (show e = crcBits (k + 1) c0 by rw [crcBits, ← HD.out, crcBit, if_pos hr, hqd, he]);clear he hqd;go_wp2_with fail;go_roundw
      case rel => exact ⟨k + 1, e, by go_num, rfl, by omega, heb, HE.out, HW.out⟩
      case measure => simp [intOf]; omega
     ·have hr0 : d % 2 = 0 := by omega
      have a1 : bits .and .i64 (d : Int) 1 = 0 := by rw [and_1c (by omega) (by omega)]; omega
      have a3 : (d : Int).tmod 2 = 0 := by rw [Int.tmod_eq_emod_of_nonneg (by omega)]; omega
      have HE := Lib.hid (show q = crcBits (k + 1) c0 by rw [crcBits, ← HD.out, crcBit, if_neg hr, hqd]);clear hqd;go_wp2_with fail;go_roundw
      case rel => exact ⟨k + 1, q, by go_num, rfl, by omega, by omega, HE.out, HW.out⟩
      case measure => simp [intOf]; omega
    ·have hk81 : ¬ ((k : Int) < 8) := by omega
     have hk8e : k = 8 := by omega
     have HE := Lib.hid (show d = ((toB s).take (i + 1)).foldl crcByte 4294967295 by rw [HS.out, ← HC.out, crcByte, ← HC0.out, HD.out, hk8e]);clear hk8e;go_wp2_with fail;go_roundw
     case rel => exact ⟨i + 1, d, by go_num, rfl, by omega, hd, HE.out, HW.out⟩
     case measure => simp [intOf]; omega
  ·have hlt1 : ¬ ((i : Int) < (s.size : Int)) := by rw [← HN.out]; omega
   have hz : crcZ (toB s) = 4294967295 - (c : Int) := by
    rw [crcZ, crcL, HC.out, List.take_of_length_le (by rw [HT.out, ← HN.out]; omega)]
   have HZ := Lib.hid hz;have hwc : IntKind.i64.wrap (4294967295 - (c : Int)) = 4294967295 - (c : Int) := IntWalk.i64_in _ (by omega);clear hz;go_wp2_with fail;go_ret;rw [HZ.out];exact ⟨rfl, HW.out.symm⟩
set_option maxRecDepth 100000 in
set_option maxHeartbeats 2000000 in
theorem specCrc_any (s : ByteArray) (w : World) (hs : s.size ≤ 1099511627776) :
 Calls Tryz.prog 70 #[.string s] w fun e w' => e = .returned (.int .i64 (crcZ (toB s))) ∧ w' = w := by
 have HT := Lib.hid (show (toB s).length = s.size from toB_len s);obtain ⟨n, hn⟩ : ∃ n, n = s.size := ⟨_, rfl⟩;have HN := Lib.hid hn;clear hn;go_enter Tryz.func70, Tryz.ntmps70;go_wp2_with fail
 go_loopw [3, 4] (fun cv iv wr => ∃ (i c : Nat), iv = .int .i64 i ∧ cv = .int .i64 c ∧ i ≤ n ∧ c < 4294967296 ∧ c = ((toB s).take i).foldl crcByte 4294967295 ∧ w = wr) (fun _ iv _ => n - (intOf iv).toNat)
 case atStart => exact ⟨0, 4294967295, rfl, rfl, by omega, by decide, rfl, rfl⟩
 case round =>
  obtain ⟨i, c, rfl, rfl, hi, hc, hcf, hw⟩ := hrel;have HC := Lib.hid hcf;have HW := Lib.hid hw;clear hcf hw
  by_cases hlt : i < n
  ·have hlt1 : (i : Int) < (s.size : Int) := by rw [← HN.out]; omega
   have hks : i < s.size := by rw [← HN.out]; exact hlt
   have hi0 : (0 : Int) ≤ (i : Int) := by omega
   obtain ⟨b, hb⟩ := at_some (HT.out.trans HN.out.symm) hlt;have hbb := b.toNat_lt;have hg := toB_getC hb hks;have HS := Lib.hid (crc_take hb);obtain ⟨c0, hc0⟩ : ∃ x, x = c ^^^ b.toNat := ⟨_, rfl⟩;have hc0b : c0 < 4294967296 := by rw [hc0]; exact xor32 hc (by omega)
   have hx : bits .xor .i64 (c : Int) (b.toNat : Int) = (c0 : Int) := by rw [hc0]; exact bits_xor hc (by omega)
   have HC0 := Lib.hid hc0;clear hc0 hb;go_wp2_with fail
   go_loopw [3, 5] (fun cv kv wr => ∃ (k d : Nat), kv = .int .i64 k ∧ cv = .int .i64 d ∧ k ≤ 8 ∧ d < 4294967296 ∧ d = crcBits k c0 ∧ w = wr) (fun _ kv _ => 8 - (intOf kv).toNat)
   case atStart => exact ⟨0, c0, rfl, rfl, by omega, hc0b, rfl, HW.out⟩
   case round =>
    obtain ⟨k, d, rfl, rfl, hk, hd, hdf, hw⟩ := hrel;have HD := Lib.hid hdf;have HW := Lib.hid hw;clear hdf hw;have hk0 : (0 : Int) ≤ (k : Int) := by omega
    by_cases hk8 : k < 8
    ·have hk81 : (k : Int) < 8 := by omega
     obtain ⟨q, hq1, hq2⟩ : ∃ q : Nat, 2 * q ≤ d ∧ d ≤ 2 * q + 1 := ⟨d / 2, by omega, by omega⟩;have a2 : (d : Int) / 2 = (q : Int) := by omega
     have a4 : (d : Int).tdiv 2 = (q : Int) := by rw [Int.tdiv_eq_ediv_of_nonneg (by omega)]; omega
     have hqd : d / 2 = q := by omega
     by_cases hr : d % 2 = 1
     ·have a1 : bits .and .i64 (d : Int) 1 = 1 := by rw [and_1c (by omega) (by omega)]; omega
      have a3 : (d : Int).tmod 2 = 1 := by rw [Int.tmod_eq_emod_of_nonneg (by omega)]; omega
      obtain ⟨e, he⟩ : ∃ x, x = q ^^^ 2197175160 := ⟨_, rfl⟩;have heb : e < 4294967296 := by rw [he]; exact xor32 (by omega) (by decide)
      have hx2 : bits .xor .i64 (q : Int) 2197175160 = (e : Int) := by rw [he]; exact bits_xor (b := 2197175160) (by omega) (by decide)
      have HE := Lib.hid (show e = crcBits (k + 1) c0 by rw [crcBits, ← HD.out, crcBit, if_pos hr, hqd, he]);clear he hqd;go_wp2_with fail;go_roundw
      case rel => exact ⟨k + 1, e, by go_num, rfl, by omega, heb, HE.out, HW.out⟩
      case measure => simp [intOf]; omega
     ·have hr0 : d % 2 = 0 := by omega
      have a1 : bits .and .i64 (d : Int) 1 = 0 := by rw [and_1c (by omega) (by omega)]; omega
      have a3 : (d : Int).tmod 2 = 0 := by rw [Int.tmod_eq_emod_of_nonneg (by omega)]; omega
      have HE := Lib.hid (show q = crcBits (k + 1) c0 by rw [crcBits, ← HD.out, crcBit, if_neg hr, hqd]);clear hqd;go_wp2_with fail;go_roundw
      case rel => exact ⟨k + 1, q, by go_num, rfl, by omega, by omega, HE.out, HW.out⟩
      case measure => simp [intOf]; omega
    ·have hk81 : ¬ ((k : Int) < 8) := by omega
     have hk8e : k = 8 := by omega
     have HE := Lib.hid (show d = ((toB s).take (i + 1)).foldl crcByte 4294967295 by rw [HS.out, ← HC.out, crcByte, ← HC0.out, HD.out, hk8e]);clear hk8e;go_wp2_with fail;go_roundw
     case rel => exact ⟨i + 1, d, by go_num, rfl, by omega, hd, HE.out, HW.out⟩
     case measure => simp [intOf]; omega
  ·have hlt1 : ¬ ((i : Int) < (s.size : Int)) := by rw [← HN.out]; omega
   have hz : crcZ (toB s) = 4294967295 - (c : Int) := by
    rw [crcZ, crcL, HC.out, List.take_of_length_le (by rw [HT.out, ← HN.out]; omega)]
   have HZ := Lib.hid hz;have hwc : IntKind.i64.wrap (4294967295 - (c : Int)) = 4294967295 - (c : Int) := IntWalk.i64_in _ (by omega);clear hz;go_wp2_with fail;go_ret;rw [HZ.out];exact ⟨rfl, HW.out.symm⟩
end Go.Proofs.YtmpldngnkacnmaaGreatDoor