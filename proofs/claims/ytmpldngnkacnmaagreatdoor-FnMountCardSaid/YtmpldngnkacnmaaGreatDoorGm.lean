/-
  Many texts in one: Vars, BelowS, MVolOk, MVolOk2.
-/
import Derived.Test.YtmpldngnkacnmaaGreatDoorGh
import Derived.Test.YtmpldngnkacnmaaGreatDoorGj
import Derived.Test.YtmpldngnkacnmaaGreatDoorGf
import Derived.Test.YtmpldngnkacnmaaGreatDoorGk
set_option linter.unusedVariables false
set_option linter.unusedSimpArgs false
namespace Go.Proofs.YtmpldngnkacnmaaGreatDoor
open Go.RowKit
def plZ : Option Nat → Int
 | some a => (a : Int)
 | none => -1
theorem tail_ext (s : ByteArray) (k : Nat) : s.extract k s.size = ofB ((toB s).drop k) := by
 have := toB_extract s k s.size;rw [List.take_of_length_le (by rw [List.length_drop, toB_len]; omega)] at this;rw [← this, ofB_toB]
theorem vars_le {s : List UInt8} {o : Option Nat} {k a : Nat} (ho : ∀ b, o = some b → b ≤ 1099511627776) (hs : s.length ≤ 1099511627776) (h : (varsP s o k).2 = some a) : a ≤ 1099511627776 := by
 cases k with
 | zero => exact ho a h
 | succ k => exact Nat.le_trans (vars_in h).1 hs
theorem vars_bound (s : List UInt8) (o : Option Nat) : ∀ k, ∀ x ∈ (varsP s o k).1, x ≤ 562949953421311
 | 0, x, hx => by simp [varsP] at hx
 | k + 1, x, hx => by
   rw [varsP] at hx
   cases hb : (varsP s o k).2 with
   | none => rw [hb] at hx; exact vars_bound s o k x hx
   | some b =>
     rw [hb] at hx;simp only at hx
     split at hx
     ·exact vars_bound s o k x hx
     ·split at hx
      ·exact vars_bound s o k x hx
      ·rcases List.mem_append.1 hx with h | h
       ·exact vars_bound s o k x h
       ·rw [List.mem_singleton.1 h]; exact (readV_le _).2.2
theorem vars_stop {s : List UInt8} {o : Option Nat} {i : Nat} : ∀ {k : Nat}, i ≤ k → (varsP s o i).2 = none → varsP s o k = ((varsP s o i).1, none)
 | 0, h, hn => by
   obtain rfl : i = 0 := by omega
   exact Prod.ext rfl hn
 | k + 1, h, hn => by
   rcases Nat.lt_or_eq_of_le h with h1 | h1
   ·have h2 := vars_stop (k := k) (by omega) hn
    rw [varsP, h2]
   ·rw [← h1]; exact Prod.ext rfl hn
theorem vars_no1 {s : List UInt8} {o : Option Nat} {k a : Nat} (h : (varsP s o k).2 = some a) (hl : s.length < a) : varsP s o (k + 1) = ((varsP s o k).1, none) := by
 rw [varsP, h];simp only;rw [if_pos hl]
theorem vars_no2 {s : List UInt8} {o : Option Nat} {k a : Nat} (h : (varsP s o k).2 = some a) (hl : ¬ s.length < a) (hz : (readV (s.drop a)).2 = 0) : varsP s o (k + 1) = ((varsP s o k).1, none) := by
 rw [varsP, h];simp only;rw [if_neg hl, if_pos hz]
theorem vars_yes {s : List UInt8} {o : Option Nat} {k a : Nat} (h : (varsP s o k).2 = some a) (hl : ¬ s.length < a) (hz : ¬ (readV (s.drop a)).2 = 0) : varsP s o (k + 1) = ((varsP s o k).1 ++ [(readV (s.drop a)).1], some (a + (readV (s.drop a)).2)) := by
 rw [varsP, h];simp only;rw [if_neg hl, if_neg hz]
abbrev intN (n : Nat) : Value := .int .i64 (n : Int)
set_option maxRecDepth 100000 in
set_option maxHeartbeats 4000000 in
theorem specVars_any (s : ByteArray) (o : Option Nat) (n : Nat) (w : World) (hs : s.size ≤ 1099511627776) (ho : ∀ b, o = some b → b ≤ 1099511627776) (hn : n ≤ 1000) :
 Calls Tryz.prog 44 #[.string s, .int .i64 (plZ o), .int .i64 (n : Int)] w fun e w' => ∃ (A : Option Addr) (c : Nat), e = .returned (.tuple #[.slice A (varsP (toB s) o n).1.length c, .int .i64 (plZ (varsP (toB s) o n).2)]) ∧ w'.ownsRow w.heap.size 3 1 (.slice A (varsP (toB s) o n).1.length c) (varsP (toB s) o n).1.length ((varsP (toB s) o n).1.map intN) ∧ Fr w w' := by
 have HT := Lib.hid (show (toB s).length = s.size from toB_len s);obtain ⟨P, hP⟩ : ∃ P, P = varsP (toB s) o n := ⟨_, rfl⟩;rw [← hP];have HP := Lib.hid hP;have HO := Lib.hid ho;clear hP ho;have H0 := (Hp.start w).lit0 3 1;go_enter Tryz.func44, Tryz.ntmps44;go_wp2_with fail
 go_loopw [1, 8, 9] (fun av vv iv wr => ∃ i a : Nat, iv = .int .i64 i ∧ i ≤ n ∧ ((varsP (toB s) o i).2 = some a ∧ av = .int .i64 (a : Int) ∨ (i = 0 ∧ a = 0 ∧ o = none ∧ av = .int .i64 (-1))) ∧ Hp [] w wr [.row 3 1 vv (varsP (toB s) o i).1.length ((varsP (toB s) o i).1.map intN)]) (fun _ _ iv _ => n - (intOf iv).toNat)
 case atStart =>
  cases o with
  | none => exact ⟨0, 0, rfl, by omega, .inr ⟨rfl, rfl, rfl, rfl⟩, H0⟩
  | some a => exact ⟨0, a, rfl, by omega, .inl ⟨rfl, rfl⟩, H0⟩
 case round =>
  clear H0;obtain ⟨i, a, rfl, hi, ha, H⟩ := hrel;have hi0 : (0 : Int) ≤ (i : Int) := by omega
  obtain ⟨Q, hQ⟩ : ∃ Q, Q = varsP (toB s) o i := ⟨_, rfl⟩;rw [← hQ] at H ha;have HQ := Lib.hid hQ;clear hQ
  rcases ha with ⟨ha, rfl⟩ | ⟨hi00, rfl, hon, rfl⟩
  ·have hab : a ≤ 1099511627776 := vars_le HO.out (by rw [HT.out]; exact hs) (by rw [← HQ.out]; exact ha)
   have HA := Lib.hid (show (varsP (toB s) o i).2 = some a by rw [← HQ.out]; exact ha);clear ha;have ha0 : (0 : Int) ≤ (a : Int) := by omega
   have ha1 : ¬ (a : Int) < 0 := by omega
   by_cases hin : i < n
   ·have hi1 : (i : Int) < (n : Int) := by omega
    by_cases hal : s.size < a
    ·have hal1 : (s.size : Int) < (a : Int) := by omega
     have HE := Lib.hid (show P = (Q.1, none) by
      rw [HP.out, HQ.out];have h1 := vars_no1 HA.out (by rw [HT.out]; exact hal);rw [vars_stop (k := n) (i := i + 1) (by omega) (by rw [h1]), h1])
     obtain ⟨C, q, rfl⟩ := H.shape 0 rfl;go_wp2_with fail;go_ret2;rw [HE.out];exact ⟨_, _, rfl, H.out 0 rfl, H.fr⟩
    ·have hal1 : ¬ (s.size : Int) < (a : Int) := by omega
     have hal2 : (a : Int) ≤ (s.size : Int) := by omega
     have hal3 : a ≤ s.size := by omega
     obtain ⟨t1, ht1⟩ : ∃ t, t = s.extract a s.size := ⟨_, rfl⟩;have hex : s.extract a s.size = t1 := ht1.symm;have HT1 := Lib.hid (show toB t1 = (toB s).drop a by rw [ht1, tail_ext, toB_ofB]);have hts : t1.size ≤ 1099511627776 := by
      have := congrArg List.length HT1.out;rw [toB_len, List.length_drop, HT.out] at this;omega
     clear ht1;go_wp2_with fail;refine (specReadVar_any t1 _ hts).mono ?_;rintro e w1 ⟨rfl, f1⟩;rw [HT1.out];replace H := H.go f1;clear f1;obtain ⟨R, hR⟩ : ∃ R, R = readV ((toB s).drop a) := ⟨_, rfl⟩;rw [← hR];have hle := readV_le ((toB s).drop a);rw [← hR] at hle;have HR := Lib.hid hR;clear hR;obtain ⟨R1, R2⟩ := R;simp only at hle
     by_cases hz : R2 = 0
     ·have hz1 : ((R2 : Int) == 0) = true := by simpa using hz
      have HE := Lib.hid (show P = (Q.1, none) by
       rw [HP.out, HQ.out];have h1 := vars_no2 HA.out (by rw [HT.out]; exact hal) (by rw [← HR.out]; exact hz);rw [vars_stop (k := n) (i := i + 1) (by omega) (by rw [h1]), h1])
      obtain ⟨C, q, rfl⟩ := H.shape 0 rfl;go_wp2_with fail;go_ret2;rw [HE.out];exact ⟨_, _, rfl, H.out 0 rfl, H.fr⟩
     ·have hz1 : ((R2 : Int) == 0) = false := by simpa using hz
      have HE := Lib.hid (show varsP (toB s) o (i + 1) = (Q.1 ++ [R1], some (a + R2)) by
       rw [HQ.out, vars_yes HA.out (by rw [HT.out]; exact hal) (by rw [← HR.out]; exact hz), ← HR.out])
      have hql : Q.1.length ≤ 1000 := by
       have := vars_len (s := toB s) (o := o) HA.out;rw [← HQ.out] at this;omega
      have hR2b : R2 ≤ 7 := hle.2.1;clear hle;go_wp2_with (at_builtin; refine wp_appM (f := intN) H rfl _ _ _ rfl Tryz.underlying83 infoInt rfl 0 _ _ rfl rfl _ _ R1 rfl (by simp) rfl (by simp only [maxLen]; omega) (by omega) ?_);intro v' w6 H6;have H7 := Lib.hid H6;obtain ⟨p, hp1, hp2⟩ : ∃ p : Nat, a + R2 ≤ p ∧ p ≤ a + R2 := ⟨a + R2, Nat.le_refl _, Nat.le_refl _⟩;have hw8 : (a : Int) + (R2 : Int) = (p : Int) := by omega
      have hw9 : IntKind.i64.wrap ((a : Int) + (R2 : Int)) = (p : Int) := by rw [hw8]; exact IntWalk.i64_in _ (by omega)
      have HE := Lib.hid (show varsP (toB s) o (i + 1) = (Q.1 ++ [R1], some p) by rw [HE.out, show a + R2 = p by omega]);clear H H6;go_wp2_with fail;go_roundw
      case rel => exact ⟨i + 1, p, by go_num, by omega, .inl ⟨by rw [HE.out], rfl⟩, by rw [HE.out]; exact H7.out.recast (by simp)⟩
      case measure => simp [intOf]; omega
   ·have hi1 : ¬ (i : Int) < (n : Int) := by omega
    have HE := Lib.hid (show P = (Q.1, some a) by
     rw [HP.out, show n = i by omega, ← HQ.out];exact Prod.ext rfl (by rw [HQ.out]; exact HA.out))
    obtain ⟨C, q, rfl⟩ := H.shape 0 rfl;go_wp2_with fail;go_ret2;rw [HE.out];exact ⟨_, _, rfl, H.out 0 rfl, H.fr⟩
  ·have HE := Lib.hid (show P = (Q.1, none) by
    rw [HP.out, HQ.out, hon, hi00];have h1 := vars_none (toB s) n;exact Prod.ext (by rw [h1.2]; rfl) h1.1)
   obtain ⟨C, q, rfl⟩ := H.shape 0 rfl
   by_cases hin : i < n
   ·have hi1 : (i : Int) < (n : Int) := by omega
    go_wp2_with fail;go_ret2;rw [HE.out];exact ⟨_, _, rfl, H.out 0 rfl, H.fr⟩
   ·have hi1 : ¬ (i : Int) < (n : Int) := by omega
    go_wp2_with fail;go_ret2;rw [HE.out];exact ⟨_, _, rfl, H.out 0 rfl, H.fr⟩
theorem num1_of {s : List UInt8} {o : Option Nat} {a : Nat} (h : (varsP s o 1).2 = some a) : (varsP s o 1).1 = [num1 (varsP s o 1)] ∧ num1 (varsP s o 1) ≤ 562949953421311 ∧ a ≤ s.length := by
 have hl := vars_len h;obtain ⟨h1, _, _⟩ := vars_in h;have hb := vars_bound s o 1;obtain ⟨x, hx⟩ : ∃ x, (varsP s o 1).1 = [x] := by
  cases hq : (varsP s o 1).1 with
  | nil => rw [hq] at hl; simp at hl
  | cons x r =>
    rw [hq] at hl
    cases r with
    | nil => exact ⟨x, rfl⟩
    | cons y r => simp at hl
 have hn : num1 (varsP s o 1) = x := by rw [num1, hx]; rfl
 rw [hn];exact ⟨hx, hb x (by rw [hx]; simp), h1⟩
set_option maxRecDepth 100000 in
set_option maxHeartbeats 4000000 in
theorem specTake_any (s : ByteArray) (o : Option Nat) (w : World) (hs : s.size ≤ 1099511627776) (ho : ∀ b, o = some b → b ≤ 1099511627776) :
 Calls Tryz.prog 45 #[.string s, .int .i64 (plZ o)] w fun e w' => e = .returned (.tuple #[.string (ofB (takeP (toB s) o).1), .int .i64 (plZ (takeP (toB s) o).2)]) ∧ Fr w w' := by
 have HT := Lib.hid (show (toB s).length = s.size from toB_len s);obtain ⟨P, hP⟩ : ∃ P, P = takeP (toB s) o := ⟨_, rfl⟩;rw [← hP];have HP := Lib.hid hP;have HO := Lib.hid ho;clear hP ho;obtain ⟨P1, P2⟩ := P;simp only;go_enter Tryz.func45, Tryz.ntmps45;go_wp2_with fail;refine (specVars_any s o 1 _ hs HO.out (by omega)).mono ?_;rintro e w1 ⟨A, c, rfl, o1, f1⟩;obtain ⟨V, hV⟩ : ∃ V, V = varsP (toB s) o 1 := ⟨_, rfl⟩;rw [← hV] at o1 ⊢;have HV := Lib.hid hV;clear hV;have H := (Hp.start w).made o1 f1;clear o1 f1;obtain ⟨V1, V2⟩ := V;simp only at H ⊢
 cases V2 with
 | none =>
   have HE := Lib.hid (HP.out.trans (takeP_none (by rw [← HV.out])));obtain ⟨rfl, rfl⟩ : P1 = [] ∧ P2 = none := ⟨congrArg Prod.fst HE.out, congrArg Prod.snd HE.out⟩;have hm1 : plZ none = -1 := rfl;rw [hm1];go_wp2_with fail;go_ret2;exact ⟨rfl, H.fr⟩
 | some k =>
   obtain ⟨n1, n2, n3⟩ := num1_of (s := toB s) (o := o) (a := k) (by rw [← HV.out]);have hk : plZ (some k) = (k : Int) := rfl;rw [hk];obtain ⟨x, hx⟩ : ∃ x, x = num1 (varsP (toB s) o 1) := ⟨_, rfl⟩;rw [← hx] at n1 n2;have HX := Lib.hid hx;clear hx hk;rw [← HV.out] at n1;simp only at n1;subst n1;rw [HT.out] at n3;obtain ⟨g, cg, e, _⟩ := H.form 0 rfl (by simp);injection e with e1 _ e2;subst e1 e2;have z0 := H.atM (f1 := intN) 0 rfl (j := 0) (x := x) rfl;simp only [intN] at z0;have k0 : (0 : Int) ≤ (k : Int) := by omega
   have k1 : ¬ (k : Int) < 0 := by omega
   obtain ⟨y, hy1, hy2⟩ : ∃ y : Nat, y + k ≤ s.size ∧ s.size ≤ y + k := ⟨s.size - k, by omega, by omega⟩;have hy3 : (s.size : Int) - (k : Int) = (y : Int) := by omega
   have hy4 : IntKind.i64.wrap ((s.size : Int) - (k : Int)) = (y : Int) := by rw [hy3]; exact IntWalk.i64_in _ (by omega)
   have HE0 := Lib.hid (HP.out.trans (takeP_some (k := k) (n := x) (by rw [← HV.out]) HX.out.symm))
   by_cases hlt : y < x
   ·have hlt1 : (y : Int) < (x : Int) := by omega
    have HE := Lib.hid (HE0.out.trans (if_pos (by rw [HT.out]; omega)));obtain ⟨rfl, rfl⟩ : P1 = [] ∧ P2 = none := ⟨congrArg Prod.fst HE.out, congrArg Prod.snd HE.out⟩;go_wp2_with fail;go_ret2;exact ⟨rfl, H.fr⟩
   ·have hlt1 : ¬ (y : Int) < (x : Int) := by omega
    obtain ⟨p, hp1, hp2⟩ : ∃ p : Nat, k + x ≤ p ∧ p ≤ k + x := ⟨k + x, Nat.le_refl _, Nat.le_refl _⟩;have hp3 : (k : Int) + (x : Int) = (p : Int) := by omega
    have hp4 : IntKind.i64.wrap ((k : Int) + (x : Int)) = (p : Int) := by rw [hp3]; exact IntWalk.i64_in _ (by omega)
    have hp5 : IntKind.i64.wrap (p : Int) = (p : Int) := IntWalk.i64_in _ (by omega);have hp6 : (0 : Int) ≤ (p : Int) := by omega
    have hp7 : (p : Int) ≤ (s.size : Int) := by omega
    have hp8 : (k : Int) ≤ (p : Int) := by omega
    have hp9 : k ≤ p := by omega
    have hp10 : p ≤ s.size := by omega
    obtain ⟨t1, ht1⟩ : ∃ t, t = s.extract k p := ⟨_, rfl⟩;have hex : s.extract k p = t1 := ht1.symm;have HT1 := Lib.hid (show t1 = ofB (((toB s).drop k).take x) by
     rw [ht1, ← ofB_toB (s.extract k p), toB_extract, show p - k = x by omega])
    clear ht1;have HE := Lib.hid (HE0.out.trans (if_neg (by rw [HT.out]; omega)));have HE1 := Lib.hid (show P1 = ((toB s).drop k).take x from congrArg Prod.fst HE.out);have HE2 := Lib.hid (show P2 = some p by rw [show P2 = some (k + x) from congrArg Prod.snd HE.out, show k + x = p by omega]);go_wp2_with fail;replace H := H.drew;have z1 := H.atM (f1 := intN) 0 rfl (j := 0) (x := x) rfl;simp only [intN] at z1;refine wp_region_held_drew (S := fun w' => w'.cell? ⟨g, 0, none⟩ = some (.int .i64 (x : Int))) (by kernel_rfl) ?_ (fun hHeld => ?_)
    ·exact z1
    obtain ⟨u0, hu0⟩ : ∃ uu : World, uu = w1.drew := ⟨_, rfl⟩;rw [← hu0] at H hHeld ⊢;clear hu0;refine wpT 0 ?_;refine wpT 1 ?_;refine wpT 2 ?_;refine wpT 3 ?_;refine wpT 4 ?_;refine wpT 5 ?_;refine wpT 6 ?_;refine wpT 7 ?_;refine wpT 8 ?_;refine wpT 9 ?_;refine wpT 10 ?_;refine wpT 11 ?_;refine wpT 12 ?_;refine wpT 13 ?_;refine wpT 14 ?_;refine wpAnyH_done (by kernel_rfl) ?_ _;go_wp2_with fail;go_ret2;rw [HE1.out, HE2.out, ← HT1.out];exact ⟨rfl, H.fr⟩
end Go.Proofs.YtmpldngnkacnmaaGreatDoor
namespace Go.Proofs.YtmpldngnkacnmaaGreatDoor
open Go.RowKit
theorem marks_len (l : List Nod) : ∀ (es : List EntT) (s : BS), (es.foldl (markE l) s).1.length = s.1.length ∧ (es.foldl (markE l) s).2.length = s.2.length
 | [], s => ⟨rfl, rfl⟩
 | e :: es, s => by
   obtain ⟨h1, h2⟩ := marks_len l es (markE l s e);obtain ⟨h3, h4⟩ := markE_len l s e;exact ⟨h1.trans h3, h2.trans h4⟩
theorem marks_take {l : List Nod} {es : List EntT} {k : Nat} {e : EntT} (h : es[k]? = some e) (s : BS) : (es.take (k + 1)).foldl (markE l) s = markE l ((es.take k).foldl (markE l) s) e := by
 rw [List.take_add_one, h, List.foldl_append]; rfl
theorem goes_succ (l : List Nod) (s : BS) (i : Nat) : (List.range (i + 1)).foldl (goI l) s = goI l ((List.range i).foldl (goI l) s) i := by
 rw [List.range_succ, List.foldl_append]; rfl
theorem goI_on_ {l : List Nod} {s : BS} {i : Nat} {x : Nod} (h : l[i]? = some x) (ho : s.2[i]? = some true) : goI l s i = x.2.2.2.2.foldl (markE l) s := by rw [goI, h]; exact if_pos ho
theorem goI_off {l : List Nod} {s : BS} {i : Nat} {x : Nod} (h : l[i]? = some x) (ho : s.2[i]? = some false) : goI l s i = s := by rw [goI, h]; exact if_neg (by rw [ho]; simp)
set_option maxRecDepth 100000 in
set_option maxHeartbeats 8000000 in
theorem specBelow_any (next : Int) (A : Option Addr) (n c : Nat) (L : List (Value × Nod)) (id : Int) (w : World) (h : RdN w A n L) (hn : n ≤ 1048576) (hfew : FewE L) :
 Calls Tryz.prog 27 #[.agg #[.int .i64 next, .slice A n c], .int .i64 id] w (Made w 4 1 n ((belowS (nodes L) id).map Value.bool)) := by
 have HL := Lib.hid h.len;have HNL := Lib.hid (show (nodes L).length = n by rw [nodes_len]; exact h.len);have HR := Lib.hid h;have HFE := Lib.hid hfew;have H := (Hp.start w).lay_ 28 [.int .i64 next, .slice A n c] rfl;have y1 := H.fa 0 1 rfl rfl;clear h hfew;obtain ⟨BB, hBB⟩ : ∃ x, x = belowS (nodes L) id := ⟨_, rfl⟩;rw [← hBB];have HBB := Lib.hid hBB;clear hBB;go_enter Tryz.func27, Tryz.ntmps27;go_wp2_with (at_make; refine wp_mk (H) rfl _ _ _ rfl Tryz.underlying57 infoBool rfl rfl (n) _ _ _ _ rfl rfl rfl rfl (by first | omega | (simp; done) | (simp; omega)) (by first | (simp only [maxLen]; omega) | (simp [maxLen]; done) | (simp [maxLen]; omega)) ?_)
 intro w1 H_;have H1 : Hp [] w w1 [.row 4 1 (.slice (some ⟨w.heap.size + 1, 0, none⟩) n n) n ((List.replicate n false).map Value.bool), .blk w.heap.size 28 [.int .i64 next, .slice A n c]] := H_.recast (by simp);clear H_ H y1;have y1 := H1.fa 1 1 rfl rfl;have hg12 := H1.lt 0 rfl (g := w.heap.size + 1) rfl;go_wp2_with (at_make; refine wp_mk (H1) rfl _ _ _ rfl Tryz.underlying57 infoBool rfl rfl (n) _ _ _ _ rfl rfl rfl rfl (by first | omega | (simp; done) | (simp; omega)) (by first | (simp only [maxLen]; omega) | (simp [maxLen]; done) | (simp [maxLen]; omega)) ?_)
 intro w2 H_;have H : Hp [] w w2 [.row 4 1 (.slice (some ⟨w1.heap.size, 0, none⟩) n n) n ((List.replicate n false).map Value.bool), .row 4 1 (.slice (some ⟨w.heap.size + 1, 0, none⟩) n n) n ((List.replicate n false).map Value.bool), .blk w.heap.size 28 [.int .i64 next, .slice A n c]] := H_.recast (by simp);clear H_ H1 y1;obtain ⟨g1, hg1⟩ : ∃ x, x = w.heap.size + 1 := ⟨_, rfl⟩;obtain ⟨g2, hg2⟩ : ∃ x, x = w1.heap.size := ⟨_, rfl⟩;rw [← hg1, ← hg2] at H ⊢;rw [← hg1, ← hg2] at hg12;have HG1 := Lib.hid hg1;have HG2 := Lib.hid hg2;clear hg1 hg2;have hne1 : ¬ g1 = g2 := by omega
 have hne2 : ¬ g2 = g1 := by omega
 have y0 := H.fa 2 0 rfl rfl;have y1 := H.fa 2 1 rfl rfl;go_wp2_with fail;refine (specAt_any next A n c L id _ (HR.out.fr H.fr) hn).mono ?_;rintro e w3 ⟨rfl, f9⟩;replace H := H.go f9;clear f9 y0 y1
 rcases atZ_cases (nodes L) id with ⟨hza, hzn⟩ | ⟨a, hza, hzn, hal⟩
 ·rw [hza]
  have HE := Lib.hid (show BB = List.replicate n false by rw [HBB.out, belowS, hzn]; simp only [HNL.out]);clear hza hzn;have H9 := Lib.hid (H.toMade 1 rfl);clear H;go_wp2_with fail;go_ret;rw [HE.out];exact H9.out
 ·rw [hza]
  rw [HNL.out] at hal;have ha0 : (0 : Int) ≤ (a : Int) := by omega
  have ha1 : (a : Int) < (n : Int) := by omega
  have ha2 : ¬ (a : Int) < 0 := by omega
  obtain ⟨s0, hs0⟩ : ∃ x, x = start0 (nodes L) a := ⟨_, rfl⟩;have HS0 := Lib.hid (show s0.1 = List.replicate n false ∧ s0.2 = (List.replicate n false).set a true by rw [hs0, start0, HNL.out]; exact ⟨rfl, rfl⟩);have HE := Lib.hid (show BB = (roundsS (nodes L) s0 n).1 by rw [HBB.out, belowS, hzn]; simp only [HNL.out, hs0]);have HBS := Lib.hid (show Bs (nodes L) id s0 by rw [hs0]; exact start0_Bs hzn);clear hza hzn hs0;have e0 := H.free 0 rfl a;have e1 := H.atM (f1 := Value.bool) 0 rfl (j := a) (x := false) (by simp [List.getElem?_replicate, hal]);have H2 := H.putM (f1 := Value.bool) 0 rfl a true;have H3 : Hp [] w (w3.setCell ⟨g2, a, none⟩ (.bool true)) [.row 4 1 (.slice (some ⟨g2, 0, none⟩) n n) n (s0.2.map Value.bool), .row 4 1 (.slice (some ⟨g1, 0, none⟩) n n) n (s0.1.map Value.bool), .blk w.heap.size 28 [.int .i64 next, .slice A n c]] := H2.recast (by rw [HS0.out.1, HS0.out.2]; rfl);clear H H2;have y1 := H3.fa 2 1 rfl rfl;go_wp2_with fail
  go_loopw [8] (fun rv wr => ∃ r : Nat, rv = .int .i64 r ∧ r ≤ n ∧ Hp [] w wr [.row 4 1 (.slice (some ⟨g2, 0, none⟩) n n) n ((roundsS (nodes L) s0 r).2.map Value.bool), .row 4 1 (.slice (some ⟨g1, 0, none⟩) n n) n ((roundsS (nodes L) s0 r).1.map Value.bool), .blk w.heap.size 28 [.int .i64 next, .slice A n c]]) (fun rv _ => n - (intOf rv).toNat)
  case atStart => exact ⟨0, rfl, by omega, H3⟩
  case round =>
   clear H3 y1 e0 e1;obtain ⟨r, rfl, hr, H⟩ := hrel;have y1 := H.fa 2 1 rfl rfl;have hr0 : (0 : Int) ≤ (r : Int) := by omega
   by_cases hrn : r < n
   ·have hr1 : (r : Int) < (n : Int) := by omega
    obtain ⟨t0, ht0⟩ : ∃ x, x = roundsS (nodes L) s0 r := ⟨_, rfl⟩;rw [← ht0] at H;have HT0 := Lib.hid (show roundsS (nodes L) s0 (r + 1) = (List.range n).foldl (goI (nodes L)) t0 by rw [roundsS, roundS, HNL.out, ht0]);have HBS0 := Lib.hid (show Bs (nodes L) id t0 by rw [ht0]; exact HBS.out.rounds r);clear ht0;go_wp2_with fail;clear y1;have H1 := H;clear H
    go_loopw [9] (fun iv wr => ∃ i : Nat, iv = .int .i64 i ∧ i ≤ n ∧ Hp [] w wr [.row 4 1 (.slice (some ⟨g2, 0, none⟩) n n) n (((List.range i).foldl (goI (nodes L)) t0).2.map Value.bool), .row 4 1 (.slice (some ⟨g1, 0, none⟩) n n) n (((List.range i).foldl (goI (nodes L)) t0).1.map Value.bool), .blk w.heap.size 28 [.int .i64 next, .slice A n c]]) (fun iv _ => n - (intOf iv).toNat)
    case atStart => exact ⟨0, rfl, by omega, H1⟩
    case round =>
     clear H1;obtain ⟨i, rfl, hi, H⟩ := hrel;have y1 := H.fa 2 1 rfl rfl;have hi0 : (0 : Int) ≤ (i : Int) := by omega
     by_cases hin : i < n
     ·have hi1 : (i : Int) < (n : Int) := by omega
      obtain ⟨t1, ht1⟩ : ∃ x, x = (List.range i).foldl (goI (nodes L)) t0 := ⟨_, rfl⟩;rw [← ht1] at H;have HBS1 := Lib.hid (show Bs (nodes L) id t1 by rw [ht1]; exact HBS0.out.goes _);have HT1 := Lib.hid (show (List.range (i + 1)).foldl (goI (nodes L)) t0 = goI (nodes L) t1 i by rw [goes_succ, ht1]);clear ht1;obtain ⟨⟨v, x0, x1, x2, x3, es⟩, hx⟩ := some_at HL.out hin;have hm := HFE.out _ (List.mem_of_getElem? hx);obtain ⟨bk, of, B1, d1, rfl, e1, rr1, c1⟩ := (HR.out.fr H.fr).elem hx;simp only at e1 rr1 hm;subst e1;have HNX := Lib.hid (nodes_at hx);simp only at HNX;have HRE := Lib.hid (show ∀ w', Fr w w' → Rd w' B1 es.length 4 (es.flatMap cEnt) ∧ w'.cell? ⟨bk, of + i * 5 + 4, none⟩ = some (.slice B1 es.length d1) from fun w' f => by
       obtain ⟨b', o', B2, d2, ea, e2, r2, cc⟩ := (HR.out.fr f).elem hx;injection ea with ea; injection ea with ea eb; subst ea eb;simp only at e2 r2;have c4 := cc 4 _ rfl;injection e2 with e2 _ e3;subst e2 e3;exact ⟨r2, c4⟩)
      obtain ⟨m, hmm⟩ : ∃ m, m = es.length := ⟨_, rfl⟩;have HEM := Lib.hid hmm.symm;rw [← hmm] at hm HRE;clear hx c1 rr1 hmm;obtain ⟨o, ho⟩ : ∃ o, t1.2[i]? = some o := ⟨_, List.getElem?_eq_getElem (by rw [HBS1.out.l2, HNL.out]; exact hin)⟩;have HO := Lib.hid ho;clear ho;go_wp2_with fail;clear y1;have H1 := H;clear H
      go_loopw [10] (fun kv wr => ∃ k : Nat, kv = .int .i64 k ∧ k ≤ m ∧ (o = true ∨ k = 0) ∧ Hp [] w wr [.row 4 1 (.slice (some ⟨g2, 0, none⟩) n n) n (((es.take k).foldl (markE (nodes L)) t1).2.map Value.bool), .row 4 1 (.slice (some ⟨g1, 0, none⟩) n n) n (((es.take k).foldl (markE (nodes L)) t1).1.map Value.bool), .blk w.heap.size 28 [.int .i64 next, .slice (some ⟨bk, of, none⟩) n c]]) (fun kv _ => m - (intOf kv).toNat)
      case atStart => exact ⟨0, rfl, by omega, .inr rfl, H1⟩
      case round =>
       clear H1;obtain ⟨k, rfl, hk, hok, H⟩ := hrel;have y1 := H.fa 2 1 rfl rfl;have y4 := (HRE.out _ H.fr).2;have hk0 : (0 : Int) ≤ (k : Int) := by omega
       cases o with
       | false =>
         have hk00 : k = 0 := hok.resolve_left (by simp);have HT2 := Lib.hid (show (List.range (i + 1)).foldl (goI (nodes L)) t0 = (es.take k).foldl (markE (nodes L)) t1 by
          rw [HT1.out, goI_off HNX.out HO.out, hk00]; rfl)
         have c0 := H.atM (f1 := Value.bool) 0 rfl (j := i) (x := false) (by rw [hk00]; exact HO.out);clear hk00;go_wp2_with fail;go_roundw
         case rel => exact ⟨i + 1, by go_num, by omega, by rw [HT2.out]; exact H⟩
         case measure => simp [intOf]; omega
       | true =>
         obtain ⟨t2, ht2⟩ : ∃ x, x = (es.take k).foldl (markE (nodes L)) t1 := ⟨_, rfl⟩;rw [← ht2] at H;have ho2 : t2.2[i]? = some true := by rw [ht2]; exact (marks_on _ _).2 HO.out
         have hl1 : t2.1.length = n := by rw [ht2, (marks_len _ _ _).1, HBS1.out.l1, HNL.out]
         have hl2 : t2.2.length = n := by rw [ht2, (marks_len _ _ _).2, HBS1.out.l2, HNL.out]
         have HT2 := Lib.hid ht2;clear ht2;have c0 := H.atM (f1 := Value.bool) 0 rfl (j := i) (x := true) ho2;have HO2 := Lib.hid ho2;clear ho2
         by_cases hkm : k < m
         ·have hk1 : (k : Int) < (m : Int) := by omega
          obtain ⟨⟨z0, z1, z2, y3⟩, hy⟩ := some_at HEM.out hkm;obtain ⟨bq, oq, rfl, _⟩ := (HRE.out _ H.fr).1.elem cEnt_len hy (by omega);have HE4 := Lib.hid (show ∀ w', Fr w w' → w'.cell? ⟨bk, of + i * 5 + 4, none⟩ = some (.slice (some ⟨bq, oq, none⟩) m d1) from fun w' f => (HRE.out _ f).2);have HE3 := Lib.hid (show ∀ w', Fr w w' → w'.cell? ⟨bq, oq + k * 4 + 3, none⟩ = some (.int .i64 y3) from fun w' f => by
           obtain ⟨b', o', e, hc⟩ := (HRE.out _ f).1.elem cEnt_len hy (by omega);injection e with e; injection e with e1 e2; subst e1 e2;exact hc 3 _ rfl)
          have HMT := Lib.hid (marks_take (l := nodes L) hy t1);clear hy;obtain ⟨z, hz⟩ : ∃ z, z = atZ (nodes L) y3 := ⟨_, rfl⟩;have HZ := Lib.hid hz;clear hz;go_wp2_with fail;clear y1 y4 c0;replace H := H.drew;have y0 := H.fa 2 0 rfl rfl;have y1 := H.fa 2 1 rfl rfl;have y4 := HE4.out _ H.fr;have y5 := HE3.out _ H.fr;refine wp_region_held_drew (S := fun w' => w'.cell? ⟨w.heap.size, 0, none⟩ = some (.int .i64 next) ∧ w'.cell? ⟨w.heap.size, 1, none⟩ = some (.slice (some ⟨bk, of, none⟩) n c) ∧ w'.cell? ⟨bk, of + i * 5 + 4, none⟩ = some (.slice (some ⟨bq, oq, none⟩) m d1) ∧ w'.cell? ⟨bq, oq + k * 4 + 3, none⟩ = some (.int .i64 y3)) (by kernel_rfl) ?_ (fun hHeld => ?_)
          ·exact ⟨y0, y1, y4, y5⟩
          obtain ⟨u0, hu0⟩ : ∃ uu : World, uu = wr.drew := ⟨_, rfl⟩;rw [← hu0] at H hHeld ⊢;clear hu0;refine wpT 0 ?_;refine wpT 1 ?_;refine wpT 2 ?_;refine wpT 3 ?_;refine wpT 4 ?_;refine wpT 5 ?_;refine wpT 6 ?_;refine wpT 7 ?_;refine wpT 8 ?_;refine wpT 9 ?_;refine wpT 10 ?_;refine wpC 11 fun K hK => ?_;go_simp;refine (specAt_any next _ n c L y3 _ (HR.out.fr H.fr) hn).mono ?_;rintro e u1 ⟨rfl, f9⟩;replace H := H.go f9;clear f9;rw [← HZ.out];go_wp2_with fail;refine hK.out _ _ ?_ fun hHeld => ?_
          ·exact ⟨H.fa 2 0 rfl rfl, H.fa 2 1 rfl rfl, HE4.out _ H.fr, HE3.out _ H.fr⟩
          clear hK K;(try simp only [sX, Act.put]);refine wpT 12 ?_;refine wpAnyH_done (by kernel_rfl) ?_ _;clear y0 y1 y4 y5
          rcases atZ_cases (nodes L) y3 with ⟨hza, hzn⟩ | ⟨a, hza, hzn, hal⟩
          ·have hz1 : z = -1 := HZ.out.trans hza
           subst hz1;have HT3 := Lib.hid (show (es.take (k + 1)).foldl (markE (nodes L)) t1 = t2 by rw [HMT.out, ← HT2.out, markE, hzn]);clear hza hzn;go_wp2_with fail;go_roundw
           case rel => exact ⟨k + 1, by go_num, by omega, .inl (by trivial), by rw [HT3.out]; exact H⟩
           case measure => simp [intOf]; omega
          ·have hz1 : z = (a : Int) := HZ.out.trans hza
           subst hz1;rw [HNL.out] at hal;have HT3 := Lib.hid (show (es.take (k + 1)).foldl (markE (nodes L)) t1 = (t2.1.set a true, t2.2.set a true) by rw [HMT.out, ← HT2.out, markE, hzn]);have ha0 : (0 : Int) ≤ (a : Int) := by omega
           have ha1 : (a : Int) < (n : Int) := by omega
           clear hza hzn;obtain ⟨b1, hb1⟩ : ∃ b, t2.1[a]? = some b := ⟨_, List.getElem?_eq_getElem (by omega)⟩;obtain ⟨b2, hb2⟩ : ∃ b, t2.2[a]? = some b := ⟨_, List.getElem?_eq_getElem (by omega)⟩;have c1 := H.atM (f1 := Value.bool) 1 rfl hb1;have c2 := H.atM (f1 := Value.bool) 0 rfl hb2;have q1 := H.free 1 rfl a;have q2 := H.free 0 rfl a;have H5 := H.putM (f1 := Value.bool) 1 rfl a true;have c3 := H5.atM (f1 := Value.bool) 0 rfl hb2;have q3 := H5.free 0 rfl a;have H6 := H5.putM (f1 := Value.bool) 0 rfl a true;have H7 := Lib.hid H6;clear hb1 hb2 H H5 H6;go_wp2_with fail;go_roundw
           case rel => exact ⟨k + 1, by go_num, by omega, .inl (by trivial), by rw [HT3.out]; exact H7.out⟩
           case measure => simp [intOf]; omega
         ·have hk1 : ¬ (k : Int) < (m : Int) := by omega
          have HT3 := Lib.hid (show (List.range (i + 1)).foldl (goI (nodes L)) t0 = t2 by
           rw [HT1.out, goI_on_ HNX.out HO.out, HT2.out, List.take_of_length_le (by rw [HEM.out]; omega)])
          go_wp2_with fail;go_roundw
          case rel => exact ⟨i + 1, by go_num, by omega, by rw [HT3.out]; exact H⟩
          case measure => simp [intOf]; omega
     ·have hi1 : ¬ (i : Int) < (n : Int) := by omega
      have HT1 := Lib.hid (show roundsS (nodes L) s0 (r + 1) = (List.range i).foldl (goI (nodes L)) t0 by rw [HT0.out, show i = n by omega]);go_wp2_with fail;go_roundw
      case rel => exact ⟨r + 1, by go_num, by omega, by rw [HT1.out]; exact H⟩
      case measure => simp [intOf]; omega
   ·have hr1 : ¬ (r : Int) < (n : Int) := by omega
    have HE2 := Lib.hid (show BB = (roundsS (nodes L) s0 r).1 by rw [HE.out, show r = n by omega]);have H9 := Lib.hid (H.toMade 1 rfl);go_wp2_with fail;go_ret;rw [HE2.out];exact H9.out
end Go.Proofs.YtmpldngnkacnmaaGreatDoor
namespace Go.Proofs.YtmpldngnkacnmaaGreatDoor
open Go.RowKit
def idsE (d : List EntT) : List Int := d.map fun e => e.2.2.2
theorem entsN_ids (d : List EntT) (i : Int) : entsN d i = (idsE d).count i := by
 rw [entsN, idsE, List.count, List.countP_map]; rfl
def Kid (l : List Nod) (a b : Int) : Prop := ∃ x ∈ l, x.1 = a ∧ ∃ e ∈ x.2.2.2.2, e.2.2.2 = b
def Rch (l : List Nod) (b : Int) : Prop := b = 1 ∨ Blw l 1 b
abbrev Srt (l : List Nod) : Prop := l.Pairwise fun a b => a.1 < b.1
theorem srt_inj {l : List Nod} (h : Srt l) {x y : Nod} (hx : x ∈ l) (hy : y ∈ l) (e : x.1 = y.1) : x = y := by
 obtain ⟨i, hi⟩ := List.getElem?_of_mem hx;obtain ⟨j, hj⟩ := List.getElem?_of_mem hy;have h1 := nodup_at h hi;have h2 := nodup_at h hj;rw [e, h2] at h1;injection h1 with h1;subst h1;rw [hi] at hj; injection hj
theorem kid_iff {l : List Nod} (h : Srt l) {a b : Int} : b ∈ kidsL l a ↔ Kid l a b := by
 constructor
 ·intro hb
  unfold kidsL at hb
  cases h1 : atN l a with
  | none => rw [h1] at hb; simp at hb
  | some k =>
    obtain ⟨x, hx, hxa⟩ := atN_some h1;rw [h1] at hb; simp only [hx, List.mem_map] at hb;obtain ⟨e, he, heb⟩ := hb;exact ⟨x, List.mem_of_getElem? hx, hxa, e, he, heb⟩
 ·rintro ⟨x, hx, rfl, e, he, rfl⟩
  obtain ⟨i, hi⟩ := List.getElem?_of_mem hx;rw [kids_of (nodup_at h hi) hi];exact List.mem_map_of_mem he
theorem rch_mono {l l' : List Nod} (h : Srt l) (h' : Srt l') (he : ∀ a b, Kid l a b → Kid l' a b) {b : Int} (hb : Rch l b) : Rch l' b := by
 rcases hb with rfl | hb
 ·exact .inl rfl
 ·right
  induction hb with
  | one hk => exact .one ((kid_iff h').2 (he _ _ ((kid_iff h).1 hk)))
  | more _ hk ih => exact .more ih ((kid_iff h').2 (he _ _ ((kid_iff h).1 hk)))
theorem rch_step {l : List Nod} (h : Srt l) {a b : Int} (ha : Rch l a) (hk : Kid l a b) : Rch l b := by
 rcases ha with rfl | ha
 ·exact .inr (.one ((kid_iff h).2 hk))
 ·exact .inr (.more ha ((kid_iff h).2 hk))
theorem rch_drop {l l' : List Nod} (h : Srt l) (h' : Srt l') {x : Int} (he : ∀ a b, Kid l a b → Kid l' a b ∨ b = x) (hx : ∀ b, ¬ Kid l x b) {b : Int} (hb : Rch l b) : b = x ∨ Rch l' b := by
 rcases hb with rfl | hb
 ·exact .inr (.inl rfl)
 ·induction hb with
  | one hk =>
    rcases he _ _ ((kid_iff h).1 hk) with h1 | h1
    ·exact .inr (rch_step h' (.inl rfl) h1)
    ·exact .inl h1
  | more hb hk ih =>
    have hk' := (kid_iff h).1 hk
    rcases ih with rfl | ih
    ·exact absurd hk' (hx _)
    ·rcases he _ _ hk' with h1 | h1
     ·exact .inr (rch_step h' ih h1)
     ·exact .inl h1
theorem rch_move {l l' : List Nod} (h : Srt l) (h' : Srt l') {x o t : Int} (he : ∀ a b, Kid l a b → Kid l' a b ∨ b = x ∨ b = o) (ho : ∀ b, ¬ Kid l o b) (ht : Kid l' t x) (htx : t ≠ x) (hb : ¬ Blw l x t) (hto : t ≠ o) (hr : Rch l t) :
 ∀ b, Rch l b → b = o ∨ Rch l' b := by
 have c1 : ∀ b, Rch l b → b ≠ x → ¬ Blw l x b → b = o ∨ Rch l' b := by
  intro b hb
  rcases hb with rfl | hb
  ·exact fun _ _ => .inr (.inl rfl)
  ·induction hb with
   | one hk =>
     intro h1 h2
     rcases he _ _ ((kid_iff h).1 hk) with h3 | h3 | h3
     ·exact .inr (rch_step h' (.inl rfl) h3)
     ·exact absurd h3 h1
     ·exact .inl h3
   | @more b' c hb hk ih =>
     intro h1 h2;have hk' := (kid_iff h).1 hk;have h4 : b' ≠ x := fun e => h2 (.one (e ▸ hk));have h5 : ¬ Blw l x b' := fun hh => h2 (.more hh hk)
     rcases ih h4 h5 with rfl | ih
     ·exact absurd hk' (ho _)
     ·rcases he _ _ hk' with h3 | h3 | h3
      ·exact .inr (rch_step h' ih h3)
      ·exact absurd h3 h1
      ·exact .inl h3
 have c2 : Rch l' x := by
  rcases c1 t hr htx hb with h1 | h1
  ·exact absurd h1 hto
  ·exact rch_step h' h1 ht
 have c3 : ∀ b, Blw l x b → b = o ∨ Rch l' b := by
  intro b hb
  induction hb with
  | one hk =>
    rcases he _ _ ((kid_iff h).1 hk) with h3 | h3 | h3
    ·exact .inr (rch_step h' c2 h3)
    ·exact .inr (h3 ▸ c2)
    ·exact .inl h3
  | more hb hk ih =>
    have hk' := (kid_iff h).1 hk
    rcases ih with rfl | ih
    ·exact absurd hk' (ho _)
    ·rcases he _ _ hk' with h3 | h3 | h3
     ·exact .inr (rch_step h' ih h3)
     ·exact .inr (h3 ▸ c2)
     ·exact .inl h3
 intro b hb
 by_cases h1 : b = x
 ·exact .inr (h1 ▸ c2)
 ·by_cases h2 : Blw l x b
  ·exact c3 b h2
  ·exact c1 b hb h1 h2
theorem namedN_foldl (i : Int) : ∀ (l : List Nod) (k : Nat), l.foldl (fun n x => n + entsN x.2.2.2.2 i) k = k + namedN l i
 | [], k => by simp [namedN]
 | x :: l, k => by rw [namedN, List.foldl_cons, List.foldl_cons, namedN_foldl i l, namedN_foldl i l]; omega
theorem namedN_cons (x : Nod) (l : List Nod) (i : Int) : namedN (x :: l) i = entsN x.2.2.2.2 i + namedN l i := by
 rw [namedN, List.foldl_cons, namedN_foldl]; omega
theorem namedN_append (i : Int) : ∀ (l m : List Nod), namedN (l ++ m) i = namedN l i + namedN m i
 | [], m => by simp [namedN]
 | x :: l, m => by rw [List.cons_append, namedN_cons, namedN_cons, namedN_append i l m]; omega
theorem namedN_set (i : Int) (y : Nod) : ∀ (l : List Nod) (k : Nat) (x : Nod), l[k]? = some x → namedN (l.set k y) i + entsN x.2.2.2.2 i = namedN l i + entsN y.2.2.2.2 i
 | [], k, x, h => by simp at h
 | z :: l, 0, x, h => by
   injection h with h; subst h;rw [List.set_cons_zero, namedN_cons, namedN_cons]; omega
 | z :: l, k + 1, x, h => by
   have := namedN_set i y l k x h;rw [List.set_cons_succ, namedN_cons, namedN_cons]; omega
theorem namedN_erase (i : Int) : ∀ (l : List Nod) (k : Nat) (x : Nod), l[k]? = some x → namedN (l.eraseIdx k) i + entsN x.2.2.2.2 i = namedN l i
 | [], k, x, h => by simp at h
 | z :: l, 0, x, h => by
   injection h with h; subst h;rw [List.eraseIdx_cons_zero, namedN_cons]; omega
 | z :: l, k + 1, x, h => by
   have := namedN_erase i l k x h;rw [List.eraseIdx_cons_succ, namedN_cons, namedN_cons]; omega
theorem named_pos {l : List Nod} {i : Int} : 0 < namedN l i ↔ ∃ a, Kid l a i := by
 induction l with
 | nil => simp [namedN, Kid]
 | cons x l ih =>
   rw [namedN_cons];constructor
   ·intro h
    by_cases h1 : 0 < entsN x.2.2.2.2 i
    ·rw [entsN, List.countP_pos_iff] at h1
     obtain ⟨e, he, hi⟩ := h1;exact ⟨x.1, x, List.mem_cons_self, rfl, e, he, by simpa using hi⟩
    ·obtain ⟨a, y, hy, r⟩ := ih.1 (by omega)
     exact ⟨a, y, List.mem_cons_of_mem _ hy, r⟩
   ·rintro ⟨a, y, hy, rfl, e, he, hi⟩
    rcases List.mem_cons.1 hy with rfl | hy
    ·have : 0 < entsN y.2.2.2.2 i := by rw [entsN, List.countP_pos_iff]; exact ⟨e, he, by simpa using hi⟩
     omega
    ·have := ih.2 ⟨y.1, y, hy, rfl, e, he, hi⟩
     omega
theorem named_zero {l : List Nod} {i : Int} (h : ∀ a, ¬ Kid l a i) : namedN l i = 0 := by
 rcases Nat.eq_zero_or_pos (namedN l i) with h1 | h1
 ·exact h1
 ·obtain ⟨a, ha⟩ := named_pos.1 h1
  exact absurd ha (h a)
theorem atN_is {l : List Nod} {i : Int} : (atN l i).isSome = true ↔ ∃ y ∈ l, y.1 = i := by
 rw [atN, List.findIdx?_isSome, List.any_eq_true];simp only [beq_iff_eq]
def Typ (x : Nod) : Prop := (x.2.1 = 1 ∧ x.2.2.2.2 = [] ∧ x.2.2.2.1.size ≤ 20) ∨ (x.2.1 = 2 ∧ x.2.2.2.1.size = 0 ∧ DirR x.2.2.2.2)
structure VW (next : Int) (l : List Nod) : Prop where
 lo : 2 ≤ next
 hi : next ≤ 100000
 len : l.length ≤ 16
 srt : Srt l
 rng : ∀ x ∈ l, 1 ≤ x.1 ∧ x.1 < next
 root : ∃ x, l[0]? = some x ∧ x.1 = 1 ∧ x.2.1 = 2
 typ : ∀ x ∈ l, Typ x
 ent : ∀ x ∈ l, ∀ e ∈ x.2.2.2.2, e.2.2.2 ≠ 1 ∧ ∃ y ∈ l, y.1 = e.2.2.2
structure VOk (next : Int) (l : List Nod) : Prop extends VW next l where
 one : ∀ x ∈ l, x.2.1 = 2 → x.2.2.1 = 1
 lnk : ∀ x ∈ l, x.1 = 1 ∨ x.2.2.1 = (namedN l x.1 : Int)
 rch : ∀ x ∈ l, Rch l x.1
theorem VW.root_mem {next : Int} {l : List Nod} (h : VW next l) : ∃ x ∈ l, x.1 = 1 ∧ x.2.1 = 2 := by
 obtain ⟨x, h1, h2⟩ := h.root;exact ⟨x, List.mem_of_getElem? h1, h2⟩
theorem volB_V {next : Int} {l : List Nod} (h : volB next l = true) : VOk next l := by
 simp only [volB, Bool.and_eq_true] at h;obtain ⟨⟨h1, h2⟩, h3⟩ := h;simp only [headOk, Bool.and_eq_true] at h1;have hlo := inB_iff.1 h1.1.1;have hln := inB_iff.1 h1.1.2;have hroot : ∃ x, l[0]? = some x ∧ x.1 = 1 ∧ x.2.1 = 2 := by
  have h4 := h1.2
  cases h0 : l[0]? with
  | none => rw [h0] at h4; simp at h4
  | some x => rw [h0] at h4; simp only [Bool.and_eq_true, decide_eq_true_eq] at h4; exact ⟨x, rfl, h4⟩
 have hsrt := nodsTo_sorted h2;have hat : ∀ x ∈ l, inB x.1 1 (next - 1) = true ∧ nodOk l x = true := by
  intro x hx;obtain ⟨k, hk⟩ := List.getElem?_of_mem hx;have h4 := nodsTo_at h2 hk;simp only [nodAt, Bool.and_eq_true] at h4;exact ⟨h4.1.1, h4.2⟩
 have hbl : ∀ x ∈ l, x.1 = 1 ∨ Blw l 1 x.1 := by
  intro x hx;obtain ⟨r, hr, hr1, _⟩ := hroot;obtain ⟨k, hk⟩ := List.getElem?_of_mem hx
  cases k with
  | zero => rw [hr] at hk; injection hk with hk; subst hk; exact .inl hr1
  | succ k =>
    have h5 := List.all_eq_true.1 h3 x (List.mem_of_getElem? (i := k) (by rw [List.getElem?_drop, Nat.add_comm]; exact hk));exact .inr (blwB_iff.1 h5)
 refine ⟨⟨hlo.1, hlo.2, by omega, hsrt, fun x hx => ?_, hroot, fun x hx => ?_, fun x hx e he => ?_⟩, fun x hx hk => ?_, fun x hx => ?_, hbl⟩
 ·have := inB_iff.1 (hat x hx).1; exact ⟨this.1, by omega⟩
 ·have h4 := (hat x hx).2
  unfold nodOk at h4
  split at h4
  ·rename_i hk
   simp only [Bool.and_eq_true, decide_eq_true_eq] at h4;exact .inl ⟨hk, List.eq_nil_of_length_eq_zero h4.1.1, h4.1.2⟩
  ·simp only [Bool.and_eq_true, decide_eq_true_eq] at h4
   exact .inr ⟨h4.1.1.1.1.1, h4.1.1.1.1.2, dirB_R h4.1.1.2⟩
 ·have h4 := (hat x hx).2
  unfold nodOk at h4
  split at h4
  ·simp only [Bool.and_eq_true, decide_eq_true_eq] at h4
   rw [List.eq_nil_of_length_eq_zero h4.1.1] at he; simp at he
  ·simp only [Bool.and_eq_true, List.all_eq_true] at h4
   have h5 := h4.2 e he;simp only [Bool.and_eq_true, Bool.not_eq_true', decide_eq_false_iff_not] at h5;exact ⟨h5.1, atN_is.1 h5.2⟩
 ·have h4 := (hat x hx).2
  unfold nodOk at h4;rw [if_neg (by omega)] at h4;simp only [Bool.and_eq_true, decide_eq_true_eq] at h4;exact h4.1.1.1.2
 ·have h4 := (hat x hx).2
  unfold nodOk at h4
  split at h4
  ·simp only [Bool.and_eq_true, decide_eq_true_eq] at h4
   exact .inr h4.2
  ·simp only [Bool.and_eq_true, Bool.or_eq_true, decide_eq_true_eq] at h4
   rcases h4.1.2 with h5 | h5
   ·exact .inl h5
   ·right; rw [h4.1.1.1.2, h5]; rfl
theorem V_volB {next : Int} {l : List Nod} (h : VOk next l) : volB next l = true := by
 obtain ⟨r, hr, hr1, hr2⟩ := h.root;have hl1 : 1 ≤ l.length := by have := (List.getElem?_eq_some_iff.1 hr).1; omega
 have hln := h.len;have hok : ∀ x ∈ l, nodOk l x = true := by
  intro x hx;have hlk := h.lnk x hx
  rcases h.typ x hx with ⟨t1, t2, t3⟩ | ⟨t1, t2, t3⟩
  ·have h1 : x.1 ≠ 1 := fun e => by
    have := srt_inj h.srt hx (List.mem_of_getElem? hr) (e.trans hr1.symm);subst this; omega
   unfold nodOk;rw [if_pos t1];simp only [Bool.and_eq_true, decide_eq_true_eq];exact ⟨⟨by rw [t2]; rfl, t3⟩, hlk.resolve_left h1⟩
  ·have ho := h.one x hx t1
   unfold nodOk;rw [if_neg (by omega)];simp only [Bool.and_eq_true, Bool.or_eq_true, decide_eq_true_eq, List.all_eq_true];refine ⟨⟨⟨⟨⟨t1, t2⟩, ho⟩, R_dirB t3⟩, ?_⟩, fun e he => ?_⟩
   ·rcases hlk with h1 | h1
    ·exact .inl h1
    ·right; rw [ho] at h1; omega
   ·have := h.ent x hx e he
    simp only [Bool.and_eq_true, Bool.not_eq_true', decide_eq_false_iff_not];exact ⟨this.1, atN_is.2 this.2⟩
 simp only [volB, headOk, Bool.and_eq_true];refine ⟨⟨⟨⟨inB_iff.2 ⟨h.lo, h.hi⟩, inB_iff.2 ⟨by omega, by omega⟩⟩, by rw [hr]; simp [hr1, hr2]⟩, ?_⟩, ?_⟩
 ·have : ∀ k, k ≤ l.length → nodsTo next l k = true := by
   intro k
   induction k with
   | zero => intro _; rfl
   | succ k ih =>
     intro hk;obtain ⟨x, hx⟩ : ∃ x, l[k]? = some x := ⟨_, List.getElem?_eq_getElem (by omega)⟩;have hm := List.mem_of_getElem? hx;have hrg := h.rng x hm;rw [nodsTo, hx, Bool.and_eq_true];refine ⟨ih (by omega), ?_⟩;simp only [nodAt, Bool.and_eq_true];refine ⟨⟨inB_iff.2 ⟨hrg.1, by omega⟩, ?_⟩, hok x hm⟩
     cases k with
     | zero => rfl
     | succ j =>
       obtain ⟨p, hp⟩ : ∃ p, l[j]? = some p := ⟨_, List.getElem?_eq_getElem (by omega)⟩;simp only [hp, decide_eq_true_eq];have h3 := List.pairwise_iff_getElem.1 h.srt j (j + 1) (by omega) (by omega) (by omega);rw [List.getElem?_eq_getElem (by omega)] at hp hx;injection hp with hp; injection hx with hx;rw [hp, hx] at h3; exact h3
  exact this _ (Nat.le_refl _)
 ·rw [List.all_eq_true]
  intro x hx;rw [blwB_iff]
  rcases h.rch x (List.mem_of_mem_drop hx) with h1 | h1
  ·exfalso
   obtain ⟨k, hk⟩ := List.getElem?_of_mem hx;rw [List.getElem?_drop] at hk;have h3 := nodup_at h.srt hk;have h4 := nodup_at h.srt hr;rw [h1, ← hr1, h4] at h3;injection h3 with h3; omega
  ·exact h1
end Go.Proofs.YtmpldngnkacnmaaGreatDoor
namespace Go.Proofs.YtmpldngnkacnmaaGreatDoor
open Go.RowKit
theorem srt_map {l : List Nod} : Srt l ↔ (l.map (·.1)).Pairwise (· < ·) := by rw [List.pairwise_map]
theorem set_ids {l : List Nod} {k : Nat} {x y : Nod} (hx : l[k]? = some x) (h : y.1 = x.1) : (l.set k y).map (·.1) = l.map (·.1) := by
 apply List.ext_getElem?;intro j;rw [List.getElem?_map, List.getElem?_map]
 by_cases hj : k = j
 ·subst hj
  rw [List.getElem?_set_self (List.getElem?_eq_some_iff.1 hx).1, hx]; simp [h]
 ·rw [List.getElem?_set_ne hj]
theorem set_srt {l : List Nod} {k : Nat} {x y : Nod} (hs : Srt l) (hx : l[k]? = some x) (h : y.1 = x.1) : Srt (l.set k y) := by
 rw [srt_map, set_ids hx h]; exact srt_map.1 hs
theorem set_mem {l : List Nod} {k : Nat} {x y z : Nod} (hs : Srt l) (hx : l[k]? = some x) : z ∈ l.set k y ↔ z = y ∨ (z ∈ l ∧ z.1 ≠ x.1) := by
 have hk := (List.getElem?_eq_some_iff.1 hx).1;constructor
 ·intro hz
  obtain ⟨j, hj⟩ := List.getElem?_of_mem hz
  by_cases hjk : k = j
  ·subst hjk
   rw [List.getElem?_set_self hk] at hj; injection hj with hj;exact .inl hj.symm
  ·rw [List.getElem?_set_ne hjk] at hj
   refine .inr ⟨List.mem_of_getElem? hj, fun e => hjk ?_⟩;have h1 := nodup_at hs hj;rw [e, nodup_at hs hx] at h1;injection h1
 ·rintro (rfl | ⟨hz, hne⟩)
  ·exact List.mem_of_getElem? (List.getElem?_set_self hk)
  ·obtain ⟨j, hj⟩ := List.getElem?_of_mem hz
   refine List.mem_of_getElem? (i := j) ?_;rw [List.getElem?_set_ne (fun e => by subst e; rw [hx] at hj; injection hj with hj; exact hne (by rw [hj])), hj]
theorem set_ex {l : List Nod} {k : Nat} {x y : Nod} (hs : Srt l) (hx : l[k]? = some x) (h : y.1 = x.1) {i : Int} : (∃ z ∈ l.set k y, z.1 = i) ↔ ∃ z ∈ l, z.1 = i := by
 constructor
 ·rintro ⟨z, hz, rfl⟩
  rcases (set_mem hs hx).1 hz with rfl | ⟨hz, _⟩
  ·exact ⟨x, List.mem_of_getElem? hx, h.symm⟩
  ·exact ⟨z, hz, rfl⟩
 ·rintro ⟨z, hz, rfl⟩
  by_cases hzx : z.1 = x.1
  ·exact ⟨y, (set_mem hs hx).2 (.inl rfl), h.trans hzx.symm⟩
  ·exact ⟨z, (set_mem hs hx).2 (.inr ⟨hz, hzx⟩), rfl⟩
theorem set_kid {l : List Nod} {k : Nat} {x y : Nod} (hs : Srt l) (hx : l[k]? = some x) (h : y.1 = x.1) {a b : Int} : Kid (l.set k y) a b ↔ (a = x.1 ∧ b ∈ idsE y.2.2.2.2) ∨ (a ≠ x.1 ∧ Kid l a b) := by
 constructor
 ·rintro ⟨z, hz, rfl, e, he, rfl⟩
  rcases (set_mem hs hx).1 hz with rfl | ⟨hz, hne⟩
  ·exact .inl ⟨h, List.mem_map_of_mem he⟩
  ·exact .inr ⟨hne, z, hz, rfl, e, he, rfl⟩
 ·rintro (⟨rfl, hb⟩ | ⟨hne, z, hz, rfl, r⟩)
  ·obtain ⟨e, he, rfl⟩ := List.mem_map.1 hb
   exact ⟨y, (set_mem hs hx).2 (.inl rfl), h, e, he, rfl⟩
  ·exact ⟨z, (set_mem hs hx).2 (.inr ⟨hz, hne⟩), rfl, r⟩
theorem kid_at {l : List Nod} {k : Nat} {x : Nod} (hs : Srt l) (hx : l[k]? = some x) {b : Int} : Kid l x.1 b ↔ b ∈ idsE x.2.2.2.2 := by
 constructor
 ·rintro ⟨z, hz, e0, e, he, rfl⟩
  have := srt_inj hs hz (List.mem_of_getElem? hx) e0;subst this; exact List.mem_map_of_mem he
 ·intro hb
  obtain ⟨e, he, rfl⟩ := List.mem_map.1 hb;exact ⟨x, List.mem_of_getElem? hx, rfl, e, he, rfl⟩
theorem VW.set {next : Int} {l : List Nod} {k : Nat} {x y : Nod} (h : VW next l) (hx : l[k]? = some x) (h1 : y.1 = x.1) (h2 : y.2.1 = x.2.1) (ht : Typ y) (he : ∀ e ∈ y.2.2.2.2, e.2.2.2 ≠ 1 ∧ ∃ z ∈ l, z.1 = e.2.2.2) : VW next (l.set k y) := by
 refine ⟨h.lo, h.hi, by rw [List.length_set]; exact h.len, set_srt h.srt hx h1, fun z hz => ?_, ?_, fun z hz => ?_, fun z hz e hez => ?_⟩
 ·rcases (set_mem h.srt hx).1 hz with rfl | ⟨hz, _⟩
  ·rw [h1]; exact h.rng x (List.mem_of_getElem? hx)
  ·exact h.rng z hz
 ·obtain ⟨r, hr, r1, r2⟩ := h.root
  by_cases hk : k = 0
  ·subst hk
   rw [hx] at hr; injection hr with hr; subst hr;exact ⟨y, List.getElem?_set_self (List.getElem?_eq_some_iff.1 hx).1, by rw [h1, r1], by rw [h2, r2]⟩
  ·exact ⟨r, by rw [List.getElem?_set_ne hk, hr], r1, r2⟩
 ·rcases (set_mem h.srt hx).1 hz with rfl | ⟨hz, _⟩
  ·exact ht
  ·exact h.typ z hz
 ·rcases (set_mem h.srt hx).1 hz with rfl | ⟨hz, _⟩
  ·exact ⟨(he e hez).1, (set_ex h.srt hx h1).2 (he e hez).2⟩
  ·exact ⟨(h.ent z hz e hez).1, (set_ex h.srt hx h1).2 (h.ent z hz e hez).2⟩
theorem erase_mem {l : List Nod} {k : Nat} {x z : Nod} (hs : Srt l) (hx : l[k]? = some x) : z ∈ l.eraseIdx k ↔ z ∈ l ∧ z.1 ≠ x.1 := by
 rw [List.mem_eraseIdx_iff_getElem?];constructor
 ·rintro ⟨j, hj, hz⟩
  refine ⟨List.mem_of_getElem? hz, fun e => hj ?_⟩;have h1 := nodup_at hs hz;rw [e, nodup_at hs hx] at h1;injection h1 with h1; exact h1.symm
 ·rintro ⟨hz, hne⟩
  obtain ⟨j, hj⟩ := List.getElem?_of_mem hz;exact ⟨j, fun e => by subst e; rw [hx] at hj; injection hj with hj; exact hne (by rw [hj]), hj⟩
theorem erase_kid {l : List Nod} {k : Nat} {x : Nod} (hs : Srt l) (hx : l[k]? = some x) {a b : Int} : Kid (l.eraseIdx k) a b ↔ a ≠ x.1 ∧ Kid l a b := by
 constructor
 ·rintro ⟨z, hz, rfl, r⟩
  obtain ⟨h1, h2⟩ := (erase_mem hs hx).1 hz;exact ⟨h2, z, h1, rfl, r⟩
 ·rintro ⟨hne, z, hz, rfl, r⟩
  exact ⟨z, (erase_mem hs hx).2 ⟨hz, hne⟩, rfl, r⟩
theorem VW.erase {next : Int} {l : List Nod} {k : Nat} {x : Nod} (h : VW next l) (hx : l[k]? = some x) (h1 : x.1 ≠ 1) (hn : ∀ a, ¬ Kid l a x.1) : VW next (l.eraseIdx k) := by
 have hk := (List.getElem?_eq_some_iff.1 hx).1;refine ⟨h.lo, h.hi, by rw [List.length_eraseIdx_of_lt hk]; have := h.len; omega, h.srt.sublist (List.eraseIdx_sublist _ _), fun z hz => h.rng z ((erase_mem h.srt hx).1 hz).1, ?_, fun z hz => h.typ z ((erase_mem h.srt hx).1 hz).1, fun z hz e he => ?_⟩
 ·obtain ⟨r, hr, r1, r2⟩ := h.root
  have hk0 : 0 < k := by
   rcases Nat.eq_zero_or_pos k with h0 | h0
   ·subst h0; rw [hx] at hr; injection hr with hr; subst hr; exact absurd r1 h1
   ·exact h0
  exact ⟨r, by rw [List.getElem?_eraseIdx_of_lt hk0, hr], r1, r2⟩
 ·obtain ⟨hz, hne⟩ := (erase_mem h.srt hx).1 hz
  obtain ⟨e1, y, hy, e2⟩ := h.ent z hz e he;refine ⟨e1, y, (erase_mem h.srt hx).2 ⟨hy, fun e3 => hn z.1 ⟨z, hz, rfl, e, he, ?_⟩⟩, e2⟩;rw [← e2, e3]
theorem VW.app {next : Int} {l : List Nod} {x : Nod} (h : VW next l) (h1 : x.1 = next) (ht : Typ x) (he : x.2.2.2.2 = []) (hn : next < 100000) (hl : l.length < 16) : VW (next + 1) (l ++ [x]) := by
 have hlo := h.lo;have mem : ∀ {z}, z ∈ l ++ [x] ↔ z ∈ l ∨ z = x := by simp
 refine ⟨by omega, by omega, by simp; omega, ?_, fun z hz => ?_, ?_, fun z hz => ?_, fun z hz e hez => ?_⟩
 ·refine List.pairwise_append.2 ⟨h.srt, List.pairwise_singleton _ _, fun a ha b hb => ?_⟩
  rw [List.mem_singleton.1 hb, h1]; exact (h.rng a ha).2
 ·rcases mem.1 hz with hz | rfl
  ·have := h.rng z hz; omega
  ·omega
 ·obtain ⟨r, hr, r1, r2⟩ := h.root
  exact ⟨r, by rw [List.getElem?_append_left (List.getElem?_eq_some_iff.1 hr).1, hr], r1, r2⟩
 ·rcases mem.1 hz with hz | rfl
  ·exact h.typ z hz
  ·exact ht
 ·rcases mem.1 hz with hz | rfl
  ·obtain ⟨e1, y, hy, e2⟩ := h.ent z hz e hez
   exact ⟨e1, y, mem.2 (.inl hy), e2⟩
  ·rw [he] at hez; simp at hez
theorem app_kid {l : List Nod} {x : Nod} (he : x.2.2.2.2 = []) {a b : Int} : Kid (l ++ [x]) a b ↔ Kid l a b := by
 constructor
 ·rintro ⟨z, hz, rfl, e, hez, rfl⟩
  rcases List.mem_append.1 hz with hz | hz
  ·exact ⟨z, hz, rfl, e, hez, rfl⟩
  ·rw [List.mem_singleton.1 hz, he] at hez; simp at hez
 ·rintro ⟨z, hz, r⟩
  exact ⟨z, List.mem_append_left _ hz, r⟩
theorem add_ids {d : List EntT} {s : ByteArray} {id : Int} (h1 : nameB (toB s) = true) (h2 : dirAt d (toB s) = none) (h3 : inB id 1 100000 = true) (h4 : d.length < 12) : (idsE (addD d s id).1).Perm (id :: idsE d) := by
 rw [addD, if_pos (by simp [h1, h2, h3, h4])];exact (insD_perm _ _).map _
theorem look_at {d : List EntT} {s : ByteArray} {e : EntT} (h : lookD d s = some e) : ∃ k, dirAt d (toB s) = some k ∧ d[k]? = some e := by
 rw [lookD, Option.bind_eq_some_iff] at h; exact h
theorem erase_perm {α : Type} : ∀ {l : List α} {k : Nat} {x : α}, l[k]? = some x → l.Perm (x :: l.eraseIdx k)
 | [], k, x, h => by simp at h
 | y :: l, 0, x, h => by injection h with h; subst h; exact .refl _
 | y :: l, k + 1, x, h => by
   rw [List.eraseIdx_cons_succ];exact ((erase_perm (l := l) (k := k) h).cons y).trans (.swap _ _ _)
theorem drop_ids {d : List EntT} {s : ByteArray} {e : EntT} (h : lookD d s = some e) : (idsE d).Perm (e.2.2.2 :: idsE (dropD d s).1) := by
 obtain ⟨k, h1, h2⟩ := look_at h;rw [dropD, h1];exact (erase_perm h2).map _
theorem set_perm {α : Type} : ∀ {l : List α} {k : Nat} {x y : α}, l[k]? = some x → (l.set k y).Perm (y :: l.eraseIdx k)
 | [], k, x, y, h => by simp at h
 | z :: l, 0, x, y, h => .refl _
 | z :: l, k + 1, x, y, h => by
   rw [List.eraseIdx_cons_succ, List.set_cons_succ];exact ((set_perm (l := l) (k := k) (y := y) h).cons z).trans (.swap _ _ _)
theorem resp_ids {d : List EntT} {s : ByteArray} {id : Int} {e : EntT} (h : lookD d s = some e) (hid : inB id 1 100000 = true) : (idsE (respD d s id).1).Perm (id :: idsE (dropD d s).1) := by
 obtain ⟨k, h1, h2⟩ := look_at h;rw [respD_eq h1 h2 hid, dropD, h1];exact (set_perm (y := (e.1, e.2.1, s, id)) h2).map _
section
variable {next : Int} {l : List Nod} {k : Nat} {x : Nod} {d : List EntT} {a b i : Int}
theorem nEnts_eq (hx : l[k]? = some x) : nEnts l k d = l.set k (x.1, x.2.1, x.2.2.1, x.2.2.2.1, d) := by rw [nEnts, hx]
theorem entsOf_eq (hx : l[k]? = some x) : entsOf l k = x.2.2.2.2 := by rw [entsOf, hx]
theorem kindOf_eq (hx : l[k]? = some x) : kindOf l k = x.2.1 := by rw [kindOf, hx]
theorem nEnts_VW (h : VW next l) (hx : l[k]? = some x) (hk : x.2.1 = 2) (hd : DirR d) (he : ∀ e ∈ d, e.2.2.2 ≠ 1 ∧ ∃ z ∈ l, z.1 = e.2.2.2) : VW next (nEnts l k d) := by
 rw [nEnts_eq hx];refine h.set hx rfl rfl ?_ he
 rcases h.typ x (List.mem_of_getElem? hx) with t | t
 ·omega
 ·exact .inr ⟨t.1, t.2.1, hd⟩
theorem nEnts_named (hx : l[k]? = some x) : namedN (nEnts l k d) i + (idsE x.2.2.2.2).count i = namedN l i + (idsE d).count i := by
 have h := namedN_set i (x.1, x.2.1, x.2.2.1, x.2.2.2.1, d) l k x hx;rw [entsN_ids, entsN_ids] at h;rw [nEnts_eq hx]; exact h
theorem nEnts_kid (hs : Srt l) (hx : l[k]? = some x) : Kid (nEnts l k d) a b ↔ (a = x.1 ∧ b ∈ idsE d) ∨ (a ≠ x.1 ∧ Kid l a b) := by
 rw [nEnts_eq hx]; exact set_kid (y := (x.1, x.2.1, x.2.2.1, x.2.2.2.1, d)) hs hx rfl
theorem nEnts_at (hx : l[k]? = some x) {j : Nat} {y : Nod} (hy : l[j]? = some y) : (nEnts l k d)[j]? = some (y.1, y.2.1, y.2.2.1, y.2.2.2.1, if j = k then d else y.2.2.2.2) := by
 rw [nEnts_eq hx]
 by_cases h : j = k
 ·subst h
  rw [hx] at hy; injection hy with hy; subst hy;rw [List.getElem?_set_self (List.getElem?_eq_some_iff.1 hx).1, if_pos rfl]
 ·rw [List.getElem?_set_ne (fun e => h e.symm), hy, if_neg h]
theorem nEnts_old (hs : Srt l) (hx : l[k]? = some x) {y : Nod} (hy : y ∈ nEnts l k d) : ∃ z ∈ l, y.1 = z.1 ∧ y.2.1 = z.2.1 ∧ y.2.2.1 = z.2.2.1 := by
 rw [nEnts_eq hx] at hy
 rcases (set_mem hs hx).1 hy with rfl | ⟨h, _⟩
 ·exact ⟨x, List.mem_of_getElem? hx, rfl, rfl, rfl⟩
 ·exact ⟨y, h, rfl, rfl, rfl⟩
theorem nEnts_ex (hs : Srt l) (hx : l[k]? = some x) : (∃ z ∈ nEnts l k d, z.1 = i) ↔ ∃ z ∈ l, z.1 = i := by
 rw [nEnts_eq hx]; exact set_ex (y := (x.1, x.2.1, x.2.2.1, x.2.2.2.1, d)) hs hx rfl
end
theorem less_V {next : Int} {l : List Nod} {o : Int} (h : VW next l) (h1 : ∀ y ∈ l, y.2.1 = 2 → y.2.2.1 = 1) (hl : ∀ y ∈ l, y.1 = 1 ∨ y.2.2.1 = (namedN l y.1 : Int) + (if y.1 = o then 1 else 0)) (ho1 : o ≠ 1) (hok : ∀ b, ¬ Kid l o b)
 (hr : ∀ y ∈ l, y.1 = o ∨ Rch l y.1) (hex : ∃ y ∈ l, y.1 = o) : VOk next (nLess l o) := by
 obtain ⟨y, hy, hyo⟩ := hex;obtain ⟨j, hj⟩ := List.getElem?_of_mem hy;have hat : atN l o = some j := by rw [← hyo]; exact nodup_at h.srt hj
 have hly := (hl y hy).resolve_left (by rw [hyo]; exact ho1);rw [if_pos hyo, hyo] at hly;have hye : y.2.2.2.2 = [] := by
  rcases he : y.2.2.2.2 with _ | ⟨e, r⟩
  ·rfl
  ·exact absurd ⟨y, hy, hyo, e, by rw [he]; exact List.mem_cons_self, rfl⟩ (hok e.2.2.2)
 unfold nLess;rw [hat]; simp only [hj]
 by_cases hone : y.2.2.1 = 1
 ·rw [if_pos hone]
  have hn0 : namedN l o = 0 := by omega
  have hno : ∀ a, ¬ Kid l a y.1 := fun a ha => by
   have := named_pos.2 ⟨a, ha⟩;rw [hyo] at this; omega
  have hW := h.erase hj (by rw [hyo]; exact ho1) hno;have hnm : ∀ i, namedN (l.eraseIdx j) i = namedN l i := fun i => by
   have := namedN_erase i l j y hj;rw [hye] at this; simpa [entsN] using this
  refine ⟨hW, fun z hz => h1 z ((erase_mem h.srt hj).1 hz).1, fun z hz => ?_, fun z hz => ?_⟩
  ·obtain ⟨hz, hne⟩ := (erase_mem h.srt hj).1 hz
   rcases hl z hz with h2 | h2
   ·exact .inl h2
   ·right; rw [h2, hnm, if_neg (by rw [← hyo]; exact hne)]; omega
  ·obtain ⟨hz, hne⟩ := (erase_mem h.srt hj).1 hz
   refine rch_mono h.srt hW.srt (fun a b hab => ?_) ((hr z hz).resolve_left (by rw [← hyo]; exact hne));exact (erase_kid h.srt hj).2 ⟨fun e => hok b (by rw [← hyo, ← e]; exact hab), hab⟩
 ·rw [if_neg hone]
  unfold nLinks;simp only [hj];have hkd : y.2.1 ≠ 2 := fun e => hone (h1 y hy e);have hty : Typ (y.1, y.2.1, y.2.2.1 - 1, y.2.2.2.1, y.2.2.2.2) := h.typ y hy;have hW : VW next (l.set j (y.1, y.2.1, y.2.2.1 - 1, y.2.2.2.1, y.2.2.2.2)) := h.set hj rfl rfl hty (h.ent y hy);have hnm : ∀ i, namedN (l.set j (y.1, y.2.1, y.2.2.1 - 1, y.2.2.2.1, y.2.2.2.2)) i = namedN l i := fun i => by
   have h9 : namedN (l.set j (y.1, y.2.1, y.2.2.1 - 1, y.2.2.2.1, y.2.2.2.2)) i + entsN y.2.2.2.2 i = namedN l i + entsN y.2.2.2.2 i := namedN_set i (y.1, y.2.1, y.2.2.1 - 1, y.2.2.2.1, y.2.2.2.2) l j y hj;omega
  have hkid : ∀ a b, Kid l a b → Kid (l.set j (y.1, y.2.1, y.2.2.1 - 1, y.2.2.2.1, y.2.2.2.2)) a b := fun a b hab => by
   rw [set_kid (y := (y.1, y.2.1, y.2.2.1 - 1, y.2.2.2.1, y.2.2.2.2)) h.srt hj rfl]
   by_cases hay : a = y.1
   ·exact .inl ⟨hay, (kid_at h.srt hj).1 (hay ▸ hab)⟩
   ·exact .inr ⟨hay, hab⟩
  have hpos : 0 < namedN l o := by omega
  obtain ⟨a, ha⟩ := named_pos.1 hpos;have hro : Rch l o := by
   obtain ⟨z, hz, hza, r⟩ := ha;have hrz := (hr z hz).resolve_left (fun e => by
    obtain ⟨e1, he1, he2⟩ := r;exact hok o ⟨z, hz, e, e1, he1, he2⟩)
   exact rch_step h.srt hrz ⟨z, hz, rfl, r⟩
  have hall : ∀ z ∈ l, Rch l z.1 := fun z hz => (hr z hz).elim (fun e => e ▸ hro) id;refine ⟨hW, fun z hz => ?_, fun z hz => ?_, fun z hz => ?_⟩
  ·rcases (set_mem h.srt hj).1 hz with rfl | ⟨hz, _⟩
   ·exact fun e => absurd e hkd
   ·exact h1 z hz
  ·rw [hnm]
   rcases (set_mem h.srt hj).1 hz with rfl | ⟨hz, hne⟩
   ·right; show y.2.2.1 - 1 = (namedN l y.1 : Int); rw [hyo]; omega
   ·rcases hl z hz with h2 | h2
    ·exact .inl h2
    ·right; rw [h2, if_neg (by rw [← hyo]; exact hne)]; omega
  ·rcases (set_mem h.srt hj).1 hz with rfl | ⟨hz, hne⟩
   ·exact rch_mono h.srt hW.srt hkid (hall y hy)
   ·exact rch_mono h.srt hW.srt hkid (hall z hz)
end Go.Proofs.YtmpldngnkacnmaaGreatDoor