/-
The reference draws directories.
-/
import Derived.Test.YtllonpbhgbhogaaGreatDoorCurs
import Derived.Test.YtllonpbhgbhogaaGreatDoorGk
import Derived.Test.YtllonpbhgbhogaaGreatDoorGj
namespace Go.Proofs.YtllonpbhgbhogaaGreatDoor
open Go.RowKit
set_option linter.unusedVariables false
set_option linter.unusedSimpArgs false
def TurnD (w : World) (A : Option Addr) (n c : Nat) (d d' : List EntT) (e : Ending) (w' : World) : Prop := ∃ (v' : Value) (b : Bool), e = .returned (.tuple #[v', .bool b]) ∧ ((d' = d ∧ v' = .slice A n c ∧ Fr w w') ∨ Hp [] w w' [.row 109 4 v' d'.length (d'.flatMap cEnt)])
theorem own_nil0 {b n : Nat} {E : TypeId} {k : Nat} {A : Option Addr} {m c : Nat} {xs : List Value} {w : World} (h : w.ownsRow b E k (.slice A m c) n xs) : A = none → c = 0 := by
 intro hA;subst hA
 rcases h.2 with ⟨e, _⟩ | ⟨g2, cap, cur, e2, _⟩
 ·injection e
 ·injection e2 with e3; cases e3
set_option maxRecDepth 100000 in
set_option maxHeartbeats 4000000 in
theorem l5Add_all (A : Option Addr) (n c : Nat) (d : List EntT) (s : ByteArray) (id : Int) (w : World) (h : Rd w A n 4 (d.flatMap cEnt)) (hd : DirR d) (hn : n ≤ 1048576) (hs : s.size ≤ 16777216) (h3 : inB id 1 100000 = true) :
 Calls Tryz.prog 111 #[.slice A n c, .string s, .int .i64 id] w (TurnD w A n c d (addD d s id).1) := by
 have hz := ent_small hd;have hln : d.length = n := h.lenk cEnt_len (by omega)
 cases h1 : nameB (toB s) with
 | false =>
   have HD := Lib.hid (show (addD d s id).1 = d by rw [addD, h1]; rfl);go_enter Tryz.func111, Tryz.ntmps111;go_wp2_with fail;refine (specNameOk_any s _ hs).mono ?_;rintro e w1 ⟨rfl, f1⟩;rw [h1];go_wp2_with fail;go_ret2;exact ⟨_, _, rfl, .inl ⟨HD.out, rfl, f1⟩⟩
 | true =>
   cases h2 : dirAt d (toB s) with
   | some k =>
     have HD := Lib.hid (show (addD d s id).1 = d by rw [addD, h2, if_neg (by simp)]);have HE := Lib.hid (dirZ_some h2);have hk : decide ((k : Int) ≥ 0) = true := by simp
     have hk0 : (0 : Int) ≤ (k : Int) := by omega
     go_enter Tryz.func111, Tryz.ntmps111;go_wp2_with fail;refine (specNameOk_any s _ hs).mono ?_;rintro e w1 ⟨rfl, f1⟩;rw [h1];go_wp2_with fail;refine (l5At_any A n c d s _ (h.fr f1) hn hz hs).mono ?_;rintro e w2 ⟨rfl, f2⟩;rw [HE.out];replace f2 := f1.then f2;go_wp2_with fail;go_ret2;exact ⟨_, _, rfl, .inl ⟨HD.out, rfl, f2⟩⟩
   | none =>
     by_cases h4 : d.length < 12
     ·refine (l5Add_any A n c d s id w h hn hz hs h1 h2 h3 h4).mono ?_
      rintro e w' ⟨v', rfl, K⟩;exact ⟨v', _, rfl, .inr K⟩
     ·have HD := Lib.hid (show (addD d s id).1 = d by rw [addD, if_neg (by simp; omega)])
      have HE := Lib.hid (dirZ_none h2);have h12 : (12 : Int) ≤ (n : Int) := by omega
      have h12d : decide ((n : Int) ≥ 12) = true := decide_eq_true (by omega);go_enter Tryz.func111, Tryz.ntmps111;go_wp2_with fail;refine (specNameOk_any s _ hs).mono ?_;rintro e w1 ⟨rfl, f1⟩;rw [h1];go_wp2_with fail;refine (l5At_any A n c d s _ (h.fr f1) hn hz hs).mono ?_;rintro e w2 ⟨rfl, f2⟩;rw [HE.out];replace f2 := f1.then f2;go_wp2_with fail;refine (l1In_any id 1 100000 _).mono ?_;rintro e _ ⟨rfl, rfl⟩;rw [h3];go_wp2_with fail;go_ret2;exact ⟨_, _, rfl, .inl ⟨HD.out, rfl, f2⟩⟩
set_option maxRecDepth 100000 in
set_option maxHeartbeats 4000000 in
theorem l5Drop_all (A : Option Addr) (n c : Nat) (d : List EntT) (s : ByteArray) (w : World) (h : Rd w A n 4 (d.flatMap cEnt)) (hd : DirR d) (hn : n ≤ 1048576) (hnc : n ≤ c) (hc63 : c ≤ 9223372036854775807) (hs : s.size ≤ 16777216) :
 Calls Tryz.prog 113 #[.slice A n c, .string s] w (TurnD w A n c d (dropD d s).1) := by
 have hz := ent_small hd
 cases h2 : dirAt d (toB s) with
 | some k =>
   refine (l5Drop_any A n c k d s w h hn hnc hc63 hz hs h2).mono ?_;rintro e w' ⟨v', rfl, K⟩;exact ⟨v', _, rfl, .inr K⟩
 | none =>
   have HD := Lib.hid (show (dropD d s).1 = d by rw [dropD, h2]);have HE := Lib.hid (dirZ_none h2);go_enter Tryz.func113, Tryz.ntmps113;go_wp2_with fail;refine (l5At_any A n c d s _ h hn hz hs).mono ?_;rintro e w1 ⟨rfl, f1⟩;rw [HE.out];go_wp2_with fail;go_ret2;exact ⟨_, _, rfl, .inl ⟨HD.out, rfl, f1⟩⟩
def DrewD (W : List Nat) (w0 : World) (g : Nat) (A : Option Addr) (n c : Nat) (l : List Ob) (P : List EntT → Prop) (e : Ending) (w' : World) : Prop := ∃ (B : Option Addr) (q : Nat) (es : List EntT), e = .returned (.slice B es.length q) ∧ P es ∧ HC W w0 w' g A n c (.row 109 4 (.slice B es.length q) es.length (es.flatMap cEnt) :: l)
section
variable {W : List Nat} {w0 w w' : World} {l : List Ob} {A : Option Addr} {m n c : Nat} {d d' : List EntT} {b : Bool} {e : Ending}
theorem TurnD.held (h : TurnD w A m c d d' e w') (H : Hp W w0 w l) (i : Nat) (hi : l[i]? = some (.row 109 4 (.slice A m c) m (d.flatMap cEnt))) (hm : m = d.length) : ∃ (v : Value) (b : Bool), e = .returned (.tuple #[v, .bool b]) ∧ Hp W w0 w' (l.set i (.row 109 4 v d'.length (d'.flatMap cEnt))) := by
 obtain ⟨v, b, rfl, h | K⟩ := h
 ·obtain ⟨rfl, rfl, f⟩ := h
  refine ⟨_, b, rfl, ?_⟩;subst hm;rw [set_self' _ _ _ hi]; exact H.go f
 ·exact ⟨v, b, rfl, Hp.back i (Hp.vlt i hi) ((H.join K).sub (List.Sublist.cons_cons _ (List.eraseIdx_sublist _ _)))⟩
end
set_option maxRecDepth 100000 in
set_option maxHeartbeats 8000000 in
theorem l5Dir_any {W : List Nat} {w0 w : World} {g : Nat} {A : Option Addr} {n c : Nat} {l : List Ob} (K : HC W w0 w g A n c l) (Q : CurP W w0 g A n) (m : Int) (hm : m ≤ 256) :
 Calls Tryz.prog 128 #[.pointer (some ⟨g, 0, none⟩), .int .i64 m] w (DrewD W w0 g A n c l DirR) := by
 have QQ := Lib.hid Q;obtain ⟨i, h, a, b, H⟩ := K;replace H := H.lit0 109 4;have K : HC W w0 _ g A n c _ := ⟨i, h, a, b, H.swap⟩;clear H Q;go_enter Tryz.func128, Tryz.ntmps128;go_wp2_with fail;refine (K.below QQ.out m hm).mono ?_;rintro e w1 ⟨x, rfl, x0, xh, _, K1⟩;obtain ⟨k0, rfl⟩ : ∃ q : Nat, x = q := ⟨x.toNat, by omega⟩;have hk0 : k0 ≤ 256 := by omega
 clear xh x0;clear K a b;have HK := Lib.hid K1;clear K1;go_wp2_with fail
 go_loopw [5, 6] (fun v j wr => ∃ (k : Nat) (es : List EntT), j = .int .i64 k ∧ k ≤ 256 ∧ DirR es ∧ HC W w0 wr g A n c (.row 109 4 v es.length (es.flatMap cEnt) :: l)) (fun _ j _ => (intOf j).toNat)
 case atStart => exact ⟨k0, [], rfl, hk0, ⟨by simp, by simp, .nil, .nil⟩, HK.out⟩
 case round =>
  clear HK;obtain ⟨k, es, rfl, hkb, hR, K⟩ := hrel;have HR := Lib.hid hR;have hel := hR.len;clear hR;obtain ⟨B, q, rfl⟩ := K.choose_spec.choose_spec.2.2.shape 1 rfl
  rcases Nat.eq_zero_or_pos k with hk | hk
  ·subst hk
   obtain ⟨i3, h3, a3, b3, H⟩ := K;have HB := Lib.hid (own_nil0 (H.row 1 rfl));go_wp2_with fail;refine (l5Copy_any B es.length q es _ (H.rd 1 rfl) (by omega) HB.out).mono ?_;rintro e w5 ⟨v, rfl, K5⟩;replace H := H.join K5;clear K5;obtain ⟨B5, q5, rfl⟩ := H.shape 0 rfl;have HH := Lib.hid (H.sub (l' := [_, _] ++ l) (List.Sublist.cons_cons _ (List.Sublist.cons_cons _ (List.Sublist.cons _ (List.Sublist.refl _)))));clear H;go_wp2_with fail;go_ret;exact ⟨B5, q5, es, rfl, HR.out, i3, h3, a3, b3, HH.out.swap⟩
  ·have hkk : (0 : Int) < (k : Int) := by omega
   go_wp2_with fail;refine (K.once QQ.out 5 (by decide)).mono ?_;rintro e w4 ⟨x, rfl, K4⟩;clear K
   cases x with
   | true =>
     go_wp2_with fail;refine (K4.name QQ.out).mono ?_;rintro e w5 ⟨s, rfl, hs, K5⟩;clear K4;obtain ⟨i3, h3, a3, b3, H⟩ := K5;go_wp2_with fail;refine (l5Drop_all B es.length q es s _ (H.rd 1 rfl) HR.out (by omega) (own_nc (H.row 1 rfl)) (own_c63 (H.row 1 rfl)) (by omega)).mono ?_;intro e w6 hT;obtain ⟨v6, b6, rfl, H6⟩ := hT.held H 1 rfl rfl;have HH := Lib.hid H6;have HR2 := Lib.hid (dropD_R HR.out s);clear H hT H6;go_wp2_with fail;go_roundw
     case rel => exact ⟨k - 1, (dropD es s).1, by go_num, by omega, HR2.out, i3, h3, a3, b3, HH.out⟩
     case measure => simp [intOf]; omega
   | false =>
     go_wp2_with fail;refine (K4.name QQ.out).mono ?_;rintro e w5 ⟨s, rfl, hs, K5⟩;clear K4;go_wp2_with fail;refine (K5.below QQ.out 9 (by decide)).mono ?_;rintro e w6 ⟨y, rfl, y0, _, y1, K6⟩;clear K5;have y2 := y1 (by decide);clear y1;have hw : IntKind.i64.wrap (1 + y) = 1 + y := IntWalk.i64_in _ (by omega);obtain ⟨i3, h3, a3, b3, H⟩ := K6;go_wp2_with fail;refine (l5Add_all B es.length q es s (1 + y) _ (H.rd 1 rfl) HR.out (by omega) (by omega) (inB_iff.2 (by omega))).mono ?_;intro e w7 hT;obtain ⟨v6, b6, rfl, H6⟩ := hT.held H 1 rfl rfl;have HH := Lib.hid H6;have HR2 := Lib.hid (addD_R HR.out s (1 + y));clear H hT H6;go_wp2_with fail;go_roundw
     case rel => exact ⟨k - 1, (addD es s (1 + y)).1, by go_num, by omega, HR2.out, i3, h3, a3, b3, HH.out⟩
     case measure => simp [intOf]; omega
section
variable {W : List Nat} {w0 w : World} {g : Nat} {A : Option Addr} {n c : Nat} {l : List Ob}
theorem DrewD.mk {B : Option Addr} {m q : Nat} {es : List EntT} {P : List EntT → Prop} (hP : P es) (hm : m = es.length) (K : HC W w0 w g A n c (.row 109 4 (.slice B m q) m (es.flatMap cEnt) :: l)) : DrewD W w0 g A n c l P (.returned (.slice B m q)) w := by
 subst hm;exact ⟨B, q, es, rfl, hP, K⟩
theorem HC.putE {gd m q : Nat} {es : List EntT} (K : HC W w0 w g A n c (.row 109 4 (.slice (some ⟨gd, 0, none⟩) m q) m (es.flatMap cEnt) :: l)) (k r : Nat) {x : EntT} (x' : EntT) (u : Value) (hx : es[k]? = some x) (hr : r < 4) (hf : cEnt x' = (cEnt x).set r u) :
 HC W w0 (w.setCell ⟨gd, k * 4 + r, none⟩ u) g A n c (.row 109 4 (.slice (some ⟨gd, 0, none⟩) m q) m ((es.set k x').flatMap cEnt) :: l) := by
 obtain ⟨i, h, a, b, H⟩ := K;exact ⟨i, h, a, b, H.putL 1 rfl cEnt_len k r x' u hx hr hf⟩
end
def FewN (es : List EntT) : Prop := es.length ≤ 13 ∧ ∀ e ∈ es, e.2.2.1.size ≤ 16777216
theorem FewN.set {es : List EntT} (h : FewN es) (k : Nat) {x : EntT} (hx : x.2.2.1.size ≤ 16777216) : FewN (es.set k x) :=
 ⟨by rw [List.length_set]; exact h.1, fun e he => (List.mem_or_eq_of_mem_set he).elim (h.2 e) fun q => by rw [q]; exact hx⟩
set_option maxRecDepth 100000 in
set_option maxHeartbeats 8000000 in
theorem l5Any_any {W : List Nat} {w0 w : World} {g : Nat} {A : Option Addr} {n c : Nat} {l : List Ob} (K : HC W w0 w g A n c l) (Q : CurP W w0 g A n) (m : Int) (hm : m ≤ 256) :
 Calls Tryz.prog 90 #[.pointer (some ⟨g, 0, none⟩), .int .i64 m] w (DrewD W w0 g A n c l FewN) := by
 have QQ := Lib.hid Q;clear Q;go_enter Tryz.func90, Tryz.ntmps90;go_wp2_with fail;refine (l5Dir_any K QQ.out m hm).mono ?_;rintro e w1 ⟨B, q, es, rfl, hR, K1⟩;have hel := hR.len;have HF := Lib.hid (show FewN es from ⟨by omega, ent_small hR⟩);clear K hR
 by_cases h0 : es.length = 0
 ·have h00 : ((es.length : Int) == 0) = true := by simp [h0]
  have HH := Lib.hid K1;clear K1 h0;go_wp2_with fail;go_ret;exact DrewD.mk HF.out rfl HH.out
 ·have h00 : ((es.length : Int) == 0) = false := beq_eq_false_iff_ne.2 (by omega)
  go_wp2_with fail;refine (K1.once QQ.out 10 (by decide)).mono ?_;rintro e w2 ⟨x, rfl, K2⟩;clear K1
  cases x with
  | false =>
    have HH := Lib.hid K2;clear K2;go_wp2_with fail;go_ret;exact DrewD.mk HF.out rfl HH.out
  | true =>
    go_wp2_with fail;refine (K2.below QQ.out (es.length : Int) (by omega)).mono ?_;rintro e w3 ⟨x, rfl, x0, _, x1, K3⟩;obtain ⟨k, rfl⟩ : ∃ q : Nat, x = q := ⟨x.toNat, by omega⟩;have hk1 : (k : Int) < (es.length : Int) := x1 (by omega);obtain ⟨⟨e0, e1, e2, e3⟩, he⟩ := some_at rfl (show k < es.length by omega);have HE2 := Lib.hid (show e2.size ≤ 16777216 from HF.out.2 _ (List.mem_of_getElem? he));clear K2 x1;go_wp2_with fail;refine (K3.below QQ.out 5 (by decide)).mono ?_;rintro e w4 ⟨y, rfl, y0, _, y1, K4⟩;have y2 := y1 (by decide);clear y1 K3;obtain ⟨i4, h4, a4, b4, H⟩ := K4;obtain ⟨gd, qd, e7, _⟩ := H.form 1 rfl (by omega);injection e7 with e7a _ e7c;subst e7a e7c;have K5 : HC W w0 w4 g A n c _ := ⟨i4, h4, a4, b4, H⟩;have c0 := H.atL 1 rfl cEnt_len he (r := 0) rfl;have c1 := H.atL 1 rfl cEnt_len he (r := 1) rfl;have c2 := H.atL 1 rfl cEnt_len he (r := 2) rfl;have c3 := H.atL 1 rfl cEnt_len he (r := 3) rfl;have f0 := H.free 1 rfl (k * 4);have f1 := H.free 1 rfl (k * 4 + 1);have f2 := H.free 1 rfl (k * 4 + 2);have f3 := H.free 1 rfl (k * 4 + 3);simp only [Nat.add_zero] at c0;obtain rfl | rfl | rfl | rfl | rfl : y = 0 ∨ y = 1 ∨ y = 2 ∨ y = 3 ∨ y = 4 := by omega
    ·
     go_wp2_with fail;go_ret;exact DrewD.mk (HF.out.set k HE2.out) (by rw [List.length_set]) (K5.putE k 0 (_, e1, e2, e3) _ he (by decide) rfl)
    ·clear c0 c1 c2 c3 f0 f1 f2 f3 H
     go_wp2_with fail;refine (K5.pick QQ.out [-1, 3, 12, 13] (m := 4) rfl (by decide) (by decide) rfl).mono ?_;rintro e w5 ⟨z, rfl, _, K5⟩;obtain ⟨i5, h5, a5, b5, H⟩ := id K5;have c1 := H.atL 1 rfl cEnt_len he (r := 1) rfl;have f1 := H.free 1 rfl (k * 4 + 1);clear H;go_wp2_with fail;go_ret;exact DrewD.mk (HF.out.set k HE2.out) (by rw [List.length_set]) (K5.putE k 1 (e0, z, e2, e3) _ he (by decide) rfl)
    ·clear c0 c1 c2 c3 f0 f1 f2 f3 H
     go_wp2_with fail;refine (K5.name QQ.out).mono ?_;rintro e w5 ⟨s, rfl, hs, K5⟩;obtain ⟨i5, h5, a5, b5, H⟩ := id K5;have c1 := H.atL 1 rfl cEnt_len he (r := 2) rfl;have f1 := H.free 1 rfl (k * 4 + 2);clear H;go_wp2_with fail;go_ret;exact DrewD.mk (HF.out.set k (show s.size ≤ 16777216 by omega)) (by rw [List.length_set]) (K5.putE k 2 (e0, e1, s, e3) _ he (by decide) rfl)
    ·clear c0 c1 c2 c3 f0 f1 f2 f3 H
     go_wp2_with fail;refine (K5.pick QQ.out [0, 100000, 100001] (m := 3) rfl (by decide) (by decide) rfl).mono ?_;rintro e w5 ⟨z, rfl, _, K5⟩;obtain ⟨i5, h5, a5, b5, H⟩ := id K5;have c1 := H.atL 1 rfl cEnt_len he (r := 3) rfl;have f1 := H.free 1 rfl (k * 4 + 3);clear H;go_wp2_with fail;go_ret;exact DrewD.mk (HF.out.set k HE2.out) (by rw [List.length_set]) (K5.putE k 3 (e0, e1, e2, z) _ he (by decide) rfl)
    ·clear f0 f1 f2 f3 K5
     go_wp2_with (at_builtin; refine wp_appL (f := cEnt) (H) rfl _ _ _ rfl Tryz.underlying74 infoEnt rfl (by decide) 1 _ _ rfl rfl _ _ (((e0, e1, e2, e3) : EntT)) rfl (by simp) rfl (by simp [cEnt, Value.oneCell']) (by first | (simp only [maxLen]; omega) | (simp [maxLen]; done) | (simp [maxLen]; omega)) (by first | omega | (simp; done) | (simp; omega)) ?_)
     intro v5 w5 H5;obtain ⟨B5, q5, rfl⟩ := H5.shape 1 rfl;have HH := Lib.hid H5;clear H H5 c0 c1 c2 c3;go_wp2_with fail;go_ret;refine DrewD.mk (es := es ++ [(e0, e1, e2, e3)]) ⟨by simp; omega, fun x hx => ?_⟩ (by simp) ⟨i4, h4, a4, b4, by rw [List.flatMap_append]; simpa using HH.out⟩
     rcases List.mem_append.1 hx with h | h
     ·exact HF.out.2 x h
     ·rw [List.mem_singleton.1 h]; exact HE2.out
end Go.Proofs.YtllonpbhgbhogaaGreatDoor
