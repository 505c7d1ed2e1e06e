/-
  Many texts in one: VolLinks, MReadC, MParse, MTxn, Fixed, VolLinksS.
-/
import Derived.Test.YtmpldngnkacnmaaGreatDoorGi
import Derived.Test.YtmpldngnkacnmaaGreatDoorGc
import Derived.Test.YtmpldngnkacnmaaGreatDoorGb
set_option linter.unusedVariables false
set_option linter.unusedSimpArgs false
namespace Go.Proofs.YtmpldngnkacnmaaGreatDoor
open Go.RowKit
def FewE (L : List (Value × Nod)) : Prop := ∀ p ∈ L, p.2.2.2.2.2.length ≤ 1048576
theorem entsN_le (es : List EntT) (id : Int) : entsN es id ≤ es.length := List.countP_le_length
theorem namedN_le {L : List (Value × Nod)} (h : FewE L) (id : Int) : ∀ k, k ≤ L.length → namedN ((nodes L).take k) id ≤ k * 1048576
 | 0, _ => by simp [namedN]
 | k + 1, hk => by
   obtain ⟨p, hp⟩ : ∃ p, L[k]? = some p := ⟨_, List.getElem?_eq_getElem (by omega)⟩;rw [namedN_take (nodes_at hp)];have h1 := namedN_le h id k (by omega);have h2 := entsN_le p.2.2.2.2.2 id;have h3 := h p (List.mem_of_getElem? hp);omega
theorem entsN_all {es : List EntT} {m : Nat} (h : es.length = m) (id : Int) : entsN (es.take m) id = entsN es id := by rw [List.take_of_length_le (by omega)]
set_option maxRecDepth 100000 in
set_option maxHeartbeats 4000000 in
theorem implLinks_any (next : Int) (A : Option Addr) (n c : Nat) (L : List (Value × Nod)) (id : Int) (w : World) (h : RdN w A n L) (hn : n ≤ 1048576) (hfew : FewE L) :
 Calls Tryz.prog 101 #[.agg #[.int .i64 next, .slice A n c], .int .i64 id] w fun e w' => e = .returned (.int .i64 (namedN (nodes L) id)) ∧ Fr w w' := by
 have HL := Lib.hid h.len;have HR := Lib.hid h;have HFE := Lib.hid hfew;have HB := Lib.hid (fun k hk => namedN_le hfew id k hk);have HF0 := Lib.hid ((Hp.start w).lay_ 28 [.int .i64 next, .slice A n c] rfl).fr;obtain ⟨z, hz⟩ : ∃ z : Nat, z = namedN (nodes L) id := ⟨_, rfl⟩;rw [← hz];have HZ := Lib.hid hz;clear hz h hfew;go_enter Tryz.func101, Tryz.ntmps101;go_wp2_with fail
 go_loopw [5, 13] (fun cv iv wr => ∃ i k : Nat, iv = .int .i64 i ∧ cv = .int .i64 k ∧ i ≤ n ∧ k = namedN ((nodes L).take i) id ∧ Fr w wr) (fun _ iv _ => n - (intOf iv).toNat)
 case atStart => exact ⟨0, 0, rfl, rfl, by omega, rfl, HF0.out⟩
 case round =>
  obtain ⟨i, k, rfl, rfl, hi, hk, hf⟩ := hrel;have HKE := Lib.hid hk;have HF := Lib.hid hf;have hkb : k ≤ i * 1048576 := by rw [hk]; exact HB.out i (by rw [HL.out]; exact hi)
  clear hk hf;have hi0 : (0 : Int) ≤ (i : Int) := by omega
  by_cases hlt : i < n
  ·have hi1 : (i : Int) < (n : Int) := by omega
   obtain ⟨⟨v, x0, x1, x2, x3, es⟩, hx⟩ := some_at HL.out hlt;have hm := HFE.out _ (List.mem_of_getElem? hx);obtain ⟨bk, of, B1, d1, rfl, e1, r1, c1⟩ := (HR.out.fr HF.out).elem hx;simp only at e1 r1 hm;subst e1;have ca0 := c1 0 _ rfl; simp only [Nat.add_zero] at ca0;have ca1 := c1 1 _ rfl;have ca2 := c1 2 _ rfl;have ca3 := c1 3 _ rfl;have ca4 := c1 4 _ rfl;have HX := Lib.hid (nodes_at hx);have H2 := ((Hp.start w).go HF.out).lay_ 53 [.int .i64 x0, .int .i64 x1, .int .i64 x2, .string x3, .slice B1 es.length d1] rfl;have HF2 := Lib.hid H2.fr;have HR1 := Lib.hid (r1.fr (((Hp.start wr).lay_ 53 [.int .i64 x0, .int .i64 x1, .int .i64 x2, .string x3, .slice B1 es.length d1] rfl).fr));obtain ⟨m, hmm⟩ : ∃ m, m = es.length := ⟨_, rfl⟩;have HM := Lib.hid hmm.symm;rw [← hmm] at hm ca4 HF2 HR1;clear hx c1 r1 H2 hmm;obtain ⟨wA, hwA⟩ : ∃ x, x = wr.alloc (.cells #[.int .i64 x0, .int .i64 x1, .int .i64 x2, .string x3, .slice B1 m d1] 53) := ⟨_, rfl⟩;have HR2 := Lib.hid (show Rd wA B1 m 4 (es.flatMap cEnt) by rw [hwA]; exact HR1.out);have HF3 := Lib.hid (show Fr w wA by rw [hwA]; exact HF2.out);have HWA := Lib.hid hwA;clear hwA HR1 HF2;go_wp2_with fail
   go_loopw [5, 20] (fun cv jv wq => ∃ j q : Nat, jv = .int .i64 j ∧ cv = .int .i64 q ∧ j ≤ m ∧ q = k + entsN (es.take j) id ∧ Fr wA wq) (fun _ jv _ => m - (intOf jv).toNat)
   case atStart => exact ⟨0, k, rfl, rfl, by omega, by simp [entsN], by rw [HWA.out]; exact Below.refl _ _⟩
   case round =>
    obtain ⟨j, q, rfl, rfl, hj, hq, hf⟩ := hrel;have HQE := Lib.hid hq;have HFQ := Lib.hid hf;have hqb : q ≤ k + m := by
     have h1 := entsN_le (es.take j) id;rw [List.length_take] at h1;omega
    clear hq hf;have hj0 : (0 : Int) ≤ (j : Int) := by omega
    by_cases hjt : j < m
    ·have hj1 : (j : Int) < (m : Int) := by omega
     obtain ⟨⟨y0, y1, y2, y3⟩, hy⟩ := some_at HM.out hjt;obtain ⟨bq, oq, rfl, hcell⟩ := (HR2.out.fr HFQ.out).elem cEnt_len hy (by omega);have cb0 := hcell 0 _ rfl; simp only [Nat.add_zero] at cb0;have cb1 := hcell 1 _ rfl;have cb2 := hcell 2 _ rfl;have cb3 := hcell 3 _ rfl;have HES := Lib.hid (entsN_take hy id);have HF4 := Lib.hid (HFQ.out.then ((Hp.start _).lay_ 90 [.int .i64 y0, .int .i64 y1, .string y2, .int .i64 y3] rfl).fr);clear hy hcell
     by_cases he : y3 = id
     ·have HE := Lib.hid (show q + 1 = k + entsN (es.take (j + 1)) id by rw [HES.out, HQE.out, if_pos he]; omega)
      subst he;go_wp2_with fail;go_roundw
      case rel => exact ⟨j + 1, q + 1, by go_num, by go_num, by omega, HE.out, HF4.out⟩
      case measure => simp [intOf]; omega
     ·have HE := Lib.hid (show q = k + entsN (es.take (j + 1)) id by rw [HES.out, HQE.out, if_neg he]; rfl)
      have he2 : (y3 == id) = false := by simpa using he
      go_wp2_with fail;go_roundw
      case rel => exact ⟨j + 1, q, by go_num, rfl, by omega, HE.out, HF4.out⟩
      case measure => simp [intOf]; omega
    ·have hj1 : ¬ (j : Int) < (m : Int) := by omega
     have HE := Lib.hid (show q = namedN ((nodes L).take (i + 1)) id by
      rw [namedN_take HX.out, HQE.out, HKE.out, show j = m by omega, entsN_all HM.out])
     have HF5 := Lib.hid (HF3.out.then HFQ.out);go_wp2_with fail;go_roundw
     case rel => exact ⟨i + 1, q, by go_num, rfl, by omega, HE.out, HF5.out⟩
     case measure => simp [intOf]; omega
  ·have hi1 : ¬ (i : Int) < (n : Int) := by omega
   have HE := Lib.hid (show z = k by
    rw [HZ.out, HKE.out, List.take_of_length_le (by rw [nodes_len, HL.out]; omega)])
   go_wp2_with fail;go_ret;rw [HE.out];exact ⟨rfl, HF.out⟩
end Go.Proofs.YtmpldngnkacnmaaGreatDoor
namespace Go.Proofs.YtmpldngnkacnmaaGreatDoor
open Go.RowKit
theorem entP_size (st : Sc) : (entP st).1.2.2.1.size ≤ st.1.length := by
 have h1 := pieceP_size (numP st).2;have h2 := numP_len st
 show (ofB (pieceP (numP st).2).1).size ≤ _
 rw [ofB_size]; omega
theorem entsP_names (st : Sc) : ∀ k, ∀ e ∈ (entsP st k).1, e.2.2.1.size ≤ st.1.length
 | 0, e, he => by simp [entsP] at he
 | k + 1, e, he => by
   rw [entsP] at he
   rcases List.mem_append.1 he with h | h
   ·exact entsP_names st k e h
   ·rw [List.mem_singleton.1 h]
    exact Nat.le_trans (entP_size _) (entsP_sz st k)
theorem nodP6_len (t : List UInt8) : (nodP6 t).2.1.length ≤ t.length ∧ (nodP5 t).1.length ≤ t.length := by
 have h1 := cutP_len (t, false) 1;have h2 := numP_len (nodP1 t);have h3 := numP_len (nodP2 t).2;have h4 := numP_len (nodP3 t).2;have h5 := pieceP_len (nodP4 t).2;have h6 := manyP_len (nodP5 t).2 12;have h7 := pieceP_size (nodP4 t).2;have e1 : nodP1 t = (cutP (t, false) 1).2 := rfl;have e2 : nodP2 t = numP (nodP1 t) := rfl;have e3 : nodP3 t = numP (nodP2 t).2 := rfl;have e4 : nodP4 t = numP (nodP3 t).2 := rfl;have e5 : nodP5 t = pieceP (nodP4 t).2 := rfl;have e6 : nodP6 t = manyP (nodP5 t).2 12 := rfl;rw [← e1] at h1;rw [← e2] at h2;rw [← e3] at h3;rw [← e4] at h4;rw [← e5] at h5 h7;rw [← e6] at h6;simp only at h1;omega
theorem nodR_few (t : List UInt8) : (nodR t).1.2.2.2.2.length ≤ 12 := by
 show (nodP7 t).1.length ≤ 12
 rw [nodP7, entsP_len];exact manyP_le _ _
theorem nodR_names (t : List UInt8) : ∀ e ∈ (nodR t).1.2.2.2.2, e.2.2.1.size ≤ t.length := fun e he =>
 Nat.le_trans (entsP_names _ _ e he) (nodP6_len t).1
theorem nodR_data (t : List UInt8) : (nodR t).1.2.2.2.1.size ≤ t.length := by
 show (ofB (nodP5 t).1).size ≤ _
 rw [ofB_size]; exact (nodP6_len t).2
theorem pieceB_le (s : ByteArray) : (pieceB s).length ≤ 7 + s.size := by
 rw [pieceB, List.length_append, toB_len];have := varB_len (s.size : Int);omega
theorem entB_le (e : EntT) {m : Nat} (h : e.2.2.1.size ≤ m) : (entB e).length ≤ 21 + m := by
 simp only [entB, List.length_append];have h1 := varB_len e.2.1;have h2 := varB_len e.2.2.2;have h3 := pieceB_le e.2.2.1;omega
theorem flatE_le {m : Nat} : ∀ (es : List EntT), (∀ e ∈ es, e.2.2.1.size ≤ m) → (es.flatMap entB).length ≤ es.length * (21 + m)
 | [], _ => by simp
 | e :: es, h => by
   rw [List.flatMap_cons, List.length_append, List.length_cons, Nat.add_mul];have h1 := entB_le e (h e List.mem_cons_self);have h2 := flatE_le es fun x hx => h x (List.mem_cons_of_mem _ hx);omega
theorem nodeB_le {x : Nod} {m : Nat} (hm : m ≤ 16777216) (h1 : x.2.2.2.1.size ≤ m) (h2 : x.2.2.2.2.length ≤ 12) (h3 : ∀ e ∈ x.2.2.2.2, e.2.2.1.size ≤ m) : (nodeB x).length ≤ 2199023255552 := by
 obtain ⟨x0, x1, x2, x3, es⟩ := x;simp only at h1 h2 h3;have k1 := flatE_le es h3;have k2 : es.length * (21 + m) ≤ 12 * (21 + m) := Nat.mul_le_mul_right _ h2;have k3 := pieceB_le x3;have v0 := varB_len x0;have v1 := varB_len x1;have v2 := varB_len x2;have v3 := varB_len (es.length : Int);simp only [nodeB, List.length_append, List.length_cons];omega
def ReadSz (L : List (Value × Nod)) : Prop := ∀ p ∈ L, p.2.2.2.2.1.size ≤ 16777216 ∧ p.2.2.2.2.2.length ≤ 12 ∧ ∀ e ∈ p.2.2.2.2.2, e.2.2.1.size ≤ 16777216
theorem ReadSz.few {L : List (Value × Nod)} (h : ReadSz L) : FewE L := fun p hp => by have := (h p hp).2.1; omega
theorem ReadSz.nod {L : List (Value × Nod)} (h : ReadSz L) : NodSz L := fun p hp => by
 obtain ⟨h1, h2, h3⟩ := h p hp;exact ⟨by omega, by omega, nodeB_le (Nat.le_refl _) h1 h2 h3⟩
theorem ReadSz.snoc {L : List (Value × Nod)} (h : ReadSz L) {V : Value} {t : List UInt8} (ht : t.length ≤ 16777216) : ReadSz (L ++ [(V, (nodR t).1)]) := fun p hp => by
 rcases List.mem_append.1 hp with h1 | h1
 ·exact h p h1
 ·rw [List.mem_singleton.1 h1]
  exact ⟨Nat.le_trans (nodR_data t) ht, nodR_few t, fun e he => Nat.le_trans (nodR_names t e he) ht⟩
theorem own_cap {w : World} {b : Nat} {E : TypeId} {k n c : Nat} {A : Option Addr} {xs : List Value} (h : w.ownsRow b E k (.slice A n c) n xs) : n ≤ c := by
 rcases h.2 with ⟨e, e2⟩ | ⟨g, cap, cur, e, _, _, h1, _⟩
 ·omega
 ·injection e with _ _ e
  rw [e]; exact h1
def ReadGave (w : World) (l : List ByteArray) (e : Ending) (w' : World) : Prop := match readB l with
 | none => e = .returned (.tuple #[.agg #[.int .i64 0, .slice none 0 0], .bool false]) ∧ Fr w w'
 | some p => ∃ (A : Option Addr) (c : Nat) (L : List (Value × Nod)), nodes L = p.2 ∧ volB p.1 p.2 = true ∧ blocksB p.1 p.2 = l ∧ ReadSz L ∧ e = .returned (.tuple #[.agg #[.int .i64 p.1, .slice A L.length c], .bool true]) ∧ L.length ≤ c ∧ Hp [] w w' [obN (.slice A L.length c) L.length L]
theorem readGave_no {w w' : World} {l : List ByteArray} (h : readB l = none) (f : Fr w w') : ReadGave w l (.returned (.tuple #[.agg #[.int .i64 0, .slice none 0 0], .bool false])) w' := by
 unfold ReadGave; rw [h]; exact ⟨rfl, f⟩
theorem readGave_yes {w w' : World} {l : List ByteArray} {next : Int} {A : Option Addr} {c : Nat} {L : List (Value × Nod)} (h1 : volB next (nodes L) = true) (h2 : blocksB next (nodes L) = l) (hs : ReadSz L) (hc : L.length ≤ c) (H : Hp [] w w' [obN (.slice A L.length c) L.length L]) :
 ReadGave w l (.returned (.tuple #[.agg #[.int .i64 next, .slice A L.length c], .bool true])) w' := by
 unfold ReadGave; rw [readB_yes h1 h2];exact ⟨A, c, L, rfl, h1, h2, hs, rfl, hc, H⟩
theorem nodes_snoc (L : List (Value × Nod)) (p : Value × Nod) : nodes (L ++ [p]) = nodes L ++ [p.2] := by simp [nodes]
theorem txt_at {l : List ByteArray} {k : Nat} {t : ByteArray} (h : l[k]? = some t) : txt l k = toB t := by rw [txt, h]
theorem nodesP_take (l : List ByteArray) (k : Nat) : nodesP l (k + 1) = nodesP l k ++ [(nodR (txt l (k + 1))).1] := rfl
end Go.Proofs.YtmpldngnkacnmaaGreatDoor
namespace Go.Proofs.YtmpldngnkacnmaaGreatDoor
open Go.RowKit
def varsP (s : List UInt8) (o : Option Nat) : Nat → List Nat × Option Nat
 | 0 => ([], o)
 | k + 1 => match (varsP s o k).2 with
   | none => ((varsP s o k).1, none)
   | some a => if s.length < a then ((varsP s o k).1, none) else if (readV (s.drop a)).2 = 0 then ((varsP s o k).1, none) else ((varsP s o k).1 ++ [(readV (s.drop a)).1], some (a + (readV (s.drop a)).2))
def num1 (p : List Nat × Option Nat) : Nat := p.1.headD 0
def takeP (s : List UInt8) (o : Option Nat) : List UInt8 × Option Nat := match (varsP s o 1).2 with
 | none => ([], none)
 | some k => if s.length - k < num1 (varsP s o 1) then ([], none) else ((s.drop k).take (num1 (varsP s o 1)), some (k + num1 (varsP s o 1)))
theorem vars_none (s : List UInt8) : ∀ k, (varsP s none k).2 = none ∧ (varsP s none k).1 = []
 | 0 => ⟨rfl, rfl⟩
 | k + 1 => by
   obtain ⟨h1, h2⟩ := vars_none s k;rw [varsP, h1]; exact ⟨rfl, h2⟩
theorem vars_in {s : List UInt8} {o : Option Nat} {k a : Nat} (h : (varsP s o (k + 1)).2 = some a) : a ≤ s.length ∧ (varsP s o (k + 1)).1.length = (varsP s o k).1.length + 1 ∧ ∃ b, (varsP s o k).2 = some b := by
 rw [varsP] at h ⊢
 cases hb : (varsP s o k).2 with
 | none => rw [hb] at h; cases h
 | some b =>
   rw [hb] at h;simp only at h ⊢
   split at h
   ·cases h
   ·split at h
    ·cases h
    ·rename_i h1 h2
     rw [if_neg h1, if_neg h2];have := (readV_le (s.drop b)).1;rw [List.length_drop] at this;injection h with h;exact ⟨by omega, by simp, b, rfl⟩
theorem vars_len {s : List UInt8} {o : Option Nat} : ∀ {k a : Nat}, (varsP s o k).2 = some a → (varsP s o k).1.length = k
 | 0, a, _ => rfl
 | k + 1, a, h => by
   obtain ⟨_, h2, b, hb⟩ := vars_in h;rw [h2, vars_len hb]
def Lf (s : List UInt8) (a : Nat) (r : List UInt8) : Prop := a ≤ s.length ∧ s.drop a = r
theorem Lf.next {s : List UInt8} {a : Nat} {p r : List UInt8} (h : Lf s a (p ++ r)) : Lf s (a + p.length) r := by
 have hl : (s.drop a).length = p.length + r.length := by rw [h.2, List.length_append]
 rw [List.length_drop] at hl;have := h.1;refine ⟨by omega, ?_⟩;rw [← List.drop_drop, h.2, List.drop_left' rfl]
theorem vars_app {s : List UInt8} {o : Option Nat} {k a n : Nat} {l : List Nat} {r : List UInt8} (h : varsP s o k = (l, some a)) (hn : n ≤ 562949953421311) (hl : Lf s a (varT n ++ r)) :
 varsP s o (k + 1) = (l ++ [n], some (a + (varT n).length)) ∧ Lf s (a + (varT n).length) r := by
 refine ⟨?_, hl.next⟩;have hz := varT_pos n;rw [varsP, h];simp only;rw [if_neg (by have := hl.1; omega), hl.2, readV_app hn];simp only;rw [if_neg (by omega)]
theorem vars_ex {s : List UInt8} {o : Option Nat} {k a n : Nat} {l : List Nat} {r : List UInt8} (h : varsP s o k = (l, some a)) (hn : n ≤ 562949953421311) (hl : Lf s a (varT n ++ r)) :
 ∃ b, varsP s o (k + 1) = (l ++ [n], some b) ∧ Lf s b r := ⟨_, vars_app h hn hl⟩
theorem takeP_some {s : List UInt8} {o : Option Nat} {k n : Nat} (h : (varsP s o 1).2 = some k) (hn : num1 (varsP s o 1) = n) : takeP s o = if s.length - k < n then ([], none) else ((s.drop k).take n, some (k + n)) := by
 subst hn; unfold takeP; rw [h]
theorem takeP_none {s : List UInt8} {o : Option Nat} (h : (varsP s o 1).2 = none) : takeP s o = ([], none) := by
 unfold takeP; rw [h]
theorem take_app {s : List UInt8} {a : Nat} {l r : List UInt8} (hn : l.length ≤ 562949953421311) (hl : Lf s a (varT l.length ++ (l ++ r))) : ∃ b, takeP s (some a) = (l, some b) ∧ Lf s b r := by
 obtain ⟨h1, h2⟩ := vars_app (k := 0) (o := some a) (l := []) rfl hn hl;refine ⟨_, ?_, h2.next⟩;have h3 : (s.drop (a + (varT l.length).length)).length = l.length + r.length := by rw [h2.2, List.length_append]
 rw [List.length_drop] at h3;rw [takeP_some (n := l.length) (congrArg Prod.snd h1) (by rw [h1]; rfl), if_neg (by omega), h2.2, List.take_left' rfl]
def prsE (s : List UInt8) (o : Option Nat) : EntT × Option Nat :=
 ((hashN (takeP s (varsP s o 1).2).1, (num1 (varsP s o 1) : Int), ofB (takeP s (varsP s o 1).2).1, (num1 (varsP s (takeP s (varsP s o 1).2).2 1) : Int)), (varsP s (takeP s (varsP s o 1).2).2 1).2)
theorem prsE_app {s : List UInt8} {a : Nat} {e : EntT} {r : List UInt8} (hf : FineE e) (h : Lf s a (entB e ++ r)) : ∃ b, prsE s (some a) = (e, some b) ∧ Lf s b r := by
 obtain ⟨h1, h2, h3, h4, h5, h6⟩ := hf;obtain ⟨e0, e1, e2, e3⟩ := e;simp only at h1 h2 h3 h4 h5 h6;have hl : (toB e2).length = e2.size := toB_len e2;have hb : entB (e0, e1, e2, e3) ++ r = varT e1.toNat ++ (varT (toB e2).length ++ (toB e2 ++ (varT e3.toNat ++ r))) := by
  simp only [entB, pieceB, varB_int h2 (by omega), varB_int h4 (by omega), varB_nat (show e2.size ≤ 562949953421311 by omega), hl, List.append_assoc]
 rw [hb] at h;obtain ⟨a1, k1, l1⟩ := vars_ex (k := 0) (o := some a) (l := []) rfl (by omega) h;obtain ⟨b, k2, l2⟩ := take_app (by omega) l1;obtain ⟨a3, k3, l3⟩ := vars_ex (k := 0) (o := some b) (l := []) rfl (by omega) l2;refine ⟨a3, ?_, l3⟩;rw [prsE, k1];simp only [List.nil_append];rw [k2];simp only;rw [k3];simp only [num1, List.nil_append, List.headD_cons, ofB_toB];rw [h1, Int.toNat_of_nonneg h2, Int.toNat_of_nonneg h4]
def prsEs (s : List UInt8) (o : Option Nat) : Nat → List EntT × Option Nat
 | 0 => ([], o)
 | k + 1 => ((prsEs s o k).1 ++ [(prsE s (prsEs s o k).2).1], (prsE s (prsEs s o k).2).2)
theorem prsEs_app : ∀ (n : Nat) (es : List EntT) (s : List UInt8) (a : Nat) (r : List UInt8), es.length = n → (∀ e ∈ es, FineE e) → Lf s a (es.flatMap entB ++ r) → ∃ b, prsEs s (some a) n = (es, some b) ∧ Lf s b r ∧ ∀ k, k ≤ n → ∃ c, (prsEs s (some a) k).2 = some c
 | 0, es, s, a, r, hn, _, h => by
   rw [List.eq_nil_of_length_eq_zero hn] at h ⊢;exact ⟨a, rfl, h, fun k hk => ⟨a, by rw [show k = 0 by omega]; rfl⟩⟩
 | n + 1, es, s, a, r, hn, hf, h => by
   rcases List.eq_nil_or_concat es with rfl | ⟨p, e, rfl⟩
   ·simp at hn
   rw [List.concat_eq_append] at hn hf h ⊢;rw [List.flatMap_append, List.flatMap_singleton, List.append_assoc] at h;obtain ⟨b, k1, l1, k2⟩ := prsEs_app n p s a (entB e ++ r) (by simpa using hn) (fun x hx => hf x (List.mem_append_left _ hx)) h;obtain ⟨c, k3, l3⟩ := prsE_app (hf e (by simp)) l1;refine ⟨c, by rw [prsEs, k1]; simp only [k3], l3, fun k hk => ?_⟩
   rcases Nat.lt_or_eq_of_le hk with h9 | h9
   ·exact k2 k (by omega)
   ·rw [h9, prsEs, k1]
    exact ⟨c, by simp only [k3]⟩
def prA (t : List UInt8) : List Nat × Option Nat := varsP t (some 1) 3
def prB (t : List UInt8) : List UInt8 × Option Nat := takeP t (prA t).2
def prC (t : List UInt8) : List Nat × Option Nat := varsP t (prB t).2 1
def prD (t : List UInt8) : List EntT × Option Nat := prsEs t (prC t).2 (num1 (prC t))
def prN (t : List UInt8) : Nod := (((prA t).1.getD 0 0 : Int), ((prA t).1.getD 1 0 : Int), ((prA t).1.getD 2 0 : Int), ofB (prB t).1, (prD t).1)
theorem prs_app {x : Nod} (h : FineN x) : (∃ a, (prC (nodeB x)).2 = some a) ∧ num1 (prC (nodeB x)) = x.2.2.2.2.length ∧ (∀ k, k ≤ x.2.2.2.2.length → ∃ c, (prsEs (nodeB x) (prC (nodeB x)).2 k).2 = some c) ∧ (prD (nodeB x)).2 = some (nodeB x).length ∧ prN (nodeB x) = x := by
 obtain ⟨h1, h2, h3, h4, h5, h6, h7, h8, h9⟩ := h;obtain ⟨x0, x1, x2, x3, es⟩ := x;simp only at h1 h2 h3 h4 h5 h6 h7 h8 h9;have hl : (toB x3).length = x3.size := toB_len x3;have hb : nodeB (x0, x1, x2, x3, es) = [105] ++ (varT x0.toNat ++ (varT x1.toNat ++ (varT x2.toNat ++ (varT (toB x3).length ++ (toB x3 ++ (varT es.length ++ (es.flatMap entB ++ []))))))) := by
  simp only [nodeB, pieceB, varB_int h1 (by omega), varB_int h3 (by omega), varB_int h5 (by omega), varB_nat (show x3.size ≤ 562949953421311 by omega), varB_nat (show es.length ≤ 562949953421311 by omega), hl, List.append_assoc, List.append_nil, List.cons_append, List.nil_append]
 obtain ⟨T, hT⟩ : ∃ T, T = nodeB (x0, x1, x2, x3, es) := ⟨_, rfl⟩;rw [← hT] at hb ⊢;have l0 : Lf T 1 (varT x0.toNat ++ (varT x1.toNat ++ (varT x2.toNat ++ (varT (toB x3).length ++ (toB x3 ++ (varT es.length ++ (es.flatMap entB ++ []))))))) := by
  have : Lf T 0 ([105] ++ (varT x0.toNat ++ (varT x1.toNat ++ (varT x2.toNat ++ (varT (toB x3).length ++ (toB x3 ++ (varT es.length ++ (es.flatMap entB ++ [])))))))) := ⟨by omega, by rw [List.drop_zero, hb]⟩;exact this.next
 obtain ⟨a1, k1, l1⟩ := vars_ex (k := 0) (o := some 1) (l := []) rfl (by omega) l0;obtain ⟨a2, k2, l2⟩ := vars_ex k1 (by omega) l1;obtain ⟨a3, k3, l3⟩ := vars_ex k2 (by omega) l2;obtain ⟨b, k4, l4⟩ := take_app (by omega) l3;obtain ⟨a5, k5, l5⟩ := vars_ex (k := 0) (o := some b) (l := []) rfl (by omega) l4;obtain ⟨c, k6, l6, k7⟩ := prsEs_app es.length es T a5 [] rfl h9 l5;have e1 : prA T = ([x0.toNat, x1.toNat, x2.toNat], some a3) := k3;have e2 : prB T = (toB x3, some b) := by rw [prB, e1]; exact k4
 have e3 : prC T = ([es.length], some a5) := by rw [prC, e2]; exact k5
 have e4 : prD T = (es, some c) := by rw [prD, e3]; exact k6
 have hc : c = T.length := by
  have := congrArg List.length l6.2;rw [List.length_drop] at this;have := l6.1;simp at *;omega
 refine ⟨⟨_, by rw [e3]⟩, by rw [e3]; rfl, fun k hk => by rw [e3]; exact k7 k hk, by rw [e4, hc], ?_⟩;rw [prN, e1, e2, e4];simp only [List.getD_cons_zero, List.getD_cons_succ, ofB_toB, Int.toNat_of_nonneg h1, Int.toNat_of_nonneg h3, Int.toNat_of_nonneg h5]
def prH (t : List UInt8) : List Nat × Option Nat := varsP t (some 1) 2
def prNs (l : List ByteArray) : Nat → List Nod
 | 0 => []
 | k + 1 => prNs l k ++ [prN (txt l (k + 1))]
theorem prNs_len (l : List ByteArray) : ∀ k, (prNs l k).length = k
 | 0 => rfl
 | k + 1 => by rw [prNs, List.length_append, prNs_len l k]; rfl
theorem prH_app {next : Int} {n : Nat} (h0 : 0 ≤ next) (h1 : next ≤ 1000000) (hn : n ≤ 16) : ∃ a, prH (headB next n) = ([next.toNat, n], some a) := by
 have hb : headB next n = [117] ++ (varT next.toNat ++ (varT n ++ [])) := by
  simp only [headB, varB_int h0 (by omega), varB_nat (show n ≤ 562949953421311 by omega), List.append_nil, List.cons_append, List.nil_append]
 have l0 : Lf (headB next n) 1 (varT next.toNat ++ (varT n ++ [])) := by
  have : Lf (headB next n) 0 ([117] ++ (varT next.toNat ++ (varT n ++ []))) := ⟨by omega, by rw [List.drop_zero, hb]⟩;exact this.next
 obtain ⟨a1, k1, l1⟩ := vars_ex (k := 0) (o := some 1) (l := []) rfl (by omega) l0;obtain ⟨a2, k2, l2⟩ := vars_ex k1 (by omega) l1;exact ⟨a2, k2⟩
theorem prNs_app {next : Int} {ns : List Nod} (hn : ns.length ≤ 16) (hf : ∀ x ∈ ns, FineN x) : ∀ k, k ≤ ns.length → prNs (blocksB next ns) k = ns.take k
 | 0, _ => by simp [prNs]
 | k + 1, hk => by
   obtain ⟨x, hx⟩ : ∃ x, ns[k]? = some x := ⟨_, List.getElem?_eq_getElem (by omega)⟩;rw [prNs, prNs_app hn hf k (by omega), blocksB_at (by omega) hx, (prs_app (hf x (List.mem_of_getElem? hx))).2.2.2.2, List.take_add_one, hx]; rfl
theorem prs_back {next : Int} {ns : List Nod} (h : VolR next ns) : (∃ a, prH (txt (blocksB next ns) 0) = ([next.toNat, ns.length], some a)) ∧
 (∀ k, k < ns.length → ∃ x, txt (blocksB next ns) (k + 1) = nodeB x ∧ FineN x) ∧ prNs (blocksB next ns) ns.length = ns := by
 have hl := h.len;have hf := nod_fine h;rw [blocksB_0];refine ⟨prH_app (by have := h.lo; omega) (by have := h.hi; omega) hl.2, fun k hk => ?_, by rw [prNs_app hl.2 hf _ (Nat.le_refl _), List.take_length]⟩;obtain ⟨x, hx⟩ : ∃ x, ns[k]? = some x := ⟨_, List.getElem?_eq_getElem hk⟩;exact ⟨x, blocksB_at (by omega) hx, hf x (List.mem_of_getElem? hx)⟩
theorem readS_no1 {l : List ByteArray} (h : (prH (txt l 0)).2 = none) : readB l = none := readB_no fun next ns hv hb => by
 obtain ⟨⟨a, h1⟩, _, _⟩ := prs_back (volB_R hv);rw [hb] at h1;rw [h1] at h; cases h
theorem readS_no2 {l : List ByteArray} (h : 16 < (prH (txt l 0)).1.getD 1 0) : readB l = none := readB_no fun next ns hv hb => by
 obtain ⟨⟨a, h1⟩, _, _⟩ := prs_back (volB_R hv);rw [hb] at h1;rw [h1] at h;have := (volB_R hv).len.2;simp at h;omega
theorem readS_no3 {l : List ByteArray} {k : Nat} (hk : k < (prH (txt l 0)).1.getD 1 0) (h : ∀ x, FineN x → txt l (k + 1) ≠ nodeB x) : readB l = none := readB_no fun next ns hv hb => by
 obtain ⟨⟨a, h1⟩, h2, _⟩ := prs_back (volB_R hv);rw [hb] at h1 h2;rw [h1] at hk;obtain ⟨x, hx, hf⟩ := h2 k (by simpa using hk);exact h x hf hx
theorem readS_no4 {l : List ByteArray} (h : volB ((prH (txt l 0)).1.getD 0 0 : Int) (prNs l ((prH (txt l 0)).1.getD 1 0)) = false) : readB l = none := readB_no fun next ns hv hb => by
 obtain ⟨⟨a, h1⟩, _, h3⟩ := prs_back (volB_R hv);rw [hb] at h1 h3;rw [h1] at h;simp only [List.getD_cons_zero, List.getD_cons_succ] at h;rw [h3, Int.toNat_of_nonneg (by have := (volB_R hv).lo; omega), hv] at h
 cases h
theorem readS_no5 {l : List ByteArray} (h : blocksB ((prH (txt l 0)).1.getD 0 0 : Int) (prNs l ((prH (txt l 0)).1.getD 1 0)) ≠ l) : readB l = none := readB_no fun next ns hv hb => by
 obtain ⟨⟨a, h1⟩, _, h3⟩ := prs_back (volB_R hv);rw [hb] at h1 h3;rw [h1] at h;simp only [List.getD_cons_zero, List.getD_cons_succ] at h;rw [h3, Int.toNat_of_nonneg (by have := (volB_R hv).lo; omega)] at h;exact h hb
end Go.Proofs.YtmpldngnkacnmaaGreatDoor
namespace Go.Proofs.YtmpldngnkacnmaaGreatDoor
open Go.RowKit
abbrev WrT := Int × ByteArray
def fixB : Nat → Nat → List UInt8
 | 0, _ => []
 | k + 1, n => fixB k (n / 256) ++ [UInt8.ofNat (n % 256)]
theorem fixB_len : ∀ k n, (fixB k n).length = k
 | 0, _ => rfl
 | k + 1, n => by rw [fixB, List.length_append, fixB_len k]; rfl
def outOk (l : List WrT) (k : Nat) (x : WrT) : Bool := inB x.1 0 16 && decide (x.2.size ≤ 400) && (match k with
 | 0 => true
 | j + 1 => match l[j]? with
   | some p => decide (p.1 < x.1)
   | none => true)
def outsTo (l : List WrT) : Nat → Bool
 | 0 => true
 | k + 1 => outsTo l k && (match l[k]? with
   | none => true
   | some x => outOk l k x)
def txnB (seq : Int) (l : List WrT) : Bool := inB seq 1 1000000 && inB (l.length : Int) 1 17 && outsTo l l.length
theorem outsTo_le {l : List WrT} {i k : Nat} (h : outsTo l k = true) (hi : i ≤ k) : outsTo l i = true := by
 induction k with
 | zero => obtain rfl : i = 0 := by omega
           exact h
 | succ k ih =>
   rcases Nat.lt_or_eq_of_le hi with h1 | h1
   ·rw [outsTo, Bool.and_eq_true] at h
    exact ih h.1 (by omega)
   ·rw [h1]; exact h
theorem outsTo_at {l : List WrT} {i : Nat} {x : WrT} (h : outsTo l l.length = true) (he : l[i]? = some x) : outOk l i x = true := by
 have hi := (List.getElem?_eq_some_iff.1 he).1;have h1 := outsTo_le h (show i + 1 ≤ l.length by omega);rw [outsTo, he, Bool.and_eq_true] at h1;exact h1.2
theorem outsTo_no {l : List WrT} {i : Nat} {x : WrT} (he : l[i]? = some x) (h : outOk l i x = false) : outsTo l l.length = false := by
 cases hh : outsTo l l.length with
 | false => rfl
 | true => rw [outsTo_at hh he] at h; cases h
theorem outsTo_succ {l : List WrT} {k : Nat} {x : WrT} (hx : l[k]? = some x) (h0 : outsTo l k = true) (h : outOk l k x = true) : outsTo l (k + 1) = true := by
 rw [outsTo, hx, h0, Bool.true_and]; exact h
theorem outOk_no1 {l : List WrT} {k : Nat} {x : WrT} (h : inB x.1 0 16 = false) : outOk l k x = false := by simp only [outOk, h, Bool.false_and]
theorem outOk_no2 {l : List WrT} {k : Nat} {x : WrT} (h : ¬ x.2.size ≤ 400) : outOk l k x = false := by simp only [outOk, decide_eq_false h, Bool.and_false, Bool.false_and]
theorem outOk_no3 {l : List WrT} {k : Nat} {x p : WrT} (hp : l[k]? = some p) (h : x.1 ≤ p.1) : outOk l (k + 1) x = false := by
 have : decide (p.1 < x.1) = false := decide_eq_false (by omega);simp only [outOk, hp, this, Bool.and_false]
theorem outOk_0 {l : List WrT} {x : WrT} (h : inB x.1 0 16 = true) (h1 : x.2.size ≤ 400) : outOk l 0 x = true := by simp only [outOk, h, decide_eq_true h1, Bool.true_and]
theorem outOk_s {l : List WrT} {k : Nat} {x p : WrT} (h : inB x.1 0 16 = true) (h1 : x.2.size ≤ 400) (hp : l[k]? = some p) (h2 : p.1 < x.1) : outOk l (k + 1) x = true := by
 simp only [outOk, h, hp, decide_eq_true h1, decide_eq_true h2, Bool.true_and]
theorem txnB_no1 {seq : Int} {l : List WrT} (h : inB seq 1 1000000 = false) : txnB seq l = false := by rw [txnB, h]; rfl
theorem txnB_no2 {seq : Int} {l : List WrT} (h : inB (l.length : Int) 1 17 = false) : txnB seq l = false := by rw [txnB, h]; simp
theorem txnB_no3 {seq : Int} {l : List WrT} (h : outsTo l l.length = false) : txnB seq l = false := by rw [txnB, h]; simp
theorem txnB_yes {seq : Int} {l : List WrT} (h1 : inB seq 1 1000000 = true) (h2 : inB (l.length : Int) 1 17 = true) (h3 : outsTo l l.length = true) : txnB seq l = true := by rw [txnB, h1, h2, h3]; rfl
def outB (x : WrT) : List UInt8 := varB x.1 ++ pieceB x.2
def bodyT (seq : Int) (l : List WrT) : List UInt8 := (116 :: (varB seq ++ varB (l.length : Int))) ++ l.flatMap outB
def showT (seq : Int) (l : List WrT) : List UInt8 := if (txnB seq l && decide ((bodyT seq l).length + 4 ≤ 4000)) = true then fixB 4 (crcZ (bodyT seq l)).toNat ++ bodyT seq l else []
open Classical in
noncomputable def readT (s : List UInt8) : Option (Int × List WrT) :=
 if h : ∃ p : Int × List WrT, showT p.1 p.2 = s ∧ s ≠ [] then some (Classical.choose h) else none
theorem showT_ok {seq : Int} {l : List WrT} (h : showT seq l ≠ []) : txnB seq l = true ∧ showT seq l = fixB 4 (crcZ (bodyT seq l)).toNat ++ bodyT seq l ∧ (showT seq l).length ≤ 4000 := by
 rw [showT] at h ⊢
 split at h
 ·rename_i hc
  rw [if_pos hc];simp only [Bool.and_eq_true, decide_eq_true_eq] at hc;exact ⟨hc.1, rfl, by rw [List.length_append, fixB_len]; omega⟩
 ·exact absurd rfl h
structure TxnR (seq : Int) (l : List WrT) : Prop where
 lo : 1 ≤ seq
 hi : seq ≤ 1000000
 len : 1 ≤ l.length ∧ l.length ≤ 17
 outs : ∀ x ∈ l, 0 ≤ x.1 ∧ x.1 ≤ 16 ∧ x.2.size ≤ 400
theorem txnB_R {seq : Int} {l : List WrT} (h : txnB seq l = true) : TxnR seq l := by
 simp only [txnB, Bool.and_eq_true] at h;have h1 := inB_iff.1 h.1.1;have h2 := inB_iff.1 h.1.2;refine ⟨h1.1, h1.2, ⟨by omega, by omega⟩, fun x hx => ?_⟩;obtain ⟨k, hk⟩ := List.getElem?_of_mem hx;have h3 := outsTo_at h.2 hk;unfold outOk at h3;simp only [Bool.and_eq_true, decide_eq_true_eq] at h3;have h4 := inB_iff.1 h3.1.1;exact ⟨h4.1, h4.2, h3.1.2⟩
theorem bodyT_form {seq : Int} {l : List WrT} (h : TxnR seq l) : bodyT seq l = [116] ++ (varT seq.toNat ++ (varT l.length ++ (l.flatMap outB ++ []))) := by
 have := h.len.2;have := h.lo;have := h.hi;simp only [bodyT, varB_int (show 0 ≤ seq by omega) (by omega), varB_nat (show l.length ≤ 562949953421311 by omega), List.append_assoc, List.append_nil, List.cons_append, List.nil_append]
theorem outB_form {x : WrT} (h : 0 ≤ x.1 ∧ x.1 ≤ 16 ∧ x.2.size ≤ 400) (r : List UInt8) : outB x ++ r = varT x.1.toNat ++ (varT (toB x.2).length ++ (toB x.2 ++ r)) := by
 obtain ⟨h1, h2, h3⟩ := h;simp only [outB, pieceB, varB_int h1 (by omega), varB_nat (show x.2.size ≤ 562949953421311 by omega), toB_len, List.append_assoc]
def txP1 (t : List UInt8) : Sc := (cutP (t, false) 5).2
def txP2 (t : List UInt8) : Nat × Sc := numP (txP1 t)
def txP3 (t : List UInt8) : Nat × Sc := manyP (txP2 t).2 17
def outP (st : Sc) : WrT × Sc := ((((numP st).1 : Int), ofB (pieceP (numP st).2).1), (pieceP (numP st).2).2)
def outsP (st : Sc) : Nat → List WrT × Sc
 | 0 => ([], st)
 | k + 1 => ((outsP st k).1 ++ [(outP (outsP st k).2).1], (outP (outsP st k).2).2)
theorem outsP_len (st : Sc) : ∀ k, (outsP st k).1.length = k
 | 0 => rfl
 | k + 1 => by rw [outsP, List.length_append, outsP_len st k]; rfl
def txP4 (t : List UInt8) : List WrT × Sc := outsP (txP3 t).2 (txP3 t).1
theorem outP_app {x : WrT} (h : 0 ≤ x.1 ∧ x.1 ≤ 16 ∧ x.2.size ≤ 400) (r : List UInt8) : outP (outB x ++ r, false) = (x, (r, false)) := by
 have k1 : numP (varT x.1.toNat ++ (varT (toB x.2).length ++ (toB x.2 ++ r)), false) = (x.1.toNat, (varT (toB x.2).length ++ (toB x.2 ++ r), false)) := numP_app (by omega) _;have k2 : pieceP (varT (toB x.2).length ++ (toB x.2 ++ r), false) = (toB x.2, (r, false)) := pieceP_app (by rw [toB_len]; omega) _;rw [outB_form h, outP, k1];simp only [k2, ofB_toB];rw [Int.toNat_of_nonneg h.1]
theorem outsP_app : ∀ (n : Nat) (l : List WrT) (r : List UInt8), l.length = n → (∀ x ∈ l, 0 ≤ x.1 ∧ x.1 ≤ 16 ∧ x.2.size ≤ 400) → outsP (l.flatMap outB ++ r, false) n = (l, (r, false))
 | 0, l, r, hn, _ => by rw [List.eq_nil_of_length_eq_zero hn]; rfl
 | n + 1, l, r, hn, h => by
   rcases List.eq_nil_or_concat l with rfl | ⟨p, e, rfl⟩
   ·simp at hn
   rw [List.concat_eq_append] at hn h ⊢;have hp := outsP_app n p (outB e ++ r) (by simpa using hn) fun x hx => h x (List.mem_append_left _ hx);rw [outsP, List.flatMap_append, List.flatMap_singleton, List.append_assoc, hp];simp only [outP_app (h e (by simp))]
theorem tx_back {seq : Int} {l : List WrT} (h : TxnR seq l) (c : List UInt8) (hc : c.length = 4) : (txP2 (c ++ bodyT seq l)).1 = seq.toNat ∧ (txP3 (c ++ bodyT seq l)).1 = l.length ∧ txP4 (c ++ bodyT seq l) = (l, ([], false)) := by
 have hb : c ++ bodyT seq l = (c ++ [116]) ++ (varT seq.toNat ++ (varT l.length ++ (l.flatMap outB ++ []))) := by rw [bodyT_form h, ← List.append_assoc]
 have h5 : (c ++ [116]).length = 5 := by simp [hc]
 have key : ∀ (d R0 R1 R2 : List UInt8), d.length = 5 → R0 = varT seq.toNat ++ R1 → R1 = varT l.length ++ R2 → R2 = l.flatMap outB ++ [] → (txP2 (d ++ R0)).1 = seq.toNat ∧ (txP3 (d ++ R0)).1 = l.length ∧ txP4 (d ++ R0) = (l, ([], false)) := by
  intro d R0 R1 R2 hd q0 q1 q2;have := h.lo;have := h.hi;have k0 : txP1 (d ++ R0) = (R0, false) := by rw [txP1, ← hd]; exact congrArg Prod.snd (cutP_app d _)
  have k1 : txP2 (d ++ R0) = (seq.toNat, (R1, false)) := by rw [txP2, k0, q0]; exact numP_app (by omega) _
  have k2 : txP3 (d ++ R0) = (l.length, (R2, false)) := by rw [txP3, k1, q1]; exact manyP_app (by have := h.len.2; omega) h.len.2 _
  have k3 : txP4 (d ++ R0) = (l, ([], false)) := by rw [txP4, k2, q2]; exact outsP_app l.length l [] rfl h.outs
  exact ⟨by rw [k1], by rw [k2], k3⟩
 rw [hb];exact key _ _ _ _ h5 rfl rfl rfl
theorem tx_back2 {seq : Int} {l : List WrT} {s : List UInt8} (h : showT seq l = s) (hs : s ≠ []) : 1 ≤ seq ∧ (txP2 s).1 = seq.toNat ∧ (txP3 s).1 = l.length ∧ txP4 s = (l, ([], false)) := by
 subst h;obtain ⟨h1, h2, _⟩ := showT_ok hs;have hR := txnB_R h1;rw [h2];exact ⟨hR.lo, tx_back hR _ (fixB_len 4 _)⟩
theorem readT_yes {seq : Int} {l : List WrT} {s : List UInt8} (h : showT seq l = s) (hs : s ≠ []) : readT s = some (seq, l) := by
 classical
 have hex : ∃ p : Int × List WrT, showT p.1 p.2 = s ∧ s ≠ [] := ⟨(seq, l), h, hs⟩;rw [readT, dif_pos hex]
 congr 1
 obtain ⟨c1, _⟩ := Classical.choose_spec hex;obtain ⟨a0, a1, _, a3⟩ := tx_back2 h hs;obtain ⟨b0, b1, _, b3⟩ := tx_back2 c1 hs;have e1 : (Classical.choose hex).1 = seq := by
  have := b1.symm.trans a1;omega
 exact Prod.ext e1 (congrArg Prod.fst (b3.symm.trans a3))
theorem readT_no {s : List UInt8} (h : ∀ seq l, showT seq l = s → s ≠ [] → False) : readT s = none := by
 classical
 rw [readT, dif_neg];rintro ⟨p, h1, h2⟩;exact h _ _ h1 h2
theorem readTI_no1 {s : List UInt8} (h : (txP4 s).2.2 = true) : readT s = none := readT_no fun seq l hv hs => by
 obtain ⟨_, _, _, h4⟩ := tx_back2 hv hs;rw [h4] at h; cases h
theorem readTI_no2 {s : List UInt8} (h : showT ((txP2 s).1 : Int) (txP4 s).1 ≠ s) : readT s = none := readT_no fun seq l hv hs => by
 obtain ⟨h0, h1, _, h4⟩ := tx_back2 hv hs;rw [h1, h4, Int.toNat_of_nonneg (by omega)] at h;exact h hv
theorem readT_long {s : List UInt8} (h : 4000 < s.length) : readT s = none := readT_no fun seq l hv hs => by
 subst hv;have := (showT_ok hs).2.2;omega
theorem readT_nil : readT [] = none := readT_no fun seq l _ hs => hs rfl
def tsA (t : List UInt8) : List Nat × Option Nat := varsP t (some 5) 2
def prsO (s : List UInt8) (o : Option Nat) : WrT × Option Nat := (((num1 (varsP s o 1) : Int), ofB (takeP s (varsP s o 1).2).1), (takeP s (varsP s o 1).2).2)
def prsOs (s : List UInt8) (o : Option Nat) : Nat → List WrT × Option Nat
 | 0 => ([], o)
 | k + 1 => ((prsOs s o k).1 ++ [(prsO s (prsOs s o k).2).1], (prsO s (prsOs s o k).2).2)
theorem prsOs_len (s : List UInt8) (o : Option Nat) : ∀ k, (prsOs s o k).1.length = k
 | 0 => rfl
 | k + 1 => by rw [prsOs, List.length_append, prsOs_len s o k]; rfl
theorem prsO_app {s : List UInt8} {a : Nat} {x : WrT} {r : List UInt8} (hf : 0 ≤ x.1 ∧ x.1 ≤ 16 ∧ x.2.size ≤ 400) (h : Lf s a (outB x ++ r)) : ∃ b, prsO s (some a) = (x, some b) ∧ Lf s b r := by
 rw [outB_form hf] at h;obtain ⟨a1, k1, l1⟩ := vars_ex (k := 0) (o := some a) (l := []) rfl (by omega) h;obtain ⟨b, k2, l2⟩ := take_app (by rw [toB_len]; omega) l1;refine ⟨b, ?_, l2⟩;rw [prsO, k1];simp only [List.nil_append];rw [k2];simp only [num1, List.nil_append, List.headD_cons, ofB_toB];rw [Int.toNat_of_nonneg hf.1]
theorem prsOs_app : ∀ (n : Nat) (l : List WrT) (s : List UInt8) (a : Nat) (r : List UInt8), l.length = n → (∀ x ∈ l, 0 ≤ x.1 ∧ x.1 ≤ 16 ∧ x.2.size ≤ 400) → Lf s a (l.flatMap outB ++ r) → ∃ b, prsOs s (some a) n = (l, some b) ∧ Lf s b r ∧ ∀ k, k ≤ n → ∃ c, (prsOs s (some a) k).2 = some c
 | 0, l, s, a, r, hn, _, h => by
   rw [List.eq_nil_of_length_eq_zero hn] at h ⊢;exact ⟨a, rfl, h, fun k hk => ⟨a, by rw [show k = 0 by omega]; rfl⟩⟩
 | n + 1, l, s, a, r, hn, hf, h => by
   rcases List.eq_nil_or_concat l with rfl | ⟨p, e, rfl⟩
   ·simp at hn
   rw [List.concat_eq_append] at hn hf h ⊢;rw [List.flatMap_append, List.flatMap_singleton, List.append_assoc] at h;obtain ⟨b, k1, l1, k2⟩ := prsOs_app n p s a (outB e ++ r) (by simpa using hn) (fun x hx => hf x (List.mem_append_left _ hx)) h;obtain ⟨c, k3, l3⟩ := prsO_app (hf e (by simp)) l1;refine ⟨c, by rw [prsOs, k1]; simp only [k3], l3, fun k hk => ?_⟩
   rcases Nat.lt_or_eq_of_le hk with h9 | h9
   ·exact k2 k (by omega)
   ·rw [h9, prsOs, k1]
    exact ⟨c, by simp only [k3]⟩
def tsB (t : List UInt8) : List WrT × Option Nat := prsOs t (tsA t).2 ((tsA t).1.getD 1 0)
theorem ts_back {seq : Int} {l : List WrT} {s : List UInt8} (h : showT seq l = s) (hs : s ≠ []) : 1 ≤ seq ∧ l.length ≤ 17 ∧ (∃ a, tsA s = ([seq.toNat, l.length], some a)) ∧ (∀ k, k ≤ l.length → ∃ c, (prsOs s (tsA s).2 k).2 = some c) ∧ (tsB s).1 = l := by
 subst h;obtain ⟨h1, h2, _⟩ := showT_ok hs;have hR := txnB_R h1;obtain ⟨T, hT⟩ : ∃ T, T = showT seq l := ⟨_, rfl⟩;rw [← hT] at h2 ⊢;have hlo := hR.lo;have hhi := hR.hi;have hln := hR.len.2;have l0 : Lf T 5 (varT seq.toNat ++ (varT l.length ++ (l.flatMap outB ++ []))) := by
  have h3 : Lf T 0 ((fixB 4 (crcZ (bodyT seq l)).toNat ++ [116]) ++ (varT seq.toNat ++ (varT l.length ++ (l.flatMap outB ++ [])))) := ⟨by omega, by rw [List.drop_zero, h2, bodyT_form hR, List.append_assoc]⟩;have h4 := h3.next;rw [List.length_append, fixB_len] at h4;exact h4
 obtain ⟨a1, k1, l1⟩ := vars_ex (k := 0) (o := some 5) (l := []) rfl (by omega) l0;obtain ⟨a2, k2, l2⟩ := vars_ex k1 (by omega) l1;obtain ⟨b, k3, l3, k4⟩ := prsOs_app l.length l T a2 [] rfl hR.outs l2;have e1 : tsA T = ([seq.toNat, l.length], some a2) := k2;exact ⟨hlo, hln, ⟨a2, e1⟩, fun k hk => by rw [e1]; exact k4 k hk, by rw [tsB, e1]; exact congrArg Prod.fst k3⟩
theorem readTS_no1 {s : List UInt8} (h : (tsA s).2 = none) : readT s = none := readT_no fun seq l hv hs => by
 obtain ⟨_, _, ⟨a, h1⟩, _, _⟩ := ts_back hv hs;rw [h1] at h; cases h
theorem readTS_no2 {s : List UInt8} (h : 17 < (tsA s).1.getD 1 0) : readT s = none := readT_no fun seq l hv hs => by
 obtain ⟨_, h0, ⟨a, h1⟩, _, _⟩ := ts_back hv hs;rw [h1] at h;simp at h; omega
theorem readTS_no3 {s : List UInt8} {k : Nat} (hk : k ≤ (tsA s).1.getD 1 0) (h : (prsOs s (tsA s).2 k).2 = none) : readT s = none := readT_no fun seq l hv hs => by
 obtain ⟨_, _, ⟨a, h1⟩, h2, _⟩ := ts_back hv hs;have hk2 : k ≤ l.length := by rw [h1] at hk; simpa using hk
 obtain ⟨c, h3⟩ := h2 k hk2;rw [h3] at h; cases h
theorem readTS_no4 {s : List UInt8} (h : showT ((tsA s).1.getD 0 0 : Int) (tsB s).1 ≠ s) : readT s = none := readT_no fun seq l hv hs => by
 obtain ⟨h0, _, ⟨a, h1⟩, _, h3⟩ := ts_back hv hs;rw [h3, h1] at h;simp only [List.getD_cons_zero, Int.toNat_of_nonneg (show 0 ≤ seq by omega)] at h;exact h hv
def putAll (l : List ByteArray) (outs : List WrT) : List ByteArray := outs.foldl (fun l x => l.set x.1.toNat x.2) l
noncomputable def logT (l : List ByteArray) : Option (Int × List WrT) := if txt l 17 = [] then some (0, []) else readT (txt l 17)
noncomputable def mountB (l : List ByteArray) : Option ((Int × List Nod) × List WrT × Int) :=
 if l.length ≠ 18 then none else match logT l with
  | none => none
  | some t => match readB (putAll (l.take 17) t.2) with
    | none => none
    | some v => some (v, t.2, t.1)
end Go.Proofs.YtmpldngnkacnmaaGreatDoor
namespace Go.Proofs.YtmpldngnkacnmaaGreatDoor
open Go.RowKit
theorem and_255 {c : Int} (h0 : 0 ≤ c) (h1 : c < 9223372036854775808) : bits .and .i64 c 255 = c % 256 := bits_mask .i64 63 (by decide) (fun n h₀ h₁ => IntWalk.i64_in _ (by omega)) 8 (by decide) c h0 (by omega)
theorem fix_set {u : Nat} {tl : List UInt8} {b : UInt8} : (List.replicate (u + 1) (0 : UInt8) ++ tl).set u b = List.replicate u 0 ++ b :: tl := by
 rw [List.replicate_succ', List.append_assoc, List.set_append_right _ _ (by simp)]
 simp
set_option maxRecDepth 100000 in
set_option maxHeartbeats 4000000 in
theorem implFixed_any (n0 : Nat) (w : World) (hn : n0 < 4294967296) :
 Calls Tryz.prog 75 #[.int .i64 (n0 : Int), .int .i64 4] w fun e w' => e = .returned (.string (ofB (fixB 4 n0))) ∧ Fr w w' := by
 have hn1 : ¬ (n0 : Int) < 0 := by omega
 obtain ⟨R, hR⟩ : ∃ R, R = fixB 4 n0 := ⟨_, rfl⟩;rw [← hR];have HRE := Lib.hid hR;clear hR;obtain ⟨k4, hk4⟩ : ∃ k : Int, k = 4 := ⟨_, rfl⟩;rw [← hk4];have HK4 := Lib.hid (show k4 = ((4 : Nat) : Int) from hk4);obtain ⟨e, he⟩ : ∃ e : Nat, e = 32 := ⟨_, rfl⟩;have h8 : (8 : Int) * k4 = (e : Int) := by rw [hk4, he]; rfl
 have h8w : IntKind.i64.wrap ((8 : Int) * k4) = (e : Int) := by rw [h8]; exact IntWalk.i64_in _ (by omega)
 have h8v : IntKind.i64.wrap (e : Int) = (e : Int) := IntWalk.i64_in _ (by omega);have he0 : (0 : Int) ≤ (e : Int) := by omega
 have he64 : (e : Int) ≤ 64 := by omega
 obtain ⟨K, hK⟩ : ∃ K : Int, (2 : Int) ^ e = K := ⟨_, rfl⟩;have hK2 : K = 4294967296 := by rw [← hK, he]; decide
 have hKw : IntKind.i64.wrap K = K := IntWalk.i64_in _ (by omega);have hKw2 : IntKind.i64.wrap ((2 : Int) ^ e) = K := by rw [hK]; exact hKw
 have hnK : ¬ K ≤ (n0 : Int) := by omega
 have hnK2 : decide (K ≤ (n0 : Int)) = false := decide_eq_false hnK;have hk0 : inB k4 1 7 = true := inB_iff.2 (by omega);have hk3 : k4 - 1 = 3 := by omega
 have hk3w : IntKind.i64.wrap (k4 - 1) = 3 := by rw [hk3]; rfl
 clear hk4 he hK2;go_enter Tryz.func75, Tryz.ntmps75;go_wp2_with fail;refine (within_any k4 1 7 _).mono ?_;rintro e wq ⟨rfl, hwq⟩;subst hwq;rw [hk0];go_wp2_with (at_make; refine wp_mk (Hp.start wq) rfl _ _ _ rfl Tryz.underlying22 infoU8 rfl rfl (4) _ _ _ _ rfl rfl HK4.out HK4.out (by omega) (by simp only [maxLen]; omega) ?_);intro w1 H_;have H : Hp [] wq w1 [.row 5 1 (.slice (some ⟨wq.heap.size, 0, none⟩) 4 4) 4 ((List.replicate 4 (0 : UInt8)).map cU8)] := H_;clear H_;obtain ⟨g, hg⟩ : ∃ x, x = wq.heap.size := ⟨_, rfl⟩;rw [← hg] at H ⊢;have HG := Lib.hid hg;clear hg;go_wp2_with fail
 go_loopw [0, 6] (fun nv iv wr => ∃ (t m : Nat) (z : Int) (tl : List UInt8), iv = .int .i64 z ∧ nv = .int .i64 m ∧ z + 1 = (t : Int) ∧ m < 4294967296 ∧ t + tl.length = 4 ∧ fixB 4 n0 = fixB t m ++ tl ∧ Hp [] wq wr [.row 5 1 (.slice (some ⟨g, 0, none⟩) 4 4) 4 ((List.replicate t (0 : UInt8) ++ tl).map cU8)]) (fun _ iv _ => (intOf iv + 1).toNat)
 case atStart => exact ⟨4, n0, 3, [], rfl, rfl, by omega, hn, rfl, by simp, by simpa using H⟩
 case round =>
  clear H;obtain ⟨t, m, z, tl, rfl, rfl, hz, hm, ht, hf, H⟩ := hrel;have HF := Lib.hid hf;clear hf
  cases t with
  | zero =>
    have hz0 : ¬ (0 : Int) ≤ z := by omega
    have hz1 : z = -1 := by omega
    have HE := Lib.hid (show R = tl by rw [HRE.out, HF.out]; rfl);have H2 : Hp [] wq wr [.row 5 1 (.slice (some ⟨g, 0, none⟩) 4 4) 4 (tl.map cU8)] := by simpa using H
    have hks := run_str (c := 4) 22 9 5 Tryz.underlying22 Tryz.underlying5 Tryz.underlying9 (H2.rd 0 rfl);have H3 := Lib.hid H2;clear H H2;go_wp2_with fail;go_ret;rw [HE.out];exact ⟨rfl, H3.out.fr⟩
  | succ u =>
    have hzu : z = (u : Int) := by omega
    subst hzu;have hu0 : (0 : Int) ≤ (u : Int) := by omega
    have hu3 : u < 4 := by omega
    have hu4 : (u : Int) < 4 := by omega
    obtain ⟨q, hq⟩ : ∃ q, q = m / 256 := ⟨_, rfl⟩;obtain ⟨b, hb⟩ : ∃ b : UInt8, b = UInt8.ofNat (m % 256) := ⟨_, rfl⟩;have hbn : b.toNat = m % 256 := by rw [hb, UInt8.toNat_ofNat_of_lt' (by simp [UInt8.size]; omega)]
    have HS := Lib.hid (show fixB 4 n0 = fixB u q ++ b :: tl by rw [HF.out, fixB, ← hq, ← hb]; simp);have a1 : bits .and .i64 (m : Int) 255 = (b.toNat : Int) := by rw [and_255 (by omega) (by omega)]; omega
    have hb256 := b.toNat_lt;have a4 : IntKind.u8.wrap (b.toNat : Int) = (b.toNat : Int) := wraps_u8 _ (by omega) (by omega);have a5 : (m : Int) / 256 = (q : Int) := by omega
    have e0 := H.free 0 rfl u;have e1 := H.atM (f1 := cU8) 0 rfl (j := u) (x := 0) (by rw [List.getElem?_append_left (by simp), List.getElem?_replicate, if_pos (by omega)]);have H2 := Lib.hid (show Hp [] wq (wr.setCell ⟨g, u, none⟩ (cU8 b)) [.row 5 1 (.slice (some ⟨g, 0, none⟩) 4 4) 4 ((List.replicate u (0 : UInt8) ++ b :: tl).map cU8)] by
     have := H.putM (f1 := cU8) 0 rfl u b;rw [fix_set] at this;exact this)
    have hqm : q < 4294967296 := by omega
    have htl : u + (b :: tl).length = 4 := by rw [List.length_cons]; omega
    clear H hq hb hbn;go_wp2_with fail;go_roundw
    case rel => exact ⟨u, q, (u : Int) - 1, b :: tl, by go_num, rfl, by omega, hqm, htl, HS.out, H2.out⟩
    case measure => simp [intOf] <;> omega
set_option maxRecDepth 100000 in
set_option maxHeartbeats 4000000 in
theorem specFixed_any (n0 : Nat) (w : World) (hn : n0 < 4294967296) :
 Calls Tryz.prog 69 #[.int .i64 (n0 : Int), .int .i64 4] w fun e w' => e = .returned (.string (ofB (fixB 4 n0))) ∧ Fr w w' := by
 have hn1 : ¬ (n0 : Int) < 0 := by omega
 obtain ⟨R, hR⟩ : ∃ R, R = fixB 4 n0 := ⟨_, rfl⟩;rw [← hR];have HRE := Lib.hid hR;clear hR;go_enter Tryz.func69, Tryz.ntmps69;go_wp2_with fail;refine (l1In_any 4 1 7 _).mono ?_;rintro e wq ⟨rfl, hwq⟩;subst hwq;rw [show inB 4 1 7 = true from rfl];go_wp2_with fail
 go_loopw [0, 5, 6] (fun nv ov iv wr => ∃ (i t m : Nat) (tl : List UInt8), iv = .int .i64 i ∧ nv = .int .i64 m ∧ ov = .string (ofB tl) ∧ i + t = 4 ∧ m < 256 ^ t ∧ tl.length = i ∧ fixB 4 n0 = fixB t m ++ tl ∧ Fr wq wr) (fun _ _ iv _ => 4 - (intOf iv).toNat)
 case atStart => exact ⟨0, 4, n0, [], rfl, rfl, rfl, rfl, hn, rfl, by simp, Below.refl _ _⟩
 case round =>
  obtain ⟨i, t, m, tl, rfl, rfl, rfl, hit, hm, htl, hf, hfr⟩ := hrel;have HF := Lib.hid hf;have HFR := Lib.hid hfr;clear hf hfr;have hi0 : (0 : Int) ≤ (i : Int) := by omega
  obtain ⟨T, hT⟩ : ∃ T, T = ofB tl := ⟨_, rfl⟩;have hTs : T.size ≤ 4 := by rw [hT, ofB_size]; omega
  have HT := Lib.hid hT;rw [← hT];clear hT
  cases t with
  | zero =>
    have hi4 : ¬ (i : Int) < 4 := by omega
    have hm0 : ¬ (0 : Int) < (m : Int) := by simp at hm; omega
    have HE := Lib.hid (show R = tl by rw [HRE.out, HF.out]; rfl);clear hm;go_wp2_with fail;go_ret;rw [HE.out, ← HT.out];exact ⟨rfl, HFR.out⟩
  | succ u =>
    have hi4 : (i : Int) < 4 := by omega
    have hmb : m < 4294967296 := by
     have h1 : 256 ^ (u + 1) ≤ 256 ^ 4 := Nat.pow_le_pow_right (by decide) (by omega);have h2 : (256 : Nat) ^ 4 = 4294967296 := by decide
     omega
    obtain ⟨q, hq⟩ : ∃ q, q = m / 256 := ⟨_, rfl⟩;have hqb : q < 256 ^ u := by
     rw [hq, Nat.div_lt_iff_lt_mul (by decide), ← Nat.pow_succ]; exact hm
    obtain ⟨b, hb⟩ : ∃ b : UInt8, b = UInt8.ofNat (m % 256) := ⟨_, rfl⟩;have hbn : b.toNat = m % 256 := by rw [hb, UInt8.toNat_ofNat_of_lt' (by simp [UInt8.size]; omega)]
    have HS := Lib.hid (show fixB 4 n0 = fixB u q ++ b :: tl by rw [HF.out, fixB, ← hq, ← hb]; simp);have a1 : (m : Int).tmod 256 = (b.toNat : Int) := by rw [Int.tmod_eq_emod_of_nonneg (by omega)]; omega
    have hb256 := b.toNat_lt;have a4 : IntKind.u8.wrap (b.toNat : Int) = (b.toNat : Int) := wraps_u8 _ (by omega) (by omega);have a5 : (m : Int).tdiv 256 = (q : Int) := by rw [Int.tdiv_eq_ediv_of_nonneg (by omega)]; omega
    have H2 := ((Hp.start wq).go HFR.out).lit 5 1 1 ([b].map cU8) rfl (by simp [maxLen]);have hks := run_str (c := 1) 22 9 5 Tryz.underlying22 Tryz.underlying5 Tryz.underlying9 (H2.rd 0 rfl);have HF2 := Lib.hid H2.fr;obtain ⟨B1, hB1⟩ : ∃ x, ofB [b] = x := ⟨_, rfl⟩;have hBs : B1.size ≤ 1 := by rw [← hB1, ofB_size]; simp
    have HBT := Lib.hid (show B1 ++ T = ofB (b :: tl) by rw [← hB1, HT.out, ofB_append]; rfl);rw [hB1] at hks;simp only [List.map_cons, List.map_nil, cU8] at hks;have a6 : IntKind.i64.wrap (q : Int) = (q : Int) := IntWalk.i64_in _ (by omega);have cc : (9223372036854775807 < B1.size + T.size) = False := eq_false (by omega);clear H2 hq hb hbn hm hB1;go_wp2_with fail;go_roundw
    case rel => exact ⟨i + 1, u, q, b :: tl, by go_num, by first | rfl | (congr 1; exact a6), by rw [← HBT.out], by omega, hqb, by rw [List.length_cons]; omega, HS.out, HF2.out⟩
    case measure => simp [intOf]; omega
end Go.Proofs.YtmpldngnkacnmaaGreatDoor
namespace Go.Proofs.YtmpldngnkacnmaaGreatDoor
open Go.RowKit
set_option maxRecDepth 100000 in
set_option maxHeartbeats 4000000 in
theorem specNamed_any (next : Int) (A : Option Addr) (n c : Nat) (L : List (Value × Nod)) (id : Int) (w : World) (h : RdN w A n L) (hn : n ≤ 1048576) (hfew : FewE L) :
 Calls Tryz.prog 51 #[.agg #[.int .i64 next, .slice A n c], .int .i64 id] w fun e w' => e = .returned (.int .i64 (namedN (nodes L) id)) ∧ Fr w w' := by
 have HL := Lib.hid h.len;have HFE := Lib.hid hfew;have HB := Lib.hid (fun k hk => namedN_le hfew id k hk);have H := (Hp.start w).lay_ 28 [.int .i64 next, .slice A n c] rfl;have HR := Lib.hid (h.fr H.fr);have HF0 := Lib.hid H.fr;have yy1 := H.fa 0 1 rfl rfl;obtain ⟨z, hz⟩ : ∃ z : Nat, z = namedN (nodes L) id := ⟨_, rfl⟩;rw [← hz];have HZ := Lib.hid hz;clear hz h hfew H;go_enter Tryz.func51, Tryz.ntmps51;go_wp2_with fail
 go_loopw [5, 6] (fun cv iv wr => ∃ i k : Nat, iv = .int .i64 i ∧ cv = .int .i64 k ∧ i ≤ n ∧ k = namedN ((nodes L).take i) id ∧ wr = w.alloc (.cells #[.int .i64 next, .slice A n c] 28)) (fun _ iv _ => n - (intOf iv).toNat)
 case atStart => exact ⟨0, 0, rfl, rfl, by omega, rfl, rfl⟩
 case round =>
  obtain ⟨i, k, rfl, rfl, hi, hk, rfl⟩ := hrel;have HKE := Lib.hid hk;have hkb : k ≤ i * 1048576 := by rw [hk]; exact HB.out i (by rw [HL.out]; exact hi)
  clear hk;have hi0 : (0 : Int) ≤ (i : Int) := by omega
  by_cases hlt : i < n
  ·have hi1 : (i : Int) < (n : Int) := by omega
   obtain ⟨⟨v, x0, x1, x2, x3, es⟩, hx⟩ := some_at HL.out hlt;have hm := HFE.out _ (List.mem_of_getElem? hx);obtain ⟨bk, of, B1, d1, rfl, e1, r1, c1⟩ := HR.out.elem hx;simp only at e1 r1 hm;subst e1;have ca4 := c1 4 _ rfl;have HX := Lib.hid (nodes_at hx);obtain ⟨m, hmm⟩ : ∃ m, m = es.length := ⟨_, rfl⟩;have HM := Lib.hid hmm.symm;rw [← hmm] at hm ca4 r1;have HR1 := Lib.hid r1;clear hx c1 r1 hmm;go_wp2_with fail
   go_loopw [5, 7] (fun cv jv wq => ∃ j q : Nat, jv = .int .i64 j ∧ cv = .int .i64 q ∧ j ≤ m ∧ q = k + entsN (es.take j) id ∧ wq = w.alloc (.cells #[.int .i64 next, .slice (some ⟨bk, of, none⟩) n c] 28)) (fun _ jv _ => m - (intOf jv).toNat)
   case atStart => exact ⟨0, k, rfl, rfl, by omega, by simp [entsN], rfl⟩
   case round =>
    obtain ⟨j, q, rfl, rfl, hj, hq, rfl⟩ := hrel;have HQE := Lib.hid hq;have hqb : q ≤ k + m := by
     have h1 := entsN_le (es.take j) id;rw [List.length_take] at h1;omega
    clear hq;have hj0 : (0 : Int) ≤ (j : Int) := by omega
    by_cases hjt : j < m
    ·have hj1 : (j : Int) < (m : Int) := by omega
     obtain ⟨⟨y0, y1, y2, y3⟩, hy⟩ := some_at HM.out hjt;obtain ⟨bq, oq, rfl, hcell⟩ := HR1.out.elem cEnt_len hy (by omega);have cb3 := hcell 3 _ rfl;have HES := Lib.hid (entsN_take hy id);clear hy hcell
     by_cases he : y3 = id
     ·have HE := Lib.hid (show q + 1 = k + entsN (es.take (j + 1)) id by rw [HES.out, HQE.out, if_pos he]; omega)
      subst he;go_wp2_with fail;go_roundw
      case rel => exact ⟨j + 1, q + 1, by go_num, by go_num, by omega, HE.out, by trivial⟩
      case measure => simp [intOf]; omega
     ·have HE := Lib.hid (show q = k + entsN (es.take (j + 1)) id by rw [HES.out, HQE.out, if_neg he]; rfl)
      have he2 : (y3 == id) = false := by simpa using he
      go_wp2_with fail;go_roundw
      case rel => exact ⟨j + 1, q, by go_num, rfl, by omega, HE.out, by trivial⟩
      case measure => simp [intOf]; omega
    ·have hj1 : ¬ (j : Int) < (m : Int) := by omega
     have HE := Lib.hid (show q = namedN ((nodes L).take (i + 1)) id by
      rw [namedN_take HX.out, HQE.out, HKE.out, show j = m by omega, entsN_all HM.out])
     go_wp2_with fail;go_roundw
     case rel => exact ⟨i + 1, q, by go_num, rfl, by omega, HE.out, by trivial⟩
     case measure => simp [intOf]; omega
  ·have hi1 : ¬ (i : Int) < (n : Int) := by omega
   have HE := Lib.hid (show z = k by
    rw [HZ.out, HKE.out, List.take_of_length_le (by rw [nodes_len, HL.out]; omega)])
   go_wp2_with fail;go_ret;rw [HE.out];exact ⟨rfl, HF0.out⟩
end Go.Proofs.YtmpldngnkacnmaaGreatDoor