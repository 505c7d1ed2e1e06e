/-
  Many texts in one: AddI, VolMem, VolHold, L5, VolOpsI, VolPl.
-/
import Derived.Test.YtmpldngnkacnmaaGreatDoorGo
import Derived.Test.YtmpldngnkacnmaaGreatDoorGe
import Derived.Test.YtmpldngnkacnmaaGreatDoorGf
import Derived.Test.YtmpldngnkacnmaaGreatDoorGi
import Derived.Test.YtmpldngnkacnmaaGreatDoorGn
import Derived.Test.YtmpldngnkacnmaaGreatDoorGk
import Derived.Test.YtmpldngnkacnmaaGreatDoorDirOkS
set_option linter.unusedVariables false
set_option linter.unusedSimpArgs false
namespace Go.Proofs.YtmpldngnkacnmaaGreatDoor
open Go.RowKit
theorem takeWhile_at {α : Type} (p : α → Bool) : ∀ (l : List α) (k : Nat), (∀ x ∈ l.take k, p x = true) → (k = l.length ∨ ∃ x, l[k]? = some x ∧ p x = false) → l.takeWhile p = l.take k ∧ l.dropWhile p = l.drop k
 | [], k, _, _ => by simp
 | a :: l, 0, _, h => by
   rcases h with h | ⟨x, hx, hp⟩
   ·simp at h
   ·simp only [List.getElem?_cons_zero, Option.some.injEq] at hx
    subst hx;simp [hp]
 | a :: l, k + 1, hall, h => by
   have ha : p a = true := hall a (by simp);obtain ⟨i1, i2⟩ := takeWhile_at p l k (fun x hx => hall x (by simp [hx])) (by
    rcases h with h | ⟨x, hx, hp⟩
    ·left; simpa using h
    ·right; exact ⟨x, by simpa using hx, hp⟩)
   rw [List.takeWhile_cons, if_pos ha, List.dropWhile_cons, if_pos ha, List.take_succ_cons, List.drop_succ_cons, i1, i2];exact ⟨rfl, rfl⟩
theorem Hp.turn1 {W : List Nat} {w0 w w' : World} {l : List Ob} {E E' : TypeId} {k k' n n' : Nat} {v v' : Value} {xs xs' : List Value} (h : Hp W w0 w l) (i : Nat) (hi : l[i]? = some (.row E k v n xs)) (K : Hp v.ownBlock.toList w w' [.row E' k' v' n' xs']) : Hp W w0 w' (l.set i (.row E' k' v' n' xs')) :=
 h.turnRow i hi K.gr (K.row 0 rfl) (by
  cases hb : v'.ownBlock with
  | none => exact .inr fun b hb2 => by cases hb2
  | some b =>
    rcases K.own _ List.mem_cons_self b hb with h1 | h1
    ·exact .inr fun b2 hb2 => by injection hb2 with hb2; omega
    ·left
     cases hv : v.ownBlock with
     | none => rw [hv] at h1; simp at h1
     | some b3 => rw [hv] at h1; simp at h1; rw [h1])
end Go.Proofs.YtmpldngnkacnmaaGreatDoor
namespace Go.Proofs.YtmpldngnkacnmaaGreatDoor
open Go.RowKit
abbrev TVOL : TypeId := 28
abbrev TINO : TypeId := 53
def rowV (g : Nat) (next : Int) (A : Option Addr) (n c : Nat) : Row := ⟨28, 2, .slice (some ⟨g, 0, none⟩) 1 1, 1, [.int .i64 next, .slice A n c]⟩
def volRs (g : Nat) (next : Int) (A : Option Addr) (n c : Nat) (L : List (Value × Nod)) : List Row := rowV g next A n c :: rowN (.slice A n c) n L :: L.map rowE
def volOb (g : Nat) (next : Int) (A : Option Addr) (n c : Nat) (L : List (Value × Nod)) : Ob := .many (volRs g next A n c L)
section
variable {W : List Nat} {w0 w : World} {l : List Ob} {g : Nat} {next : Int} {A : Option Addr} {n c : Nat} {L : List (Value × Nod)}
theorem Hp.vopen (h : Hp W w0 w (volOb g next A n c L :: l)) : Hp W w0 w (.row 28 2 (.slice (some ⟨g, 0, none⟩) 1 1) 1 [.int .i64 next, .slice A n c] :: .row 53 5 (.slice A n c) n (L.flatMap cNV) :: .many (L.map rowE) :: l) := by
 have h1 := h.split2;have h2 := (h1.swap).split2;have h3 := h2.perm (l' := (rowV g next A n c).ob :: (rowN (.slice A n c) n L).ob :: .many (L.map rowE) :: l) (by
  refine (List.Perm.cons _ (List.Perm.swap _ _ _)).trans (List.Perm.swap _ _ _))
 exact h3
theorem Hp.vshut (h : Hp W w0 w (.row 28 2 (.slice (some ⟨g, 0, none⟩) 1 1) 1 [.int .i64 next, .slice A n c] :: .row 53 5 (.slice A n c) n (L.flatMap cNV) :: .many (L.map rowE) :: l)) : Hp W w0 w (volOb g next A n c L :: l) := by
 have h1 : Hp W w0 w ((rowV g next A n c).ob :: (rowN (.slice A n c) n L).ob :: .many (L.map rowE) :: l) := h;have h2 := h1.perm (l' := (rowN (.slice A n c) n L).ob :: .many (L.map rowE) :: (rowV g next A n c).ob :: l) (by
  refine (List.Perm.swap _ _ _).trans (List.Perm.cons _ (List.Perm.swap _ _ _)))
 exact (h2.join2.swap).join2
theorem Hp.rdN2 (h : Hp W w0 w l) (i j : Nat) (hi : l[i]? = some (.row 53 5 (.slice A n c) n (L.flatMap cNV))) (hj : l[j]? = some (.many (L.map rowE))) : RdN w A n L :=
 ⟨h.rd i hi, fun p hp => by
  obtain ⟨B, d, e, hr⟩ := rowE_shape ((h.ok _ (List.mem_of_getElem? hj)).1 (rowE p) (List.mem_map_of_mem hp));exact ⟨B, _, d, e, hr⟩⟩
theorem rowE_nil {p : Value × Nod} (h : (rowE p).ok w) {m d : Nat} (e : p.1 = .slice none m d) : d = 0 := by
 have h1 : w.ownsRow 0 90 4 p.1 p.2.2.2.2.2.length (p.2.2.2.2.2.flatMap cEnt) := h
 rcases h1.2 with ⟨e2, _⟩ | ⟨g2, cap, cur, e2, _⟩
 ·rw [e] at e2; injection e2 with _ _ e3
 ·rw [e] at e2; cases e2
theorem Hp.nset {g k r : Nat} {p p' : Value × Nod} {u : Value} (h : Hp W w0 w l) (i j : Nat) (hi : l[i]? = some (.row 53 5 (.slice (some ⟨g, 0, none⟩) n c) n (L.flatMap cNV))) (hj : l[j]? = some (.many (L.map rowE))) (hij : i ≠ j) (hp : L[k]? = some p) (hr : r < 5) (hf : cNV p' = (cNV p).set r u) (he : rowE p' = rowE p) :
 Hp W w0 (w.setCell ⟨g, k * 5 + r, none⟩ u) ((l.set i (.row 53 5 (.slice (some ⟨g, 0, none⟩) n c) n ((L.set k p').flatMap cNV))).set j (.many ((L.set k p').map rowE))) := by
 have h1 := h.putL i hi cNV_len k r p' u hp hr hf;refine h1.recast ?_;have e1 : (L.set k p').map rowE = L.map rowE := by
  rw [List.map_set, he];apply List.ext_getElem?;intro q
  by_cases hq : k = q
  ·subst hq
   rw [List.getElem?_set_self (by rw [List.length_map]; exact (List.getElem?_eq_some_iff.1 hp).1), List.getElem?_map, hp]; rfl
  ·rw [List.getElem?_set_ne hq]
 rw [e1];apply List.ext_getElem?;intro q
 by_cases hq : j = q
 ·subst hq
  rw [List.getElem?_set_ne hij, hj, List.getElem?_set_self (by rw [List.length_set]; exact (List.getElem?_eq_some_iff.1 hj).1)]
 ·rw [List.getElem?_set_ne (l := l.set i _) hq]
theorem Hp.thin {rs rs' : List Row} (h : Hp W w0 w l) (i : Nat) (hi : l[i]? = some (.many rs)) (hs : rs'.Sublist rs) : Hp W w0 w (l.set i (.many rs')) :=
 h.turnG (V := []) i hi (Gr.refl _ w) (by simp) ⟨fun r hr => (h.ok _ (List.mem_of_getElem? hi)).1 r (hs.subset hr), (h.ok _ (List.mem_of_getElem? hi)).2.sublist hs⟩ fun b hb => by
  obtain ⟨r, hr, hv⟩ := hb;exact .inl ⟨r, hs.subset hr, hv⟩
theorem Bk.row {t : TypeId} {cs : List Value} {q : Nat} (h : Bk w g t cs) (hl : cs.length = 1 * q) : w.ownsRow 0 t q (.slice (some ⟨g, 0, none⟩) 1 1) 1 cs :=
 ⟨hl, .inr ⟨g, 1, cs.toArray, rfl, Nat.zero_le _, h, Nat.le_refl _, by simp [maxLen], by simpa using hl, by rw [← hl]; simp⟩⟩
theorem Hp.asRow {t : TypeId} {cs : List Value} {q : Nat} (h : Hp W w0 w l) (i : Nat) (hi : l[i]? = some (.blk g t cs)) (hl : cs.length = 1 * q) : Hp W w0 w (l.set i (.row t q (.slice (some ⟨g, 0, none⟩) 1 1) 1 cs)) :=
 h.turnG (V := []) i hi (Gr.refl _ w) (by simp) ((h.blk i hi).row hl) fun b hb => .inl hb
end
end Go.Proofs.YtmpldngnkacnmaaGreatDoor
namespace Go.Proofs.YtmpldngnkacnmaaGreatDoor
open Go.RowKit
section
variable {W : List Nat} {w0 w : World} {l : List Ob} {gv g : Nat} {next : Int} {A : Option Addr} {n c : Nat} {L : List (Value × Nod)}
theorem perm_front {α : Type} : ∀ (l : List α) (i : Nat) (a b : α), l[i]? = some a → (l.set i b).Perm (b :: l.eraseIdx i)
 | [], _, _, _, h => by simp at h
 | x :: l, 0, a, b, h => List.Perm.refl _
 | x :: l, i + 1, a, b, h => by
   have h1 := perm_front l i a b (by simpa using h);exact (List.Perm.cons x h1).trans (List.Perm.swap _ _ _)
theorem set_self' {α : Type} : ∀ (l : List α) (i : Nat) (a : α), l[i]? = some a → l.set i a = l
 | [], _, _, h => by simp at h
 | x :: l, 0, a, h => by simp at h; subst h; rfl
 | x :: l, i + 1, a, h => by
   have h1 := set_self' l i a (by simpa using h);simp [h1]
theorem Hp.front {o : Ob} (h : Hp W w0 w l) (i : Nat) (hi : l[i]? = some o) : Hp W w0 w (o :: l.eraseIdx i) := by
 have h1 := perm_front l i o o hi;rw [set_self' l i o hi] at h1;exact h.perm h1
theorem Hp.back {o : Ob} (i : Nat) (hl : i < l.length) (h : Hp W w0 w (o :: l.eraseIdx i)) : Hp W w0 w (l.set i o) :=
 h.perm (perm_front l i l[i] o (List.getElem?_eq_getElem hl)).symm
theorem Hp.vlt (i : Nat) {o : Ob} (hi : l[i]? = some o) : i < l.length := (List.getElem?_eq_some_iff.1 hi).1
theorem Hp.vc0 (h : Hp W w0 w l) (i : Nat) (hi : l[i]? = some (volOb gv next A n c L)) : w.cell? ⟨gv, 0, none⟩ = some (.int .i64 next) :=
 (h.front i hi).vopen.at_ 0 rfl (j := 0) rfl
theorem Hp.vc1 (h : Hp W w0 w l) (i : Nat) (hi : l[i]? = some (volOb gv next A n c L)) : w.cell? ⟨gv, 1, none⟩ = some (.slice A n c) :=
 (h.front i hi).vopen.at_ 0 rfl (j := 1) rfl
theorem Hp.vrd (h : Hp W w0 w l) (i : Nat) (hi : l[i]? = some (volOb gv next A n c L)) : RdN w A n L :=
 (h.front i hi).vopen.rdN2 1 2 rfl rfl
theorem Hp.vfree (h : Hp W w0 w l) (i : Nat) (hi : l[i]? = some (volOb gv next A n c L)) (j : Nat) : w.frozen? ⟨gv, j, none⟩ = false :=
 (h.front i hi).vopen.free 0 rfl j
theorem Hp.vform (h : Hp W w0 w l) (i : Nat) (hi : l[i]? = some (volOb gv next A n c L)) (hn : 0 < n) : ∃ g, A = some ⟨g, 0, none⟩ := by
 obtain ⟨g, c9, e9, _⟩ := (h.front i hi).vopen.form 1 rfl (by omega);injection e9 with e9a e9b e9c;exact ⟨g, e9a⟩
theorem Hp.vnc (h : Hp W w0 w l) (i : Nat) (hi : l[i]? = some (volOb gv next (some ⟨g, 0, none⟩) n c L)) {k r : Nat} {p : Value × Nod} {u : Value} (hp : L[k]? = some p) (hr : (cNV p)[r]? = some u) : w.cell? ⟨g, k * 5 + r, none⟩ = some u :=
 (h.front i hi).vopen.atL 1 rfl cNV_len hp hr
theorem Hp.vnfree (h : Hp W w0 w l) (i : Nat) (hi : l[i]? = some (volOb gv next (some ⟨g, 0, none⟩) n c L)) (j : Nat) : w.frozen? ⟨g, j, none⟩ = false :=
 (h.front i hi).vopen.free 1 rfl j
theorem Hp.vnset {k r : Nat} {p p' : Value × Nod} {u : Value} (h : Hp W w0 w l) (i : Nat) (hi : l[i]? = some (volOb gv next (some ⟨g, 0, none⟩) n c L)) (hp : L[k]? = some p) (hr : r < 5) (hf : cNV p' = (cNV p).set r u) (he : rowE p' = rowE p) :
 Hp W w0 (w.setCell ⟨g, k * 5 + r, none⟩ u) (l.set i (volOb gv next (some ⟨g, 0, none⟩) n c (L.set k p'))) :=
 Hp.back i (Hp.vlt i hi) (Hp.vshut (Hp.nset (h.front i hi).vopen 1 2 rfl rfl (by decide) hp hr hf he))
theorem Hp.vnil (h : Hp W w0 w l) (i : Nat) (hi : l[i]? = some (volOb gv next A n c L)) {p : Value × Nod} (hp : p ∈ L) {m d : Nat} (e : p.1 = .slice none m d) : d = 0 :=
 rowE_nil (((((h.front i hi).vopen).ok _ (List.mem_of_getElem? (i := 2) rfl)).1 (rowE _) (List.mem_map_of_mem hp))) e
theorem Hp.nlen {o : Ob} {E : TypeId} {k m : Nat} {v : Value} {xs : List Value} (h : Hp W w0 w (o :: .row E k v n xs :: l)) (e : n = m) : Hp W w0 w (o :: .row E k v m xs :: l) := e ▸ h
theorem Hp.vgrow {v' : Value} (y : Nod) {A' : Option Addr} {c' m : Nat} (h : Hp W w0 w (.row 28 2 (.slice (some ⟨gv, 0, none⟩) 1 1) 1 [.int .i64 next, .slice A n c] :: .row 53 5 v' m (L.flatMap cNV ++ cNV (.slice none 0 0, y)) :: .many (L.map rowE) :: l)) (hy : y.2.2.2.2 = []) (hv : v' = .slice A' m c') (hm : m = L.length + 1) :
 Hp W w0 (w.setCell ⟨gv, 1, none⟩ v') (volOb gv next A' m c' (L ++ [((.slice none 0 0, y) : Value × Nod)]) :: l) := by
 subst hv;have h1 := (h.put 0 rfl 1 (.slice A' m c')).nil_ 90 4;have h2 := Hp.push (r := rowE (.slice none 0 0, y)) (rs := L.map rowE) (by
  have e : (rowE (.slice none 0 0, y)).ob = .row 90 4 (.slice none 0 0) 0 [] := by simp [rowE, Row.ob, hy]
  rw [e]; exact h1) 2 rfl
 exact Hp.vshut (h2.recast (by simp))
theorem KT.lt0 {w : World} (h : KT w) : 0 < w.heap.size := by
 obtain ⟨b, o, e, hc⟩ := (show Rd w (some ⟨0, 0, none⟩) 27 2 (kpPairs.flatMap cPair) from h).2 (by decide);injection e with e;injection e with e1 e2;subst e1 e2;obtain ⟨u, hu⟩ : ∃ u, (kpPairs.flatMap cPair)[0]? = some u := ⟨_, rfl⟩;exact World.block_lt_of_cell? w _ (hc 0 u hu)
theorem Hp.v0 (H : Hp W w0 w l) (hk : KT w0) (h0 : 0 ∉ W) (i : Nat) (hi : l[i]? = some (volOb gv next A n c L)) : 0 ∉ Row.blocks (volRs gv next A n c L) := fun hb =>
 (H.own _ (List.mem_of_getElem? hi) 0 (Row.mem_blocks.1 hb)).elim (fun h1 => by have := hk.lt0; omega) h0
end
abbrev resL (r : ResT) : List Value := [.int .i64 r.1, .int .i64 r.2.1, .string r.2.2.1, .string r.2.2.2]
def DidV (gv : Nat) (next : Int) (A : Option Addr) (n c : Nat) (L : List (Value × Nod)) (w : World) (out : OutT) (e : Ending) (w' : World) : Prop :=
 e = .returned (.agg (resL out.2).toArray) ∧ ∃ A' n' c' L', nodes L' = out.1.2 ∧ Hp (Row.blocks (volRs gv next A n c L)) w w' [volOb gv out.1.1 A' n' c' L']
theorem DidV.mk {gv : Nat} {next : Int} {A : Option Addr} {n c : Nat} {L : List (Value × Nod)} {w w' : World} {out : OutT} {next' : Int} {A' : Option Addr} {n' c' : Nat} {L' : List (Value × Nod)} {l : List Ob} {r : ResT} (h : out = ((next', nodes L'), r)) (i : Nat) (H : Hp (Row.blocks (volRs gv next A n c L)) w w' l) (hi : l[i]? = some (volOb gv next' A' n' c' L')) : DidV gv next A n c L w out (.returned (.agg (resL r).toArray)) w' := by
 subst h;exact ⟨rfl, A', n', c', L', rfl, (H.front i hi).sub (by simp)⟩
theorem nodes_app (L : List (Value × Nod)) (p : Value × Nod) : nodes (L ++ [p]) = nodes L ++ [p.2] := by simp [nodes]
theorem nodes_set (L : List (Value × Nod)) (k : Nat) (p : Value × Nod) : nodes (L.set k p) = (nodes L).set k p.2 := by simp [nodes, List.map_set]
end Go.Proofs.YtmpldngnkacnmaaGreatDoor
namespace Go.Proofs.YtmpldngnkacnmaaGreatDoor
open Go.RowKit
theorem dirAt_hit {d : List EntT} {s : List UInt8} {k : Nat} {x : EntT} (hno : ∀ y ∈ d.take k, aliB (toB y.2.2.1) s = false) (hx : d[k]? = some x) (he : aliB (toB x.2.2.1) s = true) : dirAt d s = some k := by
 obtain ⟨hk, hxe⟩ := List.getElem?_eq_some_iff.1 hx;refine List.findIdx?_eq_some_iff_getElem.2 ⟨hk, by rw [hxe]; exact he, fun j hj => ?_⟩;have hjm : d[j] ∈ d.take k := by rw [List.mem_take_iff_getElem]; exact ⟨j, by omega, rfl⟩
 simpa using hno _ hjm
set_option maxRecDepth 100000 in
set_option maxHeartbeats 2000000 in
theorem l5At_any (A : Option Addr) (n c : Nat) (d : List EntT) (s : ByteArray) (w : World) (h : Rd w A n 4 (d.flatMap cEnt)) (hn : n ≤ 1048576) (hz : ∀ e ∈ d, e.2.2.1.size ≤ 16777216) (hs : s.size ≤ 16777216) :
 Calls Tryz.prog 90 #[.slice A n c, .string s] w fun e w' => e = .returned (.int .i64 (dirZ d s)) ∧ Fr w w' := by
 have HL := Lib.hid (show d.length = n from h.lenk cEnt_len (by omega));have HR := Lib.hid h;have HZ := Lib.hid hz;obtain ⟨z, ez⟩ : ∃ z, z = dirZ d s := ⟨_, rfl⟩;rw [← ez];have HZZ := Lib.hid ez;clear h hz ez;go_enter Tryz.func90, Tryz.ntmps90;go_wp2_with fail
 go_loopw [5] (fun iv wr => ∃ i : Nat, iv = .int .i64 i ∧ i ≤ n ∧ (∀ y ∈ d.take i, aliB (toB y.2.2.1) (toB s) = false) ∧ Fr w wr) (fun iv _ => n - (intOf iv).toNat)
 case atStart => exact ⟨0, rfl, by omega, by simp, Below.refl _ _⟩
 case round =>
  obtain ⟨i, rfl, hi, hno, hf⟩ := hrel;have HO := Lib.hid hno;have HF := Lib.hid hf;clear hno hf
  by_cases hlt : i < n
  ·obtain ⟨⟨x0, x1, x2, x3⟩, hx⟩ := some_at HL.out hlt
   have hx2 := HZ.out _ (List.mem_of_getElem? hx);simp only at hx2;obtain ⟨bk, of, rfl, hcell⟩ := (HR.out.fr HF.out).elem cEnt_len hx (by omega);have ca2 := hcell 2 _ rfl;have HX := Lib.hid hx;clear hx hcell;obtain ⟨b, hb⟩ : ∃ b, aliB (toB x2) (toB s) = b := ⟨_, rfl⟩;have HB := Lib.hid hb;clear hb;go_wp2_with fail;refine (specAlike_any x2 s _ hx2 hs).mono ?_;rintro e w2 ⟨rfl, f2⟩;rw [HB.out];have HF2 := Lib.hid (HF.out.then f2);clear f2 ca2
   cases b with
   | true =>
     have HE := Lib.hid (show z = (i : Int) from HZZ.out.trans (dirZ_some (dirAt_hit HO.out HX.out HB.out)));go_wp2_with fail;go_ret;rw [HE.out];exact ⟨rfl, HF2.out⟩
   | false =>
     have HO2 := Lib.hid (show ∀ y ∈ d.take (i + 1), aliB (toB y.2.2.1) (toB s) = false from fun y hy => by
      rw [List.take_add_one, HX.out] at hy
      rcases List.mem_append.1 hy with h5 | h5
      ·exact HO.out y h5
      ·simp only [Option.toList_some, List.mem_singleton] at h5; rw [h5]; exact HB.out)
     go_wp2_with fail;go_roundw
     case rel => exact ⟨i + 1, by go_num, by omega, HO2.out, HF2.out⟩
     case measure => simp [intOf]; omega
  ·have HE := Lib.hid (show z = -1 from HZZ.out.trans (dirZ_none (none_of fun e he => HO.out e (by rwa [List.take_of_length_le (by rw [HL.out]; omega)]))))
   go_wp2_with fail;go_ret;rw [HE.out];exact ⟨rfl, HF.out⟩
set_option maxHeartbeats 1000000 in
theorem l5Copy_any (A : Option Addr) (n c : Nat) (L : List EntT) (w : World) (h : Rd w A n 4 (L.flatMap cEnt)) (hn : n ≤ 1048576) (hc : A = none → c = 0) :
 Calls Tryz.prog 87 #[.slice A n c] w fun e w' => ∃ v', e = .returned v' ∧ Hp [] w w' [.row 90 4 v' n (L.flatMap cEnt)] := by
 have H := (Hp.start w).lit0 90 4;have hr := h.fr H.fr;have h1 : ∀ u ∈ L.flatMap cEnt, u.oneCell' = true := fun u hu => by
  obtain ⟨x, _, hx⟩ := List.mem_flatMap.1 hu;exact cEnt_one x u hx
 go_enter Tryz.func87, Tryz.ntmps87;go_wp2_with (at_builtin; refine wp_appRd (H) rfl _ _ _ rfl Tryz.underlying51 infoEnt rfl (by decide) 0 _ _ _ rfl rfl _ _ _ _ rfl (hc) (hr) (h1) (by first | (simp only [maxLen]; omega) | (simp [maxLen]; done) | (simp [maxLen]; omega)) (by first | omega | (simp; done) | (simp; omega)) ?_)
 intro v' w2 H2;have H9 := Lib.hid (H2.recast (l' := [.row 90 4 v' n (L.flatMap cEnt)]) (by simp));clear H2 H hr;go_wp2_with fail;go_ret;exact ⟨v', rfl, H9.out⟩
theorem Rd.take4 {w : World} {A : Option Addr} {n j : Nat} {L : List EntT} (h : Rd w A n 4 (L.flatMap cEnt)) (hj : j ≤ n) : Rd w A j 4 ((L.take j).flatMap cEnt) := by
 have hl : L.length = n := h.lenk cEnt_len (by omega);have e : (L.take j).flatMap cEnt = (L.flatMap cEnt).take (j * 4) := by
  clear h
  induction L generalizing n j with
  | nil => simp
  | cons a L ih =>
    cases j with
    | zero => simp
    | succ j =>
      rw [List.take_succ_cons, List.flatMap_cons, List.flatMap_cons, ih (n := n - 1) (j := j) (by omega) (by simp at hl; omega), show (j + 1) * 4 = (cEnt a).length + j * 4 by rw [cEnt_len]; omega, List.take_length_add_append]
 refine ⟨by rw [flat_len cEnt_len, List.length_take]; omega, fun hj0 => ?_⟩;obtain ⟨b, o, rfl, hc⟩ := h.2 (by omega);refine ⟨b, o, rfl, fun q u hu => hc q u ?_⟩;rw [e, List.getElem?_take] at hu
 split at hu
 ·exact hu
 ·cases hu
theorem Rd.drop4 {w : World} {b o n j : Nat} {L : List EntT} (h : Rd w (some ⟨b, o, none⟩) n 4 (L.flatMap cEnt)) (hj : j ≤ n) : Rd w (some ⟨b, o + j * 4, none⟩) (n - j) 4 ((L.drop j).flatMap cEnt) := by
 have hl : L.length = n := h.lenk cEnt_len (by omega);have e : (L.drop j).flatMap cEnt = (L.flatMap cEnt).drop (j * 4) := by
  clear h
  induction L generalizing n j with
  | nil => simp
  | cons a L ih =>
    cases j with
    | zero => simp
    | succ j =>
      rw [List.drop_succ_cons, List.flatMap_cons, ih (n := n - 1) (j := j) (by omega) (by simp at hl; omega), show (j + 1) * 4 = (cEnt a).length + j * 4 by rw [cEnt_len]; omega, List.drop_length_add_append]
 refine ⟨by rw [flat_len cEnt_len, List.length_drop]; omega, fun hj0 => ?_⟩;obtain ⟨b', o', ea, hc⟩ := h.2 (by omega);injection ea with ea; injection ea with ea eb;subst ea eb;refine ⟨b, o + j * 4, rfl, fun q u hu => ?_⟩;rw [e, List.getElem?_drop] at hu;rw [Nat.add_assoc]; exact hc _ u hu
set_option maxRecDepth 100000 in
set_option maxHeartbeats 2000000 in
theorem l5Drop_any (A : Option Addr) (n c k : Nat) (d : List EntT) (s : ByteArray) (w : World) (h : Rd w A n 4 (d.flatMap cEnt)) (hn : n ≤ 1048576) (hnc : n ≤ c) (hc63 : c ≤ 9223372036854775807) (hz : ∀ e ∈ d, e.2.2.1.size ≤ 16777216) (hs : s.size ≤ 16777216) (hat : dirAt d (toB s) = some k) :
 Calls Tryz.prog 94 #[.slice A n c, .string s] w (GaveD w (dropD d s)) := by
 have HE := Lib.hid (dirZ_some hat);have HD := Lib.hid (show dropD d s = (d.eraseIdx k, true) by rw [dropD, hat]);have HLD := Lib.hid (show d.length = n from h.lenk cEnt_len (by omega));have hkn : k < n := by rw [← HLD.out]; exact (List.getElem?_eq_some_iff.1 (dirAt_some hat).choose_spec.1).1
 rw [HD.out];obtain ⟨bk, of, rfl⟩ : ∃ bk of, A = some ⟨bk, of, none⟩ := by
  obtain ⟨b, o, e, _⟩ := h.2 (by omega);exact ⟨b, o, e⟩
 have HR := Lib.hid h;have HZ := Lib.hid hz;clear h hz hat;have hk0 : ¬ (k : Int) < 0 := by omega
 have h1 : ∀ l : List EntT, ∀ u ∈ l.flatMap cEnt, u.oneCell' = true := fun l u hu => by
  obtain ⟨x, _, hx⟩ := List.mem_flatMap.1 hu;exact cEnt_one x u hx
 go_enter Tryz.func94, Tryz.ntmps94;go_wp2_with fail;refine (l5At_any _ n c d s _ HR.out hn HZ.out hs).mono ?_;rintro e w1 ⟨rfl, f1⟩;rw [HE.out];have H := ((Hp.start w).go f1).lit0 90 4;have hr1 := (HR.out.fr H.fr).take4 (j := k) (by omega);clear f1;have hkc : k ≤ c := by omega
 have hkc1 : k + 1 ≤ c := by omega
 have hki : (k : Int) ≤ (c : Int) := by omega
 have hki1 : (k : Int) + 1 ≤ (n : Int) := by omega
 have hki0 : (0 : Int) ≤ (k : Int) + 1 := by omega
 have h1k := h1 (d.take k);have h1d := h1 (d.drop (k + 1));clear h1;go_wp2_with (at_builtin; refine wp_appRd (H) rfl _ _ _ rfl Tryz.underlying51 infoEnt rfl (by decide) 0 _ _ _ rfl rfl _ _ _ _ rfl (fun hh => by cases hh) (hr1) (h1k) (by first | (simp only [maxLen]; omega) | (simp [maxLen]; done) | (simp [maxLen]; omega)) (by first | omega | (simp; done) | (simp; omega)) ?_)
 intro v2 w2 H2;have H3 := H2.recast (l' := [.row 90 4 v2 k ((d.take k).flatMap cEnt)]) (by simp);have hr2 := (HR.out.fr H3.fr).drop4 (j := k + 1) (by omega);clear H H2 hr1
 by_cases hck : c = k + 1
 ·have hck2 : (c = k + 1) = True := eq_true hck
  have hr3 : Rd w2 (some ⟨bk, of, none⟩) (n - (k + 1)) 4 ((d.drop (k + 1)).flatMap cEnt) := by
   have e0 : n - (k + 1) = 0 := by omega
   rw [e0] at hr2 ⊢;exact ⟨hr2.1, fun hh => absurd hh (by omega)⟩
  clear hr2 hck;obtain ⟨A2, c2, rfl⟩ := H3.shape 0 rfl;go_wp2_with (at_builtin; refine wp_appRd (H3) rfl _ _ _ rfl Tryz.underlying51 infoEnt rfl (by decide) 0 _ _ _ rfl rfl _ _ _ _ rfl (fun hh => by cases hh) (hr3) (h1d) (by first | (simp only [maxLen]; omega) | (simp [maxLen]; done) | (simp [maxLen]; omega)) (by first | omega | (simp; done) | (simp; omega)) ?_)
  intro v4 w4 H4;have H9 := Lib.hid (show GaveD w (d.eraseIdx k, true) (.returned (.tuple #[v4, .bool true])) w4 from ⟨v4, rfl, H4.recast (by
   rw [List.length_eraseIdx_of_lt (by rw [HLD.out]; exact hkn), HLD.out, List.eraseIdx_eq_take_drop_succ, List.flatMap_append, show k + (n - (k + 1)) = n - 1 by omega])⟩)
  clear H3 H4;go_wp2_with fail;go_ret2;exact H9.out
 ·have hck2 : (c = k + 1) = False := eq_false hck
  clear hck;obtain ⟨A2, c2, rfl⟩ := H3.shape 0 rfl;go_wp2_with (at_builtin; refine wp_appRd (H3) rfl _ _ _ rfl Tryz.underlying51 infoEnt rfl (by decide) 0 _ _ _ rfl rfl _ _ _ _ rfl (fun hh => by cases hh) (hr2) (h1d) (by first | (simp only [maxLen]; omega) | (simp [maxLen]; done) | (simp [maxLen]; omega)) (by first | omega | (simp; done) | (simp; omega)) ?_)
  intro v4 w4 H4;have H9 := Lib.hid (show GaveD w (d.eraseIdx k, true) (.returned (.tuple #[v4, .bool true])) w4 from ⟨v4, rfl, H4.recast (by
   rw [List.length_eraseIdx_of_lt (by rw [HLD.out]; exact hkn), HLD.out, List.eraseIdx_eq_take_drop_succ, List.flatMap_append, show k + (n - (k + 1)) = n - 1 by omega])⟩)
  clear H3 H4;go_wp2_with fail;go_ret2;exact H9.out
set_option maxRecDepth 100000 in
set_option maxHeartbeats 2000000 in
theorem l5Respell_any (g n c k : Nat) (d : List EntT) (x : EntT) (s : ByteArray) (id : Int) (w : World) (h : w.ownsRow 0 90 4 (.slice (some ⟨g, 0, none⟩) n c) n (d.flatMap cEnt)) (hn : n ≤ 1048576) (hz : ∀ e ∈ d, e.2.2.1.size ≤ 16777216) (hs : s.size ≤ 16777216) (hat : dirAt d (toB s) = some k) (hx : d[k]? = some x) (hid : inB id 1 100000 = true) :
 Calls Tryz.prog 111 #[.slice (some ⟨g, 0, none⟩) n c, .string s, .int .i64 id] w fun e w' => e = .returned (.tuple #[.slice (some ⟨g, 0, none⟩) n c, .bool true]) ∧ Hp [g] w w' [.row 90 4 (.slice (some ⟨g, 0, none⟩) n c) n ((respD d s id).1.flatMap cEnt)] := by
 have HE := Lib.hid (dirZ_some hat);have HD := Lib.hid (respD_eq hat hx hid);have hl : d.length = n := (Rd.of_own h).lenk cEnt_len (by omega);have HLD := Lib.hid hl;have hkn : k < n := by rw [← hl]; exact (List.getElem?_eq_some_iff.1 hx).1
 rw [HD.out];have HX := Lib.hid hx;have HID := Lib.hid hid;have hk0 : ¬ (k : Int) < 0 := by omega
 have H := Hp.start_row h;have hr := Rd.of_own h;clear hat hx hid hl h;go_enter Tryz.func111, Tryz.ntmps111;go_wp2_with fail;refine (l5At_any _ n c d s _ hr hn hz hs).mono ?_;rintro e w3 ⟨rfl, f3⟩;replace H := H.go f3;clear f3 hr;rw [HE.out];go_wp2_with fail;refine (l1In_any id 1 100000 _).mono ?_;rintro e _ ⟨rfl, rfl⟩;rw [HID.out];have e2 := H.free 0 rfl (k * 4 + 2);have e3 := H.free 0 rfl (k * 4 + 3);have s2 := H.atL 0 rfl cEnt_len HX.out (r := 2) rfl;have s3 := H.atL 0 rfl cEnt_len HX.out (r := 3) rfl;have H2 := H.putL 0 rfl cEnt_len k 2 (x.1, x.2.1, s, x.2.2.2) (.string s) HX.out (by omega) rfl;have H3 := H2.putL 0 rfl cEnt_len k 3 (x.1, x.2.1, s, id) (.int .i64 id) (List.getElem?_set_self (by rw [HLD.out]; exact hkn)) (by omega) rfl;have H9 := Lib.hid (H3.recast (l' := [.row 90 4 (.slice (some ⟨g, 0, none⟩) n c) n ((d.set k (x.1, x.2.1, s, id)).flatMap cEnt)]) (by simp only [List.set_set]; rfl));clear H H2 H3;go_wp2_with fail;go_ret2;exact ⟨rfl, H9.out⟩
end Go.Proofs.YtmpldngnkacnmaaGreatDoor
namespace Go.Proofs.YtmpldngnkacnmaaGreatDoor
open Go.RowKit
def VFit (l : List Nod) : Prop := l.length ≤ 16 ∧ ∀ x ∈ l, DirR x.2.2.2.2
theorem VW.fit {next : Int} {l : List Nod} (h : VW next l) : VFit l :=
 ⟨h.len, fun x hx => by
  rcases h.typ x hx with t | t
  ·rw [t.2.1]; exact dirR_nil
  ·exact t.2.2⟩
theorem VFit.set {l : List Nod} (h : VFit l) (k : Nat) {y : Nod} (hd : DirR y.2.2.2.2) : VFit (l.set k y) :=
 ⟨by rw [List.length_set]; exact h.1, fun x hx => (List.mem_or_eq_of_mem_set hx).elim (h.2 x) fun e => e ▸ hd⟩
theorem name_len {s : List UInt8} (h : nameB s = true) : s.length ≤ 24 := by
 simp only [nameB, Bool.and_eq_true] at h;have h1 := inB_iff.1 h.1.1.1.1;omega
theorem key_name {s : List UInt8} (h : (keyR s).2 = true) : nameB s = true := by
 cases hn : nameB s with
 | true => rfl
 | false => rw [keyR_no hn] at h; cases h
theorem ent_small {d : List EntT} (h : DirR d) : ∀ e ∈ d, e.2.2.1.size ≤ 16777216 := fun e he => by
 have h1 := name_len (key_name (ent_key h he));rw [toB_len] at h1; omega
theorem VFit.few {L : List (Value × Nod)} (h : VFit (nodes L)) : L.length ≤ 16 ∧ (∀ p ∈ L, DirR p.2.2.2.2.2) ∧ (∀ p ∈ L, p.2.2.2.2.2.length ≤ 1048576) ∧ ∀ p ∈ L, ∀ e ∈ p.2.2.2.2.2, e.2.2.1.size ≤ 16777216 := by
 have h2 : ∀ p ∈ L, DirR p.2.2.2.2.2 := fun p hp => h.2 p.2 (List.mem_map_of_mem hp);exact ⟨by have := h.1; rwa [nodes_len] at this, h2, fun p hp => by have := (h2 p hp).len; omega, fun p hp => ent_small (h2 p hp)⟩
def entZ (l : List Nod) (k : Nat) (s : ByteArray) : Int := match lookD (entsOf l k) s with
 | none => -1
 | some e => atZ l e.2.2.2
theorem look_of {d : List EntT} {s : ByteArray} {k : Nat} (h : dirAt d (toB s) = some k) : ∃ e, d[k]? = some e ∧ lookD d s = some e := by
 obtain ⟨e, h1, _⟩ := dirAt_some h;exact ⟨e, h1, by rw [lookD, h]; exact h1⟩
end Go.Proofs.YtmpldngnkacnmaaGreatDoor
namespace Go.Proofs.YtmpldngnkacnmaaGreatDoor
open Go.RowKit
theorem named_le (i : Int) (m : Nat) : ∀ (l : List Nod), (∀ x ∈ l, x.2.2.2.2.length ≤ m) → namedN l i ≤ m * l.length
 | [], _ => by simp [namedN]
 | x :: l, h => by
   rw [namedN_cons, entsN_ids];have h1 : (idsE x.2.2.2.2).count i ≤ m := Nat.le_trans List.count_le_length (by rw [idsE, List.length_map]; exact h x List.mem_cons_self);have h2 := named_le i m l fun y hy => h y (List.mem_cons_of_mem _ hy);rw [List.length_cons, Nat.mul_succ]; omega
theorem VOk.links {next : Int} {l : List Nod} (h : VOk next l) {x : Nod} (hx : x ∈ l) : 0 ≤ x.2.2.1 ∧ x.2.2.1 ≤ 1048576 := by
 rcases h.lnk x hx with h1 | h1
 ·obtain ⟨r, hr, hr1, hr2⟩ := h.root_mem
  have := srt_inj h.srt hx hr (h1.trans hr1.symm);subst this;have := h.one x hx hr2;omega
 ·have h2 := named_le x.1 12 l fun y hy => (h.toVW.fit.2 y hy).len
  have := h.len;have h3 : 12 * l.length ≤ 192 := by omega
  omega
theorem VOk.links1 {next : Int} {l : List Nod} (h : VOk next l) {x y : Nod} (hx : x ∈ l) (hy : y ∈ l) {e : EntT} (he : e ∈ y.2.2.2.2) (hi : e.2.2.2 = x.1) : 1 ≤ x.2.2.1 := by
 have h1 := (h.ent y hy e he).1
 rcases h.lnk x hx with h2 | h2
 ·exact absurd (hi.trans h2) h1
 ·have := named_pos.2 ⟨y.1, (⟨y, hy, rfl, e, he, hi⟩ : Kid l y.1 x.1)⟩
  omega
theorem at_self {l : List Nod} {k : Nat} {x : Nod} (hs : Srt l) (hx : l[k]? = some x) : atN l x.1 = some k := by
 have h1 := atN_is.2 ⟨x, List.mem_of_getElem? hx, rfl⟩;obtain ⟨j, hj⟩ := Option.isSome_iff_exists.1 h1;obtain ⟨y, hy, e⟩ := at_of hj;rw [hj];obtain ⟨hjl, ej⟩ := List.getElem?_eq_some_iff.1 hy;obtain ⟨hkl, ek⟩ := List.getElem?_eq_some_iff.1 hx
 rcases Nat.lt_trichotomy j k with h2 | h2 | h2
 ·have := (List.pairwise_iff_getElem.1 hs) j k hjl hkl h2
  rw [ej, ek, e] at this; omega
 ·rw [h2]
 ·have := (List.pairwise_iff_getElem.1 hs) k j hkl hjl h2
  rw [ej, ek, e] at this; omega
theorem atN_ids : ∀ {l m : List Nod} (h : l.map (·.1) = m.map (·.1)) (i : Int), atN l i = atN m i := by
 intro l m h i;have e : ∀ k : List Nod, atN k i = (k.map (·.1)).findIdx? (fun z => z == i) := fun k => by rw [List.findIdx?_map]; rfl
 rw [e, e, h]
theorem set_get {L : List (Value × Nod)} {t k : Nat} {vt vn vk : Value} {t0 t1 t2 k0 k1 k2 : Int} {t3 k3 : ByteArray} {es es1 ks : List EntT} (hq : L[t]? = some (vt, t0, t1, t2, t3, es)) (hp : L[k]? = some (vk, k0, k1, k2, k3, ks)) :
 ∃ v' es', (L.set t (vn, t0, t1, t2, t3, es1))[k]? = some (v', k0, k1, k2, k3, es') ∧ es' = (if k = t then es1 else ks) := by
 by_cases h : k = t
 ·subst h
  rw [hp] at hq;injection hq with hq;injection hq with h1 hq; injection hq with h2 hq; injection hq with h3 hq; injection hq with h4 hq; injection hq with h5 h6;subst h1 h2 h3 h4 h5 h6;exact ⟨vn, es1, List.getElem?_set_self (List.getElem?_eq_some_iff.1 hp).1, by rw [if_pos rfl]⟩
 ·exact ⟨vk, ks, by rw [List.getElem?_set_ne (fun e => h e.symm)]; exact hp, by rw [if_neg h]⟩
section
variable {W : List Nat} {w0 w : World} {l : List Ob} {gv g : Nat} {next : Int} {A : Option Addr} {n c : Nat} {L : List (Value × Nod)}
theorem Hp.vents (h : Hp W w0 w l) (i : Nat) (hi : l[i]? = some (volOb gv next A n c L)) {k m d : Nat} {B : Option Addr} {x : Nod} (hp : L[k]? = some (.slice B m d, x)) : m = x.2.2.2.2.length ∧ Rd w B x.2.2.2.2.length 4 (x.2.2.2.2.flatMap cEnt) ∧ (B = none → d = 0) := by
 have hm := List.mem_of_getElem? hp;obtain ⟨B', d', e, hr⟩ := rowE_shape (((h.front i hi).vopen.ok _ (List.mem_of_getElem? (i := 2) rfl)).1 (rowE _) (List.mem_map_of_mem hm));simp only at e;injection e with e1 e2 e3;subst e1 e2 e3;exact ⟨rfl, hr, fun hB => by subst hB; exact h.vnil i hi hm rfl⟩
theorem Hp.vslice (h : Hp W w0 w l) (i : Nat) (hi : l[i]? = some (volOb gv next A n c L)) {k : Nat} {v : Value} {x : Nod} (hp : L[k]? = some (v, x)) : ∃ B d, v = .slice B x.2.2.2.2.length d := by
 obtain ⟨B', d', e, hr⟩ := rowE_shape (((h.front i hi).vopen.ok _ (List.mem_of_getElem? (i := 2) rfl)).1 (rowE _) (List.mem_map_of_mem (List.mem_of_getElem? hp)));exact ⟨B', d', e⟩
end
end Go.Proofs.YtmpldngnkacnmaaGreatDoor