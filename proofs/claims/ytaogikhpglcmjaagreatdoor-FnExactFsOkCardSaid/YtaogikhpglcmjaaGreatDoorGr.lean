/-
  Many texts in one: MReadB, VolLinks, MReadC, Shift.
-/
import Derived.Test.YtaogikhpglcmjaaGreatDoorGn
import Derived.Test.YtaogikhpglcmjaaGreatDoorGp
import Derived.Test.YtaogikhpglcmjaaGreatDoorGo
import Derived.Test.YtaogikhpglcmjaaGreatDoorGb
import Derived.ArgAppend
namespace Go.Proofs.YtaogikhpglcmjaaGreatDoor
open Go.RowKit
set_option linter.unusedVariables false

/-! ### A right volume's parts are fine -/
theorem key_size {s : List UInt8} (h : (keyR s).2 = true) : s.length ≤ 24 := by
  cases hn : nameB s with
  | false => rw [keyR_no hn] at h; cases h
  | true =>
    simp only [nameB, Bool.and_eq_true] at hn
    have := inB_iff.1 hn.1.1.1.1
    omega
theorem ent1_fine {e : EntT} (h : entB1 e = true) : FineE e := by
  simp only [entB1, Bool.and_eq_true, beq_iff_eq] at h
  have h1 := inB_iff.1 h.1.2
  have h2 := inB_iff.1 h.2
  have h3 := key_size h.1.1.1
  rw [toB_len] at h3
  exact ⟨h.1.1.2, h1.1, by omega, by omega, by omega, by omega⟩
theorem namedN_few (id : Int) : ∀ (l : List Nod) (n : Nat), (∀ x ∈ l, x.2.2.2.2.length ≤ 12) → l.foldl (fun n x => n + entsN x.2.2.2.2 id) n ≤ n + 12 * l.length
  | [], n, _ => by simp
  | x :: l, n, h => by
    have h1 := namedN_few id l (n + entsN x.2.2.2.2 id) fun y hy => h y (List.mem_cons_of_mem _ hy)
    have h2 := h x List.mem_cons_self
    have h3 : entsN x.2.2.2.2 id ≤ x.2.2.2.2.length := List.countP_le_length
    rw [List.foldl_cons, List.length_cons]; omega
structure VolR (next : Int) (l : List Nod) : Prop where
  lo : 2 ≤ next
  hi : next ≤ 100000
  len : 1 ≤ l.length ∧ l.length ≤ 16
  nods : nodsTo next l l.length = true
theorem volB_R {next : Int} {l : List Nod} (h : volB next l = true) : VolR next l := by
  simp only [volB, Bool.and_eq_true] at h
  have h1 := h.1.1
  simp only [headOk, Bool.and_eq_true] at h1
  have h2 := inB_iff.1 h1.1.1
  have h3 := inB_iff.1 h1.1.2
  exact ⟨h2.1, h2.2, ⟨by omega, by omega⟩, h.1.2⟩
theorem nod_fine {next : Int} {l : List Nod} (h : VolR next l) : ∀ x ∈ l, FineN x := by
  intro x hx
  obtain ⟨k, hk⟩ := List.getElem?_of_mem hx
  have h1 := nodsTo_at h.nods hk
  have hf := nodsTo_few h.nods
  have hn : namedN l x.1 ≤ 192 := by
    have := namedN_few x.1 l 0 hf
    have := h.len.2
    rw [namedN]; omega
  unfold nodAt at h1
  simp only [Bool.and_eq_true] at h1
  have hid := inB_iff.1 h1.1.1
  have hok := h1.2
  have hhi := h.hi
  unfold nodOk at hok
  split at hok
  · rename_i hk1
    simp only [Bool.and_eq_true, decide_eq_true_eq] at hok
    obtain ⟨⟨o1, o2⟩, o3⟩ := hok
    exact ⟨by omega, by omega, by omega, by omega, by omega, by omega, by omega, by omega, fun e he => by
      rw [List.eq_nil_of_length_eq_zero o1] at he; simp at he⟩
  · simp only [Bool.and_eq_true, decide_eq_true_eq] at hok
    obtain ⟨⟨⟨⟨⟨o1, o2⟩, o3⟩, o4⟩, _⟩, _⟩ := hok
    have hR := dirB_R o4
    exact ⟨by omega, by omega, by omega, by omega, by omega, by omega, by omega, hR.len, fun e he => ent1_fine (hR.one e he)⟩
/-! ### The blocks' volume -/
open Classical in
noncomputable def readB (l : List ByteArray) : Option (Int × List Nod) :=
  if h : ∃ p : Int × List Nod, volB p.1 p.2 = true ∧ blocksB p.1 p.2 = l then some (Classical.choose h) else none
/-! ### As the program reads -/
def hdP1 (t : List UInt8) : Sc := (cutP (t, false) 1).2
def hdP2 (t : List UInt8) : Nat × Sc := numP (hdP1 t)
def hdP3 (t : List UInt8) : Nat × Sc := manyP (hdP2 t).2 16
def txt (l : List ByteArray) (k : Nat) : List UInt8 := match l[k]? with
  | some t => toB t
  | none => []
def nodesP (l : List ByteArray) : Nat → List Nod
  | 0 => []
  | k + 1 => nodesP l k ++ [(nodR (txt l (k + 1))).1]
theorem nodesP_len (l : List ByteArray) : ∀ k, (nodesP l k).length = k
  | 0 => rfl
  | k + 1 => by rw [nodesP, List.length_append, nodesP_len l k]; rfl
theorem blocksB_at {next : Int} {ns : List Nod} {k : Nat} {x : Nod} (hk : k < 16) (hx : ns[k]? = some x) : txt (blocksB next ns) (k + 1) = nodeB x := by
  have : (blocksB next ns)[k + 1]? = some (ofB (nodeB x)) := by
    rw [blocksB_eq]
    simp only [List.getElem?_cons_succ, List.getElem?_map, List.getElem?_range hk, Option.map_some]
    rw [blkAt, hx]
  rw [txt, this]
  exact toB_ofB _
theorem blocksB_0 (next : Int) (ns : List Nod) : txt (blocksB next ns) 0 = headB next ns.length := by
  rw [txt, blocksB_eq]
  exact toB_ofB _
theorem hd_app {next : Int} {n : Nat} (h0 : 0 ≤ next) (h1 : next ≤ 1000000) (hn : n ≤ 16) : (hdP2 (headB next n)).1 = next.toNat ∧ hdP3 (headB next n) = (n, ([], false)) := by
  have hb : headB next n = [117] ++ (varT next.toNat ++ (varT n ++ [])) := by
    simp only [headB, varB_int h0 (by omega), varB_nat (show n ≤ 562949953421311 by omega), List.append_nil, List.cons_append, List.nil_append]
  have key : ∀ R0 R1 : List UInt8, R0 = varT next.toNat ++ R1 → R1 = varT n ++ [] → (hdP2 ([117] ++ R0)).1 = next.toNat ∧ hdP3 ([117] ++ R0) = (n, ([], false)) := by
    intro R0 R1 q0 q1
    have k0 : hdP1 ([117] ++ R0) = (R0, false) := congrArg Prod.snd (cutP_app [117] _)
    have k1 : hdP2 ([117] ++ R0) = (next.toNat, (R1, false)) := by rw [hdP2, k0, q0]; exact numP_app (by omega) _
    exact ⟨by rw [k1], by rw [hdP3, k1, q1]; exact manyP_app (by omega) hn _⟩
  rw [hb]
  exact key _ _ rfl rfl
theorem nodesP_app {next : Int} {ns : List Nod} (hn : ns.length ≤ 16) (hf : ∀ x ∈ ns, FineN x) : ∀ k, k ≤ ns.length → nodesP (blocksB next ns) k = ns.take k
  | 0, _ => by simp [nodesP]
  | k + 1, hk => by
    obtain ⟨x, hx⟩ : ∃ x, ns[k]? = some x := ⟨_, List.getElem?_eq_getElem (by omega)⟩
    rw [nodesP, nodesP_app hn hf k (by omega), blocksB_at (by omega) hx, nodR_app (hf x (List.mem_of_getElem? hx)), List.take_add_one, hx]; rfl
/-- Of the blocks of a right volume all that is read is right, and what is read is that volume. -/
theorem read_back {next : Int} {ns : List Nod} (h : VolR next ns) : (hdP2 (txt (blocksB next ns) 0)).1 = next.toNat ∧ hdP3 (txt (blocksB next ns) 0) = (ns.length, ([], false)) ∧ (∀ k, k < ns.length → (nodR (txt (blocksB next ns) (k + 1))).2 = true) ∧ nodesP (blocksB next ns) ns.length = ns := by
  have hl := h.len
  have hf := nod_fine h
  obtain ⟨h1, h2⟩ := hd_app (n := ns.length) (show 0 ≤ next by have := h.lo; omega) (by have := h.hi; omega) hl.2
  rw [blocksB_0]
  refine ⟨h1, h2, fun k hk => ?_, by rw [nodesP_app hl.2 hf _ (Nat.le_refl _), List.take_length]⟩
  obtain ⟨x, hx⟩ : ∃ x, ns[k]? = some x := ⟨_, List.getElem?_eq_getElem hk⟩
  rw [blocksB_at (by omega) hx, nodR_app (hf x (List.mem_of_getElem? hx))]
theorem readB_yes {next : Int} {ns : List Nod} {l : List ByteArray} (h : volB next ns = true) (hb : blocksB next ns = l) : readB l = some (next, ns) := by
  classical
  have hex : ∃ p : Int × List Nod, volB p.1 p.2 = true ∧ blocksB p.1 p.2 = l := ⟨(next, ns), h, hb⟩
  rw [readB, dif_pos hex]
  congr 1
  obtain ⟨c1, c2⟩ := Classical.choose_spec hex
  obtain ⟨a1, a2, _, a4⟩ := read_back (volB_R h)
  obtain ⟨b1, b2, _, b4⟩ := read_back (volB_R c1)
  rw [c2] at b1 b2 b4
  rw [hb] at a1 a2 a4
  have e1 : (Classical.choose hex).1 = next := by
    have l1 := (volB_R c1).lo
    have l2 := (volB_R h).lo
    have := b1.symm.trans a1
    omega
  have e2 : (Classical.choose hex).2.length = ns.length := congrArg Prod.fst (b2.symm.trans a2)
  rw [e2] at b4
  exact Prod.ext e1 (b4.symm.trans a4)
theorem readB_no {l : List ByteArray} (h : ∀ next ns, volB next ns = true → blocksB next ns ≠ l) : readB l = none := by
  classical
  rw [readB, dif_neg]
  rintro ⟨p, h1, h2⟩
  exact h _ _ h1 h2
theorem readB_len {l : List ByteArray} (h : l.length ≠ 17) : readB l = none := readB_no fun next ns _ hb => h (by rw [← hb]; exact blocksB_len _ _)
/-- The program's ways to say no. -/
theorem readI_no1 {l : List ByteArray} (h : (hdP3 (txt l 0)).2.2 = true) : readB l = none := readB_no fun next ns hv hb => by
  obtain ⟨_, h2, _⟩ := read_back (volB_R hv)
  rw [hb] at h2
  rw [h2] at h; cases h
theorem readI_no2 {l : List ByteArray} {k : Nat} (hk : k < (hdP3 (txt l 0)).1) (h : (nodR (txt l (k + 1))).2 = false) : readB l = none := readB_no fun next ns hv hb => by
  obtain ⟨_, h2, h3, _⟩ := read_back (volB_R hv)
  rw [hb] at h2 h3
  rw [h2] at hk
  rw [h3 k hk] at h; cases h
theorem readI_no3 {l : List ByteArray} (h : volB ((hdP2 (txt l 0)).1 : Int) (nodesP l (hdP3 (txt l 0)).1) = false) : readB l = none := readB_no fun next ns hv hb => by
  obtain ⟨h1, h2, _, h4⟩ := read_back (volB_R hv)
  rw [hb] at h1 h2 h4
  rw [h1, h2, h4, Int.toNat_of_nonneg (by have := (volB_R hv).lo; omega), hv] at h
  cases h
theorem readI_no4 {l : List ByteArray} (h : blocksB ((hdP2 (txt l 0)).1 : Int) (nodesP l (hdP3 (txt l 0)).1) ≠ l) : readB l = none := readB_no fun next ns hv hb => by
  obtain ⟨h1, h2, _, h4⟩ := read_back (volB_R hv)
  rw [hb] at h1 h2 h4
  rw [h1, h2, h4, Int.toNat_of_nonneg (by have := (volB_R hv).lo; omega)] at h
  exact h hb
end Go.Proofs.YtaogikhpglcmjaaGreatDoor

namespace Go.Proofs.YtaogikhpglcmjaaGreatDoor
open Go.RowKit

set_option linter.unusedVariables false
set_option linter.unusedSimpArgs false
def FewE (L : List (Value × Nod)) : Prop := ∀ p ∈ L, p.2.2.2.2.2.length ≤ 1048576
theorem entsN_le (es : List EntT) (id : Int) : entsN es id ≤ es.length := List.countP_le_length
theorem namedN_le {L : List (Value × Nod)} (h : FewE L) (id : Int) : ∀ k, k ≤ L.length → namedN ((nodes L).take k) id ≤ k * 1048576
  | 0, _ => by simp [namedN]
  | k + 1, hk => by
    obtain ⟨p, hp⟩ : ∃ p, L[k]? = some p := ⟨_, List.getElem?_eq_getElem (by omega)⟩
    rw [namedN_take (nodes_at hp)]
    have h1 := namedN_le h id k (by omega)
    have h2 := entsN_le p.2.2.2.2.2 id
    have h3 := h p (List.mem_of_getElem? hp)
    omega
theorem entsN_all {es : List EntT} {m : Nat} (h : es.length = m) (id : Int) : entsN (es.take m) id = entsN es id := by rw [List.take_of_length_le (by omega)]
set_option maxRecDepth 100000 in
set_option maxHeartbeats 4000000 in
theorem implLinks_any (next : Int) (A : Option Addr) (n c : Nat) (L : List (Value × Nod)) (id : Int) (w : World) (h : RdN w A n L) (hn : n ≤ 1048576) (hfew : FewE L) :
    Calls Tryz.prog 108 #[.agg #[.int .i64 next, .slice A n c], .int .i64 id] w fun e w' => e = .returned (.int .i64 (namedN (nodes L) id)) ∧ Fr w w' := by
  have HL := Lib.hid h.len
  have HR := Lib.hid h
  have HFE := Lib.hid hfew
  have HB := Lib.hid (fun k hk => namedN_le hfew id k hk)
  have HF0 := Lib.hid ((Hp.start w).lay_ 26 [.int .i64 next, .slice A n c] rfl).fr
  obtain ⟨z, hz⟩ : ∃ z : Nat, z = namedN (nodes L) id := ⟨_, rfl⟩
  rw [← hz]
  have HZ := Lib.hid hz
  clear hz h hfew
  go_enter Tryz.func108, Tryz.ntmps108
  go_wp2_with fail
  go_loopw [5, 13] (fun cv iv wr => ∃ i k : Nat, iv = .int .i64 i ∧ cv = .int .i64 k ∧ i ≤ n ∧ k = namedN ((nodes L).take i) id ∧ Fr w wr) (fun _ iv _ => n - (intOf iv).toNat)
  case atStart => exact ⟨0, 0, rfl, rfl, by omega, rfl, HF0.out⟩
  case round =>
    obtain ⟨i, k, rfl, rfl, hi, hk, hf⟩ := hrel
    have HKE := Lib.hid hk
    have HF := Lib.hid hf
    have hkb : k ≤ i * 1048576 := by rw [hk]; exact HB.out i (by rw [HL.out]; exact hi)
    clear hk hf
    have hi0 : (0 : Int) ≤ (i : Int) := by omega
    by_cases hlt : i < n
    · have hi1 : (i : Int) < (n : Int) := by omega
      obtain ⟨⟨v, x0, x1, x2, x3, es⟩, hx⟩ := some_at HL.out hlt
      have hm := HFE.out _ (List.mem_of_getElem? hx)
      obtain ⟨bk, of, B1, d1, rfl, e1, r1, c1⟩ := (HR.out.fr HF.out).elem hx
      simp only at e1 r1 hm
      subst e1
      have ca0 := c1 0 _ rfl; simp only [Nat.add_zero] at ca0
      have ca1 := c1 1 _ rfl
      have ca2 := c1 2 _ rfl
      have ca3 := c1 3 _ rfl
      have ca4 := c1 4 _ rfl
      have HX := Lib.hid (nodes_at hx)
      have H2 := ((Hp.start w).go HF.out).lay_ 90 [.int .i64 x0, .int .i64 x1, .int .i64 x2, .string x3, .slice B1 es.length d1] rfl
      have HF2 := Lib.hid H2.fr
      have HR1 := Lib.hid (r1.fr (((Hp.start wr).lay_ 90 [.int .i64 x0, .int .i64 x1, .int .i64 x2, .string x3, .slice B1 es.length d1] rfl).fr))
      obtain ⟨m, hmm⟩ : ∃ m, m = es.length := ⟨_, rfl⟩
      have HM := Lib.hid hmm.symm
      rw [← hmm] at hm ca4 HF2 HR1
      clear hx c1 r1 H2 hmm
      obtain ⟨wA, hwA⟩ : ∃ x, x = wr.alloc (.cells #[.int .i64 x0, .int .i64 x1, .int .i64 x2, .string x3, .slice B1 m d1] 90) := ⟨_, rfl⟩
      have HR2 := Lib.hid (show Rd wA B1 m 4 (es.flatMap cEnt) by rw [hwA]; exact HR1.out)
      have HF3 := Lib.hid (show Fr w wA by rw [hwA]; exact HF2.out)
      have HWA := Lib.hid hwA
      clear hwA HR1 HF2
      go_wp2_with fail
      go_loopw [5, 20] (fun cv jv wq => ∃ j q : Nat, jv = .int .i64 j ∧ cv = .int .i64 q ∧ j ≤ m ∧ q = k + entsN (es.take j) id ∧ Fr wA wq) (fun _ jv _ => m - (intOf jv).toNat)
      case atStart => exact ⟨0, k, rfl, rfl, by omega, by simp [entsN], by rw [HWA.out]; exact Below.refl _ _⟩
      case round =>
        obtain ⟨j, q, rfl, rfl, hj, hq, hf⟩ := hrel
        have HQE := Lib.hid hq
        have HFQ := Lib.hid hf
        have hqb : q ≤ k + m := by
          have h1 := entsN_le (es.take j) id
          rw [List.length_take] at h1
          omega
        clear hq hf
        have hj0 : (0 : Int) ≤ (j : Int) := by omega
        by_cases hjt : j < m
        · have hj1 : (j : Int) < (m : Int) := by omega
          obtain ⟨⟨y0, y1, y2, y3⟩, hy⟩ := some_at HM.out hjt
          obtain ⟨bq, oq, rfl, hcell⟩ := (HR2.out.fr HFQ.out).elem cEnt_len hy (by omega)
          have cb0 := hcell 0 _ rfl; simp only [Nat.add_zero] at cb0
          have cb1 := hcell 1 _ rfl
          have cb2 := hcell 2 _ rfl
          have cb3 := hcell 3 _ rfl
          have HES := Lib.hid (entsN_take hy id)
          have HF4 := Lib.hid (HFQ.out.then ((Hp.start _).lay_ 127 [.int .i64 y0, .int .i64 y1, .string y2, .int .i64 y3] rfl).fr)
          clear hy hcell
          by_cases he : y3 = id
          · have HE := Lib.hid (show q + 1 = k + entsN (es.take (j + 1)) id by rw [HES.out, HQE.out, if_pos he]; omega)
            subst he
            go_wp2_with fail
            go_roundw
            case rel => exact ⟨j + 1, q + 1, by go_num, by go_num, by omega, HE.out, HF4.out⟩
            case measure => simp [intOf]; omega
          · have HE := Lib.hid (show q = k + entsN (es.take (j + 1)) id by rw [HES.out, HQE.out, if_neg he]; rfl)
            have he2 : (y3 == id) = false := by simpa using he
            go_wp2_with fail
            go_roundw
            case rel => exact ⟨j + 1, q, by go_num, rfl, by omega, HE.out, HF4.out⟩
            case measure => simp [intOf]; omega
        · have hj1 : ¬ (j : Int) < (m : Int) := by omega
          have HE := Lib.hid (show q = namedN ((nodes L).take (i + 1)) id by
            rw [namedN_take HX.out, HQE.out, HKE.out, show j = m by omega, entsN_all HM.out])
          have HF5 := Lib.hid (HF3.out.then HFQ.out)
          go_wp2_with fail
          go_roundw
          case rel => exact ⟨i + 1, q, by go_num, rfl, by omega, HE.out, HF5.out⟩
          case measure => simp [intOf]; omega
    · have hi1 : ¬ (i : Int) < (n : Int) := by omega
      have HE := Lib.hid (show z = k by
        rw [HZ.out, HKE.out, List.take_of_length_le (by rw [nodes_len, HL.out]; omega)])
      go_wp2_with fail
      go_ret
      rw [HE.out]
      exact ⟨rfl, HF.out⟩
set_option maxRecDepth 100000 in
set_option maxHeartbeats 4000000 in
theorem specNamed_any (next : Int) (A : Option Addr) (n c : Nat) (L : List (Value × Nod)) (id : Int) (w : World) (h : RdN w A n L) (hn : n ≤ 1048576) (hfew : FewE L) :
    Calls Tryz.prog 103 #[.agg #[.int .i64 next, .slice A n c], .int .i64 id] w fun e w' => e = .returned (.int .i64 (namedN (nodes L) id)) ∧ Fr w w' := by
  have HL := Lib.hid h.len
  have HFE := Lib.hid hfew
  have HB := Lib.hid (fun k hk => namedN_le hfew id k hk)
  have H := (Hp.start w).lay_ 26 [.int .i64 next, .slice A n c] rfl
  have HR := Lib.hid (h.fr H.fr)
  have HF0 := Lib.hid H.fr
  have yy1 := H.bat 0 rfl (j := 1) rfl
  obtain ⟨z, hz⟩ : ∃ z : Nat, z = namedN (nodes L) id := ⟨_, rfl⟩
  rw [← hz]
  have HZ := Lib.hid hz
  clear hz h hfew H
  go_enter Tryz.func103, Tryz.ntmps103
  go_wp2_with fail
  go_loopw [5, 6] (fun cv iv wr => ∃ i k : Nat, iv = .int .i64 i ∧ cv = .int .i64 k ∧ i ≤ n ∧ k = namedN ((nodes L).take i) id ∧ wr = w.alloc (.cells #[.int .i64 next, .slice A n c] 26)) (fun _ iv _ => n - (intOf iv).toNat)
  case atStart => exact ⟨0, 0, rfl, rfl, by omega, rfl, rfl⟩
  case round =>
    obtain ⟨i, k, rfl, rfl, hi, hk, rfl⟩ := hrel
    have HKE := Lib.hid hk
    have hkb : k ≤ i * 1048576 := by rw [hk]; exact HB.out i (by rw [HL.out]; exact hi)
    clear hk
    have hi0 : (0 : Int) ≤ (i : Int) := by omega
    by_cases hlt : i < n
    · have hi1 : (i : Int) < (n : Int) := by omega
      obtain ⟨⟨v, x0, x1, x2, x3, es⟩, hx⟩ := some_at HL.out hlt
      have hm := HFE.out _ (List.mem_of_getElem? hx)
      obtain ⟨bk, of, B1, d1, rfl, e1, r1, c1⟩ := HR.out.elem hx
      simp only at e1 r1 hm
      subst e1
      have ca4 := c1 4 _ rfl
      have HX := Lib.hid (nodes_at hx)
      obtain ⟨m, hmm⟩ : ∃ m, m = es.length := ⟨_, rfl⟩
      have HM := Lib.hid hmm.symm
      rw [← hmm] at hm ca4 r1
      have HR1 := Lib.hid r1
      clear hx c1 r1 hmm
      go_wp2_with fail
      go_loopw [5, 7] (fun cv jv wq => ∃ j q : Nat, jv = .int .i64 j ∧ cv = .int .i64 q ∧ j ≤ m ∧ q = k + entsN (es.take j) id ∧ wq = w.alloc (.cells #[.int .i64 next, .slice (some ⟨bk, of, none⟩) n c] 26)) (fun _ jv _ => m - (intOf jv).toNat)
      case atStart => exact ⟨0, k, rfl, rfl, by omega, by simp [entsN], rfl⟩
      case round =>
        obtain ⟨j, q, rfl, rfl, hj, hq, rfl⟩ := hrel
        have HQE := Lib.hid hq
        have hqb : q ≤ k + m := by
          have h1 := entsN_le (es.take j) id
          rw [List.length_take] at h1
          omega
        clear hq
        have hj0 : (0 : Int) ≤ (j : Int) := by omega
        by_cases hjt : j < m
        · have hj1 : (j : Int) < (m : Int) := by omega
          obtain ⟨⟨y0, y1, y2, y3⟩, hy⟩ := some_at HM.out hjt
          obtain ⟨bq, oq, rfl, hcell⟩ := HR1.out.elem cEnt_len hy (by omega)
          have cb3 := hcell 3 _ rfl
          have HES := Lib.hid (entsN_take hy id)
          clear hy hcell
          by_cases he : y3 = id
          · have HE := Lib.hid (show q + 1 = k + entsN (es.take (j + 1)) id by rw [HES.out, HQE.out, if_pos he]; omega)
            subst he
            go_wp2_with fail
            go_roundw
            case rel => exact ⟨j + 1, q + 1, by go_num, by go_num, by omega, HE.out, by trivial⟩
            case measure => simp [intOf]; omega
          · have HE := Lib.hid (show q = k + entsN (es.take (j + 1)) id by rw [HES.out, HQE.out, if_neg he]; rfl)
            have he2 : (y3 == id) = false := by simpa using he
            go_wp2_with fail
            go_roundw
            case rel => exact ⟨j + 1, q, by go_num, rfl, by omega, HE.out, by trivial⟩
            case measure => simp [intOf]; omega
        · have hj1 : ¬ (j : Int) < (m : Int) := by omega
          have HE := Lib.hid (show q = namedN ((nodes L).take (i + 1)) id by
            rw [namedN_take HX.out, HQE.out, HKE.out, show j = m by omega, entsN_all HM.out])
          go_wp2_with fail
          go_roundw
          case rel => exact ⟨i + 1, q, by go_num, rfl, by omega, HE.out, by trivial⟩
          case measure => simp [intOf]; omega
    · have hi1 : ¬ (i : Int) < (n : Int) := by omega
      have HE := Lib.hid (show z = k by
        rw [HZ.out, HKE.out, List.take_of_length_le (by rw [nodes_len, HL.out]; omega)])
      go_wp2_with fail
      go_ret
      rw [HE.out]
      exact ⟨rfl, HF0.out⟩
end Go.Proofs.YtaogikhpglcmjaaGreatDoor

namespace Go.Proofs.YtaogikhpglcmjaaGreatDoor
open Go.RowKit
set_option linter.unusedVariables false
set_option linter.unusedSimpArgs false

theorem entP_size (st : Sc) : (entP st).1.2.2.1.size ≤ st.1.length := by
  have h1 := pieceP_size (numP st).2
  have h2 := numP_len st
  show (ofB (pieceP (numP st).2).1).size ≤ _
  rw [ofB_size]; omega
theorem entsP_names (st : Sc) : ∀ k, ∀ e ∈ (entsP st k).1, e.2.2.1.size ≤ st.1.length
  | 0, e, he => by simp [entsP] at he
  | k + 1, e, he => by
    rw [entsP] at he
    rcases List.mem_append.1 he with h | h
    · exact entsP_names st k e h
    · rw [List.mem_singleton.1 h]
      exact Nat.le_trans (entP_size _) (entsP_sz st k)
theorem nodP6_len (t : List UInt8) : (nodP6 t).2.1.length ≤ t.length ∧ (nodP5 t).1.length ≤ t.length := by
  have h1 := cutP_len (t, false) 1
  have h2 := numP_len (nodP1 t)
  have h3 := numP_len (nodP2 t).2
  have h4 := numP_len (nodP3 t).2
  have h5 := pieceP_len (nodP4 t).2
  have h6 := manyP_len (nodP5 t).2 12
  have h7 := pieceP_size (nodP4 t).2
  have e1 : nodP1 t = (cutP (t, false) 1).2 := rfl
  have e2 : nodP2 t = numP (nodP1 t) := rfl
  have e3 : nodP3 t = numP (nodP2 t).2 := rfl
  have e4 : nodP4 t = numP (nodP3 t).2 := rfl
  have e5 : nodP5 t = pieceP (nodP4 t).2 := rfl
  have e6 : nodP6 t = manyP (nodP5 t).2 12 := rfl
  rw [← e1] at h1
  rw [← e2] at h2
  rw [← e3] at h3
  rw [← e4] at h4
  rw [← e5] at h5 h7
  rw [← e6] at h6
  simp only at h1
  omega
theorem nodR_few (t : List UInt8) : (nodR t).1.2.2.2.2.length ≤ 12 := by
  show (nodP7 t).1.length ≤ 12
  rw [nodP7, entsP_len]
  exact manyP_le _ _
theorem nodR_names (t : List UInt8) : ∀ e ∈ (nodR t).1.2.2.2.2, e.2.2.1.size ≤ t.length := fun e he =>
  Nat.le_trans (entsP_names _ _ e he) (nodP6_len t).1
theorem nodR_data (t : List UInt8) : (nodR t).1.2.2.2.1.size ≤ t.length := by
  show (ofB (nodP5 t).1).size ≤ _
  rw [ofB_size]; exact (nodP6_len t).2
theorem pieceB_le (s : ByteArray) : (pieceB s).length ≤ 7 + s.size := by
  rw [pieceB, List.length_append, toB_len]
  have := varB_len (s.size : Int)
  omega
theorem entB_le (e : EntT) {m : Nat} (h : e.2.2.1.size ≤ m) : (entB e).length ≤ 21 + m := by
  simp only [entB, List.length_append]
  have h1 := varB_len e.2.1
  have h2 := varB_len e.2.2.2
  have h3 := pieceB_le e.2.2.1
  omega
theorem flatE_le {m : Nat} : ∀ (es : List EntT), (∀ e ∈ es, e.2.2.1.size ≤ m) → (es.flatMap entB).length ≤ es.length * (21 + m)
  | [], _ => by simp
  | e :: es, h => by
    rw [List.flatMap_cons, List.length_append, List.length_cons, Nat.add_mul]
    have h1 := entB_le e (h e List.mem_cons_self)
    have h2 := flatE_le es fun x hx => h x (List.mem_cons_of_mem _ hx)
    omega
theorem nodeB_le {x : Nod} {m : Nat} (hm : m ≤ 16777216) (h1 : x.2.2.2.1.size ≤ m) (h2 : x.2.2.2.2.length ≤ 12) (h3 : ∀ e ∈ x.2.2.2.2, e.2.2.1.size ≤ m) : (nodeB x).length ≤ 2199023255552 := by
  obtain ⟨x0, x1, x2, x3, es⟩ := x
  simp only at h1 h2 h3
  have k1 := flatE_le es h3
  have k2 : es.length * (21 + m) ≤ 12 * (21 + m) := Nat.mul_le_mul_right _ h2
  have k3 := pieceB_le x3
  have v0 := varB_len x0
  have v1 := varB_len x1
  have v2 := varB_len x2
  have v3 := varB_len (es.length : Int)
  simp only [nodeB, List.length_append, List.length_cons]
  omega
/-- Inodes that were read out of texts of a bounded length. -/
def ReadSz (L : List (Value × Nod)) : Prop := ∀ p ∈ L, p.2.2.2.2.1.size ≤ 16777216 ∧ p.2.2.2.2.2.length ≤ 12 ∧ ∀ e ∈ p.2.2.2.2.2, e.2.2.1.size ≤ 16777216
theorem ReadSz.few {L : List (Value × Nod)} (h : ReadSz L) : FewE L := fun p hp => by have := (h p hp).2.1; omega
theorem ReadSz.nod {L : List (Value × Nod)} (h : ReadSz L) : NodSz L := fun p hp => by
  obtain ⟨h1, h2, h3⟩ := h p hp
  exact ⟨by omega, by omega, nodeB_le (Nat.le_refl _) h1 h2 h3⟩
theorem ReadSz.snoc {L : List (Value × Nod)} (h : ReadSz L) {V : Value} {t : List UInt8} (ht : t.length ≤ 16777216) : ReadSz (L ++ [(V, (nodR t).1)]) := fun p hp => by
  rcases List.mem_append.1 hp with h1 | h1
  · exact h p h1
  · rw [List.mem_singleton.1 h1]
    exact ⟨Nat.le_trans (nodR_data t) ht, nodR_few t, fun e he => Nat.le_trans (nodR_names t e he) ht⟩
theorem own_cap {w : World} {b : Nat} {E : TypeId} {k n c : Nat} {A : Option Addr} {xs : List Value} (h : w.ownsRow b E k (.slice A n c) n xs) : n ≤ c := by
  rcases h.2 with ⟨e, e2⟩ | ⟨g, cap, cur, e, _, _, h1, _⟩
  · omega
  · injection e with _ _ e
    rw [e]; exact h1
/-- What ReadBlocks hands back. -/
def ReadGave (w : World) (l : List ByteArray) (e : Ending) (w' : World) : Prop := match readB l with
  | none => e = .returned (.tuple #[.agg #[.int .i64 0, .slice none 0 0], .bool false]) ∧ Fr w w'
  | some p => ∃ (A : Option Addr) (c : Nat) (L : List (Value × Nod)), nodes L = p.2 ∧ volB p.1 p.2 = true ∧ blocksB p.1 p.2 = l ∧ ReadSz L ∧ e = .returned (.tuple #[.agg #[.int .i64 p.1, .slice A L.length c], .bool true]) ∧ L.length ≤ c ∧ Hp [] w w' [obN (.slice A L.length c) L.length L]
theorem readGave_no {w w' : World} {l : List ByteArray} (h : readB l = none) (f : Fr w w') : ReadGave w l (.returned (.tuple #[.agg #[.int .i64 0, .slice none 0 0], .bool false])) w' := by
  unfold ReadGave; rw [h]; exact ⟨rfl, f⟩
theorem readGave_yes {w w' : World} {l : List ByteArray} {next : Int} {A : Option Addr} {c : Nat} {L : List (Value × Nod)} (h1 : volB next (nodes L) = true) (h2 : blocksB next (nodes L) = l) (hs : ReadSz L) (hc : L.length ≤ c) (H : Hp [] w w' [obN (.slice A L.length c) L.length L]) :
    ReadGave w l (.returned (.tuple #[.agg #[.int .i64 next, .slice A L.length c], .bool true])) w' := by
  unfold ReadGave; rw [readB_yes h1 h2]
  exact ⟨A, c, L, rfl, h1, h2, hs, rfl, hc, H⟩
theorem nodes_snoc (L : List (Value × Nod)) (p : Value × Nod) : nodes (L ++ [p]) = nodes L ++ [p.2] := by simp [nodes]
theorem txt_at {l : List ByteArray} {k : Nat} {t : ByteArray} (h : l[k]? = some t) : txt l k = toB t := by rw [txt, h]
theorem nodesP_take (l : List ByteArray) (k : Nat) : nodesP l (k + 1) = nodesP l k ++ [(nodR (txt l (k + 1))).1] := rfl
end Go.Proofs.YtaogikhpglcmjaaGreatDoor

namespace Go.Proofs.YtaogikhpglcmjaaGreatDoor
open Go.RowKit

/-- What is left of a row of n elements (room for cap) behind its first j ones: r elements, room for s. Where no room is left the place is whatever it is. -/
def Left {α : Type} (n cap j r s : Nat) (xs ql : List α) : Prop := (r = 0 ∧ s = 0 ∧ ql = []) ∨ (n = j + r ∧ cap = j + s ∧ ql = xs.drop j)
section
variable {P : Program} (w : World)
theorem run_append_shift (base : Nat) (t ty e : TypeId) (i : TypeInfo) (z : Value) (bytes : Nat) (ht : P.underlying t = some (.slice e)) (hi : P.info? e = some i) (hz : i.zero = some z)
    (hsize : i.size = 1) (hby : i.bytes = bytes) (hzs : z.cells.size = 1)
    (g n cap j r s : Nat) (xs ql : List Value) (hown : w.ownsRow base e 1 (.slice (some ⟨g, 0, none⟩) n cap) n xs) (hv : Left n cap j r s xs ql)
    (a : Addr) (m c : Nat) (news : List Value) (hm : 0 < m) (hl : news.length = m) (hnews : ∀ j u, news[j]? = some u → w.cell? (a.add j) = some u) (h1 : ∀ u ∈ news, u.oneCell' = true)
    (h63 : n + m ≤ maxLen) (hbytes : (n + m) * bytes ≤ 140737488355328) (hbase : base ≤ w.heap.size) :
    ∃ w' g' j' r' s' n' cap' xs', (Builtin.append_ #[t, t] ty #[.slice (some ⟨g, j, none⟩) r s, .slice (some a) m c]).run P w = .ok (.slice (some ⟨g', j', none⟩) r' s') w' ∧
      n' = j' + r' ∧ cap' = j' + s' ∧ n' ≤ n + m ∧ w'.ownsRow base e 1 (.slice (some ⟨g', 0, none⟩) n' cap') n' xs' ∧ w.grownBy w' (some g) ∧
      ((g' = g ∧ j' = j ∧ xs' = xs ++ news ∧ ql = xs.drop j ∧ j ≤ xs.length) ∨ (g' = w.heap.size ∧ j' = 0 ∧ xs' = ql ++ news)) := by
  have hown2 := hown
  obtain ⟨hlen, ho⟩ := hown
  rcases ho with ⟨he, _⟩ | ⟨g0, cap0, cur, he, hbg, hg, hnc, hcm, hcs, htake⟩
  · cases he
  injection he with e1 _ e2
  injection e1 with e1
  injection e1 with e1
  subst e1 e2
  rw [Nat.mul_one] at hlen hcs htake
  have hql : ql.length = r := by
    rcases hv with ⟨h, _, e⟩ | ⟨h, _, e⟩
    · rw [e, h]; rfl
    · rw [e, List.length_drop]; omega
  have hrn : r ≤ n := by rcases hv with ⟨h, _, _⟩ | ⟨h, _, _⟩ <;> omega
  by_cases hroom : r + m ≤ s
  · have hv2 : n = j + r ∧ cap = j + s ∧ ql = xs.drop j := hv.resolve_left (by omega)
    obtain ⟨hn, hc, hq⟩ := hv2
    have hfit : n + news.length ≤ cur.size := by omega
    have hfc := run_firstCells_some (P := P) w 1 m a m c news (by omega) hnews
    have hst := run_storeCells_at P g n e news 0 cur w hg (by simpa using hfit) h1
    simp only [Nat.add_zero] at hst
    have hadd : (⟨g, j, none⟩ : Addr).add r = ⟨g, n, none⟩ := by rw [Addr.add_lit]; congr 1; omega
    obtain ⟨cur', hcur'⟩ : ∃ cur' : Array Value, cur' = (cur.toList.take n ++ news ++ cur.toList.drop (n + news.length)).toArray := ⟨_, rfl⟩
    rw [← hcur'] at hst
    refine ⟨w.setRow g cur', g, j, r + m, s, n + m, cap, xs ++ news, ?_, by omega, hc, Nat.le_refl _, ⟨by simp; omega, .inr ⟨g, cap, cur', rfl, hbg, setRow_heap w g cur cur' e (0, 0) hg, by omega, hcm, ?_, ?_⟩⟩, ⟨rfl, rfl, rfl, by simp, fun k _ hk => setRow_other w g k cur' (fun e => hk (by simp [e]))⟩, .inl ⟨rfl, rfl, rfl, hq, by omega⟩⟩
    · simp [Builtin.append_, run_underlying ht, sizeOf, typeInfo, hi, hsize, Builtin.lenOf, hroom, hfc, hadd, hst]
    · rw [hcur']; simp only [List.size_toArray, List.length_append, List.length_take, List.length_drop, Array.length_toList]
      omega
    · rw [hcur', Nat.mul_one]
      simp only [htake]
      have : (xs ++ news).length = n + m := by simp; omega
      rw [← this]
      exact List.take_left
  · have hcell := hown2.cells (g := g) rfl
    have holds : ∀ k u, ql[k]? = some u → w.cell? ((⟨g, j, none⟩ : Addr).add k) = some u := by
      intro k u hu
      rcases hv with ⟨_, _, hq⟩ | ⟨_, _, hq⟩
      · rw [hq] at hu; simp at hu
      · rw [hq, List.getElem?_drop] at hu
        have := hcell _ _ hu
        rw [Addr.add_lit] at this ⊢
        simpa using this
    obtain ⟨v', w', hr, ho2, hgr⟩ := run_append_arg_grows (P := P) w t ty e i z 1 bytes ht hi hz hsize hby hzs Nat.one_pos ⟨g, j, none⟩ r s ql (by omega) holds a m c news (by omega) hnews (by omega) (by omega)
      (Nat.le_trans (Nat.mul_le_mul_right _ (by omega)) hbytes)
    rcases ho2.2 with ⟨_, h0⟩ | ⟨g', cap', cur', hv', hbg', hg', k1, k2, k3, k4⟩
    · omega
    subst hv'
    refine ⟨w', g', 0, r + m, cap', r + m, cap', ql ++ news, hr, by omega, by omega, by omega, ⟨ho2.1, .inr ⟨g', cap', cur', rfl, by omega, hg', k1, k2, k3, k4⟩⟩, ⟨hgr.os, hgr.tape, hgr.output, hgr.size, fun k hk _ => hgr.block k hk (by simp)⟩, ?_⟩
    have hr2 := run_append_grow (P := P) w t ty e i z ht hi hz ⟨g, j, none⟩ r s ql (by rw [hsize]; omega) holds a m c news (by rw [hsize]; omega) hnews (by omega)
      (by simp only [maxLen] at h63; omega) (growslice_fits (by omega) (by rw [hby]; exact Nat.le_trans (Nat.mul_le_mul_right _ (by omega)) hbytes))
    rw [hr2] at hr
    injection hr with hr _
    injection hr with hr
    injection hr with hr
    injection hr with hr
    exact .inr ⟨hr.symm, rfl, rfl⟩
end
section
variable {P : Program} {ops : Array Oper} {rest : List Oper} {o : Oper} {a : Act} {Q : Exit → Act → World → Prop} {E : TypeId} {z : Value} {bytes : Nat} {W : List Nat} {w0 w : World} {l : List Ob}
/-- 'append(q, x)' where q is what is left of a row of the call's own behind its first j elements. -/
theorem wp_appShift {α : Type} {f : α → Value} (H : Hp W w0 w l) (hgd : o.guard = none) (s x : Operand) (t : TypeId) (ho : o.op = .call { callee := .builtin .append, args := #[s, x], argTypes := #[t, t] })
    (ht : P.underlying t = some (.slice E)) (hI : (P.info? E).map (fun i => (i.zero, i.size, i.bytes)) = some (some z, 1, bytes)) (hzs : z.cells.size = 1)
    (i : Nat) (g n cap j r q : Nat) (L ql : List α) (hrow : l[i]? = some (.row E 1 (.slice (some ⟨g, 0, none⟩) n cap) n (L.map f))) (hv : Left n cap j r q L ql) (hs : a.eval s = .slice (some ⟨g, j, none⟩) r q)
    (g1 : Nat) (T : TypeId) (y : α) (hx : a.eval x = .slice (some ⟨g1, 0, none⟩) 1 1) (hg : g1 = w.heap.size)
    (h1 : (f y).oneCell' = true) (h63 : n + 1 ≤ maxLen) (hbytes : (n + 1) * bytes ≤ 140737488355328)
    (h : ∀ (g' j' r' q' n' cap' : Nat) (L' : List α) (w' : World), n' ≤ n + 1 → Left n' cap' j' r' q' L' (ql ++ [y]) → Hp W w0 w' (l.set i (.row E 1 (.slice (some ⟨g', 0, none⟩) n' cap') n' (L'.map f))) → wpList P ops Q rest (a.put o.dst (.slice (some ⟨g', j', none⟩) r' q')) w') :
    wpList P ops Q (o :: rest) a (w.alloc (.cells #[f y] T)) := by
  subst hg
  obtain ⟨inf, hi, hz, hsize, hby⟩ := info_parts hI
  have H1 := H.al (.cells #[f y] T)
  have hlenL : L.length = n := by simpa using (H.row i hrow).1
  have hv2 : Left n cap j r q (L.map f) (ql.map f) := by
    rcases hv with ⟨h1, h2, h3⟩ | ⟨h1, h2, h3⟩
    · exact .inl ⟨h1, h2, by rw [h3]; rfl⟩
    · exact .inr ⟨h1, h2, by rw [h3, List.map_drop]⟩
  obtain ⟨w', g', j', r', q', n', cap', xs', hr, k1, k2, k2b, k3, k4, k5⟩ := run_append_shift (P := P) _ 0 t o.type E inf z bytes ht hi hz hsize hby hzs g n cap j r q (L.map f) (ql.map f) (H1.row i hrow) hv2 ⟨w.heap.size, 0, none⟩ 1 1 [f y] Nat.one_pos rfl
    (by simpa using news_at w #[f y] T) (by simpa using h1) h63 hbytes (Nat.zero_le _)
  refine wpList_plain hgd fun K hK => ?_
  unfold Oper.wp execOp
  simp only [ho, resolve, invoke, builtin, Sem.run_bind, Sem.run_pure, Result.andThen_ok, List.map_toArray, List.map_cons, List.map_nil, hs, hx, hr]
  refine hK _ _ ?_
  rcases k5 with ⟨rfl, rfl, rfl, k6, k7⟩ | ⟨rfl, rfl, rfl⟩
  · rcases hv with ⟨h1, h2, h3⟩ | ⟨h1, h2, h3⟩
    · -- nothing was left, and still it went in place: what was dropped is nothing
      have h4 : (L.drop j').map f = [] := by rw [List.map_drop, ← k6, h3]; rfl
      have h5 : L.drop j' = [] := List.map_eq_nil_iff.1 h4
      refine h g' j' r' q' n' cap' (L ++ [y]) w' k2b (.inr ⟨k1, k2, by rw [List.drop_append_of_le_length (by rw [List.length_map] at k7; exact k7), h5, h3]⟩) ?_
      rw [List.map_append]
      exact H1.grow i hrow k4 k3 (.inl rfl)
    · refine h g' j' r' q' n' cap' (L ++ [y]) w' k2b (.inr ⟨k1, k2, by rw [List.drop_append_of_le_length (by omega), h3]⟩) ?_
      rw [List.map_append]
      exact H1.grow i hrow k4 k3 (.inl rfl)
  · refine h _ 0 r' q' n' cap' (ql ++ [y]) w' k2b (.inr ⟨k1, k2, rfl⟩) ?_
    rw [List.map_append]
    exact H1.grow i hrow k4 k3 (.inr fun b hb => by injection hb with hb; rw [← hb]; exact Nat.le_refl _)
end
end Go.Proofs.YtaogikhpglcmjaaGreatDoor
