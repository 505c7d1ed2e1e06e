/-
  Many texts in one: EntS, Node, NodeS, WriteS.
-/
import Derived.Test.YtmpldngnkacnmaaGreatDoorGc
import Derived.StillTailTactics
import Derived.Deep.RegionHeld3
set_option linter.unusedVariables false
set_option linter.unusedSimpArgs false
namespace Go.Proofs.YtmpldngnkacnmaaGreatDoor
open Go.RowKit
def cEnt (r : Int × Int × ByteArray × Int) : List Value := [.int .i64 r.1, .int .i64 r.2.1, .string r.2.2.1, .int .i64 r.2.2.2]
theorem cEnt_len (r : Int × Int × ByteArray × Int) : (cEnt r).length = 4 := rfl
theorem infoEnt : (Tryz.prog.info? 90).map (fun i => (i.zero, i.size, i.bytes)) = some (some (.agg #[.int .i64 0, .int .i64 0, .string ⟨#[]⟩, .int .i64 0]), 4, 40) := by kernel_rfl
end Go.Proofs.YtmpldngnkacnmaaGreatDoor
namespace Go.Proofs.YtmpldngnkacnmaaGreatDoor
open Go.RowKit
theorem Hp.into {W : List Nat} {w0 w : World} {l : List Ob} {rs : List Row} {r : Row} (h : Hp W w0 w (r.ob :: l)) (i : Nat) (hi : l[i]? = some (.many rs)) (j : Nat) : Hp W w0 w (l.set i (.many (rs.set j r))) := by
 have hm : Ob.many rs ∈ l := List.mem_of_getElem? hi;have hmo := h.ok _ (List.mem_cons_of_mem _ hm);have hro := h.ok _ List.mem_cons_self;have hap := List.pairwise_cons.1 h.ap;have hrm : ∀ r' ∈ rs, r.apart r' := fun r' hr' g hg hg2 => hap.1 _ hm g hg ⟨r', hr', hg2⟩;refine ⟨h.gr, fun o ho => ?_, fun o ho g hg => ?_, pairwise_set Ob.apart_symm hap.2 fun k b hk hb g hg => ?_⟩
 ·rcases List.mem_or_eq_of_mem_set ho with h1 | rfl
  ·exact h.ok _ (List.mem_cons_of_mem _ h1)
  ·refine ⟨fun r' hr' => ?_, pairwise_set Row.apart_symm hmo.2 fun k b _ hb => hrm b (List.mem_of_getElem? hb)⟩
   rcases List.mem_or_eq_of_mem_set hr' with h2 | rfl
   ·exact hmo.1 r' h2
   ·exact hro
 ·rcases List.mem_or_eq_of_mem_set ho with h1 | rfl
  ·exact h.own _ (List.mem_cons_of_mem _ h1) g hg
  ·obtain ⟨r', hr', hv⟩ := hg
   rcases List.mem_or_eq_of_mem_set hr' with h2 | rfl
   ·exact h.own _ (List.mem_cons_of_mem _ hm) g ⟨r', h2, hv⟩
   ·exact h.own _ List.mem_cons_self g hv
 ·obtain ⟨r', hr', hv⟩ := hg
  rcases List.mem_or_eq_of_mem_set hr' with h2 | rfl
  ·exact pairwise_at Ob.apart_symm hap.2 hi hb (fun e => hk e.symm) g ⟨r', h2, hv⟩
  ·exact hap.1 b (List.mem_of_getElem? hb) g hv
theorem Hp.push {W : List Nat} {w0 w : World} {l : List Ob} {rs : List Row} {r : Row} (h : Hp W w0 w (r.ob :: l)) (i : Nat) (hi : l[i]? = some (.many rs)) : Hp W w0 w (l.set i (.many (rs ++ [r]))) := by
 have hm : Ob.many rs ∈ l := List.mem_of_getElem? hi;have hmo := h.ok _ (List.mem_cons_of_mem _ hm);have hro := h.ok _ List.mem_cons_self;have hap := List.pairwise_cons.1 h.ap;have hrm : ∀ r' ∈ rs, r.apart r' := fun r' hr' g hg hg2 => hap.1 _ hm g hg ⟨r', hr', hg2⟩;refine ⟨h.gr, fun o ho => ?_, fun o ho g hg => ?_, pairwise_set Ob.apart_symm hap.2 fun k b hk hb g hg => ?_⟩
 ·rcases List.mem_or_eq_of_mem_set ho with h1 | rfl
  ·exact h.ok _ (List.mem_cons_of_mem _ h1)
  ·refine ⟨fun r' hr' => ?_, List.pairwise_append.2 ⟨hmo.2, List.pairwise_singleton _ _, fun a ha b hb => ?_⟩⟩
   ·rcases List.mem_append.1 hr' with h2 | h2
    ·exact hmo.1 r' h2
    ·rw [List.mem_singleton.1 h2]; exact hro
   ·rw [List.mem_singleton.1 hb]; exact Row.apart_symm (hrm a ha)
 ·rcases List.mem_or_eq_of_mem_set ho with h1 | rfl
  ·exact h.own _ (List.mem_cons_of_mem _ h1) g hg
  ·obtain ⟨r', hr', hv⟩ := hg
   rcases List.mem_append.1 hr' with h2 | h2
   ·exact h.own _ (List.mem_cons_of_mem _ hm) g ⟨r', h2, hv⟩
   ·rw [List.mem_singleton.1 h2] at hv; exact h.own _ List.mem_cons_self g hv
 ·obtain ⟨r', hr', hv⟩ := hg
  rcases List.mem_append.1 hr' with h2 | h2
  ·exact pairwise_at Ob.apart_symm hap.2 hi hb (fun e => hk e.symm) g ⟨r', h2, hv⟩
  ·rw [List.mem_singleton.1 h2] at hv; exact hap.1 b (List.mem_of_getElem? hb) g hv
theorem Hp.many0 {W : List Nat} {w0 w : World} {l : List Ob} (h : Hp W w0 w l) : Hp W w0 w (.many [] :: l) :=
 Hp.fold (rs := []) (by simpa using h)
theorem Hp.turnIn {W : List Nat} {w0 w w' : World} {l : List Ob} {rs : List Row} {r r' : Row} (h : Hp W w0 w l) (i : Nat) (hi : l[i]? = some (.many rs)) (j : Nat) (hj : rs[j]? = some r) (g : Gr r.v.ownBlock.toList w w') (ho : r'.ok w')
 (hb : r'.v.ownBlock = r.v.ownBlock ∨ ∀ b, r'.v.ownBlock = some b → w.heap.size ≤ b) : Hp W w0 w' (l.set i (.many (rs.set j r'))) := by
 have hmo := h.ok _ (List.mem_of_getElem? hi);refine h.turnG (o' := .many (rs.set j r')) i hi g (fun b hb => ⟨r, List.mem_of_getElem? hj, by simpa using hb⟩) ⟨fun x hx => ?_, pairwise_set Row.apart_symm hmo.2 fun k b hk hb2 => ?_⟩ (fun b hb2 => ?_)
 ·obtain ⟨k, hk⟩ := List.getElem?_of_mem hx
  by_cases hjk : j = k
  ·subst hjk
   rw [List.getElem?_set_self (List.getElem?_eq_some_iff.1 hj).1] at hk;injection hk with hk; subst hk; exact ho
  ·rw [List.getElem?_set_ne hjk] at hk
   exact row_kept (hmo.1 x (List.mem_of_getElem? hk)) g fun b hb2 hb3 => pairwise_at Row.apart_symm hmo.2 hj hk hjk b (by simpa using hb3) hb2
 ·intro c hc hc2
  rcases hb with e | e
  ·exact pairwise_at Row.apart_symm hmo.2 hj hb2 (fun e => hk e.symm) c (e ▸ hc) hc2
  ·have h1 := e c hc
   have h2 := (World.ownsRow.lt (hmo.1 b (List.mem_of_getElem? hb2)) c hc2).2;omega
 ·obtain ⟨x, hx, hv⟩ := hb2
  rcases List.mem_or_eq_of_mem_set hx with h2 | rfl
  ·exact .inl ⟨x, h2, hv⟩
  ·rcases hb with e | e
   ·exact .inl ⟨r, List.mem_of_getElem? hj, e ▸ hv⟩
   ·exact .inr (e b hv)
abbrev Nod := Int × Int × Int × ByteArray × List (Int × Int × ByteArray × Int)
instance decTail : DecidableEq (ByteArray × List (Int × Int × ByteArray × Int)) := inferInstance
instance decTail2 : DecidableEq (Int × Int × ByteArray × List (Int × Int × ByteArray × Int)) := inferInstance
instance decNod : DecidableEq Nod := inferInstance
def cNV (p : Value × Nod) : List Value := [.int .i64 p.2.1, .int .i64 p.2.2.1, .int .i64 p.2.2.2.1, .string p.2.2.2.2.1, p.1]
theorem cNV_len (p : Value × Nod) : (cNV p).length = 5 := rfl
def rowE (p : Value × Nod) : Row := ⟨90, 4, p.1, p.2.2.2.2.2.length, p.2.2.2.2.2.flatMap cEnt⟩
theorem infoInode : (Tryz.prog.info? 53).map (fun i => (i.zero, i.size, i.bytes)) = some (some (.agg #[.int .i64 0, .int .i64 0, .int .i64 0, .string ⟨#[]⟩, .slice none 0 0]), 5, 64) := by kernel_rfl
structure RdN (w : World) (A : Option Addr) (n : Nat) (L : List (Value × Nod)) : Prop where
 out : Rd w A n 5 (L.flatMap cNV)
 inn : ∀ p ∈ L, ∃ (B : Option Addr) (m d : Nat), p.1 = .slice B m d ∧ Rd w B m 4 (p.2.2.2.2.2.flatMap cEnt)
theorem RdN.fr {w w' : World} {A : Option Addr} {n : Nat} {L : List (Value × Nod)} (h : RdN w A n L) (f : Fr w w') : RdN w' A n L :=
 ⟨h.out.fr f, fun p hp => by
  obtain ⟨B, m, d, e, hr⟩ := h.inn p hp;exact ⟨B, m, d, e, hr.fr f⟩⟩
theorem RdN.len {w : World} {A : Option Addr} {n : Nat} {L : List (Value × Nod)} (h : RdN w A n L) : L.length = n := h.out.lenk cNV_len (by omega)
theorem rowE_shape {w : World} {p : Value × Nod} (h : (rowE p).ok w) : ∃ (B : Option Addr) (d : Nat), p.1 = .slice B p.2.2.2.2.2.length d ∧ Rd w B p.2.2.2.2.2.length 4 (p.2.2.2.2.2.flatMap cEnt) := by
 have h1 : w.ownsRow 0 90 4 p.1 p.2.2.2.2.2.length (p.2.2.2.2.2.flatMap cEnt) := h;obtain ⟨B, d, e⟩ := own_shape h1;rw [e] at h1;exact ⟨B, d, e, Rd.of_own h1⟩
def rowN (v : Value) (n : Nat) (L : List (Value × Nod)) : Row := ⟨53, 5, v, n, L.flatMap cNV⟩
def obN (v : Value) (n : Nat) (L : List (Value × Nod)) : Ob := .many (rowN v n L :: L.map rowE)
theorem Hp.join2 {W : List Nat} {w0 w : World} {l : List Ob} {r : Row} {rs : List Row} (h : Hp W w0 w (r.ob :: .many rs :: l)) : Hp W w0 w (.many (r :: rs) :: l) :=
 Hp.fold (rs := r :: rs) ((h.swap.unfold).perm (by
  rw [List.map_cons, List.cons_append];exact List.perm_middle))
theorem Hp.split2 {W : List Nat} {w0 w : World} {l : List Ob} {r : Row} {rs : List Row} (h : Hp W w0 w (.many (r :: rs) :: l)) : Hp W w0 w (r.ob :: .many rs :: l) :=
 (Hp.fold (rs := rs) ((h.unfold).perm (by
  rw [List.map_cons, List.cons_append];exact List.perm_middle.symm))).swap
theorem obN_rd {w : World} {A : Option Addr} {n m c : Nat} {L : List (Value × Nod)} (h : (obN (.slice A m c) n L).ok w) (hm : n = m) : RdN w A n L := by
 subst hm;exact ⟨Rd.of_own (show w.ownsRow 0 53 5 (.slice A n c) n (L.flatMap cNV) from h.1 _ List.mem_cons_self), fun p hp => by
  obtain ⟨B, d, e, hr⟩ := rowE_shape (h.1 (rowE p) (List.mem_cons_of_mem _ (List.mem_map_of_mem hp)));exact ⟨B, _, d, e, hr⟩⟩
theorem Hp.rdN {W : List Nat} {w0 w : World} {l : List Ob} {A : Option Addr} {n c : Nat} {L : List (Value × Nod)} (h : Hp W w0 w l) (i : Nat) (hi : l[i]? = some (obN (.slice A n c) n L)) : RdN w A n L :=
 obN_rd (h.ok _ (List.mem_of_getElem? hi)) rfl
theorem RdN.elem {w : World} {A : Option Addr} {n k : Nat} {L : List (Value × Nod)} {p : Value × Nod} (h : RdN w A n L) (hp : L[k]? = some p) :
 ∃ (b o : Nat) (B : Option Addr) (d : Nat), A = some ⟨b, o, none⟩ ∧ p.1 = .slice B p.2.2.2.2.2.length d ∧ Rd w B p.2.2.2.2.2.length 4 (p.2.2.2.2.2.flatMap cEnt) ∧ ∀ j u, (cNV p)[j]? = some u → w.cell? ⟨b, o + k * 5 + j, none⟩ = some u := by
 obtain ⟨b, o, hA, hc⟩ := h.out.elem cNV_len hp (by omega);obtain ⟨B, m, d, e, hr⟩ := h.inn p (List.mem_of_getElem? hp);have hm := hr.lenk cEnt_len (by omega);rw [← hm] at e hr;exact ⟨b, o, B, d, hA, e, hr, fun j u hu => hc j u hu⟩
end Go.Proofs.YtmpldngnkacnmaaGreatDoor
namespace Go.Proofs.YtmpldngnkacnmaaGreatDoor
open Go.RowKit
def nodes (L : List (Value × Nod)) : List Nod := L.map (·.2)
theorem nodes_len (L : List (Value × Nod)) : (nodes L).length = L.length := by simp [nodes]
end Go.Proofs.YtmpldngnkacnmaaGreatDoor
namespace Go.Proofs.YtmpldngnkacnmaaGreatDoor
open Go.RowKit
def cWrite (r : Int × ByteArray) : List Value := [.int .i64 r.1, .string r.2]
theorem cWrite_len (r : Int × ByteArray) : (cWrite r).length = 2 := rfl
theorem infoWrite : (Tryz.prog.info? 34).map (fun i => (i.zero, i.size, i.bytes)) = some (some (.agg #[.int .i64 0, .string ⟨#[]⟩]), 2, 24) := by kernel_rfl
end Go.Proofs.YtmpldngnkacnmaaGreatDoor