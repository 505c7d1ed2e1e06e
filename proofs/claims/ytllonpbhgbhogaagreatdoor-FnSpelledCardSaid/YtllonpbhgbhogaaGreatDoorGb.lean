/-
  Many texts in one: Node, NodeS, MText, TextW, MParts, Bputs, Bools.
-/
import Derived.Test.YtllonpbhgbhogaaGreatDoorGa
import Derived.Deep.RegionHeld3
import Derived.Laws.BitsLemmas
set_option linter.unusedVariables false
set_option linter.unusedSimpArgs false
namespace Go.Proofs.YtllonpbhgbhogaaGreatDoor
open Go.RowKit
theorem Hp.into {W : List Nat} {w0 w : World} {l : List Ob} {rs : List Row} {r : Row} (h : Hp W w0 w (r.ob :: l)) (i : Nat) (hi : l[i]? = some (.many rs)) (j : Nat) : Hp W w0 w (l.set i (.many (rs.set j r))) := by
 have hm : Ob.many rs ∈ l := List.mem_of_getElem? hi;have hmo := h.ok _ (List.mem_cons_of_mem _ hm);have hro := h.ok _ List.mem_cons_self;have hap := List.pairwise_cons.1 h.ap;have hrm : ∀ r' ∈ rs, r.apart r' := fun r' hr' g hg hg2 => hap.1 _ hm g hg ⟨r', hr', hg2⟩;refine ⟨h.gr, fun o ho => ?_, fun o ho g hg => ?_, pairwise_set Ob.apart_symm hap.2 fun k b hk hb g hg => ?_⟩
 ·rcases List.mem_or_eq_of_mem_set ho with h1 | rfl
  ·exact h.ok _ (List.mem_cons_of_mem _ h1)
  ·refine ⟨fun r' hr' => ?_, pairwise_set Row.apart_symm hmo.2 fun k b _ hb => hrm b (List.mem_of_getElem? hb)⟩
   rcases List.mem_or_eq_of_mem_set hr' with h2 | rfl
   ·exact hmo.1 r' h2
   ·exact hro
 ·rcases List.mem_or_eq_of_mem_set ho with h1 | rfl
  ·exact h.own _ (List.mem_cons_of_mem _ h1) g hg
  ·obtain ⟨r', hr', hv⟩ := hg
   rcases List.mem_or_eq_of_mem_set hr' with h2 | rfl
   ·exact h.own _ (List.mem_cons_of_mem _ hm) g ⟨r', h2, hv⟩
   ·exact h.own _ List.mem_cons_self g hv
 ·obtain ⟨r', hr', hv⟩ := hg
  rcases List.mem_or_eq_of_mem_set hr' with h2 | rfl
  ·exact pairwise_at Ob.apart_symm hap.2 hi hb (fun e => hk e.symm) g ⟨r', h2, hv⟩
  ·exact hap.1 b (List.mem_of_getElem? hb) g hv
theorem Hp.push {W : List Nat} {w0 w : World} {l : List Ob} {rs : List Row} {r : Row} (h : Hp W w0 w (r.ob :: l)) (i : Nat) (hi : l[i]? = some (.many rs)) : Hp W w0 w (l.set i (.many (rs ++ [r]))) := by
 have hm : Ob.many rs ∈ l := List.mem_of_getElem? hi;have hmo := h.ok _ (List.mem_cons_of_mem _ hm);have hro := h.ok _ List.mem_cons_self;have hap := List.pairwise_cons.1 h.ap;have hrm : ∀ r' ∈ rs, r.apart r' := fun r' hr' g hg hg2 => hap.1 _ hm g hg ⟨r', hr', hg2⟩;refine ⟨h.gr, fun o ho => ?_, fun o ho g hg => ?_, pairwise_set Ob.apart_symm hap.2 fun k b hk hb g hg => ?_⟩
 ·rcases List.mem_or_eq_of_mem_set ho with h1 | rfl
  ·exact h.ok _ (List.mem_cons_of_mem _ h1)
  ·refine ⟨fun r' hr' => ?_, List.pairwise_append.2 ⟨hmo.2, List.pairwise_singleton _ _, fun a ha b hb => ?_⟩⟩
   ·rcases List.mem_append.1 hr' with h2 | h2
    ·exact hmo.1 r' h2
    ·rw [List.mem_singleton.1 h2]; exact hro
   ·rw [List.mem_singleton.1 hb]; exact Row.apart_symm (hrm a ha)
 ·rcases List.mem_or_eq_of_mem_set ho with h1 | rfl
  ·exact h.own _ (List.mem_cons_of_mem _ h1) g hg
  ·obtain ⟨r', hr', hv⟩ := hg
   rcases List.mem_append.1 hr' with h2 | h2
   ·exact h.own _ (List.mem_cons_of_mem _ hm) g ⟨r', h2, hv⟩
   ·rw [List.mem_singleton.1 h2] at hv; exact h.own _ List.mem_cons_self g hv
 ·obtain ⟨r', hr', hv⟩ := hg
  rcases List.mem_append.1 hr' with h2 | h2
  ·exact pairwise_at Ob.apart_symm hap.2 hi hb (fun e => hk e.symm) g ⟨r', h2, hv⟩
  ·rw [List.mem_singleton.1 h2] at hv; exact hap.1 b (List.mem_of_getElem? hb) g hv
theorem Hp.many0 {W : List Nat} {w0 w : World} {l : List Ob} (h : Hp W w0 w l) : Hp W w0 w (.many [] :: l) :=
 Hp.fold (rs := []) (by simpa using h)
theorem Hp.turnIn {W : List Nat} {w0 w w' : World} {l : List Ob} {rs : List Row} {r r' : Row} (h : Hp W w0 w l) (i : Nat) (hi : l[i]? = some (.many rs)) (j : Nat) (hj : rs[j]? = some r) (g : Gr r.v.ownBlock.toList w w') (ho : r'.ok w')
 (hb : r'.v.ownBlock = r.v.ownBlock ∨ ∀ b, r'.v.ownBlock = some b → w.heap.size ≤ b) : Hp W w0 w' (l.set i (.many (rs.set j r'))) := by
 have hmo := h.ok _ (List.mem_of_getElem? hi);refine h.turnG (o' := .many (rs.set j r')) i hi g (fun b hb => ⟨r, List.mem_of_getElem? hj, by simpa using hb⟩) ⟨fun x hx => ?_, pairwise_set Row.apart_symm hmo.2 fun k b hk hb2 => ?_⟩ (fun b hb2 => ?_)
 ·obtain ⟨k, hk⟩ := List.getElem?_of_mem hx
  by_cases hjk : j = k
  ·subst hjk
   rw [List.getElem?_set_self (List.getElem?_eq_some_iff.1 hj).1] at hk;injection hk with hk; subst hk; exact ho
  ·rw [List.getElem?_set_ne hjk] at hk
   exact row_kept (hmo.1 x (List.mem_of_getElem? hk)) g fun b hb2 hb3 => pairwise_at Row.apart_symm hmo.2 hj hk hjk b (by simpa using hb3) hb2
 ·intro c hc hc2
  rcases hb with e | e
  ·exact pairwise_at Row.apart_symm hmo.2 hj hb2 (fun e => hk e.symm) c (e ▸ hc) hc2
  ·have h1 := e c hc
   have h2 := (World.ownsRow.lt (hmo.1 b (List.mem_of_getElem? hb2)) c hc2).2;omega
 ·obtain ⟨x, hx, hv⟩ := hb2
  rcases List.mem_or_eq_of_mem_set hx with h2 | rfl
  ·exact .inl ⟨x, h2, hv⟩
  ·rcases hb with e | e
   ·exact .inl ⟨r, List.mem_of_getElem? hj, e ▸ hv⟩
   ·exact .inr (e b hv)
abbrev Nod := Int × Int × Int × ByteArray × List (Int × Int × ByteArray × Int)
instance decTail : DecidableEq (ByteArray × List (Int × Int × ByteArray × Int)) := inferInstance
instance decTail2 : DecidableEq (Int × Int × ByteArray × List (Int × Int × ByteArray × Int)) := inferInstance
instance decNod : DecidableEq Nod := inferInstance
def cNV (p : Value × Nod) : List Value := [.int .i64 p.2.1, .int .i64 p.2.2.1, .int .i64 p.2.2.2.1, .string p.2.2.2.2.1, p.1]
theorem cNV_len (p : Value × Nod) : (cNV p).length = 5 := rfl
def rowE (p : Value × Nod) : Row := ⟨109, 4, p.1, p.2.2.2.2.2.length, p.2.2.2.2.2.flatMap cEnt⟩
theorem infoInode : (Tryz.prog.info? 76).map (fun i => (i.zero, i.size, i.bytes)) = some (some (.agg #[.int .i64 0, .int .i64 0, .int .i64 0, .string ⟨#[]⟩, .slice none 0 0]), 5, 64) := by kernel_rfl
structure RdN (w : World) (A : Option Addr) (n : Nat) (L : List (Value × Nod)) : Prop where
 out : Rd w A n 5 (L.flatMap cNV)
 inn : ∀ p ∈ L, ∃ (B : Option Addr) (m d : Nat), p.1 = .slice B m d ∧ Rd w B m 4 (p.2.2.2.2.2.flatMap cEnt)
theorem RdN.fr {w w' : World} {A : Option Addr} {n : Nat} {L : List (Value × Nod)} (h : RdN w A n L) (f : Fr w w') : RdN w' A n L :=
 ⟨h.out.fr f, fun p hp => by
  obtain ⟨B, m, d, e, hr⟩ := h.inn p hp;exact ⟨B, m, d, e, hr.fr f⟩⟩
theorem RdN.len {w : World} {A : Option Addr} {n : Nat} {L : List (Value × Nod)} (h : RdN w A n L) : L.length = n := h.out.lenk cNV_len (by omega)
theorem rowE_shape {w : World} {p : Value × Nod} (h : (rowE p).ok w) : ∃ (B : Option Addr) (d : Nat), p.1 = .slice B p.2.2.2.2.2.length d ∧ Rd w B p.2.2.2.2.2.length 4 (p.2.2.2.2.2.flatMap cEnt) := by
 have h1 : w.ownsRow 0 109 4 p.1 p.2.2.2.2.2.length (p.2.2.2.2.2.flatMap cEnt) := h;obtain ⟨B, d, e⟩ := own_shape h1;rw [e] at h1;exact ⟨B, d, e, Rd.of_own h1⟩
def rowN (v : Value) (n : Nat) (L : List (Value × Nod)) : Row := ⟨76, 5, v, n, L.flatMap cNV⟩
def obN (v : Value) (n : Nat) (L : List (Value × Nod)) : Ob := .many (rowN v n L :: L.map rowE)
theorem Hp.join2 {W : List Nat} {w0 w : World} {l : List Ob} {r : Row} {rs : List Row} (h : Hp W w0 w (r.ob :: .many rs :: l)) : Hp W w0 w (.many (r :: rs) :: l) :=
 Hp.fold (rs := r :: rs) ((h.swap.unfold).perm (by
  rw [List.map_cons, List.cons_append];exact List.perm_middle))
theorem Hp.split2 {W : List Nat} {w0 w : World} {l : List Ob} {r : Row} {rs : List Row} (h : Hp W w0 w (.many (r :: rs) :: l)) : Hp W w0 w (r.ob :: .many rs :: l) :=
 (Hp.fold (rs := rs) ((h.unfold).perm (by
  rw [List.map_cons, List.cons_append];exact List.perm_middle.symm))).swap
theorem obN_rd {w : World} {A : Option Addr} {n m c : Nat} {L : List (Value × Nod)} (h : (obN (.slice A m c) n L).ok w) (hm : n = m) : RdN w A n L := by
 subst hm;exact ⟨Rd.of_own (show w.ownsRow 0 76 5 (.slice A n c) n (L.flatMap cNV) from h.1 _ List.mem_cons_self), fun p hp => by
  obtain ⟨B, d, e, hr⟩ := rowE_shape (h.1 (rowE p) (List.mem_cons_of_mem _ (List.mem_map_of_mem hp)));exact ⟨B, _, d, e, hr⟩⟩
theorem Hp.rdN {W : List Nat} {w0 w : World} {l : List Ob} {A : Option Addr} {n c : Nat} {L : List (Value × Nod)} (h : Hp W w0 w l) (i : Nat) (hi : l[i]? = some (obN (.slice A n c) n L)) : RdN w A n L :=
 obN_rd (h.ok _ (List.mem_of_getElem? hi)) rfl
theorem RdN.elem {w : World} {A : Option Addr} {n k : Nat} {L : List (Value × Nod)} {p : Value × Nod} (h : RdN w A n L) (hp : L[k]? = some p) :
 ∃ (b o : Nat) (B : Option Addr) (d : Nat), A = some ⟨b, o, none⟩ ∧ p.1 = .slice B p.2.2.2.2.2.length d ∧ Rd w B p.2.2.2.2.2.length 4 (p.2.2.2.2.2.flatMap cEnt) ∧ ∀ j u, (cNV p)[j]? = some u → w.cell? ⟨b, o + k * 5 + j, none⟩ = some u := by
 obtain ⟨b, o, hA, hc⟩ := h.out.elem cNV_len hp (by omega);obtain ⟨B, m, d, e, hr⟩ := h.inn p (List.mem_of_getElem? hp);have hm := hr.lenk cEnt_len (by omega);rw [← hm] at e hr;exact ⟨b, o, B, d, hA, e, hr, fun j u hu => hc j u hu⟩
end Go.Proofs.YtllonpbhgbhogaaGreatDoor
namespace Go.Proofs.YtllonpbhgbhogaaGreatDoor
open Go.RowKit
def nodes (L : List (Value × Nod)) : List Nod := L.map (·.2)
theorem nodes_len (L : List (Value × Nod)) : (nodes L).length = L.length := by simp [nodes]
end Go.Proofs.YtllonpbhgbhogaaGreatDoor
namespace Go.Proofs.YtllonpbhgbhogaaGreatDoor
open Go.RowKit
def sgnB (c : Int) : Bool := inB c 0 1114111 && !inB c 55296 57343
theorem sgn_bounds {c : Int} (h : sgnB c = true) : 0 ≤ c ∧ c ≤ 1114111 := by
 simp only [sgnB, Bool.and_eq_true, inB_iff] at h; exact h.1
def contF (c : Int) (b : UInt8) : Option Int := if 128 ≤ b.toNat ∧ b.toNat ≤ 191 then some (c * 64 + (b.toNat : Int) % 64) else none
def accC : Int → List UInt8 → Option Int
 | c, [] => some c
 | c, b :: r => (contF c b).bind fun d => accC d r
theorem accC_snoc : ∀ (l : List UInt8) (c : Int) (b : UInt8), accC c (l ++ [b]) = (accC c l).bind fun d => contF d b
 | [], c, b => by simp only [List.nil_append, accC, Option.bind_some]; cases contF c b <;> rfl
 | a :: l, c, b => by
   simp only [List.cons_append, accC]
   cases contF c a with
   | none => rfl
   | some d => simp only [Option.bind_some]; exact accC_snoc l d b
theorem accC_top : ∀ (l : List UInt8) (c m d : Int), 0 ≤ c → c < m → accC c l = some d → 0 ≤ d ∧ d < m * 64 ^ l.length
 | [], c, m, d, h0, h1, h => by simp only [accC, Option.some.injEq] at h; subst h; simpa using ⟨h0, h1⟩
 | b :: l, c, m, d, h0, h1, h => by
   simp only [accC] at h
   rcases hc : contF c b with _ | e
   ·rw [hc] at h; cases h
   ·rw [hc, Option.bind_some] at h
    have he : 0 ≤ e ∧ e < m * 64 := by
     unfold contF at hc
     split at hc
     ·injection hc with hc; omega
     ·cases hc
    have := accC_top l e (m * 64) d he.1 he.2 h;rw [List.length_cons, Int.pow_succ]
    rwa [Int.mul_assoc, Int.mul_comm 64] at this
def leadF (b : UInt8) : Int := if b.toNat < 128 then b.toNat else if b.toNat ≤ 223 then (b.toNat : Int) % 32 else if b.toNat ≤ 239 then (b.toNat : Int) % 16 else (b.toNat : Int) % 8
def sizeF (b : UInt8) : Nat := if b.toNat < 128 then 1 else if b.toNat < 192 then 0 else if b.toNat ≤ 223 then 2 else if b.toNat ≤ 239 then 3 else if b.toNat ≤ 247 then 4 else 0
def leastC : Nat → Int
 | 2 => 128
 | 3 => 2048
 | 4 => 65536
 | _ => 0
theorem sizeF_cases (b : UInt8) : (sizeF b = 1 ∧ b.toNat < 128) ∨ (sizeF b = 0 ∧ 128 ≤ b.toNat ∧ (b.toNat < 192 ∨ 247 < b.toNat)) ∨ (sizeF b = 2 ∧ 192 ≤ b.toNat ∧ b.toNat ≤ 223) ∨ (sizeF b = 3 ∧ 224 ≤ b.toNat ∧ b.toNat ≤ 239) ∨ (sizeF b = 4 ∧ 240 ≤ b.toNat ∧ b.toNat ≤ 247) := by
 unfold sizeF
 split
 ·left; exact ⟨rfl, by assumption⟩
 ·split
  ·right; left; exact ⟨rfl, by omega, by omega⟩
  ·split
   ·right; right; left; exact ⟨rfl, by omega, by omega⟩
   ·split
    ·right; right; right; left; exact ⟨rfl, by omega, by omega⟩
    ·split
     ·right; right; right; right; exact ⟨rfl, by omega, by omega⟩
     ·right; left; exact ⟨rfl, by omega, by omega⟩
def oneT (b : UInt8) (r : List UInt8) : Int × Nat :=
 if sizeF b = 0 ∨ r.length + 1 < sizeF b then (0, 0) else
  match accC (leadF b) (r.take (sizeF b - 1)) with
  | none => (0, 0)
  | some c => if c < leastC (sizeF b) ∨ sgnB c = false then (0, 0) else (c, sizeF b)
def oneF : List UInt8 → Int × Nat
 | [] => (0, 0)
 | b :: r => oneT b r
theorem oneT_none {b : UInt8} {r : List UInt8} (h : sizeF b = 0 ∨ r.length + 1 < sizeF b) : oneT b r = (0, 0) := by rw [oneT, if_pos h]
theorem oneT_broken {b : UInt8} {r : List UInt8} (h : accC (leadF b) (r.take (sizeF b - 1)) = none) : oneT b r = (0, 0) := by
 rw [oneT]; split
 ·rfl
 ·rw [h]
theorem oneT_some {b : UInt8} {r : List UInt8} {c : Int} (h0 : sizeF b ≠ 0) (h1 : sizeF b ≤ r.length + 1) (h : accC (leadF b) (r.take (sizeF b - 1)) = some c) : oneT b r = if c < leastC (sizeF b) ∨ sgnB c = false then (0, 0) else (c, sizeF b) := by
 rw [oneT, if_neg (by omega), h]
theorem oneT_small {b : UInt8} {r : List UInt8} (h : b.toNat < 128) : oneT b r = ((b.toNat : Int), 1) := by
 have h1 : sizeF b = 1 := by rw [sizeF, if_pos h]
 have h2 : leadF b = b.toNat := by rw [leadF, if_pos h]
 rw [oneT_some (by omega) (by omega) (c := b.toNat) (by rw [h1, h2]; rfl), h1, if_neg];simp only [leastC, sgnB, inB];rintro (h3 | h3)
 ·omega
 ·simp at h3; omega
theorem oneT_good (b : UInt8) (r : List UInt8) : oneT b r = (0, 0) ∨ ((oneT b r).2 = sizeF b ∧ 0 < sizeF b ∧ sizeF b ≤ r.length + 1 ∧ sgnB (oneT b r).1 = true) := by
 rw [oneT]
 split
 ·exact .inl rfl
 ·split
  ·exact .inl rfl
  ·split
   ·exact .inl rfl
   ·rename_i h1 _ c _ h2
    right
    refine ⟨rfl, by omega, by omega, ?_⟩;simp only [not_or, Bool.not_eq_false] at h2;exact h2.2
theorem oneF_le (s : List UInt8) : (oneF s).2 ≤ s.length := by
 cases s with
 | nil => simp [oneF]
 | cons b r =>
   rcases oneT_good b r with h | h
   ·rw [oneF, h]; simp
   ·rw [oneF, h.1, List.length_cons]; omega
theorem oneF_sgn {s : List UInt8} (h : (oneF s).2 ≠ 0) : sgnB (oneF s).1 = true := by
 cases s with
 | nil => simp [oneF] at h
 | cons b r =>
   rcases oneT_good b r with h1 | h1
   ·rw [oneF, h1] at h; simp at h
   ·exact h1.2.2.2
def decF : Nat → List UInt8 → Option (List Int)
 | 0, s => if s = [] then some [] else none
 | f + 1, s => if s = [] then some [] else if (oneF s).2 = 0 then none else (decF f (s.drop (oneF s).2)).map ((oneF s).1 :: ·)
theorem decF_fuel : ∀ (f : Nat) (s : List UInt8), s.length ≤ f → decF f s = decF s.length s
 | 0, s, h => by
   have : s = [] := List.eq_nil_of_length_eq_zero (by omega);subst this; rfl
 | f + 1, [], _ => by simp [decF]
 | f + 1, b :: r, h => by
   simp only [List.length_cons] at h;rw [List.length_cons, decF, decF]
   by_cases h0 : (oneF (b :: r)).2 = 0
   ·simp [h0]
   ·have h1 : ((b :: r).drop (oneF (b :: r)).2).length ≤ r.length := by rw [List.length_drop, List.length_cons]; omega
    rw [decF_fuel f _ (by omega), decF_fuel r.length _ h1]
def decL (s : List UInt8) : Option (List Int) := decF s.length s
theorem decL_nil : decL [] = some [] := rfl
theorem decL_stop {s : List UInt8} (hs : s ≠ []) (h : (oneF s).2 = 0) : decL s = none := by
 cases s with
 | nil => exact absurd rfl hs
 | cons b r => rw [decL, List.length_cons, decF]; simp [h]
theorem decL_step {s : List UInt8} (hs : s ≠ []) (h : (oneF s).2 ≠ 0) : decL s = (decL (s.drop (oneF s).2)).map ((oneF s).1 :: ·) := by
 cases s with
 | nil => exact absurd rfl hs
 | cons b r =>
   rw [decL, List.length_cons, decF, if_neg hs, if_neg h, decF_fuel _ _ (by rw [List.length_drop, List.length_cons]; omega)]; rfl
def decR (s : List UInt8) : List Int × Bool := match decL s with
 | some l => (l, true)
 | none => ([], false)
structure DSt (s : List UInt8) (a : Nat) (o : List Int) : Prop where
 st : decL s = (decL (s.drop a)).map (o ++ ·)
 le : a ≤ s.length
 len : o.length ≤ a
 sg : ∀ x ∈ o, sgnB x = true
theorem DSt.start (s : List UInt8) : DSt s 0 [] := ⟨by simp, by omega, by simp, by simp⟩
theorem DSt.next {s : List UInt8} {a k : Nat} {o : List Int} {c : Int} (h : DSt s a o) (ha : a < s.length) (hp : oneF (s.drop a) = (c, k)) (hk : k ≠ 0) : DSt s (a + k) (o ++ [c]) := by
 have hne : s.drop a ≠ [] := by intro e; have := congrArg List.length e; simp at this; omega
 have h1 := decL_step hne (by rw [hp]; exact hk);have h2 := oneF_le (s.drop a);have h3 := oneF_sgn (s := s.drop a) (by rw [hp]; exact hk);rw [hp] at h1 h2 h3;simp only [List.drop_drop] at h1;refine ⟨?_, by simp only [List.length_drop] at h2; omega, by have := h.len; rw [List.length_append, List.length_singleton]; omega, ?_⟩
 ·rw [h.st, h1]
  cases decL (s.drop (a + k)) <;> simp
 ·intro x hx
  rcases List.mem_append.1 hx with h4 | h4
  ·exact h.sg x h4
  ·rw [List.mem_singleton.1 h4]; exact h3
theorem DSt.stop {s : List UInt8} {a : Nat} {o : List Int} {c : Int} (h : DSt s a o) (ha : a < s.length) (hp : oneF (s.drop a) = (c, 0)) : decR s = ([], false) := by
 have hne : s.drop a ≠ [] := by intro e; have := congrArg List.length e; simp at this; omega
 rw [decR, h.st, decL_stop hne (by rw [hp])]; rfl
theorem DSt.done {s : List UInt8} {a : Nat} {o : List Int} (h : DSt s a o) (ha : s.length ≤ a) : decR s = (o, true) := by
 rw [decR, h.st, List.drop_of_length_le ha, decL_nil]; simp
theorem decF_good : ∀ (f : Nat) (s : List UInt8) (l : List Int), decF f s = some l → l.length ≤ s.length ∧ ∀ x ∈ l, sgnB x = true
 | 0, s, l, h => by
   rw [decF] at h
   split at h
   ·injection h with h; subst h; simp
   ·cases h
 | f + 1, s, l, h => by
   rw [decF] at h
   split at h
   ·injection h with h; subst h; simp
   ·split at h
    ·cases h
    ·rename_i h0
     rcases hd : decF f (s.drop (oneF s).2) with _ | l'
     ·rw [hd] at h; cases h
     ·rw [hd] at h
      simp only [Option.map_some, Option.some.injEq] at h;subst h;have h1 := decF_good f _ _ hd;have h2 := oneF_le s;rw [List.length_drop] at h1;refine ⟨by rw [List.length_cons]; omega, fun x hx => ?_⟩
      rcases List.mem_cons.1 hx with rfl | hx
      ·exact oneF_sgn h0
      ·exact h1.2 x hx
theorem decR_good (s : List UInt8) : (decR s).1.length ≤ s.length ∧ ∀ x ∈ (decR s).1, sgnB x = true := by
 rw [decR]
 rcases h : decL s with _ | l
 ·simp
 ·exact decF_good _ _ _ h
def u8 (x : Int) : UInt8 := UInt8.ofNat x.toNat
theorem u8_val {x : Int} (h0 : 0 ≤ x) (h1 : x < 256) : ((u8 x).toNat : Int) = x := by
 rw [u8, UInt8.toNat_ofNat_of_lt' (by simp [UInt8.size]; omega)];omega
def szC (c : Int) : Nat := if c < 128 then 1 else if c < 2048 then 2 else if c < 65536 then 3 else 4
def enc1 (c : Int) : List UInt8 :=
 if c < 128 then [u8 c] else if c < 2048 then [u8 (192 + c / 64), u8 (128 + c % 64)]
 else if c < 65536 then [u8 (224 + c / 4096), u8 (128 + c / 64 % 64), u8 (128 + c % 64)]
 else [u8 (240 + c / 262144), u8 (128 + c / 4096 % 64), u8 (128 + c / 64 % 64), u8 (128 + c % 64)]
theorem enc1_len (c : Int) : (enc1 c).length = szC c := by
 unfold enc1 szC
 split
 ·rfl
 ·split
  ·rfl
  ·split <;> rfl
theorem szC_le (c : Int) : szC c ≤ 4 := by unfold szC; split <;> (try omega); split <;> (try omega); split <;> omega
def encL (l : List Int) : List UInt8 := if l.all sgnB = true then l.flatMap enc1 else []
theorem encL_bad {l : List Int} {c : Int} {i : Nat} (hx : l[i]? = some c) (h : sgnB c = false) : encL l = [] := by
 rw [encL, if_neg];intro h1;rw [List.all_eq_true.1 h1 c (List.mem_of_getElem? hx)] at h
 cases h
theorem encL_good {l : List Int} (h : ∀ x ∈ l, sgnB x = true) : encL l = l.flatMap enc1 := by rw [encL, if_pos (List.all_eq_true.2 h)]
theorem flat1_le : ∀ l : List Int, (l.flatMap enc1).length ≤ 4 * l.length
 | [] => by simp
 | c :: l => by
   have := flat1_le l;have h2 := szC_le c;rw [List.flatMap_cons, List.length_append, enc1_len, List.length_cons]; omega
theorem encL_le (l : List Int) : (encL l).length ≤ 4 * l.length := by
 rw [encL]; split
 ·exact flat1_le l
 ·simp
theorem size_least {b : UInt8} {r : List UInt8} {c : Int} (h0 : sizeF b ≠ 0) (h1 : sizeF b ≤ r.length + 1) (h : accC (leadF b) (r.take (sizeF b - 1)) = some c) (hs : sgnB c = true) : (c < leastC (sizeF b)) ↔ szC c ≠ sizeF b := by
 have hb := sgn_bounds hs;have hlen : (r.take (sizeF b - 1)).length = sizeF b - 1 := by rw [List.length_take]; omega
 rcases sizeF_cases b with ⟨h2, h3⟩ | ⟨h2, _⟩ | ⟨h2, h3⟩ | ⟨h2, h3⟩ | ⟨h2, h3⟩
 ·rw [h2] at h ⊢
  simp only [Nat.sub_self, List.take_zero, accC, Option.some.injEq] at h;rw [leadF, if_pos h3] at h;subst h;simp only [leastC, szC];rw [if_pos (by omega)];constructor <;> intro h4 <;> omega
 ·exact absurd h2 h0
 ·have h5 := accC_top _ _ 32 _ (by rw [leadF, if_neg (by omega), if_pos (by omega)]; omega) (by rw [leadF, if_neg (by omega), if_pos (by omega)]; omega) h
  rw [hlen, h2] at h5;rw [h2];simp only [leastC, szC];rw [show (32 : Int) * 64 ^ (2 - 1) = 2048 from by decide] at h5;constructor
  ·intro h4; rw [if_pos h4]; omega
  ·intro h4
   by_cases h6 : c < 128
   ·exact h6
   ·rw [if_neg h6, if_pos (by omega)] at h4; exact absurd rfl h4
 ·have h5 := accC_top _ _ 16 _ (by rw [leadF, if_neg (by omega), if_neg (by omega), if_pos (by omega)]; omega) (by rw [leadF, if_neg (by omega), if_neg (by omega), if_pos (by omega)]; omega) h
  rw [hlen, h2] at h5;rw [h2];simp only [leastC, szC];rw [show (16 : Int) * 64 ^ (3 - 1) = 65536 from by decide] at h5;constructor
  ·intro h4
   split
   ·omega
   ·omega
  ·intro h4
   by_cases h6 : c < 2048
   ·exact h6
   ·rw [if_neg (by omega), if_neg h6, if_pos (by omega)] at h4; exact absurd rfl h4
 ·rw [h2]
  simp only [leastC, szC];constructor
  ·intro h4
   split
   ·omega
   ·split
    ·omega
    ·omega
  ·intro h4
   by_cases h6 : c < 65536
   ·exact h6
   ·rw [if_neg (by omega), if_neg (by omega), if_neg h6] at h4; exact absurd rfl h4
theorem lead_bounds (b : UInt8) : 0 ≤ leadF b ∧ (sizeF b ≠ 1 → sizeF b ≠ 0 → leadF b < 32) := by
 rcases sizeF_cases b with ⟨h2, h3⟩ | ⟨h2, h3⟩ | ⟨h2, h3⟩ | ⟨h2, h3⟩ | ⟨h2, h3⟩
 ·exact ⟨by rw [leadF, if_pos h3]; omega, fun h => absurd h2 h⟩
 ·refine ⟨?_, fun _ h => absurd h2 h⟩
  unfold leadF; split
  ·omega
  ·split
   ·omega
   ·split <;> omega
 ·rw [leadF, if_neg (by omega), if_pos (by omega)]; exact ⟨by omega, fun _ _ => by omega⟩
 ·rw [leadF, if_neg (by omega), if_neg (by omega), if_pos (by omega)]; exact ⟨by omega, fun _ _ => by omega⟩
 ·rw [leadF, if_neg (by omega), if_neg (by omega), if_neg (by omega)]; exact ⟨by omega, fun _ _ => by omega⟩
theorem wraps_i64 (n : Int) (h₀ : 0 ≤ n) (h₁ : n < 2 ^ 63) : IntKind.i64.wrap n = n := IntWalk.i64_in _ (by omega)
theorem and_63 {c : Int} (h0 : 0 ≤ c) (h1 : c < 9223372036854775808) : bits .and .i64 c 63 = c % 64 := bits_mask .i64 63 (by decide) wraps_i64 6 (by decide) c h0 (by omega)
theorem and_31 {c : Int} (h0 : 0 ≤ c) (h1 : c < 9223372036854775808) : bits .and .i64 c 31 = c % 32 := bits_mask .i64 63 (by decide) wraps_i64 5 (by decide) c h0 (by omega)
theorem and_15 {c : Int} (h0 : 0 ≤ c) (h1 : c < 9223372036854775808) : bits .and .i64 c 15 = c % 16 := bits_mask .i64 63 (by decide) wraps_i64 4 (by decide) c h0 (by omega)
theorem and_7 {c : Int} (h0 : 0 ≤ c) (h1 : c < 9223372036854775808) : bits .and .i64 c 7 = c % 8 := bits_mask .i64 63 (by decide) wraps_i64 3 (by decide) c h0 (by omega)
theorem and8_63 {c : Int} (h0 : 0 ≤ c) (h1 : c < 256) : bits .and .u8 c 63 = c % 64 := bits_mask .u8 8 (by decide) wraps_u8 6 (by decide) c h0 (by omega)
theorem or_join (i : Nat) {x y : Int} (hx0 : 0 ≤ x) (hx : x % 2 ^ i = 0) (hx1 : x < 9223372036854775808) (hy0 : 0 ≤ y) (hy : y < 2 ^ i) (hy1 : y < 9223372036854775808) : bits .or .i64 x y = x + y :=
 bits_join .i64 63 (by decide) wraps_i64 i x y hx0 hx (by omega) hy0 hy (by omega)
theorem and_192 : ((List.range 256).all fun (n : Nat) => (bits .and .u8 (n : Int) 192 == 128) == (decide (128 ≤ n) && decide (n ≤ 191))) = true := by decide +kernel
theorem cont_byte (b : UInt8) : (bits .and .u8 (b.toNat : Int) 192 == 128) = (decide (128 ≤ b.toNat) && decide (b.toNat ≤ 191)) := by
 have h := List.all_eq_true.1 and_192 b.toNat (List.mem_range.2 b.toNat_lt);simpa using h
end Go.Proofs.YtllonpbhgbhogaaGreatDoor
namespace Go.Proofs.YtllonpbhgbhogaaGreatDoor
open Go.RowKit
theorem toB_get {s : ByteArray} {i : Nat} {b : UInt8} (h : (toB s)[i]? = some b) (hs : i < s.size) : s[i] = b := by
 have : s[i] = (toB s)[i]'(by rw [toB_len]; exact hs) := by
  simp only [toB, Array.getElem_toList]; rfl
 rw [this];exact (List.getElem?_eq_some_iff.1 h).2
theorem implSign_any (c : Int) (w : World) :
 Calls Tryz.prog 164 #[.int .i64 c] w fun e w' => e = .returned (.bool (sgnB c)) ∧ w' = w := by
 obtain ⟨q, hq⟩ : ∃ q, q = sgnB c := ⟨_, rfl⟩;have HQ := Lib.hid hq;rw [← hq];clear hq;go_enter Tryz.func164, Tryz.ntmps164;go_wp2_with fail;refine (within_any _ _ _ _).mono ?_;rintro e w ⟨rfl, rfl⟩
 rcases (show inB c 0 1114111 = true ∨ inB c 0 1114111 = false by cases inB c 0 1114111 <;> simp) with h1 | h1
 ·rw [h1]
  go_wp2_with fail;refine (within_any _ _ _ _).mono ?_;rintro e w ⟨rfl, rfl⟩;go_wp2_with fail;go_ret;rw [HQ.out, sgnB, h1];exact ⟨rfl, rfl⟩
 ·rw [h1]
  go_wp2_with fail;go_ret;rw [HQ.out, sgnB, h1];exact ⟨rfl, rfl⟩
theorem specSign_any (c : Int) (w : World) :
 Calls Tryz.prog 137 #[.int .i64 c] w fun e w' => e = .returned (.bool (sgnB c)) ∧ w' = w := by
 obtain ⟨q, hq⟩ : ∃ q, q = sgnB c := ⟨_, rfl⟩;have HQ := Lib.hid hq;rw [← hq];clear hq;go_enter Tryz.func137, Tryz.ntmps137;go_wp2_with fail;refine (l1In_any _ _ _ _).mono ?_;rintro e w ⟨rfl, rfl⟩
 rcases (show inB c 0 1114111 = true ∨ inB c 0 1114111 = false by cases inB c 0 1114111 <;> simp) with h1 | h1
 ·rw [h1]
  go_wp2_with fail;refine (l1In_any _ _ _ _).mono ?_;rintro e w ⟨rfl, rfl⟩;go_wp2_with fail;go_ret;rw [HQ.out, sgnB, h1];exact ⟨rfl, rfl⟩
 ·rw [h1]
  go_wp2_with fail;go_ret;rw [HQ.out, sgnB, h1];exact ⟨rfl, rfl⟩
theorem implLeast_any (n : Nat) (w : World) (hn : n ≤ 4) :
 Calls Tryz.prog 169 #[.int .i64 n] w fun e w' => e = .returned (.int .i64 (leastC n)) ∧ Fr w w' := by
 have HF := Lib.hid (((Hp.start w).lit 3 1 5 [.int .i64 0, .int .i64 0, .int .i64 128, .int .i64 2048, .int .i64 65536] rfl (by simp [maxLen])).fr)
 rcases (show n = 0 ∨ n = 1 ∨ n = 2 ∨ n = 3 ∨ n = 4 by omega) with rfl | rfl | rfl | rfl | rfl
 all_goals
  go_enter Tryz.func169, Tryz.ntmps169;go_wp2_with fail;go_ret;exact ⟨rfl, HF.out⟩
theorem accC_app : ∀ (l m : List UInt8) (c : Int), accC c (l ++ m) = (accC c l).bind fun d => accC d m
 | [], m, c => rfl
 | a :: l, m, c => by
   simp only [List.cons_append, accC]
   cases contF c a with
   | none => rfl
   | some d => simp only [Option.bind_some]; exact accC_app l m d
theorem accC_take_none {r : List UInt8} {c0 c : Int} {i k : Nat} {x : UInt8} (h : accC c0 (r.take i) = some c) (hx : r[i]? = some x) (hc : contF c x = none) (hk : i < k) : accC c0 (r.take k) = none := by
 have e : r.take k = r.take i ++ x :: (r.drop (i + 1)).take (k - i - 1) := by
  obtain ⟨hi, e⟩ := List.getElem?_eq_some_iff.1 hx;have h1 : r.take k = (r.take k).take i ++ (r.take k).drop i := (List.take_append_drop _ _).symm;rw [List.take_take, Nat.min_eq_left (by omega), List.drop_take, List.drop_eq_getElem_cons hi, e, show k - i = (k - i - 1) + 1 by omega, List.take_succ_cons] at h1;exact h1
 rw [e, accC_app, h, Option.bind_some, accC, hc]; rfl
theorem accC_take_some {r : List UInt8} {c0 c d : Int} {i : Nat} {x : UInt8} (h : accC c0 (r.take i) = some c) (hx : r[i]? = some x) (hc : contF c x = some d) : accC c0 (r.take (i + 1)) = some d := by
 rw [List.take_add_one, hx, Option.toList_some, accC_snoc, h, Option.bind_some, hc]
theorem acc_bound {b : UInt8} {r : List UInt8} {i : Nat} {c : Int} (h0 : sizeF b ≠ 0) (h1 : sizeF b ≠ 1) (hi : i ≤ 3) (h : accC (leadF b) (r.take i) = some c) : 0 ≤ c ∧ c < 8388608 := by
 have hl := (lead_bounds b);have h2 := accC_top _ _ 32 _ hl.1 (hl.2 h1 h0) h;have h3 : (r.take i).length ≤ 3 := by rw [List.length_take]; omega
 refine ⟨h2.1, Int.lt_of_lt_of_le h2.2 ?_⟩
 rcases (show (r.take i).length = 0 ∨ (r.take i).length = 1 ∨ (r.take i).length = 2 ∨ (r.take i).length = 3 by omega) with e | e | e | e <;> rw [e] <;> decide
set_option maxRecDepth 100000 in
set_option maxHeartbeats 4000000 in
theorem implSignAt_any (s : ByteArray) (b : UInt8) (r : List UInt8) (w : World) (hs : toB s = b :: r) (hz : s.size ≤ 1000000000) :
 Calls Tryz.prog 160 #[.string s] w fun e w' => e = .returned (.tuple #[.int .i64 (oneT b r).1, .int .i64 ((oneT b r).2 : Nat)]) ∧ Fr w w' := by
 obtain ⟨p, hp⟩ : ∃ p, p = oneT b r := ⟨_, rfl⟩;have HP := Lib.hid hp;rw [← hp];clear hp;have HS := Lib.hid hs;have hsz : s.size = r.length + 1 := by rw [← toB_len, hs]; rfl
 have hks : 0 < s.size := by omega
 have e1 : s[0] = b := toB_get (by rw [hs]; rfl) hks;have hb0 : ((s[0]).toNat : Int) ≤ 255 := by have := (s[0]).toNat_lt; omega
 have hb1 : (0 : Int) ≤ ((s[0]).toNat : Int) := by omega
 have hlt2 : (0 : Int) < (s.size : Int) := by omega
 have HB := Lib.hid (show (s[0]).toNat = b.toNat by rw [e1]);have HSIZE := Lib.hid hsz;clear hs e1 hsz;go_enter Tryz.func160, Tryz.ntmps160
 rcases sizeF_cases b with ⟨hb, hbb⟩ | ⟨hb, hbb⟩ | ⟨hb, hbb⟩ | ⟨hb, hbb⟩ | ⟨hb, hbb⟩
 ·have hd : decide (((s[0]).toNat : Int) < 128) = true := by rw [HB.out]; simp; omega
  have HE := Lib.hid (HP.out.trans (oneT_small hbb));go_wp2_with fail;go_ret2;rw [HE.out, HB.out];exact ⟨rfl, Below.refl _ _⟩
 ·have hd : decide (((s[0]).toNat : Int) < 128) = false := by rw [HB.out]; simp; omega
  have HE := Lib.hid (HP.out.trans (oneT_none (.inl hb)));go_wp2_with fail;refine (within_any _ _ _ _).mono ?_;rintro e w ⟨rfl, rfl⟩;have h1 : inB ((s[0]).toNat : Int) 192 223 = false := by rw [HB.out]; simp [inB]; omega
  rw [h1];go_wp2_with fail;refine (within_any _ _ _ _).mono ?_;rintro e w ⟨rfl, rfl⟩;have h2 : inB ((s[0]).toNat : Int) 224 239 = false := by rw [HB.out]; simp [inB]; omega
  rw [h2];go_wp2_with fail;refine (within_any _ _ _ _).mono ?_;rintro e w ⟨rfl, rfl⟩;have h3 : inB ((s[0]).toNat : Int) 240 247 = false := by rw [HB.out]; simp [inB]; omega
  rw [h3];go_wp2_with fail;go_ret2;rw [HE.out];exact ⟨rfl, Below.refl _ _⟩
 ·have hd : decide (((s[0]).toNat : Int) < 128) = false := by rw [HB.out]; simp; omega
  go_wp2_with fail;refine (within_any _ _ _ _).mono ?_;rintro e w ⟨rfl, rfl⟩;have h1 : inB ((s[0]).toNat : Int) 192 223 = true := by rw [HB.out]; simp [inB]; omega
  rw [h1];obtain ⟨c0, hc0⟩ : ∃ q, q = leadF b := ⟨_, rfl⟩;have ha : bits .and .i64 ((s[0]).toNat : Int) 31 = c0 := by
   rw [and_31 (by omega) (by omega), HB.out, hc0, leadF, if_neg (by omega), if_pos (by omega)]
  have HC0 := Lib.hid hc0;clear hc0;have HSZ := Lib.hid hb;have hl := lead_bounds b
  by_cases hlen : s.size < 2
  ·have HE := Lib.hid (HP.out.trans (oneT_none (.inr (by rw [HSZ.out, ← HSIZE.out]; omega))))
   have hd : decide ((s.size : Int) < 2) = true := by simp; omega
   go_wp2_with fail;go_ret2;rw [HE.out];exact ⟨rfl, Below.refl _ _⟩
  ·have hd : decide ((s.size : Int) < 2) = false := by simp; omega
   go_wp2_with fail
   go_loopw [6, 7] (fun cv iv wr => ∃ (i : Nat) (c : Int), iv = .int .i64 ((i + 1 : Nat) : Int) ∧ cv = .int .i64 c ∧ i + 1 ≤ 2 ∧ accC (leadF b) (r.take i) = some c ∧ wr = w) (fun _ iv _ => 2 - (intOf iv).toNat)
   case atStart => exact ⟨0, c0, rfl, rfl, by omega, by rw [HC0.out]; rfl, rfl⟩
   case round =>
    obtain ⟨i, c, rfl, rfl, hi, hacc, rfl⟩ := hrel;have hcb := acc_bound (by rw [HSZ.out]; omega) (by rw [HSZ.out]; omega) (by omega) hacc;have HA := Lib.hid hacc;clear hacc
    by_cases hlt : i + 1 < 2
    ·obtain ⟨x, hx⟩ := some_at (l := toB s) (toB_len s) (show i + 1 < s.size by omega)
     have hks : i + 1 < s.size := by omega
     have e1 : s[i + 1] = x := toB_get hx hks;have hx' : r[i]? = some x := by rw [HS.out] at hx; simpa using hx
     have HX := Lib.hid hx';have HCB := Lib.hid (cont_byte x);obtain ⟨v, hv⟩ : ∃ v : Int, v = ((s[i + 1]).toNat : Int) := ⟨_, rfl⟩;have hv2 : ((s[i + 1]).toNat : Int) = (x.toNat : Int) := by rw [e1]
     have hxb := x.toNat_lt;rw [← hv2] at HCB;have hi1 : ((i + 1 : Nat) : Int) < (s.size : Int) := by omega
     have hi2 : (0 : Int) ≤ ((i + 1 : Nat) : Int) := by omega
     have hi3 : ((i + 1 : Nat) : Int) < 2 := by omega
     by_cases hc : 128 ≤ x.toNat ∧ x.toNat ≤ 191
     ·have hcf : contF c x = some (c * 64 + (x.toNat : Int) % 64) := by rw [contF, if_pos hc]
      have hd1 : (bits .and .u8 ((s[i + 1]).toNat : Int) 192 == 128) = true := by
       rw [HCB.out]; simp; omega
      have hsh : IntKind.i64.wrap (c * 64) = c * 64 := IntWalk.i64_in _ (by omega);obtain ⟨y, hyy⟩ : ∃ y : Int, y = (x.toNat : Int) % 64 := ⟨_, rfl⟩;have hy1 : bits .and .u8 ((s[i + 1]).toNat : Int) 63 = y := by rw [hv2, hyy]; exact and8_63 (by omega) (by omega)
      have hy0 : 0 ≤ y ∧ y < 64 := by omega
      have hw : IntKind.i64.wrap y = y := IntWalk.i64_in _ (by omega);obtain ⟨d, hdd⟩ : ∃ d : Int, d = c * 64 + y := ⟨_, rfl⟩;have hor : bits .or .i64 (c * 64) y = d := by rw [hdd]; exact or_join 6 (by omega) (by omega) (by omega) (by omega) (by omega) (by omega)
      have HCF := Lib.hid (hcf.trans (by rw [← hyy, ← hdd]));clear hv hv2 e1 hx hx' hcf hyy hdd;go_wp2_with fail;go_roundw
      case rel => exact ⟨i + 1, d, by go_num, rfl, by omega, accC_take_some HA.out HX.out HCF.out, by first | rfl | trivial⟩
      case measure => simp [intOf]; omega
     ·have hcf : contF c x = none := by rw [contF, if_neg hc]
      have HE := Lib.hid (HP.out.trans (oneT_broken (by rw [HSZ.out]; exact accC_take_none HA.out HX.out hcf (by omega))));have hd1 : (bits .and .u8 ((s[i + 1]).toNat : Int) 192 == 128) = false := by
       rw [HCB.out]; simp; omega
      clear hv hv2 e1 hx hx';go_wp2_with fail;go_ret2;rw [HE.out];exact ⟨rfl, Below.refl _ _⟩
    ·have hge : ¬ (((i + 1 : Nat) : Int) < 2) := by omega
     have hi2 : i = 2 - 1 := by omega
     subst hi2;have HE := Lib.hid (HP.out.trans (oneT_some (by rw [HSZ.out]; omega) (by rw [HSZ.out, ← HSIZE.out]; omega) (by rw [HSZ.out]; exact HA.out)));go_wp2_with fail;refine (implLeast_any 2 _ (by decide)).mono ?_;rintro e w1 ⟨rfl, f1⟩
     by_cases hle : c < leastC 2
     ·have hd1 : decide (c < leastC 2) = true := by simpa using hle
      go_wp2_with fail;go_ret2;rw [HE.out, HSZ.out, if_pos (.inl hle)];exact ⟨rfl, f1⟩
     ·have hd1 : decide (c < leastC 2) = false := by simpa using hle
      go_wp2_with fail;refine (implSign_any _ _).mono ?_;rintro e w2 ⟨rfl, hw2⟩;rw [← hw2] at f1;clear hw2
      rcases (show sgnB c = true ∨ sgnB c = false by cases sgnB c <;> simp) with hsg | hsg
      ·rw [hsg]
       go_wp2_with fail;go_ret2;rw [HE.out, HSZ.out, if_neg (by rw [hsg]; simp; omega)];exact ⟨rfl, f1⟩
      ·rw [hsg]
       go_wp2_with fail;go_ret2;rw [HE.out, HSZ.out, if_pos (.inr hsg)];exact ⟨rfl, f1⟩
 ·have hd : decide (((s[0]).toNat : Int) < 128) = false := by rw [HB.out]; simp; omega
  go_wp2_with fail;refine (within_any _ _ _ _).mono ?_;rintro e w ⟨rfl, rfl⟩;have h1 : inB ((s[0]).toNat : Int) 192 223 = false := by rw [HB.out]; simp [inB]; omega
  rw [h1];go_wp2_with fail;refine (within_any _ _ _ _).mono ?_;rintro e w ⟨rfl, rfl⟩;have h2 : inB ((s[0]).toNat : Int) 224 239 = true := by rw [HB.out]; simp [inB]; omega
  rw [h2];obtain ⟨c0, hc0⟩ : ∃ q, q = leadF b := ⟨_, rfl⟩;have ha : bits .and .i64 ((s[0]).toNat : Int) 15 = c0 := by
   rw [and_15 (by omega) (by omega), HB.out, hc0, leadF, if_neg (by omega), if_neg (by omega), if_pos (by omega)]
  have HC0 := Lib.hid hc0;clear hc0;have HSZ := Lib.hid hb;have hl := lead_bounds b
  by_cases hlen : s.size < 3
  ·have HE := Lib.hid (HP.out.trans (oneT_none (.inr (by rw [HSZ.out, ← HSIZE.out]; omega))))
   have hd : decide ((s.size : Int) < 3) = true := by simp; omega
   go_wp2_with fail;go_ret2;rw [HE.out];exact ⟨rfl, Below.refl _ _⟩
  ·have hd : decide ((s.size : Int) < 3) = false := by simp; omega
   go_wp2_with fail
   go_loopw [6, 7] (fun cv iv wr => ∃ (i : Nat) (c : Int), iv = .int .i64 ((i + 1 : Nat) : Int) ∧ cv = .int .i64 c ∧ i + 1 ≤ 3 ∧ accC (leadF b) (r.take i) = some c ∧ wr = w) (fun _ iv _ => 3 - (intOf iv).toNat)
   case atStart => exact ⟨0, c0, rfl, rfl, by omega, by rw [HC0.out]; rfl, rfl⟩
   case round =>
    obtain ⟨i, c, rfl, rfl, hi, hacc, rfl⟩ := hrel;have hcb := acc_bound (by rw [HSZ.out]; omega) (by rw [HSZ.out]; omega) (by omega) hacc;have HA := Lib.hid hacc;clear hacc
    by_cases hlt : i + 1 < 3
    ·obtain ⟨x, hx⟩ := some_at (l := toB s) (toB_len s) (show i + 1 < s.size by omega)
     have hks : i + 1 < s.size := by omega
     have e1 : s[i + 1] = x := toB_get hx hks;have hx' : r[i]? = some x := by rw [HS.out] at hx; simpa using hx
     have HX := Lib.hid hx';have HCB := Lib.hid (cont_byte x);obtain ⟨v, hv⟩ : ∃ v : Int, v = ((s[i + 1]).toNat : Int) := ⟨_, rfl⟩;have hv2 : ((s[i + 1]).toNat : Int) = (x.toNat : Int) := by rw [e1]
     have hxb := x.toNat_lt;rw [← hv2] at HCB;have hi1 : ((i + 1 : Nat) : Int) < (s.size : Int) := by omega
     have hi2 : (0 : Int) ≤ ((i + 1 : Nat) : Int) := by omega
     have hi3 : ((i + 1 : Nat) : Int) < 3 := by omega
     by_cases hc : 128 ≤ x.toNat ∧ x.toNat ≤ 191
     ·have hcf : contF c x = some (c * 64 + (x.toNat : Int) % 64) := by rw [contF, if_pos hc]
      have hd1 : (bits .and .u8 ((s[i + 1]).toNat : Int) 192 == 128) = true := by
       rw [HCB.out]; simp; omega
      have hsh : IntKind.i64.wrap (c * 64) = c * 64 := IntWalk.i64_in _ (by omega);obtain ⟨y, hyy⟩ : ∃ y : Int, y = (x.toNat : Int) % 64 := ⟨_, rfl⟩;have hy1 : bits .and .u8 ((s[i + 1]).toNat : Int) 63 = y := by rw [hv2, hyy]; exact and8_63 (by omega) (by omega)
      have hy0 : 0 ≤ y ∧ y < 64 := by omega
      have hw : IntKind.i64.wrap y = y := IntWalk.i64_in _ (by omega);obtain ⟨d, hdd⟩ : ∃ d : Int, d = c * 64 + y := ⟨_, rfl⟩;have hor : bits .or .i64 (c * 64) y = d := by rw [hdd]; exact or_join 6 (by omega) (by omega) (by omega) (by omega) (by omega) (by omega)
      have HCF := Lib.hid (hcf.trans (by rw [← hyy, ← hdd]));clear hv hv2 e1 hx hx' hcf hyy hdd;go_wp2_with fail;go_roundw
      case rel => exact ⟨i + 1, d, by go_num, rfl, by omega, accC_take_some HA.out HX.out HCF.out, by first | rfl | trivial⟩
      case measure => simp [intOf]; omega
     ·have hcf : contF c x = none := by rw [contF, if_neg hc]
      have HE := Lib.hid (HP.out.trans (oneT_broken (by rw [HSZ.out]; exact accC_take_none HA.out HX.out hcf (by omega))));have hd1 : (bits .and .u8 ((s[i + 1]).toNat : Int) 192 == 128) = false := by
       rw [HCB.out]; simp; omega
      clear hv hv2 e1 hx hx';go_wp2_with fail;go_ret2;rw [HE.out];exact ⟨rfl, Below.refl _ _⟩
    ·have hge : ¬ (((i + 1 : Nat) : Int) < 3) := by omega
     have hi2 : i = 3 - 1 := by omega
     subst hi2;have HE := Lib.hid (HP.out.trans (oneT_some (by rw [HSZ.out]; omega) (by rw [HSZ.out, ← HSIZE.out]; omega) (by rw [HSZ.out]; exact HA.out)));go_wp2_with fail;refine (implLeast_any 3 _ (by decide)).mono ?_;rintro e w1 ⟨rfl, f1⟩
     by_cases hle : c < leastC 3
     ·have hd1 : decide (c < leastC 3) = true := by simpa using hle
      go_wp2_with fail;go_ret2;rw [HE.out, HSZ.out, if_pos (.inl hle)];exact ⟨rfl, f1⟩
     ·have hd1 : decide (c < leastC 3) = false := by simpa using hle
      go_wp2_with fail;refine (implSign_any _ _).mono ?_;rintro e w2 ⟨rfl, hw2⟩;rw [← hw2] at f1;clear hw2
      rcases (show sgnB c = true ∨ sgnB c = false by cases sgnB c <;> simp) with hsg | hsg
      ·rw [hsg]
       go_wp2_with fail;go_ret2;rw [HE.out, HSZ.out, if_neg (by rw [hsg]; simp; omega)];exact ⟨rfl, f1⟩
      ·rw [hsg]
       go_wp2_with fail;go_ret2;rw [HE.out, HSZ.out, if_pos (.inr hsg)];exact ⟨rfl, f1⟩
 ·have hd : decide (((s[0]).toNat : Int) < 128) = false := by rw [HB.out]; simp; omega
  go_wp2_with fail;refine (within_any _ _ _ _).mono ?_;rintro e w ⟨rfl, rfl⟩;have h1 : inB ((s[0]).toNat : Int) 192 223 = false := by rw [HB.out]; simp [inB]; omega
  rw [h1];go_wp2_with fail;refine (within_any _ _ _ _).mono ?_;rintro e w ⟨rfl, rfl⟩;have h2 : inB ((s[0]).toNat : Int) 224 239 = false := by rw [HB.out]; simp [inB]; omega
  rw [h2];go_wp2_with fail;refine (within_any _ _ _ _).mono ?_;rintro e w ⟨rfl, rfl⟩;have h3 : inB ((s[0]).toNat : Int) 240 247 = true := by rw [HB.out]; simp [inB]; omega
  rw [h3];obtain ⟨c0, hc0⟩ : ∃ q, q = leadF b := ⟨_, rfl⟩;have ha : bits .and .i64 ((s[0]).toNat : Int) 7 = c0 := by
   rw [and_7 (by omega) (by omega), HB.out, hc0, leadF, if_neg (by omega), if_neg (by omega), if_neg (by omega)]
  have HC0 := Lib.hid hc0;clear hc0;have HSZ := Lib.hid hb;have hl := lead_bounds b
  by_cases hlen : s.size < 4
  ·have HE := Lib.hid (HP.out.trans (oneT_none (.inr (by rw [HSZ.out, ← HSIZE.out]; omega))))
   have hd : decide ((s.size : Int) < 4) = true := by simp; omega
   go_wp2_with fail;go_ret2;rw [HE.out];exact ⟨rfl, Below.refl _ _⟩
  ·have hd : decide ((s.size : Int) < 4) = false := by simp; omega
   go_wp2_with fail
   go_loopw [6, 7] (fun cv iv wr => ∃ (i : Nat) (c : Int), iv = .int .i64 ((i + 1 : Nat) : Int) ∧ cv = .int .i64 c ∧ i + 1 ≤ 4 ∧ accC (leadF b) (r.take i) = some c ∧ wr = w) (fun _ iv _ => 4 - (intOf iv).toNat)
   case atStart => exact ⟨0, c0, rfl, rfl, by omega, by rw [HC0.out]; rfl, rfl⟩
   case round =>
    obtain ⟨i, c, rfl, rfl, hi, hacc, rfl⟩ := hrel;have hcb := acc_bound (by rw [HSZ.out]; omega) (by rw [HSZ.out]; omega) (by omega) hacc;have HA := Lib.hid hacc;clear hacc
    by_cases hlt : i + 1 < 4
    ·obtain ⟨x, hx⟩ := some_at (l := toB s) (toB_len s) (show i + 1 < s.size by omega)
     have hks : i + 1 < s.size := by omega
     have e1 : s[i + 1] = x := toB_get hx hks;have hx' : r[i]? = some x := by rw [HS.out] at hx; simpa using hx
     have HX := Lib.hid hx';have HCB := Lib.hid (cont_byte x);obtain ⟨v, hv⟩ : ∃ v : Int, v = ((s[i + 1]).toNat : Int) := ⟨_, rfl⟩;have hv2 : ((s[i + 1]).toNat : Int) = (x.toNat : Int) := by rw [e1]
     have hxb := x.toNat_lt;rw [← hv2] at HCB;have hi1 : ((i + 1 : Nat) : Int) < (s.size : Int) := by omega
     have hi2 : (0 : Int) ≤ ((i + 1 : Nat) : Int) := by omega
     have hi3 : ((i + 1 : Nat) : Int) < 4 := by omega
     by_cases hc : 128 ≤ x.toNat ∧ x.toNat ≤ 191
     ·have hcf : contF c x = some (c * 64 + (x.toNat : Int) % 64) := by rw [contF, if_pos hc]
      have hd1 : (bits .and .u8 ((s[i + 1]).toNat : Int) 192 == 128) = true := by
       rw [HCB.out]; simp; omega
      have hsh : IntKind.i64.wrap (c * 64) = c * 64 := IntWalk.i64_in _ (by omega);obtain ⟨y, hyy⟩ : ∃ y : Int, y = (x.toNat : Int) % 64 := ⟨_, rfl⟩;have hy1 : bits .and .u8 ((s[i + 1]).toNat : Int) 63 = y := by rw [hv2, hyy]; exact and8_63 (by omega) (by omega)
      have hy0 : 0 ≤ y ∧ y < 64 := by omega
      have hw : IntKind.i64.wrap y = y := IntWalk.i64_in _ (by omega);obtain ⟨d, hdd⟩ : ∃ d : Int, d = c * 64 + y := ⟨_, rfl⟩;have hor : bits .or .i64 (c * 64) y = d := by rw [hdd]; exact or_join 6 (by omega) (by omega) (by omega) (by omega) (by omega) (by omega)
      have HCF := Lib.hid (hcf.trans (by rw [← hyy, ← hdd]));clear hv hv2 e1 hx hx' hcf hyy hdd;go_wp2_with fail;go_roundw
      case rel => exact ⟨i + 1, d, by go_num, rfl, by omega, accC_take_some HA.out HX.out HCF.out, by first | rfl | trivial⟩
      case measure => simp [intOf]; omega
     ·have hcf : contF c x = none := by rw [contF, if_neg hc]
      have HE := Lib.hid (HP.out.trans (oneT_broken (by rw [HSZ.out]; exact accC_take_none HA.out HX.out hcf (by omega))));have hd1 : (bits .and .u8 ((s[i + 1]).toNat : Int) 192 == 128) = false := by
       rw [HCB.out]; simp; omega
      clear hv hv2 e1 hx hx';go_wp2_with fail;go_ret2;rw [HE.out];exact ⟨rfl, Below.refl _ _⟩
    ·have hge : ¬ (((i + 1 : Nat) : Int) < 4) := by omega
     have hi2 : i = 4 - 1 := by omega
     subst hi2;have HE := Lib.hid (HP.out.trans (oneT_some (by rw [HSZ.out]; omega) (by rw [HSZ.out, ← HSIZE.out]; omega) (by rw [HSZ.out]; exact HA.out)));go_wp2_with fail;refine (implLeast_any 4 _ (by decide)).mono ?_;rintro e w1 ⟨rfl, f1⟩
     by_cases hle : c < leastC 4
     ·have hd1 : decide (c < leastC 4) = true := by simpa using hle
      go_wp2_with fail;go_ret2;rw [HE.out, HSZ.out, if_pos (.inl hle)];exact ⟨rfl, f1⟩
     ·have hd1 : decide (c < leastC 4) = false := by simpa using hle
      go_wp2_with fail;refine (implSign_any _ _).mono ?_;rintro e w2 ⟨rfl, hw2⟩;rw [← hw2] at f1;clear hw2
      rcases (show sgnB c = true ∨ sgnB c = false by cases sgnB c <;> simp) with hsg | hsg
      ·rw [hsg]
       go_wp2_with fail;go_ret2;rw [HE.out, HSZ.out, if_neg (by rw [hsg]; simp; omega)];exact ⟨rfl, f1⟩
      ·rw [hsg]
       go_wp2_with fail;go_ret2;rw [HE.out, HSZ.out, if_pos (.inr hsg)];exact ⟨rfl, f1⟩
end Go.Proofs.YtllonpbhgbhogaaGreatDoor
namespace Go.Proofs.YtllonpbhgbhogaaGreatDoor
def rowTbl : List (List Int × List Int × Int) :=
 [([192, 200, 204, 210, 217, 224, 232, 236, 242, 249], [65, 69, 73, 79, 85, 97, 101, 105, 111, 117], 768),
  ([193, 201, 205, 211, 218, 221, 225, 233, 237, 243, 250, 253], [65, 69, 73, 79, 85, 89, 97, 101, 105, 111, 117, 121], 769),
  ([194, 202, 206, 212, 219, 226, 234, 238, 244, 251], [65, 69, 73, 79, 85, 97, 101, 105, 111, 117], 770),
  ([195, 209, 213, 227, 241, 245], [65, 78, 79, 97, 110, 111], 771),
  ([196, 203, 207, 214, 220, 228, 235, 239, 246, 252, 255], [65, 69, 73, 79, 85, 97, 101, 105, 111, 117, 121], 776),
  ([197, 229], [65, 97], 778),
  ([199, 231], [67, 99], 807),
  ([902, 904, 905, 906, 908, 910, 911], [913, 917, 919, 921, 927, 933, 937], 769),
  ([940, 941, 942, 943, 972, 973, 974], [945, 949, 951, 953, 959, 965, 969], 769),
  ([469, 470], [220, 252], 772),
  ([7840, 7841], [65, 97], 803),
  ([7852, 7853], [7840, 7841], 770),
  ([8486, 8491], [937, 197], 0)]
def rows8 : List (List Int × List UInt8 × Int) :=
 [([192, 200, 204, 210, 217, 224, 232, 236, 242, 249], [65, 69, 73, 79, 85, 97, 101, 105, 111, 117], 768),
  ([193, 201, 205, 211, 218, 221, 225, 233, 237, 243, 250, 253], [65, 69, 73, 79, 85, 89, 97, 101, 105, 111, 117, 121], 769),
  ([194, 202, 206, 212, 219, 226, 234, 238, 244, 251], [65, 69, 73, 79, 85, 97, 101, 105, 111, 117], 770),
  ([195, 209, 213, 227, 241, 245], [65, 78, 79, 97, 110, 111], 771),
  ([196, 203, 207, 214, 220, 228, 235, 239, 246, 252, 255], [65, 69, 73, 79, 85, 97, 101, 105, 111, 117, 121], 776),
  ([197, 229], [65, 97], 778),
  ([199, 231], [67, 99], 807),
  ([7840, 7841], [65, 97], 803)]
def greekP : List (Int × Int) := [(902, 913), (904, 917), (905, 919), (906, 921), (908, 927), (910, 933), (911, 937), (940, 945), (941, 949), (942, 951), (943, 953), (972, 959), (973, 965), (974, 969)]
def casesP : List (Int × List Int) := [(469, [220, 772]), (470, [252, 772]), (7852, [7840, 770]), (7853, [7841, 770]), (8486, [937]), (8491, [197])]
def hangulP (c : Int) : List Int := [4352 + (c - 44032) / 588, 4449 + (c - 44032) % 588 / 28] ++ if 0 < (c - 44032) % 28 then [4519 + (c - 44032) % 28] else []
def rowHit (c : Int) : List Int → List UInt8 → Int → List Int
 | x :: xs, y :: ys, m => if x = c then [(y.toNat : Int), m] else rowHit c xs ys m
 | _, _, _ => []
def pickP (c : Int) : List Int :=
 match (rows8.map fun r => rowHit c r.1 r.2.1 r.2.2).find? (fun l => decide (0 < l.length)) with
 | some l => l
 | none => match greekP.find? (fun p => decide (p.1 = c)) with
   | some p => [p.2, 769]
   | none => match casesP.find? (fun p => decide (p.1 = c)) with
     | some p => p.2
     | none => []
def partsS (c : Int) : List Int := if 0 < (pickP c).length then pickP c else if inB c 44032 55203 then hangulP c else []
theorem rowHit_at {c : Int} {m : Int} : ∀ {xs : List Int} {ys : List UInt8} {k : Nat} {y : UInt8}, xs[k]? = some c → ys[k]? = some y → (∀ (j : Nat) (x : Int), j < k → xs[j]? = some x → x ≠ c) → rowHit c xs ys m = [(y.toNat : Int), m]
 | [], _, k, _, h, _, _ => by simp at h
 | _ :: _, [], k, _, _, h, _ => by simp at h
 | x :: xs, y' :: ys, 0, y, h, h', _ => by
   simp only [List.getElem?_cons_zero, Option.some.injEq] at h h';subst h h';simp [rowHit]
 | x :: xs, y' :: ys, k + 1, y, h, h', hn => by
   simp only [List.getElem?_cons_succ] at h h';have h0 := hn 0 x (by omega) rfl;rw [rowHit, if_neg h0];exact rowHit_at h h' fun j z hj hz => hn (j + 1) z (by omega) (by simpa using hz)
theorem rowHit_no {c : Int} {m : Int} : ∀ {xs : List Int} {ys : List UInt8}, (∀ x ∈ xs, x ≠ c) → rowHit c xs ys m = []
 | [], _, _ => by simp [rowHit]
 | _ :: _, [], _ => by simp [rowHit]
 | x :: xs, y' :: ys, hn => by
   rw [rowHit, if_neg (hn x (by simp))];exact rowHit_no fun z hz => hn z (by simp [hz])
theorem find_first {α : Type} {p : α → Bool} : ∀ {l : List α} {k : Nat} {x : α}, l[k]? = some x → p x = true → (∀ (j : Nat) (y : α), j < k → l[j]? = some y → p y = false) → l.find? p = some x
 | [], _, _, h, _, _ => by simp at h
 | y :: l, 0, x, h, hp, _ => by
   simp only [List.getElem?_cons_zero, Option.some.injEq] at h;subst h;simp [hp]
 | y :: l, k + 1, x, h, hp, hn => by
   rw [List.find?_cons, hn 0 y (by omega) rfl];exact find_first (by simpa using h) hp fun j z hj hz => hn (j + 1) z (by omega) (by simpa using hz)
theorem find_none {α : Type} {p : α → Bool} {l : List α} (h : ∀ (j : Nat) (y : α), l[j]? = some y → p y = false) : l.find? p = none := by
 rw [List.find?_eq_none];intro x hx;obtain ⟨j, hj⟩ := List.mem_iff_getElem?.1 hx;simp [h j x hj]
theorem parts_row {c : Int} {i : Nat} {r : List Int × List UInt8 × Int} {l : List Int} (hr : rows8[i]? = some r) (hl : l = rowHit c r.1 r.2.1 r.2.2) (h0 : 0 < l.length) (hn : ∀ (j : Nat) (r' : List Int × List UInt8 × Int), j < i → rows8[j]? = some r' → rowHit c r'.1 r'.2.1 r'.2.2 = []) : partsS c = l := by
 have hf : (rows8.map fun r => rowHit c r.1 r.2.1 r.2.2).find? (fun l => decide (0 < l.length)) = some l := by
  refine find_first (k := i) (by rw [List.getElem?_map, hr, hl]; rfl) (by simpa using h0) fun j y hj hy => ?_;rw [List.getElem?_map] at hy
  cases hr' : rows8[j]? with
  | none => rw [hr'] at hy; cases hy
  | some r' =>
    rw [hr'] at hy;simp only [Option.map_some, Option.some.injEq] at hy;rw [← hy, hn j r' hj hr']
    rfl
 have hp : pickP c = l := by rw [pickP, hf]
 rw [partsS, hp, if_pos h0]
def NoRow (c : Int) : Prop := ∀ (j : Nat) (r' : List Int × List UInt8 × Int), rows8[j]? = some r' → rowHit c r'.1 r'.2.1 r'.2.2 = []
theorem noRow_pick {c : Int} (h : NoRow c) : (rows8.map fun r => rowHit c r.1 r.2.1 r.2.2).find? (fun l => decide (0 < l.length)) = none := by
 refine find_none fun j y hy => ?_;rw [List.getElem?_map] at hy
 cases hr' : rows8[j]? with
 | none => rw [hr'] at hy; cases hy
 | some r' =>
   rw [hr'] at hy;simp only [Option.map_some, Option.some.injEq] at hy;rw [← hy, h j r' hr']
   rfl
theorem parts_greek {c : Int} {k : Nat} {b : Int} (h : NoRow c) (hk : greekP[k]? = some (c, b)) (hn : ∀ (j : Nat) (p : Int × Int), j < k → greekP[j]? = some p → p.1 ≠ c) : partsS c = [b, 769] := by
 have hf : greekP.find? (fun p => decide (p.1 = c)) = some (c, b) := find_first hk (by simp) fun j y hj hy => by simpa using hn j y hj hy
 have hp : pickP c = [b, 769] := by rw [pickP, noRow_pick h, hf]
 rw [partsS, hp]
 rfl
def NoGreek (c : Int) : Prop := ∀ (j : Nat) (p : Int × Int), greekP[j]? = some p → p.1 ≠ c
theorem noGreek_find {c : Int} (h : NoGreek c) : greekP.find? (fun p => decide (p.1 = c)) = none := find_none fun j y hy => by simpa using h j y hy
theorem parts_case {c : Int} {l : List Int} (h : NoRow c) (hg : NoGreek c) (hl : casesP.find? (fun p => decide (p.1 = c)) = some (c, l)) (h0 : 0 < l.length) : partsS c = l := by
 have hp : pickP c = l := by rw [pickP, noRow_pick h, noGreek_find hg, hl]
 rw [partsS, hp, if_pos h0]
theorem parts_rest {c : Int} (h : NoRow c) (hg : NoGreek c) (hl : casesP.find? (fun p => decide (p.1 = c)) = none) : partsS c = if inB c 44032 55203 then hangulP c else [] := by
 have hp : pickP c = [] := by rw [pickP, noRow_pick h, noGreek_find hg, hl]
 rw [partsS, hp]
 rfl
def pairT : List ((Int × Int) × Int) := rowTbl.flatMap fun r => if 0 < r.2.2 then (r.2.1.zip r.1).map fun x => ((x.1, r.2.2), x.2) else []
def lookT (a b : Int) : Option Int := (pairT.find? fun e => decide (e.1 = (a, b))).map (·.2)
def rowsGood : Bool := rowTbl.all fun r => decide (r.1.length = r.2.1.length) && (decide (¬ 0 < r.2.2) || (r.2.1.zip r.1).all fun x => lookT x.1 r.2.2 == some x.2)
theorem rows_good : rowsGood = true := by decide +kernel
theorem rows_len {i : Nat} {r : List Int × List Int × Int} (hr : rowTbl[i]? = some r) : r.1.length = r.2.1.length := by
 have h1 := List.all_eq_true.1 rows_good r (List.mem_of_getElem? hr);simp only [Bool.and_eq_true, decide_eq_true_eq] at h1;exact h1.1
end Go.Proofs.YtllonpbhgbhogaaGreatDoor
namespace Go.Proofs.YtllonpbhgbhogaaGreatDoor
open Go.RowKit
def layW (w : World) (g : Nat) : Nat → List Value → World
 | _, [] => w
 | j, v :: vs => layW (w.setCell ⟨g, j, none⟩ v) g (j + 1) vs
theorem Hp.blays_aux {W : List Nat} {w0 : World} {g : Nat} {t : TypeId} : ∀ (vs pre post : List Value) (w : World) (l : List Ob) (i : Nat), Hp W w0 w l → l[i]? = some (.blk g t (pre ++ post)) → post.length = vs.length → Hp W w0 (layW w g pre.length vs) (l.set i (.blk g t (pre ++ vs)))
 | [], pre, post, w, l, i, h, hi, hl => by
   have e : post = [] := List.eq_nil_of_length_eq_zero hl;subst e;have e2 : l.set i (.blk g t (pre ++ [])) = l := by
    apply List.ext_getElem?;intro j
    by_cases hij : i = j
    ·subst hij; rw [List.getElem?_set_self (List.getElem?_eq_some_iff.1 hi).1, hi]
    ·rw [List.getElem?_set_ne hij]
   rw [e2]; exact h
 | v :: vs, pre, [], w, l, i, h, hi, hl => by simp at hl
 | v :: vs, pre, p :: post, w, l, i, h, hi, hl => by
   have h1 := h.bput i hi pre.length v;rw [List.set_append_right _ _ (Nat.le_refl _), Nat.sub_self, List.set_cons_zero] at h1;have h2 := Hp.blays_aux vs (pre ++ [v]) post _ _ i h1 (by rw [List.getElem?_set_self (List.getElem?_eq_some_iff.1 hi).1, List.append_assoc]; rfl) (by simpa using hl);rw [List.set_set, List.length_append, List.append_assoc] at h2;exact h2
theorem Hp.blays {W : List Nat} {w0 w : World} {l : List Ob} {g : Nat} {t : TypeId} {cs : List Value} (h : Hp W w0 w l) (i : Nat) (hi : l[i]? = some (.blk g t cs)) (vs : List Value) (hl : cs.length = vs.length) : Hp W w0 (layW w g 0 vs) (l.set i (.blk g t vs)) :=
 Hp.blays_aux vs [] cs w l i h hi hl
end Go.Proofs.YtllonpbhgbhogaaGreatDoor
namespace Go.Proofs.YtllonpbhgbhogaaGreatDoor
open Go.RowKit
end Go.Proofs.YtllonpbhgbhogaaGreatDoor