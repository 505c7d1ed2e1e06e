/-
  Texts as lists of bytes. No program in sight.
-/
import Derived.Test.YtlgclhnghpjgjaaInfo
import Derived.Laws.IdiomStrings
namespace Go.Proofs.Ytlgclhnghpjgjaa
open Go.RowKit

/-- Bytes as a text. -/
def ofB (l : List UInt8) : ByteArray := ⟨l.toArray⟩
def toB (s : ByteArray) : List UInt8 := s.data.toList
theorem toB_ofB (l : List UInt8) : toB (ofB l) = l := by simp [toB, ofB]
theorem ofB_toB (s : ByteArray) : ofB (toB s) = s := by simp [toB, ofB]
theorem toB_len (s : ByteArray) : (toB s).length = s.size := by simp [toB]
theorem ofB_size (l : List UInt8) : (ofB l).size = l.length := by simp [ofB, ByteArray.size]
theorem ofB_inj {l l' : List UInt8} (h : ofB l = ofB l') : l = l' := by rw [← toB_ofB l, ← toB_ofB l', h]
theorem toList_B (s : ByteArray) : s.toList = toB s := by simp [ByteArray.toList_eq, toB]
theorem cmpB (s t : ByteArray) : (s.toList == t.toList) = decide (toB s = toB t) := by
  rw [toList_B, toList_B, Bool.eq_iff_iff]; simp
theorem toB_extract (s : ByteArray) (k m : Nat) : toB (s.extract k m) = ((toB s).drop k).take (m - k) := by
  simp [toB, ByteArray.data_extract]
theorem toB_append (s t : ByteArray) : toB (s ++ t) = toB s ++ toB t := by simp [toB, ByteArray.data_append]
theorem ofB_append (a b : List UInt8) : ofB a ++ ofB b = ofB (a ++ b) := by
  have h := toB_append (ofB a) (ofB b)
  rw [toB_ofB, toB_ofB] at h
  rw [← h, ofB_toB]
theorem extract_ofB (l : List UInt8) (a b : Nat) : (ofB l).extract a b = ofB ((l.drop a).take (b - a)) := by
  have h := toB_extract (ofB l) a b
  rw [toB_ofB] at h
  rw [← h, ofB_toB]
/-- 'string(b)'. -/
theorem run_str {P : Program} {w : World} (src dst e : TypeId) {A : Option Addr} {n c : Nat} {l : List UInt8} (hs : P.underlying src = some (.slice e)) (he : P.underlying e = some (.int .u8)) (hd : P.underlying dst = some .string)
    (hr : Rd w A n 1 (l.map cU8)) : (convert src dst (.slice A n c)).run P w = .ok (.string (ofB l)) w := by
  have hl := hr.len1
  cases A with
  | none =>
    have h0 : n = 0 := by
      rcases Nat.eq_zero_or_pos n with h0 | h0
      · exact h0
      · obtain ⟨b, o, e, _⟩ := hr.2 h0; cases e
    subst h0
    have : l = [] := List.eq_nil_of_length_eq_zero hl
    subst this
    rw [run_convert_bytes_string w src dst e none 0 c hs he hd]
    simp [Conv.bytesToString, Sem.run_pure, ofB]
    rfl
  | some a =>
    subst hl
    refine run_convert_bytes_back w src dst e a c l hs he hd fun j hj => ?_
    obtain ⟨b, o, e, hc⟩ := hr.get1 (List.getElem?_eq_getElem hj)
    injection e with e
    subst e
    rw [Addr.add_lit]
    exact hc

section
variable {W : List Nat} {w0 w w' : World} {l : List Ob}
theorem Hp.lay_ (h : Hp W w0 w l) (t : TypeId) (cs : List Value) {g : Nat} (hg : g = w.heap.size) : Hp W w0 (w.alloc (.cells cs.toArray t)) (.blk g t cs :: l) := by subst hg; exact h.lay t cs
/-- rows of elements of different types lie apart -/
theorem rows_apart {E E2 : TypeId} {k n k2 n2 : Nat} {v v2 : Value} {xs ys : List Value} {b b2 : Nat} (h : w.ownsRow b E k v n xs) (h2 : w.ownsRow b2 E2 k2 v2 n2 ys) (hne : E ≠ E2) : (Ob.row E k v n xs).apart (.row E2 k2 v2 n2 ys) := by
  intro g hg hg2
  rcases h.2 with ⟨rfl, _⟩ | ⟨g1, cap, cur, rfl, _, hh, _⟩
  · simp [Ob.has, Value.ownBlock] at hg
  · rcases h2.2 with ⟨rfl, _⟩ | ⟨g3, cap2, cur2, rfl, _, hh2, _⟩
    · simp [Ob.has, Value.ownBlock] at hg2
    · simp only [Ob.has, Value.ownBlock, Option.some.injEq] at hg hg2
      subst hg
      subst hg2
      rw [hh] at hh2
      injection hh2 with hh2
      injection hh2 with _ ht
      exact hne ht
theorem Hp.cons_row {E : TypeId} {k n : Nat} {v : Value} {xs : List Value} {l' : List Ob} (h : Hp [] w w' l') (o : w'.ownsRow w.heap.size E k v n xs) (ha : ∀ x ∈ l', (Ob.row E k v n xs).apart x) : Hp [] w w' (.row E k v n xs :: l') := by
  refine ⟨h.gr, ?_, ?_, List.pairwise_cons.2 ⟨ha, h.ap⟩⟩
  · intro x hx
    rcases List.mem_cons.1 hx with rfl | h1
    · exact own_base o (Nat.zero_le _)
    · exact h.ok x h1
  · intro x hx g hg
    rcases List.mem_cons.1 hx with rfl | h1
    · exact .inl (o.lt g hg).1
    · exact h.own x h1 g hg
variable {E E2 E3 : TypeId} {k n k2 n2 k3 n3 : Nat} {v v2 v3 : Value} {xs ys zs : List Value}
theorem Hp.made2 (h : Hp W w0 w l) (o : w'.ownsRow w.heap.size E k v n xs) (o2 : w'.ownsRow w.heap.size E2 k2 v2 n2 ys) (f : Fr w w') (hne : E ≠ E2) : Hp W w0 w' (.row E k v n xs :: .row E2 k2 v2 n2 ys :: l) :=
  h.join ((Hp.one_row o2 f).cons_row o (by simpa using rows_apart o o2 hne))
theorem Hp.made3 (h : Hp W w0 w l) (o : w'.ownsRow w.heap.size E k v n xs) (o2 : w'.ownsRow w.heap.size E2 k2 v2 n2 ys) (o3 : w'.ownsRow w.heap.size E3 k3 v3 n3 zs) (f : Fr w w') (h12 : E ≠ E2) (h13 : E ≠ E3) (h23 : E2 ≠ E3) :
    Hp W w0 w' (.row E k v n xs :: .row E2 k2 v2 n2 ys :: .row E3 k3 v3 n3 zs :: l) :=
  h.join (((Hp.one_row o3 f).cons_row o2 (by simpa using rows_apart o2 o3 h23)).cons_row o (by simpa using ⟨rows_apart o o2 h12, rows_apart o o3 h13⟩))
end
end Go.Proofs.Ytlgclhnghpjgjaa
