/-
  What came in, opened: entries, inodes, volumes, calls.
-/
import Derived.Test.YtaogikhpglcmjaaGreatDoorGZb
import Derived.Test.YtaogikhpglcmjaaGreatDoorGZc
namespace Go.Proofs.YtaogikhpglcmjaaGreatDoor
open Go.ChangeShapes Go.WideShapes Go.ChangeAt Go.RowKit Go.Deep
section
variable {H : Type} {enc : TypeId × Value → H}
instance inhNV : Inhabited (Value × Nod) := ⟨(.slice none 0 0, 0, 0, 0, ⟨#[]⟩, [])⟩
theorem at_len {α : Type} {l : List α} {n : Nat} (h : l.length = n) (i : Nat) (hi : i < n) : ∃ x, l[i]? = some x := ⟨l[i]'(by omega), List.getElem?_eq_getElem (by omega)⟩

set_option maxRecDepth 100000 in
theorem rd_ents_of {W : World} {fuel : Nat} {v : Value} {x : DataW H × List MemPlace} (hf : DataW.trod enc Tryz.prog W 0 (fun _ => true) true fuel 131 [v] = some x) :
    ∃ (A : Option Addr) (n c : Nat) (l : List (Int × Int × ByteArray × Int)), v = .slice A n c ∧ Rd W A n 4 (l.flatMap cEnt) ∧ (∀ e ∈ l, e.2.2.1.size ≤ 9223372036854775807) ∧ n ≤ c ∧ c ≤ maxLen := by
  obtain ⟨A, n, c, l, hv, h1, _, hok, h2, h3⟩ := rd_of_cells cEnt (fun e => e.2.2.1.size ≤ 9223372036854775807) (by omega) cEnt_len Tryz.underlying131 (by kernel_rfl) (fun n cs y hl h => by
    obtain ⟨xs, n2, _, _, _, hxl, hf⟩ := DataW.trod_struct Tryz.underlying159 h
    match cs, hl with
    | [u0, u1, u2, u3], _ =>
      obtain ⟨y0, hy0⟩ := at_len hxl 0 (by decide)
      have t0 : DataW.trod enc Tryz.prog W 0 (fun _ => true) true n2 3 (([u0, u1, u2, u3].drop 0).take (Tryz.prog.cellsOf 3)) = xs[0]? := hf 0 _ rfl
      rw [hy0, show Tryz.prog.cellsOf 3 = 1 from by kernel_rfl] at t0
      replace t0 : DataW.trod enc Tryz.prog W 0 (fun _ => true) true n2 3 [u0] = some y0 := t0
      obtain ⟨y1, hy1⟩ := at_len hxl 1 (by decide)
      have t1 : DataW.trod enc Tryz.prog W 0 (fun _ => true) true n2 3 (([u0, u1, u2, u3].drop 1).take (Tryz.prog.cellsOf 3)) = xs[1]? := hf 1 _ rfl
      rw [hy1, show Tryz.prog.cellsOf 3 = 1 from by kernel_rfl] at t1
      replace t1 : DataW.trod enc Tryz.prog W 0 (fun _ => true) true n2 3 [u1] = some y1 := t1
      obtain ⟨y2, hy2⟩ := at_len hxl 2 (by decide)
      have t2 : DataW.trod enc Tryz.prog W 0 (fun _ => true) true n2 9 (([u0, u1, u2, u3].drop 2).take (Tryz.prog.cellsOf 9)) = xs[2]? := hf 2 _ rfl
      rw [hy2, show Tryz.prog.cellsOf 9 = 1 from by kernel_rfl] at t2
      replace t2 : DataW.trod enc Tryz.prog W 0 (fun _ => true) true n2 9 [u2] = some y2 := t2
      obtain ⟨y3, hy3⟩ := at_len hxl 3 (by decide)
      have t3 : DataW.trod enc Tryz.prog W 0 (fun _ => true) true n2 3 (([u0, u1, u2, u3].drop 3).take (Tryz.prog.cellsOf 3)) = xs[3]? := hf 3 _ rfl
      rw [hy3, show Tryz.prog.cellsOf 3 = 1 from by kernel_rfl] at t3
      replace t3 : DataW.trod enc Tryz.prog W 0 (fun _ => true) true n2 3 [u3] = some y3 := t3
      obtain ⟨a0, ha0, _, wa0⟩ := DataW.trod_int Tryz.underlying3 t0
      obtain rfl : u0 = .int .i64 a0 := by simpa using ha0
      obtain ⟨a1, ha1, _, wa1⟩ := DataW.trod_int Tryz.underlying3 t1
      obtain rfl : u1 = .int .i64 a1 := by simpa using ha1
      obtain ⟨a2, ha2, _, hz2⟩ := DataW.trod_string Tryz.underlying9 t2
      obtain rfl : u2 = .string a2 := by simpa using ha2
      replace hz2 : a2.size ≤ 9223372036854775807 := by simpa [maxLen] using hz2
      obtain ⟨a3, ha3, _, wa3⟩ := DataW.trod_int Tryz.underlying3 t3
      obtain rfl : u3 = .int .i64 a3 := by simpa using ha3
      exact ⟨(a0, a1, a2, a3), rfl, hz2⟩) hf
  exact ⟨A, n, c, l, by simpa using hv, h1, hok, h2, h3⟩
set_option maxRecDepth 100000 in
theorem rd_calls_of {W : World} {fuel : Nat} {v : Value} {x : DataW H × List MemPlace} (hf : DataW.trod enc Tryz.prog W 0 (fun _ => true) true fuel 43 [v] = some x) :
    ∃ (A : Option Addr) (n c : Nat) (l : List (Int × Int × ByteArray × Int × ByteArray × ByteArray)), v = .slice A n c ∧ Rd W A n 6 (l.flatMap cCall) ∧ (∀ e ∈ l, e.2.2.1.size ≤ 9223372036854775807 ∧ e.2.2.2.2.1.size ≤ 9223372036854775807 ∧ e.2.2.2.2.2.size ≤ 9223372036854775807) ∧ n ≤ c ∧ c ≤ maxLen := by
  obtain ⟨A, n, c, l, hv, h1, _, hok, h2, h3⟩ := rd_of_cells cCall (fun e => e.2.2.1.size ≤ 9223372036854775807 ∧ e.2.2.2.2.1.size ≤ 9223372036854775807 ∧ e.2.2.2.2.2.size ≤ 9223372036854775807) (by omega) cCall_len Tryz.underlying43 (by kernel_rfl) (fun n cs y hl h => by
    obtain ⟨xs, n2, _, _, _, hxl, hf⟩ := DataW.trod_struct Tryz.underlying106 h
    match cs, hl with
    | [u0, u1, u2, u3, u4, u5], _ =>
      obtain ⟨y0, hy0⟩ := at_len hxl 0 (by decide)
      have t0 : DataW.trod enc Tryz.prog W 0 (fun _ => true) true n2 3 (([u0, u1, u2, u3, u4, u5].drop 0).take (Tryz.prog.cellsOf 3)) = xs[0]? := hf 0 _ rfl
      rw [hy0, show Tryz.prog.cellsOf 3 = 1 from by kernel_rfl] at t0
      replace t0 : DataW.trod enc Tryz.prog W 0 (fun _ => true) true n2 3 [u0] = some y0 := t0
      obtain ⟨y1, hy1⟩ := at_len hxl 1 (by decide)
      have t1 : DataW.trod enc Tryz.prog W 0 (fun _ => true) true n2 3 (([u0, u1, u2, u3, u4, u5].drop 1).take (Tryz.prog.cellsOf 3)) = xs[1]? := hf 1 _ rfl
      rw [hy1, show Tryz.prog.cellsOf 3 = 1 from by kernel_rfl] at t1
      replace t1 : DataW.trod enc Tryz.prog W 0 (fun _ => true) true n2 3 [u1] = some y1 := t1
      obtain ⟨y2, hy2⟩ := at_len hxl 2 (by decide)
      have t2 : DataW.trod enc Tryz.prog W 0 (fun _ => true) true n2 9 (([u0, u1, u2, u3, u4, u5].drop 2).take (Tryz.prog.cellsOf 9)) = xs[2]? := hf 2 _ rfl
      rw [hy2, show Tryz.prog.cellsOf 9 = 1 from by kernel_rfl] at t2
      replace t2 : DataW.trod enc Tryz.prog W 0 (fun _ => true) true n2 9 [u2] = some y2 := t2
      obtain ⟨y3, hy3⟩ := at_len hxl 3 (by decide)
      have t3 : DataW.trod enc Tryz.prog W 0 (fun _ => true) true n2 3 (([u0, u1, u2, u3, u4, u5].drop 3).take (Tryz.prog.cellsOf 3)) = xs[3]? := hf 3 _ rfl
      rw [hy3, show Tryz.prog.cellsOf 3 = 1 from by kernel_rfl] at t3
      replace t3 : DataW.trod enc Tryz.prog W 0 (fun _ => true) true n2 3 [u3] = some y3 := t3
      obtain ⟨y4, hy4⟩ := at_len hxl 4 (by decide)
      have t4 : DataW.trod enc Tryz.prog W 0 (fun _ => true) true n2 9 (([u0, u1, u2, u3, u4, u5].drop 4).take (Tryz.prog.cellsOf 9)) = xs[4]? := hf 4 _ rfl
      rw [hy4, show Tryz.prog.cellsOf 9 = 1 from by kernel_rfl] at t4
      replace t4 : DataW.trod enc Tryz.prog W 0 (fun _ => true) true n2 9 [u4] = some y4 := t4
      obtain ⟨y5, hy5⟩ := at_len hxl 5 (by decide)
      have t5 : DataW.trod enc Tryz.prog W 0 (fun _ => true) true n2 9 (([u0, u1, u2, u3, u4, u5].drop 5).take (Tryz.prog.cellsOf 9)) = xs[5]? := hf 5 _ rfl
      rw [hy5, show Tryz.prog.cellsOf 9 = 1 from by kernel_rfl] at t5
      replace t5 : DataW.trod enc Tryz.prog W 0 (fun _ => true) true n2 9 [u5] = some y5 := t5
      obtain ⟨a0, ha0, _, wa0⟩ := DataW.trod_int Tryz.underlying3 t0
      obtain rfl : u0 = .int .i64 a0 := by simpa using ha0
      obtain ⟨a1, ha1, _, wa1⟩ := DataW.trod_int Tryz.underlying3 t1
      obtain rfl : u1 = .int .i64 a1 := by simpa using ha1
      obtain ⟨a2, ha2, _, hz2⟩ := DataW.trod_string Tryz.underlying9 t2
      obtain rfl : u2 = .string a2 := by simpa using ha2
      replace hz2 : a2.size ≤ 9223372036854775807 := by simpa [maxLen] using hz2
      obtain ⟨a3, ha3, _, wa3⟩ := DataW.trod_int Tryz.underlying3 t3
      obtain rfl : u3 = .int .i64 a3 := by simpa using ha3
      obtain ⟨a4, ha4, _, hz4⟩ := DataW.trod_string Tryz.underlying9 t4
      obtain rfl : u4 = .string a4 := by simpa using ha4
      replace hz4 : a4.size ≤ 9223372036854775807 := by simpa [maxLen] using hz4
      obtain ⟨a5, ha5, _, hz5⟩ := DataW.trod_string Tryz.underlying9 t5
      obtain rfl : u5 = .string a5 := by simpa using ha5
      replace hz5 : a5.size ≤ 9223372036854775807 := by simpa [maxLen] using hz5
      exact ⟨(a0, a1, a2, a3, a4, a5), rfl, hz2, hz4, hz5⟩) hf
  exact ⟨A, n, c, l, by simpa using hv, h1, hok, h2, h3⟩
set_option maxRecDepth 100000 in
theorem rd_nodes_of {W : World} {fuel : Nat} {v : Value} {x : DataW H × List MemPlace} (hf : DataW.trod enc Tryz.prog W 0 (fun _ => true) true fuel 37 [v] = some x) :
    ∃ (A : Option Addr) (n c : Nat) (L : List (Value × Nod)), v = .slice A n c ∧ RdN W A n L ∧ OkN L ∧ n ≤ c ∧ c ≤ maxLen := by
  obtain ⟨A, n, c, L, hv, h1, _, hok, h2, h3⟩ := rd_of_cells cNV (fun p => (∃ (B : Option Addr) (m d : Nat), p.1 = .slice B m d ∧ Rd W B m 4 (p.2.2.2.2.2.flatMap cEnt)) ∧ p.2.2.2.2.1.size ≤ 9223372036854775807 ∧ (∀ s ∈ p.2.2.2.2.2, s.2.2.1.size ≤ 9223372036854775807) ∧ p.2.2.2.2.2.length ≤ 9223372036854775807) (by omega) cNV_len Tryz.underlying37 (by kernel_rfl) (fun n cs y hl h => by
    obtain ⟨xs, n2, _, _, _, hxl, hf⟩ := DataW.trod_struct Tryz.underlying133 h
    match cs, hl with
    | [u0, u1, u2, u3, u4], _ =>
      obtain ⟨y0, hy0⟩ := at_len hxl 0 (by decide)
      have t0 : DataW.trod enc Tryz.prog W 0 (fun _ => true) true n2 3 (([u0, u1, u2, u3, u4].drop 0).take (Tryz.prog.cellsOf 3)) = xs[0]? := hf 0 _ rfl
      rw [hy0, show Tryz.prog.cellsOf 3 = 1 from by kernel_rfl] at t0
      replace t0 : DataW.trod enc Tryz.prog W 0 (fun _ => true) true n2 3 [u0] = some y0 := t0
      obtain ⟨y1, hy1⟩ := at_len hxl 1 (by decide)
      have t1 : DataW.trod enc Tryz.prog W 0 (fun _ => true) true n2 3 (([u0, u1, u2, u3, u4].drop 1).take (Tryz.prog.cellsOf 3)) = xs[1]? := hf 1 _ rfl
      rw [hy1, show Tryz.prog.cellsOf 3 = 1 from by kernel_rfl] at t1
      replace t1 : DataW.trod enc Tryz.prog W 0 (fun _ => true) true n2 3 [u1] = some y1 := t1
      obtain ⟨y2, hy2⟩ := at_len hxl 2 (by decide)
      have t2 : DataW.trod enc Tryz.prog W 0 (fun _ => true) true n2 3 (([u0, u1, u2, u3, u4].drop 2).take (Tryz.prog.cellsOf 3)) = xs[2]? := hf 2 _ rfl
      rw [hy2, show Tryz.prog.cellsOf 3 = 1 from by kernel_rfl] at t2
      replace t2 : DataW.trod enc Tryz.prog W 0 (fun _ => true) true n2 3 [u2] = some y2 := t2
      obtain ⟨y3, hy3⟩ := at_len hxl 3 (by decide)
      have t3 : DataW.trod enc Tryz.prog W 0 (fun _ => true) true n2 9 (([u0, u1, u2, u3, u4].drop 3).take (Tryz.prog.cellsOf 9)) = xs[3]? := hf 3 _ rfl
      rw [hy3, show Tryz.prog.cellsOf 9 = 1 from by kernel_rfl] at t3
      replace t3 : DataW.trod enc Tryz.prog W 0 (fun _ => true) true n2 9 [u3] = some y3 := t3
      obtain ⟨y4, hy4⟩ := at_len hxl 4 (by decide)
      have t4 : DataW.trod enc Tryz.prog W 0 (fun _ => true) true n2 131 (([u0, u1, u2, u3, u4].drop 4).take (Tryz.prog.cellsOf 131)) = xs[4]? := hf 4 _ rfl
      rw [hy4, show Tryz.prog.cellsOf 131 = 1 from by kernel_rfl] at t4
      replace t4 : DataW.trod enc Tryz.prog W 0 (fun _ => true) true n2 131 [u4] = some y4 := t4
      obtain ⟨a0, ha0, _, wa0⟩ := DataW.trod_int Tryz.underlying3 t0
      obtain rfl : u0 = .int .i64 a0 := by simpa using ha0
      obtain ⟨a1, ha1, _, wa1⟩ := DataW.trod_int Tryz.underlying3 t1
      obtain rfl : u1 = .int .i64 a1 := by simpa using ha1
      obtain ⟨a2, ha2, _, wa2⟩ := DataW.trod_int Tryz.underlying3 t2
      obtain rfl : u2 = .int .i64 a2 := by simpa using ha2
      obtain ⟨a3, ha3, _, hz3⟩ := DataW.trod_string Tryz.underlying9 t3
      obtain rfl : u3 = .string a3 := by simpa using ha3
      replace hz3 : a3.size ≤ 9223372036854775807 := by simpa [maxLen] using hz3
      obtain ⟨B4, m4, d4, es, rfl, r4, ok4, hm4, hd4⟩ := rd_ents_of t4
      refine ⟨(.slice B4 m4 d4, a0, a1, a2, a3, es), rfl, ⟨B4, m4, d4, rfl, r4⟩, hz3, ok4, ?_⟩
      have := r4.lenk cEnt_len (by omega)
      simp only [maxLen] at hd4
      show es.length ≤ _
      omega) hf
  exact ⟨A, n, c, L, by simpa using hv, ⟨h1, fun p hp => (hok p hp).1⟩, fun p hp => (hok p hp).2, h2, h3⟩
set_option maxRecDepth 100000 in
theorem vol_of {W : World} {fuel : Nat} {cs : List Value} {x : DataW H × List MemPlace} (hl : cs.length = 2) (h : DataW.trod enc Tryz.prog W 0 (fun _ => true) true fuel 39 cs = some x) :
    ∃ (next : Int) (A : Option Addr) (n c : Nat) (L : List (Value × Nod)), cs = [.int .i64 next, .slice A n c] ∧ RdN W A n L ∧ OkN L ∧ n ≤ c ∧ c ≤ maxLen ∧ I64 next := by
  obtain ⟨xs, n2, _, _, _, hxl, hf⟩ := DataW.trod_struct Tryz.underlying39 h
  match cs, hl with
  | [u0, u1], _ =>
    obtain ⟨y0, hy0⟩ := at_len hxl 0 (by decide)
    have t0 : DataW.trod enc Tryz.prog W 0 (fun _ => true) true n2 3 (([u0, u1].drop 0).take (Tryz.prog.cellsOf 3)) = xs[0]? := hf 0 _ rfl
    rw [hy0, show Tryz.prog.cellsOf 3 = 1 from by kernel_rfl] at t0
    replace t0 : DataW.trod enc Tryz.prog W 0 (fun _ => true) true n2 3 [u0] = some y0 := t0
    obtain ⟨y1, hy1⟩ := at_len hxl 1 (by decide)
    have t1 : DataW.trod enc Tryz.prog W 0 (fun _ => true) true n2 37 (([u0, u1].drop 1).take (Tryz.prog.cellsOf 37)) = xs[1]? := hf 1 _ rfl
    rw [hy1, show Tryz.prog.cellsOf 37 = 1 from by kernel_rfl] at t1
    replace t1 : DataW.trod enc Tryz.prog W 0 (fun _ => true) true n2 37 [u1] = some y1 := t1
    obtain ⟨a0, ha0, _, wa0⟩ := DataW.trod_int Tryz.underlying3 t0
    obtain rfl : u0 = .int .i64 a0 := by simpa using ha0
    obtain ⟨A, n, c, L, rfl, r⟩ := rd_nodes_of t1
    exact ⟨a0, A, n, c, L, rfl, r.1, r.2.1, r.2.2.1, r.2.2.2, i64_of_wf wa0⟩
set_option maxRecDepth 100000 in
theorem call_of {W : World} {fuel : Nat} {cs : List Value} {x : DataW H × List MemPlace} (hl : cs.length = 6) (h : DataW.trod enc Tryz.prog W 0 (fun _ => true) true fuel 106 cs = some x) :
    ∃ (x0 x1 : Int) (x2 : ByteArray) (x3 : Int) (x4 x5 : ByteArray), cs = [.int .i64 x0, .int .i64 x1, .string x2, .int .i64 x3, .string x4, .string x5] ∧ x2.size ≤ 9223372036854775807 ∧ x4.size ≤ 9223372036854775807 ∧ x5.size ≤ 9223372036854775807 ∧ I64 x0 ∧ I64 x1 ∧ I64 x3 := by
  obtain ⟨xs, n2, _, _, _, hxl, hf⟩ := DataW.trod_struct Tryz.underlying106 h
  match cs, hl with
  | [u0, u1, u2, u3, u4, u5], _ =>
    obtain ⟨y0, hy0⟩ := at_len hxl 0 (by decide)
    have t0 : DataW.trod enc Tryz.prog W 0 (fun _ => true) true n2 3 (([u0, u1, u2, u3, u4, u5].drop 0).take (Tryz.prog.cellsOf 3)) = xs[0]? := hf 0 _ rfl
    rw [hy0, show Tryz.prog.cellsOf 3 = 1 from by kernel_rfl] at t0
    replace t0 : DataW.trod enc Tryz.prog W 0 (fun _ => true) true n2 3 [u0] = some y0 := t0
    obtain ⟨y1, hy1⟩ := at_len hxl 1 (by decide)
    have t1 : DataW.trod enc Tryz.prog W 0 (fun _ => true) true n2 3 (([u0, u1, u2, u3, u4, u5].drop 1).take (Tryz.prog.cellsOf 3)) = xs[1]? := hf 1 _ rfl
    rw [hy1, show Tryz.prog.cellsOf 3 = 1 from by kernel_rfl] at t1
    replace t1 : DataW.trod enc Tryz.prog W 0 (fun _ => true) true n2 3 [u1] = some y1 := t1
    obtain ⟨y2, hy2⟩ := at_len hxl 2 (by decide)
    have t2 : DataW.trod enc Tryz.prog W 0 (fun _ => true) true n2 9 (([u0, u1, u2, u3, u4, u5].drop 2).take (Tryz.prog.cellsOf 9)) = xs[2]? := hf 2 _ rfl
    rw [hy2, show Tryz.prog.cellsOf 9 = 1 from by kernel_rfl] at t2
    replace t2 : DataW.trod enc Tryz.prog W 0 (fun _ => true) true n2 9 [u2] = some y2 := t2
    obtain ⟨y3, hy3⟩ := at_len hxl 3 (by decide)
    have t3 : DataW.trod enc Tryz.prog W 0 (fun _ => true) true n2 3 (([u0, u1, u2, u3, u4, u5].drop 3).take (Tryz.prog.cellsOf 3)) = xs[3]? := hf 3 _ rfl
    rw [hy3, show Tryz.prog.cellsOf 3 = 1 from by kernel_rfl] at t3
    replace t3 : DataW.trod enc Tryz.prog W 0 (fun _ => true) true n2 3 [u3] = some y3 := t3
    obtain ⟨y4, hy4⟩ := at_len hxl 4 (by decide)
    have t4 : DataW.trod enc Tryz.prog W 0 (fun _ => true) true n2 9 (([u0, u1, u2, u3, u4, u5].drop 4).take (Tryz.prog.cellsOf 9)) = xs[4]? := hf 4 _ rfl
    rw [hy4, show Tryz.prog.cellsOf 9 = 1 from by kernel_rfl] at t4
    replace t4 : DataW.trod enc Tryz.prog W 0 (fun _ => true) true n2 9 [u4] = some y4 := t4
    obtain ⟨y5, hy5⟩ := at_len hxl 5 (by decide)
    have t5 : DataW.trod enc Tryz.prog W 0 (fun _ => true) true n2 9 (([u0, u1, u2, u3, u4, u5].drop 5).take (Tryz.prog.cellsOf 9)) = xs[5]? := hf 5 _ rfl
    rw [hy5, show Tryz.prog.cellsOf 9 = 1 from by kernel_rfl] at t5
    replace t5 : DataW.trod enc Tryz.prog W 0 (fun _ => true) true n2 9 [u5] = some y5 := t5
    obtain ⟨a0, ha0, _, wa0⟩ := DataW.trod_int Tryz.underlying3 t0
    obtain rfl : u0 = .int .i64 a0 := by simpa using ha0
    obtain ⟨a1, ha1, _, wa1⟩ := DataW.trod_int Tryz.underlying3 t1
    obtain rfl : u1 = .int .i64 a1 := by simpa using ha1
    obtain ⟨a2, ha2, _, hz2⟩ := DataW.trod_string Tryz.underlying9 t2
    obtain rfl : u2 = .string a2 := by simpa using ha2
    replace hz2 : a2.size ≤ 9223372036854775807 := by simpa [maxLen] using hz2
    obtain ⟨a3, ha3, _, wa3⟩ := DataW.trod_int Tryz.underlying3 t3
    obtain rfl : u3 = .int .i64 a3 := by simpa using ha3
    obtain ⟨a4, ha4, _, hz4⟩ := DataW.trod_string Tryz.underlying9 t4
    obtain rfl : u4 = .string a4 := by simpa using ha4
    replace hz4 : a4.size ≤ 9223372036854775807 := by simpa [maxLen] using hz4
    obtain ⟨a5, ha5, _, hz5⟩ := DataW.trod_string Tryz.underlying9 t5
    obtain rfl : u5 = .string a5 := by simpa using ha5
    replace hz5 : a5.size ≤ 9223372036854775807 := by simpa [maxLen] using hz5
    exact ⟨a0, a1, a2, a3, a4, a5, rfl, hz2, hz4, hz5, i64_of_wf wa0, i64_of_wf wa1, i64_of_wf wa3⟩
end
end Go.Proofs.YtaogikhpglcmjaaGreatDoor
