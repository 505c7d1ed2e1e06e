/-
  What came in, opened: writes, devices, machines.
-/
import Derived.Test.YtaogikhpglcmjaaGreatDoorOpenN
import Derived.Test.YtaogikhpglcmjaaGreatDoorGZc
namespace Go.Proofs.YtaogikhpglcmjaaGreatDoor
open Go.ChangeShapes Go.WideShapes Go.ChangeAt Go.RowKit Go.Deep
section
variable {H : Type} {enc : TypeId × Value → H}

set_option maxRecDepth 100000 in
theorem rd_writes_of {W : World} {fuel : Nat} {v : Value} {x : DataW H × List MemPlace} (hf : DataW.trod enc Tryz.prog W 0 (fun _ => true) true fuel 40 [v] = some x) :
    ∃ (A : Option Addr) (n c : Nat) (l : List (Int × ByteArray)), v = .slice A n c ∧ Rd W A n 2 (l.flatMap cWrite) ∧ (∀ e ∈ l, e.2.size ≤ 9223372036854775807) ∧ n ≤ c ∧ c ≤ maxLen := by
  obtain ⟨A, n, c, l, hv, h1, _, hok, h2, h3⟩ := rd_of_cells cWrite (fun e => e.2.size ≤ 9223372036854775807) (by omega) cWrite_len Tryz.underlying40 (by kernel_rfl) (fun n cs y hl h => by
    obtain ⟨xs, n2, _, _, _, hxl, hf⟩ := DataW.trod_struct Tryz.underlying135 h
    match cs, hl with
    | [u0, u1], _ =>
      obtain ⟨y0, hy0⟩ := at_len hxl 0 (by decide)
      have t0 : DataW.trod enc Tryz.prog W 0 (fun _ => true) true n2 3 (([u0, u1].drop 0).take (Tryz.prog.cellsOf 3)) = xs[0]? := hf 0 _ rfl
      rw [hy0, show Tryz.prog.cellsOf 3 = 1 from by kernel_rfl] at t0
      replace t0 : DataW.trod enc Tryz.prog W 0 (fun _ => true) true n2 3 [u0] = some y0 := t0
      obtain ⟨y1, hy1⟩ := at_len hxl 1 (by decide)
      have t1 : DataW.trod enc Tryz.prog W 0 (fun _ => true) true n2 9 (([u0, u1].drop 1).take (Tryz.prog.cellsOf 9)) = xs[1]? := hf 1 _ rfl
      rw [hy1, show Tryz.prog.cellsOf 9 = 1 from by kernel_rfl] at t1
      replace t1 : DataW.trod enc Tryz.prog W 0 (fun _ => true) true n2 9 [u1] = some y1 := t1
      obtain ⟨a0, ha0, _, wa0⟩ := DataW.trod_int Tryz.underlying3 t0
      obtain rfl : u0 = .int .i64 a0 := by simpa using ha0
      obtain ⟨a1, ha1, _, hz1⟩ := DataW.trod_string Tryz.underlying9 t1
      obtain rfl : u1 = .string a1 := by simpa using ha1
      replace hz1 : a1.size ≤ 9223372036854775807 := by simpa [maxLen] using hz1
      exact ⟨(a0, a1), rfl, hz1⟩) hf
  exact ⟨A, n, c, l, by simpa using hv, h1, hok, h2, h3⟩
set_option maxRecDepth 100000 in
theorem dev_of {W : World} {fuel : Nat} {cs : List Value} {x : DataW H × List MemPlace} (hl : cs.length = 2) (h : DataW.trod enc Tryz.prog W 0 (fun _ => true) true fuel 42 cs = some x) :
    ∃ (A : Option Addr) (n c : Nat) (l : List ByteArray) (B : Option Addr) (m d : Nat) (ws : List (Int × ByteArray)), cs = [.slice A n c, .slice B m d] ∧ Rd W A n 1 (l.map Value.string) ∧ (∀ s ∈ l, s.size ≤ 9223372036854775807) ∧ n ≤ c ∧ c ≤ maxLen ∧ Rd W B m 2 (ws.flatMap cWrite) ∧ (∀ s ∈ ws, s.2.size ≤ 9223372036854775807) ∧ m ≤ d ∧ d ≤ maxLen := by
  obtain ⟨xs, n2, _, _, _, hxl, hf⟩ := DataW.trod_struct Tryz.underlying42 h
  match cs, hl with
  | [u0, u1], _ =>
    obtain ⟨y0, hy0⟩ := at_len hxl 0 (by decide)
    have t0 : DataW.trod enc Tryz.prog W 0 (fun _ => true) true n2 22 (([u0, u1].drop 0).take (Tryz.prog.cellsOf 22)) = xs[0]? := hf 0 _ rfl
    rw [hy0, show Tryz.prog.cellsOf 22 = 1 from by kernel_rfl] at t0
    replace t0 : DataW.trod enc Tryz.prog W 0 (fun _ => true) true n2 22 [u0] = some y0 := t0
    obtain ⟨y1, hy1⟩ := at_len hxl 1 (by decide)
    have t1 : DataW.trod enc Tryz.prog W 0 (fun _ => true) true n2 40 (([u0, u1].drop 1).take (Tryz.prog.cellsOf 40)) = xs[1]? := hf 1 _ rfl
    rw [hy1, show Tryz.prog.cellsOf 40 = 1 from by kernel_rfl] at t1
    replace t1 : DataW.trod enc Tryz.prog W 0 (fun _ => true) true n2 40 [u1] = some y1 := t1
    obtain ⟨A, n, c, l, rfl, r0, r1, r2, r3⟩ := rd_strings_of Tryz.underlying22 Tryz.underlying9 (by kernel_rfl) t0
    obtain ⟨B, m, d, ws, rfl, q0, q1, q2, q3⟩ := rd_writes_of t1
    exact ⟨A, n, c, l, B, m, d, ws, rfl, r0, r1, r2, r3, q0, q1, q2, q3⟩
set_option maxRecDepth 100000 in
theorem fs_of {W : World} {fuel : Nat} {cs : List Value} {x : DataW H × List MemPlace} (hl : cs.length = 13) (h : DataW.trod enc Tryz.prog W 0 (fun _ => true) true fuel 45 cs = some x) :
    ∃ (up : Bool) (m1 m2 sq st sv tr : Int) (A1 A2 A3 A6 A7 A8 : Option Addr) (n1 n2 n3 n6 n7 n8 c1 c2 c3 c6 c7 c8 : Nat) (L1 L2 : List (Value × Nod)) (base bl : List ByteArray) (pd : List (Int × ByteArray)) (calls : List (Int × Int × ByteArray × Int × ByteArray × ByteArray)),
      cs = [.bool up, .int .i64 m1, .slice A1 n1 c1, .int .i64 m2, .slice A2 n2 c2, .slice A3 n3 c3, .int .i64 sq, .int .i64 st, .slice A6 n6 c6, .slice A7 n7 c7, .slice A8 n8 c8, .int .i64 sv, .int .i64 tr] ∧
      (RdN W A1 n1 L1 ∧ OkN L1 ∧ n1 ≤ 9223372036854775807) ∧ (RdN W A2 n2 L2 ∧ OkN L2 ∧ n2 ≤ 9223372036854775807) ∧ (Rd W A3 n3 1 (base.map Value.string) ∧ (∀ s ∈ base, s.size ≤ 9223372036854775807) ∧ n3 ≤ 9223372036854775807) ∧ (Rd W A6 n6 1 (bl.map Value.string) ∧ (∀ s ∈ bl, s.size ≤ 9223372036854775807) ∧ n6 ≤ 9223372036854775807) ∧ (Rd W A7 n7 2 (pd.flatMap cWrite) ∧ (∀ s ∈ pd, s.2.size ≤ 9223372036854775807) ∧ n7 ≤ 9223372036854775807) ∧
      (Rd W A8 n8 6 (calls.flatMap cCall) ∧ (∀ s ∈ calls, s.2.2.1.size ≤ 9223372036854775807 ∧ s.2.2.2.2.1.size ≤ 9223372036854775807 ∧ s.2.2.2.2.2.size ≤ 9223372036854775807) ∧ n8 ≤ 9223372036854775807) ∧ n1 ≤ c1 ∧ n2 ≤ c2 ∧ (I64 sq ∧ I64 st ∧ I64 sv ∧ I64 tr ∧ I64 m1 ∧ I64 m2) := by
  obtain ⟨xs, n2, _, _, _, hxl, hf⟩ := DataW.trod_struct Tryz.underlying45 h
  match cs, hl with
  | [u0, u1, u2, u3, u4, u5, u6, u7, u8, u9, u10, u11, u12], _ =>
    obtain ⟨y0, hy0⟩ := at_len hxl 0 (by decide)
    have t0 : DataW.trod enc Tryz.prog W 0 (fun _ => true) true n2 4 (([u0, u1, u2, u3, u4, u5, u6, u7, u8, u9, u10, u11, u12].drop 0).take (Tryz.prog.cellsOf 4)) = xs[0]? := hf 0 _ rfl
    rw [hy0, show Tryz.prog.cellsOf 4 = 1 from by kernel_rfl] at t0
    replace t0 : DataW.trod enc Tryz.prog W 0 (fun _ => true) true n2 4 [u0] = some y0 := t0
    obtain ⟨y1, hy1⟩ := at_len hxl 1 (by decide)
    have t1 : DataW.trod enc Tryz.prog W 0 (fun _ => true) true n2 39 (([u0, u1, u2, u3, u4, u5, u6, u7, u8, u9, u10, u11, u12].drop 1).take (Tryz.prog.cellsOf 39)) = xs[1]? := hf 1 _ rfl
    rw [hy1, show Tryz.prog.cellsOf 39 = 2 from by kernel_rfl] at t1
    replace t1 : DataW.trod enc Tryz.prog W 0 (fun _ => true) true n2 39 [u1, u2] = some y1 := t1
    obtain ⟨y2, hy2⟩ := at_len hxl 2 (by decide)
    have t2 : DataW.trod enc Tryz.prog W 0 (fun _ => true) true n2 39 (([u0, u1, u2, u3, u4, u5, u6, u7, u8, u9, u10, u11, u12].drop 3).take (Tryz.prog.cellsOf 39)) = xs[2]? := hf 2 _ rfl
    rw [hy2, show Tryz.prog.cellsOf 39 = 2 from by kernel_rfl] at t2
    replace t2 : DataW.trod enc Tryz.prog W 0 (fun _ => true) true n2 39 [u3, u4] = some y2 := t2
    obtain ⟨y3, hy3⟩ := at_len hxl 3 (by decide)
    have t3 : DataW.trod enc Tryz.prog W 0 (fun _ => true) true n2 22 (([u0, u1, u2, u3, u4, u5, u6, u7, u8, u9, u10, u11, u12].drop 5).take (Tryz.prog.cellsOf 22)) = xs[3]? := hf 3 _ rfl
    rw [hy3, show Tryz.prog.cellsOf 22 = 1 from by kernel_rfl] at t3
    replace t3 : DataW.trod enc Tryz.prog W 0 (fun _ => true) true n2 22 [u5] = some y3 := t3
    obtain ⟨y4, hy4⟩ := at_len hxl 4 (by decide)
    have t4 : DataW.trod enc Tryz.prog W 0 (fun _ => true) true n2 3 (([u0, u1, u2, u3, u4, u5, u6, u7, u8, u9, u10, u11, u12].drop 6).take (Tryz.prog.cellsOf 3)) = xs[4]? := hf 4 _ rfl
    rw [hy4, show Tryz.prog.cellsOf 3 = 1 from by kernel_rfl] at t4
    replace t4 : DataW.trod enc Tryz.prog W 0 (fun _ => true) true n2 3 [u6] = some y4 := t4
    obtain ⟨y5, hy5⟩ := at_len hxl 5 (by decide)
    have t5 : DataW.trod enc Tryz.prog W 0 (fun _ => true) true n2 3 (([u0, u1, u2, u3, u4, u5, u6, u7, u8, u9, u10, u11, u12].drop 7).take (Tryz.prog.cellsOf 3)) = xs[5]? := hf 5 _ rfl
    rw [hy5, show Tryz.prog.cellsOf 3 = 1 from by kernel_rfl] at t5
    replace t5 : DataW.trod enc Tryz.prog W 0 (fun _ => true) true n2 3 [u7] = some y5 := t5
    obtain ⟨y6, hy6⟩ := at_len hxl 6 (by decide)
    have t6 : DataW.trod enc Tryz.prog W 0 (fun _ => true) true n2 42 (([u0, u1, u2, u3, u4, u5, u6, u7, u8, u9, u10, u11, u12].drop 8).take (Tryz.prog.cellsOf 42)) = xs[6]? := hf 6 _ rfl
    rw [hy6, show Tryz.prog.cellsOf 42 = 2 from by kernel_rfl] at t6
    replace t6 : DataW.trod enc Tryz.prog W 0 (fun _ => true) true n2 42 [u8, u9] = some y6 := t6
    obtain ⟨y7, hy7⟩ := at_len hxl 7 (by decide)
    have t7 : DataW.trod enc Tryz.prog W 0 (fun _ => true) true n2 43 (([u0, u1, u2, u3, u4, u5, u6, u7, u8, u9, u10, u11, u12].drop 10).take (Tryz.prog.cellsOf 43)) = xs[7]? := hf 7 _ rfl
    rw [hy7, show Tryz.prog.cellsOf 43 = 1 from by kernel_rfl] at t7
    replace t7 : DataW.trod enc Tryz.prog W 0 (fun _ => true) true n2 43 [u10] = some y7 := t7
    obtain ⟨y8, hy8⟩ := at_len hxl 8 (by decide)
    have t8 : DataW.trod enc Tryz.prog W 0 (fun _ => true) true n2 3 (([u0, u1, u2, u3, u4, u5, u6, u7, u8, u9, u10, u11, u12].drop 11).take (Tryz.prog.cellsOf 3)) = xs[8]? := hf 8 _ rfl
    rw [hy8, show Tryz.prog.cellsOf 3 = 1 from by kernel_rfl] at t8
    replace t8 : DataW.trod enc Tryz.prog W 0 (fun _ => true) true n2 3 [u11] = some y8 := t8
    obtain ⟨y9, hy9⟩ := at_len hxl 9 (by decide)
    have t9 : DataW.trod enc Tryz.prog W 0 (fun _ => true) true n2 3 (([u0, u1, u2, u3, u4, u5, u6, u7, u8, u9, u10, u11, u12].drop 12).take (Tryz.prog.cellsOf 3)) = xs[9]? := hf 9 _ rfl
    rw [hy9, show Tryz.prog.cellsOf 3 = 1 from by kernel_rfl] at t9
    replace t9 : DataW.trod enc Tryz.prog W 0 (fun _ => true) true n2 3 [u12] = some y9 := t9
    obtain ⟨a0, ha0, _⟩ := DataW.trod_bool Tryz.underlying4 t0
    obtain rfl : u0 = .bool a0 := by simpa using ha0
    obtain ⟨a4, ha4, _, wa4⟩ := DataW.trod_int Tryz.underlying3 t4
    obtain rfl : u6 = .int .i64 a4 := by simpa using ha4
    obtain ⟨a5, ha5, _, wa5⟩ := DataW.trod_int Tryz.underlying3 t5
    obtain rfl : u7 = .int .i64 a5 := by simpa using ha5
    obtain ⟨a8, ha8, _, wa8⟩ := DataW.trod_int Tryz.underlying3 t8
    obtain rfl : u11 = .int .i64 a8 := by simpa using ha8
    obtain ⟨a9, ha9, _, wa9⟩ := DataW.trod_int Tryz.underlying3 t9
    obtain rfl : u12 = .int .i64 a9 := by simpa using ha9
    obtain ⟨m1, A1, n1, c1, L1, e1, v1, v2, v3, v4, v5⟩ := vol_of rfl t1
    obtain ⟨m2, A2, n2, c2, L2, e2, w1, w2, w3, w4, w5⟩ := vol_of rfl t2
    obtain ⟨A3, n3, c3, base, rfl, r0, r1, r2, r3⟩ := rd_strings_of Tryz.underlying22 Tryz.underlying9 (by kernel_rfl) t3
    obtain ⟨A6, n6, c6, bl, A7, n7, c7, pd, e6, d0, d1, d2, d3, d4, d5, d6, d7⟩ := dev_of rfl t6
    obtain ⟨A8, n8, c8, calls, rfl, q0, q1, q2, q3⟩ := rd_calls_of t7
    injection e1 with e1 e1'; injection e1' with e1' _
    injection e2 with e2 e2'; injection e2' with e2' _
    injection e6 with e6 e6'; injection e6' with e6' _
    subst e1 e1' e2 e2' e6 e6'
    simp only [maxLen] at v4 w4 r3 d3 d7 q3
    exact ⟨a0, m1, m2, a4, a5, a8, a9, A1, A2, A3, A6, A7, A8, n1, n2, n3, n6, n7, n8, c1, c2, c3, c6, c7, c8, L1, L2, base, bl, pd, calls, rfl, ⟨v1, v2, by omega⟩, ⟨w1, w2, by omega⟩, ⟨r0, r1, by omega⟩, ⟨d0, d1, by omega⟩, ⟨d4, d5, by omega⟩, ⟨q0, q1, by omega⟩, v3, w3, ⟨i64_of_wf wa4, i64_of_wf wa5, i64_of_wf wa8, i64_of_wf wa9, v5, w5⟩⟩
end
end Go.Proofs.YtaogikhpglcmjaaGreatDoor
