/-
  Marks in the laws: texts, slices of string.
-/
import Derived.Test.YtlgclhnghpjgjaaStr
import Derived.Deep.RegionHeld3
namespace Go.Proofs.Ytlgclhnghpjgjaa
open Go.RowKit

/-- The digits of a number. -/
def dg (k : Nat) : List UInt8 := if _h : k = 0 then [] else dg (k / 10) ++ [UInt8.ofNat (48 + k % 10)]
termination_by k
decreasing_by omega
theorem dg_zero : dg 0 = [] := by rw [dg]; simp
theorem dg_pos {k : Nat} (h : 0 < k) : dg k = dg (k / 10) ++ [UInt8.ofNat (48 + k % 10)] := by rw [dg, dif_neg (by omega)]
theorem dg_len : ∀ k : Nat, (dg k).length ≤ k := by
  intro k
  induction k using Nat.strongRecOn with
  | _ k ih =>
    by_cases h : 0 < k
    · have := ih (k / 10) (by omega)
      rw [dg_pos h, List.length_append, List.length_singleton]
      omega
    · rw [show k = 0 from by omega, dg_zero]; simp
def markB (k : Nat) : List UInt8 := if k = 0 then [109, 48] else 109 :: dg k
def markS (k : Nat) : ByteArray := ofB (markB k)
theorem markS_size (k : Nat) : (markS k).size ≤ k + 2 := by
  unfold markS markB
  rw [ofB_size]
  split
  · simp
  · have := dg_len k; simp; omega

set_option maxRecDepth 100000 in
set_option maxHeartbeats 2000000 in
theorem markText_any (k : Nat) (w : World) (hk : k ≤ 1099511627776) :
    Calls Try.prog 36 #[.int .i64 k] w fun e w' => e = .returned (.string (markS k)) ∧ Fr w w' := by
  by_cases h0 : k = 0
  · subst h0
    go_enter Try.func36, Try.ntmps36
    go_wp2
    go_ret
    exact ⟨rfl, Below.refl _ _⟩
  have H := Hp.start w
  go_enter Try.func36, Try.ntmps36
  go_wp2_with fail
  go_loopw [0, 3] (fun x v wr => ∃ (j : Nat) (t : List UInt8), x = .int .i64 j ∧ j ≤ k ∧ v = .string (ofB t) ∧ dg j ++ t = dg k ∧ Fr w wr) (fun x _ _ => (intOf x).toNat)
  case atStart => exact ⟨k, [], rfl, Nat.le_refl _, rfl, by simp, Below.refl _ _⟩
  case round =>
    obtain ⟨j, t, rfl, hj, rfl, hd, hfr⟩ := hrel
    have HD := Lib.hid hd
    have hsz : (ofB t).size ≤ 1099511627776 := by
      rw [ofB_size]
      have h1 := dg_len k
      have h2 := congrArg List.length hd
      rw [List.length_append] at h2
      omega
    clear hd
    by_cases hp : 0 < j
    · have hm : (j : Int).tmod 10 = ((j % 10 : Nat) : Int) := by rw [Int.tmod_eq_emod_of_nonneg (by omega)]; omega
      have hq : (j : Int).tdiv 10 = ((j / 10 : Nat) : Int) := by rw [Int.tdiv_eq_ediv_of_nonneg (by omega)]; omega
      have hb : j % 10 < 10 := Nat.mod_lt _ (by decide)
      obtain ⟨r, hr⟩ : ∃ r, r = j % 10 := ⟨_, rfl⟩
      obtain ⟨q, hq2⟩ : ∃ q, q = j / 10 := ⟨_, rfl⟩
      rw [← hr] at hm hb
      rw [← hq2] at hq
      have HR := Lib.hid hr
      have hqb : q ≤ 1099511627776 := by omega
      have HQ := Lib.hid hq2
      clear hr hq2
      obtain ⟨d, hd⟩ : ∃ d, d = UInt8.ofNat (48 + r) := ⟨_, rfl⟩
      have hcd : cU8 d = .int .u8 (48 + (r : Int)) := by
        subst hd
        simp only [cU8]
        congr 1
        rw [UInt8.toNat_ofNat_of_lt' (by simp [UInt8.size]; omega)]
        omega
      have HS := Lib.hid (show dg j ++ t = dg q ++ (d :: t) by rw [dg_pos hp, ← HR.out, ← HQ.out, ← hd, List.append_assoc]; rfl)
      have hr1 : Rd (wr.alloc (.cells #[.int .u8 (48 + (r : Int))] 5)) (some ⟨wr.heap.size, 0, none⟩) 1 1 ([d].map cU8) := by
        rw [List.map_singleton, hcd]
        exact ((Hp.start wr).lit 5 1 1 [.int .u8 (48 + (r : Int))] rfl (by simp [maxLen])).rd 0 rfl
      have hc := run_str (c := 1) 61 9 5 Try.underlying61 Try.underlying5 Try.underlying9 hr1
      have hs1 : (ofB [d]).size = 1 := rfl
      have HA := Lib.hid (ofB_append [d] t)
      have HF := Lib.hid hfr
      clear hr1 hd hcd hfr
      go_wp2
      go_roundw
      case rel => exact ⟨q, d :: t, rfl, by have := HQ.out; omega, congrArg Value.string HA.out, by rw [← HS.out]; exact HD.out, Fr.al HF.out _⟩
      case measure => have := HQ.out; simp [intOf]; omega
    · have hj0 : j = 0 := by omega
      subst hj0
      have HA := Lib.hid (show ofB [109] ++ ofB t = markS k by rw [ofB_append, markS, markB, if_neg h0, ← HD.out, dg_zero]; rfl)
      have hs1 : (ofB [109]).size = 1 := rfl
      clear HD
      go_wp2
      go_ret
      exact ⟨congrArg (fun s => Ending.returned (.string s)) HA.out, hfr⟩

/-- The marks of n texts, from the number k on. -/
def marksString (n k : Nat) : List ByteArray := (List.range n).map fun (i : Nat) => markS (k + i)
theorem marksString_at {n k i : Nat} (h : i < n) : (marksString n k)[i]? = some (markS (k + i)) := by simp [marksString, h]
theorem marksString_take (n k i : Nat) (h : i ≤ n) : (marksString n k).take i = marksString i k := by
  rw [marksString, marksString, ← List.map_take, List.take_range, Nat.min_eq_left h]

set_option maxRecDepth 100000 in
set_option maxHeartbeats 2000000 in
theorem markStringS_any (A : Option Addr) (n c k base : Nat) (xs : List Value) (w : World) (h : w.ownsRow base 9 1 (.slice A n c) n xs) (hn : n ≤ 16777216) (hk : k ≤ 1073741824) :
    Calls Try.prog 21 #[.slice A n c, .int .i64 k] w fun e w' => e = .returned (.int .i64 ((k + n : Nat) : Int)) ∧ w'.ownsRow base 9 1 (.slice A n c) n ((marksString n k).map Value.string) ∧ w.grownBy w' (Value.slice A n c).ownBlock := by
  have hxl := h.1
  have HX := Lib.hid hxl
  have H := Lib.hid h
  clear hxl h
  go_enter Try.func21, Try.ntmps21
  go_wp2_with fail
  go_loopw [1, 5] (fun v i wr => ∃ j : Nat, j ≤ n ∧ i = .int .i64 j ∧ v = .int .i64 ((k + j : Nat) : Int) ∧ wr.ownsRow base 9 1 (.slice A n c) n ((marksString j k).map Value.string ++ xs.drop j) ∧ w.grownBy wr (Value.slice A n c).ownBlock)
    (fun _ i _ => n - (intOf i).toNat)
  case atStart => exact ⟨0, Nat.zero_le _, rfl, by simp, by simpa [marksString] using H.out, World.grownBy.refl _ _⟩
  case round =>
    obtain ⟨i, hi, rfl, rfl, hown, hgr⟩ := hrel
    by_cases hlt : i < n
    · obtain ⟨g, rfl, _, _⟩ := own_form hown (by omega)
      have HO := Lib.hid hown
      have HG := Lib.hid hgr
      obtain ⟨p, hp⟩ : ∃ p, p = k + i := ⟨_, rfl⟩
      rw [← hp]
      have HP := Lib.hid hp
      have hpb : p ≤ 1099511627776 := by omega
      clear hp hown hgr
      go_wp2_with fail
      refine (markText_any p _ hpb).mono ?_
      rintro e w2 ⟨rfl, f2⟩
      have hown := own_fr HO.out f2
      have hgr := World.grownBy.trans HG.out (f2.grown _)
      have hst := (hown.stored i (Value.string (markS p))).1
      have hse := sets_elem (f := fun x => [Value.string x]) (K := 1) (l := marksString n k) (x := markS (k + i)) (fun _ => rfl) (marksString_at hlt) HX.out hlt
      rw [marksString_take _ _ _ (by omega), marksString_take _ _ _ (by omega), ← List.map_eq_flatMap, ← List.map_eq_flatMap, Nat.mul_one, Nat.mul_one, ← HP.out] at hse
      have HST := Lib.hid hst
      have HSE := Lib.hid hse
      have HG2 := Lib.hid hgr
      have hf0 := hown.frozenAt i
      have ⟨d0, hd0⟩ : ∃ d, w2.cell? ⟨g, i, none⟩ = some d := by rw [hown.cellAt _ (by omega)]; exact ⟨_, List.getElem?_eq_getElem (by have := hown.1; omega)⟩
      clear hst hse hown hgr
      go_wp2
      go_roundw
      case rel => exact ⟨i + 1, by omega, by go_num, by rw [← Nat.add_assoc, ← HP.out]; go_num, by rw [← HSE.out]; simpa [sets] using HST.out, grown_set HG2.out⟩
      case measure => simp [intOf]; omega
    · obtain rfl : i = n := by omega
      rw [List.drop_of_length_le (by have := HX.out; omega), List.append_nil] at hown
      go_wp2
      go_ret
      exact ⟨rfl, hown, hgr⟩

set_option maxRecDepth 100000 in
set_option maxHeartbeats 2000000 in
theorem heldStringS_any (A : Option Addr) (n c k : Nat) (w : World) (h : Rd w A n 1 ((marksString n k).map Value.string)) (hn : n ≤ 16777216) (hk : k ≤ 1073741824) :
    Calls Try.prog 25 #[.slice A n c, .int .i64 k] w fun e w' => e = .returned (.int .i64 ((k + n : Nat) : Int)) ∧ Fr w w' := by
  go_enter Try.func25, Try.ntmps25
  go_wp2_with fail
  go_loopw [1, 5] (fun v i wr => ∃ j : Nat, j ≤ n ∧ i = .int .i64 j ∧ v = .int .i64 ((k + j : Nat) : Int) ∧ Fr w wr) (fun _ i _ => n - (intOf i).toNat)
  case atStart => exact ⟨0, Nat.zero_le _, rfl, by simp, Below.refl _ _⟩
  case round =>
    obtain ⟨i, hi, rfl, rfl, hfr⟩ := hrel
    by_cases hlt : i < n
    · have hrd := h.fr hfr
      obtain ⟨bk, of, rfl, hc⟩ := hrd.get1 (marksString_at hlt)
      obtain ⟨p, hp⟩ : ∃ p, p = k + i := ⟨_, rfl⟩
      rw [← hp] at hc ⊢
      have HP := Lib.hid hp
      have hpb : p ≤ 1099511627776 := by omega
      have hcd : wr.drew.cell? ⟨bk, of + i, none⟩ = some (.string (markS p)) := by simpa using hc
      have HF := Lib.hid hfr
      clear h hrd hp hfr
      go_wp2_with fail
      go_region_held3 (fun w' => w'.cell? ⟨bk, of + i, none⟩ = some (.string (markS p)))
        (first | exact hcd | exact hc2)
        ((first
          | (go_at_call 36
             refine (markText_any p _ hpb).mono ?_
             rintro e w2 ⟨rfl, f2⟩
             have hc2 := cell_later f2 hcd
             have F2 := f2)))
      go_wp2_with fail
      go_roundw
      case rel => exact ⟨i + 1, by omega, by go_num, by rw [← Nat.add_assoc, ← HP.out]; go_num, HF.out.then (Fr.then (Fr.drew_ _) F2)⟩
      case measure => simp [intOf]; omega
    · obtain rfl : i = n := by omega
      go_wp2
      go_ret
      exact ⟨rfl, hfr⟩

end Go.Proofs.Ytlgclhnghpjgjaa
