/-
  The known signs: the tables of the reference and of the program, and the ranges that both come to. No program in sight.
-/
import Derived.Test.YtejanpkkhkimcaaDoorMMerge
namespace Go.Proofs.YtejanpkkhkimcaaDoor
open Go.RowKit

def knTbl : List (Int × Int) := [(32, 126), (161, 255), (768, 772), (776, 776), (778, 778), (803, 803), (807, 807), (902, 902), (904, 906), (908, 908), (910, 911), (913, 929), (931, 937), (940, 943), (945, 969), (972, 974), (1040, 1103), (469, 470), (7840, 7841), (7852, 7853), (8486, 8486), (8491, 8491), (4352, 4370), (4449, 4469), (4520, 4546), (44032, 55203)]
def knFrom : List Int := [32, 161, 768, 776, 778, 803, 807, 902, 904, 908, 910, 913, 931, 940, 945, 972, 1040, 469, 7840, 7852, 8486, 8491, 4352, 4449, 4520, 44032]
def knTo : List Int := [126, 255, 772, 776, 778, 803, 807, 902, 906, 908, 911, 929, 937, 943, 969, 974, 1103, 470, 7841, 7853, 8486, 8491, 4370, 4469, 4546, 55203]
def kpPairs : List (Int × Int) := [(32, 46), (48, 126), (161, 255), (469, 470), (768, 772), (776, 776), (778, 778), (803, 803), (807, 807), (902, 902), (904, 906), (908, 908), (910, 911), (913, 929), (931, 937), (940, 943), (945, 969), (972, 974), (1040, 1103), (4352, 4370), (4449, 4469), (4520, 4546), (7840, 7841), (7852, 7853), (8486, 8486), (8491, 8491), (44032, 55203)]
def KR : List (Int × Int) := [(32, 46), (48, 126), (161, 255), (469, 470), (768, 772), (776, 776), (778, 778), (803, 803), (807, 807), (902, 902), (904, 906), (908, 908), (910, 911), (913, 929), (931, 937), (940, 943), (945, 969), (972, 974), (1040, 1103), (4352, 4370), (4449, 4469), (4520, 4546), (7840, 7841), (7852, 7853), (8486, 8486), (8491, 8491), (44032, 55203)]
theorem knFrom_eq : knFrom = knTbl.map Prod.fst := rfl
theorem knTo_eq : knTo = knTbl.map Prod.snd := rfl
theorem knTbl_len : knTbl.length = 26 := rfl
theorem kpPairs_len : kpPairs.length = 27 := rfl
theorem KR_len : KR.length = 27 := rfl
/-- A sign is known to the reference. -/
def knownS (c : Int) : Bool := knTbl.any (fun p => inB c p.1 p.2) && decide (c ≠ 47)
/-- The known signs of n that begin at a, put behind o. -/
def overN (o : List (Int × Int)) (a : Int) : Nat → List (Int × Int)
  | 0 => o
  | n + 1 => if knownS (a + n) then putR (overN o a n) (a + n, a + n) else overN o a n
theorem overN_yes {o : List (Int × Int)} {a : Int} {n : Nat} (h : knownS (a + n) = true) : overN o a (n + 1) = putR (overN o a n) (a + n, a + n) := by rw [overN, if_pos h]
theorem overN_no {o : List (Int × Int)} {a : Int} {n : Nat} (h : knownS (a + n) = false) : overN o a (n + 1) = overN o a n := by rw [overN, if_neg (by rw [h]; simp)]
theorem overN_sg {o : List (Int × Int)} {a : Int} (h : SgR o) (ha : 0 ≤ a) : ∀ n : Nat, a + n ≤ 1114112 → SgR (overN o a n)
  | 0, _ => h
  | n + 1, hn => by
    have ih := overN_sg h ha n (by omega)
    rw [overN]
    split
    · exact SgR_put ih ⟨by simp only; omega, by simp only; omega, by simp only; omega, by simp only; omega⟩
    · exact ih
theorem overN_len {o : List (Int × Int)} {a : Int} : ∀ n : Nat, (overN o a n).length ≤ o.length + n
  | 0 => by simp [overN]
  | n + 1 => by
    have ih := overN_len (o := o) (a := a) n
    rw [overN]
    split
    · have := putR_len (o := overN o a n) (r := (a + n, a + n)); omega
    · omega
theorem SgR_pairs : SgR kpPairs := by unfold SgR; decide +kernel
theorem merge_pairs : mergeR kpPairs = KR := by decide +kernel
theorem SgR_KR : SgR KR := by unfold SgR; decide +kernel
def K1 : List (Int × Int) := [(32, 46), (48, 126), (161, 255), (469, 470)]
def K2 : List (Int × Int) := [(32, 46), (48, 126), (161, 255), (469, 470), (768, 772), (776, 776), (778, 778), (803, 803), (807, 807), (902, 902), (904, 906), (908, 908), (910, 911), (913, 929), (931, 937), (940, 943), (945, 969), (972, 974), (1040, 1103)]
def K3 : List (Int × Int) := [(32, 46), (48, 126), (161, 255), (469, 470), (768, 772), (776, 776), (778, 778), (803, 803), (807, 807), (902, 902), (904, 906), (908, 908), (910, 911), (913, 929), (931, 937), (940, 943), (945, 969), (972, 974), (1040, 1103), (4352, 4370), (4449, 4469), (4520, 4546)]
def K4 : List (Int × Int) := [(32, 46), (48, 126), (161, 255), (469, 470), (768, 772), (776, 776), (778, 778), (803, 803), (807, 807), (902, 902), (904, 906), (908, 908), (910, 911), (913, 929), (931, 937), (940, 943), (945, 969), (972, 974), (1040, 1103), (4352, 4370), (4449, 4469), (4520, 4546), (7840, 7841), (7852, 7853)]
def K5 : List (Int × Int) := [(32, 46), (48, 126), (161, 255), (469, 470), (768, 772), (776, 776), (778, 778), (803, 803), (807, 807), (902, 902), (904, 906), (908, 908), (910, 911), (913, 929), (931, 937), (940, 943), (945, 969), (972, 974), (1040, 1103), (4352, 4370), (4449, 4469), (4520, 4546), (7840, 7841), (7852, 7853), (8486, 8486), (8491, 8491)]
theorem over1 : overN [] 0 545 = K1 := by decide +kernel
theorem over2 : overN K1 767 354 = K2 := by decide +kernel
theorem over3 : overN K2 4336 273 = K3 := by decide +kernel
theorem over4 : overN K3 7824 129 = K4 := by decide +kernel
theorem over5 : overN K4 8464 49 = K5 := by decide +kernel
theorem over6 : putR K5 (44032, 55203) = KR := by decide +kernel
theorem ranges_known (c : Int) : KR.any (fun p => inB c p.1 p.2) = knownS c := by
  rw [Bool.eq_iff_iff]
  simp only [knownS, KR, knTbl, List.any_cons, List.any_nil, Bool.or_eq_true, Bool.and_eq_true, decide_eq_true_eq, inB_iff, Bool.or_false]
  constructor
  · intro h
    rcases h with h | h | h | h | h | h | h | h | h | h | h | h | h | h | h | h | h | h | h | h | h | h | h | h | h | h | h <;> omega
  · rintro ⟨h, h47⟩
    rcases h with h | h | h | h | h | h | h | h | h | h | h | h | h | h | h | h | h | h | h | h | h | h | h | h | h | h <;> omega
end Go.Proofs.YtejanpkkhkimcaaDoor
