/-
  The known signs, as the program's table has them and as the reference's. No program in sight.
-/
import Derived.Test.YtfmifaneggenoaaDoorMRangesOk
namespace Go.Proofs.YtfmifaneggenoaaDoor

def knTbl : List (Int × Int) := [(32, 126), (161, 255), (768, 772), (776, 776), (778, 778), (803, 803), (807, 807), (902, 902), (904, 906), (908, 908), (910, 911), (913, 929), (931, 937), (940, 943), (945, 969), (972, 974), (1040, 1103), (469, 470), (7840, 7841), (7852, 7853), (8486, 8486), (8491, 8491), (4352, 4370), (4449, 4469), (4520, 4546), (44032, 55203)]
def knFrom : List Int := [32, 161, 768, 776, 778, 803, 807, 902, 904, 908, 910, 913, 931, 940, 945, 972, 1040, 469, 7840, 7852, 8486, 8491, 4352, 4449, 4520, 44032]
def knTo : List Int := [126, 255, 772, 776, 778, 803, 807, 902, 906, 908, 911, 929, 937, 943, 969, 974, 1103, 470, 7841, 7853, 8486, 8491, 4370, 4469, 4546, 55203]
def kpPairs : List (Int × Int) := [(32, 46), (48, 126), (161, 255), (469, 470), (768, 772), (776, 776), (778, 778), (803, 803), (807, 807), (902, 902), (904, 906), (908, 908), (910, 911), (913, 929), (931, 937), (940, 943), (945, 969), (972, 974), (1040, 1103), (4352, 4370), (4449, 4469), (4520, 4546), (7840, 7841), (7852, 7853), (8486, 8486), (8491, 8491), (44032, 55203)]
theorem knFrom_eq : knFrom = knTbl.map Prod.fst := rfl
theorem knTo_eq : knTo = knTbl.map Prod.snd := rfl
theorem knTbl_len : knTbl.length = 26 := rfl
theorem kpPairs_len : kpPairs.length = 27 := rfl
def knownS (c : Int) : Bool := knTbl.any (fun p => inB c p.1 p.2) && decide (c ≠ 47)
theorem pairs_known (c : Int) : kpPairs.any (fun p => inB c p.1 p.2) = knownS c := by
  rw [Bool.eq_iff_iff]
  simp only [kpPairs, knownS, knTbl, List.any_cons, List.any_nil, Bool.or_eq_true, Bool.and_eq_true, inB_iff, decide_eq_true_eq, Bool.or_false]
  omega
def cPair (p : Int × Int) : List Value := [.int .i64 p.1, .int .i64 p.2]
def kpTab : List Int := kpPairs.flatMap fun p => [p.1, p.2]
end Go.Proofs.YtfmifaneggenoaaDoor
