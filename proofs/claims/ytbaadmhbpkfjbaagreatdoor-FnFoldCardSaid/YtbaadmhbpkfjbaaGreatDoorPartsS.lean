import Derived.Test.YtbaadmhbpkfjbaaGreatDoorGc
set_option linter.all false
set_option maxRecDepth 100000
set_option maxHeartbeats 64000000
namespace Go.Proofs.YtbaadmhbpkfjbaaGreatDoor
open Go.RowKit
def Bo:List ByteArray:=[dx [65,69,73,79,85,97,101,105,111,117],dx [65,69,73,79,85,89,97,101,105,111,117,121],dx [65,69,73,79,85,97,101,105,111,117],dx [65,78,79,97,110,111],dx [65,69,73,79,85,97,101,105,111,117,121],dx [65,97],dx [67,99],dx [65,97]]
def xL:List Int:=[768,769,770,771,776,778,807,803]
def rn (b:Nat):List Value:=[.slice (some ⟨b,0,none⟩) 10 10,.slice (some ⟨b+1,0,none⟩) 12 12,.slice (some ⟨b+2,0,none⟩) 10 10,.slice (some ⟨b+3,0,none⟩) 6 6,.slice (some ⟨b+4,0,none⟩) 11 11,.slice (some ⟨b+5,0,none⟩) 2 2,.slice (some ⟨b+6,0,none⟩) 2 2,.slice (some ⟨b+7,0,none⟩) 2 2]
def xM (b:Nat):List Ob:=[.row 3 1 (.slice (some ⟨b+10,0,none⟩) 8 8) 8 (xL.map (Value.int .i64)),.row 9 1 (.slice (some ⟨b+9,0,none⟩) 8 8) 8 (Bo.map Value.string),.row 64 1 (.slice (some ⟨b+8,0,none⟩) 8 8) 8 (rn b),.row 3 1 (.slice (some ⟨b+7,0,none⟩) 2 2) 2 ([7840,7841].map (Value.int .i64)),.row 3 1 (.slice (some ⟨b+6,0,none⟩) 2 2) 2 ([199,231].map (Value.int .i64)),.row 3 1 (.slice (some ⟨b+5,0,none⟩) 2 2) 2 ([197,229].map (Value.int .i64)),.row 3 1 (.slice (some ⟨b+4,0,none⟩) 11 11) 11 ([196,203,207,214,220,228,235,239,246,252,255].map (Value.int .i64)),.row 3 1 (.slice (some ⟨b+3,0,none⟩) 6 6) 6 ([195,209,213,227,241,245].map (Value.int .i64)),.row 3 1 (.slice (some ⟨b+2,0,none⟩) 10 10) 10 ([194,202,206,212,219,226,234,238,244,251].map (Value.int .i64)),.row 3 1 (.slice (some ⟨b+1,0,none⟩) 12 12) 12 ([193,201,205,211,218,221,225,233,237,243,250,253].map (Value.int .i64)),.row 3 1 (.slice (some ⟨b,0,none⟩) 10 10) 10 ([192,200,204,210,217,224,232,236,242,249].map (Value.int .i64))]
structure E5 (b:Nat) (wr:World) (i:Nat) (r:List Int×List UInt8×Int):Prop where
 at_:lU[i]?=some r
 cell:wr.cell? ⟨b+8,i,none⟩=some (.slice (some ⟨b+i,0,none⟩) r.1.length r.1.length)
 rd:Rd wr (some ⟨b+i,0,none⟩) r.1.length 1 (r.1.map (Value.int .i64))
 let_:wr.cell? ⟨b+9,i,none⟩=some (.string (dx r.2.1))
 mark:wr.cell? ⟨b+10,i,none⟩=some (.int .i64 r.2.2)
 len:r.2.1.length=r.1.length
 small:r.1.length<=12
theorem E6 {w0 wr:World} {b:Nat} (H:Hp [] w0 wr (xM b)) (i:Nat) (hi:i<8):∃r,E5 b wr i r:=by
 match i,hi with
 |0,_=>exact⟨_,⟨rfl,H.at_ 2 rfl rfl,H.rd 10 rfl,H.atM 1 rfl rfl,H.atM 0 rfl rfl,rfl,by decide⟩⟩
 |1,_=>exact⟨_,⟨rfl,H.at_ 2 rfl rfl,H.rd 9 rfl,H.atM 1 rfl rfl,H.atM 0 rfl rfl,rfl,by decide⟩⟩
 |2,_=>exact⟨_,⟨rfl,H.at_ 2 rfl rfl,H.rd 8 rfl,H.atM 1 rfl rfl,H.atM 0 rfl rfl,rfl,by decide⟩⟩
 |3,_=>exact⟨_,⟨rfl,H.at_ 2 rfl rfl,H.rd 7 rfl,H.atM 1 rfl rfl,H.atM 0 rfl rfl,rfl,by decide⟩⟩
 |4,_=>exact⟨_,⟨rfl,H.at_ 2 rfl rfl,H.rd 6 rfl,H.atM 1 rfl rfl,H.atM 0 rfl rfl,rfl,by decide⟩⟩
 |5,_=>exact⟨_,⟨rfl,H.at_ 2 rfl rfl,H.rd 5 rfl,H.atM 1 rfl rfl,H.atM 0 rfl rfl,rfl,by decide⟩⟩
 |6,_=>exact⟨_,⟨rfl,H.at_ 2 rfl rfl,H.rd 4 rfl,H.atM 1 rfl rfl,H.atM 0 rfl rfl,rfl,by decide⟩⟩
 |7,_=>exact⟨_,⟨rfl,H.at_ 2 rfl rfl,H.rd 3 rfl,H.atM 1 rfl rfl,H.atM 0 rfl rfl,rfl,by decide⟩⟩
theorem zN(w:World):Hp [] w (((((((((((w.alloc (.cells ([192,200,204,210,217,224,232,236,242,249].map (Value.int .i64)).toArray 3)).alloc (.cells ([193,201,205,211,218,221,225,233,237,243,250,253].map (Value.int .i64)).toArray 3)).alloc (.cells ([194,202,206,212,219,226,234,238,244,251].map (Value.int .i64)).toArray 3)).alloc (.cells ([195,209,213,227,241,245].map (Value.int .i64)).toArray 3)).alloc (.cells ([196,203,207,214,220,228,235,239,246,252,255].map (Value.int .i64)).toArray 3)).alloc (.cells ([197,229].map (Value.int .i64)).toArray 3)).alloc (.cells ([199,231].map (Value.int .i64)).toArray 3)).alloc (.cells ([7840,7841].map (Value.int .i64)).toArray 3)).alloc (.cells (rn w.heap.size).toArray 64)).alloc (.cells (Bo.map Value.string).toArray 9)).alloc (.cells (xL.map (Value.int .i64)).toArray 3)) (xM w.heap.size):=by have H8:=(((((((((Hp.start w).lit 3 1 10 ([192,200,204,210,217,224,232,236,242,249].map (Value.int .i64)) rfl (by simp[maxLen])).lit 3 1 12 ([193,201,205,211,218,221,225,233,237,243,250,253].map (Value.int .i64)) rfl (by simp[maxLen])).lit 3 1 10 ([194,202,206,212,219,226,234,238,244,251].map (Value.int .i64)) rfl (by simp[maxLen])).lit 3 1 6 ([195,209,213,227,241,245].map (Value.int .i64)) rfl (by simp[maxLen])).lit 3 1 11 ([196,203,207,214,220,228,235,239,246,252,255].map (Value.int .i64)) rfl (by simp[maxLen])).lit 3 1 2 ([197,229].map (Value.int .i64)) rfl (by simp[maxLen])).lit 3 1 2 ([199,231].map (Value.int .i64)) rfl (by simp[maxLen])).lit 3 1 2 ([7840,7841].map (Value.int .i64)) rfl (by simp[maxLen]));have H9:=H8.lit 64 1 8 (rn w.heap.size) rfl (by simp[maxLen]);have a:=H9.lit 9 1 8 (Bo.map Value.string) rfl (by simp[maxLen]);have b:=a.lit 3 1 8 (xL.map (Value.int .i64)) rfl (by simp[maxLen]);clear H8 H9 a;simp only[iP,Nat.add_assoc,Nat.reduceAdd]at b;exact b
def EG:List Int:=[902,904,905,906,908,910,911,940,941,942,943,972,973,974]
def EH:List Int:=[913,917,919,921,927,933,937,945,949,951,953,959,965,969]
theorem DV:EG=jM.map Prod.fst:=rfl
theorem DW:EH=jM.map Prod.snd:=rfl
theorem nY (c : Int) (w : World) (ic : -9223372036854775808 ≤ c ∧ c ≤ 9223372036854775807) :
 Calls Tryz.prog 175 #[.int .i64 c] w (mX w 3 1 (dM c).length ((dM c).map (Value.int .i64))) := by
 obtain ⟨b, hb⟩ : ∃ q, q = w.heap.size := ⟨_, rfl⟩;have HB := hJ hb;have H0 := zN w;rw [← hb] at H0;obtain ⟨ps, t⟩ : ∃ q, q = dM c := ⟨_, rfl⟩;have a := hJ t;rw [← t];clear t;go_enter Tryz.func175, Tryz.ntmps175;go_wp2_with fail;rw [← HB.out];simp only [Nat.add_assoc, Nat.reduceAdd];clear hb
 go_loopw [6] (fun iv wr => ∃ i : Nat, iv = .int .i64 i ∧ i ≤ 8 ∧ (∀ (j : Nat) (r' : List Int × List UInt8 × Int), j < i → lU[j]? = some r' → fP c r'.1 r'.2.1 r'.2.2 = []) ∧ Hp [] w wr (xM b)) (fun iv _ => 8 - (intOf iv).toNat)
 case atStart => exact ⟨0, rfl, by omega, fun j r' hj => by omega, H0⟩
 case round =>
  clear H0;obtain ⟨i, rfl, hi, g, H⟩ := hrel
  by_cases E : i < 8
  ·obtain ⟨r, F⟩ := E6 H.drew i E
   have c1 := F.cell;have c2 := F.let_;have c3 := F.mark;have hi0 : (0 : Int) ≤ (i : Int) := by omega
   have hi1 : (i : Int) < 8 := by omega
   obtain ⟨q, hq⟩ : ∃ q, q = fP c r.1 r.2.1 r.2.2 := ⟨_, rfl⟩;have HQ := hJ hq;have HF := hJ F;have HN := hJ g;have HH := hJ H;clear F g H hq
   by_cases h0 : 0 < q.length
   ·have C : (0 : Int) < (q.length : Int) := by omega
    have HE := hJ (a.out.trans (zF HF.out.at_ HQ.out h0 HN.out));go_wp2_with fail
    go_region_law (first
     | (go_simp
        go_wp2_with (go_at_call 178
                     refine (tv c _ r.1.length r.1.length r.1 r.2.1 (dx r.2.1) r.2.2 _ HF.out.rd (by have := HF.out.small; omega) (dG _) HF.out.len).mono ?_;rintro e w5 ⟨B, d, rfl, o5, f5⟩;rw [← HQ.out] at o5 ⊢;have H5 := hJ (HH.out.drew.made o5 f5);clear o5 f5)))
    all_goals go_wp2_with fail
    all_goals go_ret
    all_goals rw [HE.out]
    all_goals exact H5.out.toMade 0 rfl
   ·have C : ¬ ((0 : Int) < (q.length : Int)) := by omega
    have HS : Hid (∀ (j : Nat) (r' : List Int × List UInt8 × Int), j < i + 1 → lU[j]? = some r' → fP c r'.1 r'.2.1 r'.2.2 = []) := hJ fun j r' hj hr => by
     by_cases s : j = i
     ·subst s
      rw [HF.out.at_] at hr;injection hr with hr;rw [← hr, ← HQ.out];exact List.eq_nil_of_length_eq_zero (by omega)
     ·exact HN.out j r' (by omega) hr
    go_wp2_with fail
    go_region_law (first
     | (go_simp
        go_wp2_with (go_at_call 178
                     refine (tv c _ r.1.length r.1.length r.1 r.2.1 (dx r.2.1) r.2.2 _ HF.out.rd (by have := HF.out.small; omega) (dG _) HF.out.len).mono ?_;rintro e w5 ⟨B, d, rfl, o5, f5⟩;rw [← HQ.out] at o5 ⊢;have H5 := hJ (HH.out.drew.made o5 f5);clear o5 f5)))
    all_goals go_wp2_with fail
    all_goals go_roundw
    all_goals first
     | exact ⟨i + 1, by go_num, by omega, HS.out, H5.out.tail⟩
     | (simp [intOf]; omega)
  ·have NR : Hid (tu c) := hJ fun j r' hr => g j r' (by have := (mE hr).1; simp [lU] at this; omega) hr
   clear g;obtain ⟨b2, o⟩ : ∃ q, q = wr.heap.size := ⟨_, rfl⟩;have A := hJ o;have Hg := ((H.sub (l' := []) (List.nil_sublist _)).lit 3 1 14 (EG.map (Value.int .i64)) rfl (by simp [maxLen])).lit 3 1 14 (EH.map (Value.int .i64)) rfl (by simp [maxLen]);rw [iP, ← o] at Hg;clear o H;go_wp2_with fail;rw [← A.out]
   go_loopw [10] (fun iv wr => ∃ i : Nat, iv = .int .i64 i ∧ i ≤ 14 ∧ (∀ (j : Nat) (p : Int × Int), j < i → jM[j]? = some p → p.1 ≠ c) ∧ Hp [] w wr [.row 3 1 (.slice (some ⟨b2 + 1, 0, none⟩) 14 14) 14 (EH.map (Value.int .i64)), .row 3 1 (.slice (some ⟨b2, 0, none⟩) 14 14) 14 (EG.map (Value.int .i64))]) (fun iv _ => 14 - (intOf iv).toNat)
   case atStart => exact ⟨0, rfl, by omega, fun j r' hj => by omega, Hg⟩
   case round =>
    clear Hg;obtain ⟨k, rfl, hk, g, H⟩ := hrel
    by_cases u : k < 14
    ·obtain ⟨⟨x, y⟩, hx⟩ := dV (l := jM) (n := 14) rfl u
     have ca := H.atM 1 rfl (show EG[k]? = some x by rw [DV, List.getElem?_map, hx]; rfl);have cb := H.atM 0 rfl (show EH[k]? = some y by rw [DW, List.getElem?_map, hx]; rfl);have hk0 : (0 : Int) ≤ (k : Int) := by omega
     have hk1 : (k : Int) < 14 := by omega
     have HX := hJ hx;have HN := hJ g;clear hx g
     by_cases z : x = c
     ·subst z
      have HE := hJ (a.out.trans (vB NR.out HX.out HN.out));have H5 := H.lit 3 1 2 ([y, 769].map (Value.int .i64)) rfl (by simp [maxLen]);clear H;go_wp2_with fail;go_ret;rw [HE.out];exact H5.toMade 0 rfl
     ·have HS : Hid (∀ (j : Nat) (p : Int × Int), j < k + 1 → jM[j]? = some p → p.1 ≠ c) := hJ fun j p hj hp => by
       by_cases s : j = k
       ·subst s
        rw [HX.out] at hp;injection hp with hp;rw [← hp];exact z
       ·exact HN.out j p (by omega) hp
      go_wp2_with fail;go_roundw
      case rel => exact ⟨k + 1, by go_num, by omega, HS.out, H⟩
      case measure => simp [intOf]; omega
    ·have NG : Hid (pa c) := hJ fun j p hp => g j p (by have := (mE hp).1; simp [jM] at this; omega) hp
     clear g
     by_cases h0 : c = 469
     ·subst h0
      have HE := hJ (a.out.trans (jN (l := [220, 772]) NR.out NG.out (by decide) (by decide)));have H5 := H.lit 3 1 2 ([220, 772].map (Value.int .i64)) rfl (by simp [maxLen]);clear H;go_wp2_with fail;go_ret;rw [HE.out];exact H5.toMade 0 rfl
     by_cases h1 : c = 470
     ·subst h1
      have HE := hJ (a.out.trans (jN (l := [252, 772]) NR.out NG.out (by decide) (by decide)));have H5 := H.lit 3 1 2 ([252, 772].map (Value.int .i64)) rfl (by simp [maxLen]);clear H;go_wp2_with fail;go_ret;rw [HE.out];exact H5.toMade 0 rfl
     by_cases h2 : c = 7852
     ·subst h2
      have HE := hJ (a.out.trans (jN (l := [7840, 770]) NR.out NG.out (by decide) (by decide)));have H5 := H.lit 3 1 2 ([7840, 770].map (Value.int .i64)) rfl (by simp [maxLen]);clear H;go_wp2_with fail;go_ret;rw [HE.out];exact H5.toMade 0 rfl
     by_cases h3 : c = 7853
     ·subst h3
      have HE := hJ (a.out.trans (jN (l := [7841, 770]) NR.out NG.out (by decide) (by decide)));have H5 := H.lit 3 1 2 ([7841, 770].map (Value.int .i64)) rfl (by simp [maxLen]);clear H;go_wp2_with fail;go_ret;rw [HE.out];exact H5.toMade 0 rfl
     by_cases h4 : c = 8486
     ·subst h4
      have HE := hJ (a.out.trans (jN (l := [937]) NR.out NG.out (by decide) (by decide)));have H5 := H.lit 3 1 1 ([937].map (Value.int .i64)) rfl (by simp [maxLen]);clear H;go_wp2_with fail;go_ret;rw [HE.out];exact H5.toMade 0 rfl
     by_cases h5 : c = 8491
     ·subst h5
      have HE := hJ (a.out.trans (jN (l := [197]) NR.out NG.out (by decide) (by decide)));have H5 := H.lit 3 1 1 ([197].map (Value.int .i64)) rfl (by simp [maxLen]);clear H;go_wp2_with fail;go_ret;rw [HE.out];exact H5.toMade 0 rfl
     have HC : Hid (ng.find? (fun p => decide (p.1 = c)) = none) := hJ (List.find?_eq_none.2 fun p hp => by
      have : ∀ p ∈ ng, p.1 ≠ c := by simp [ng]; omega
      simpa using this p hp)
     have HR := hJ (a.out.trans (xJ NR.out NG.out HC.out));go_wp2_with fail;refine (cK _ _ _ _).mono ?_;rintro e w6 ⟨rfl, rfl⟩;have D : cY c 44032 55203 = true ∨ cY c 44032 55203 = false := by cases cY c 44032 55203 <;> simp
     rcases D with h | h
     ·have G := dh.1 h
      have HE := hJ (HR.out.trans (by rw [h]; rfl : _ = iH c));rw [h];have H5 := H.lit 3 1 2 ([4352 + (c - 44032) / 588, 4449 + (c - 44032) % 588 / 28].map (Value.int .i64)) rfl (by simp [maxLen]);clear H;have hw0 : IntKind.i64.wrap (c - 44032) = c - 44032 := hY _
      by_cases hr : 0 < (c - 44032) % 28
      ·have m := hJ (HE.out.trans (by rw [iH, if_pos hr]; rfl : _ = [4352 + (c - 44032) / 588, 4449 + (c - 44032) % 588 / 28, 4519 + (c - 44032) % 28]))
       clear HE HR;replace H5 := H5.recast (l' := [.row 3 1 (.slice (some ⟨w6.heap.size, 0, none⟩) 2 2) ([4352 + (c - 44032) / 588, 4449 + (c - 44032) % 588 / 28] : List Int).length (([4352 + (c - 44032) / 588, 4449 + (c - 44032) % 588 / 28] : List Int).map (Value.int .i64)), .row 3 1 (.slice (some ⟨b2 + 1, 0, none⟩) 14 14) 14 (EH.map (Value.int .i64)), .row 3 1 (.slice (some ⟨b2, 0, none⟩) 14 14) 14 (EG.map (Value.int .i64))]) rfl;go_wp2_with (at_builtin; refine eF (f := Value.int .i64) (H5) rfl _ _ _ rfl Tryz.underlying64 fh rfl 0 _ _ rfl rfl _ _ (4519 + (c - 44032) % 28) rfl (by simp) rfl (by first | (simp only [maxLen]; omega) | (simp [maxLen]; done) | (simp [maxLen]; omega)) (by first | omega | (simp; done) | (simp; omega)) ?_)
       intro v' w' H';obtain ⟨B', d', rfl⟩ := H'.shape 0 rfl;go_wp2_with fail;go_ret;rw [m.out];exact H'.toMade 0 rfl
      ·have m := hJ (HE.out.trans (by rw [iH, if_neg hr]; rfl : _ = [4352 + (c - 44032) / 588, 4449 + (c - 44032) % 588 / 28]))
       clear HE HR;go_wp2_with fail;go_ret;rw [m.out];exact H5.toMade 0 rfl
     ·have HE := hJ (HR.out.trans (by rw [h]; rfl : _ = []))
      rw [h];have H5 := H.lit0 3 1;clear H;go_wp2_with fail;go_ret;rw [HE.out];exact H5.toMade 0 rfl
