import Derived.Test.YtbaadmhbpkfjbaaGreatDoorFnFold
import Derived.Test.YtbaadmhbpkfjbaaGreatDoorTie
import Derived.Test.YtbaadmhbpkfjbaaGreatDoorCards
import Derived.Test.YtbaadmhbpkfjbaaGreatDoorChkD
import Derived.SevenTiedAt
import Derived.ChangeMaps5
set_option linter.all false
set_option maxRecDepth 100000
set_option maxHeartbeats 64000000
namespace Go.Proofs.YtbaadmhbpkfjbaaGreatDoor.lawFnFold
open Go.ChangeShapes Go.WideShapes Go.ChangeAt Go.RowKit
theorem door_met (os:Os) (a:Array Value):laidMetH Tryz.prog Rows.fnFoldRow.laid ((World.doorLaid Tryz.prog 400 os).forCall (fun _ _=>0) ⟨#[],a,[]⟩).memory:=
 laidMetH_of_parts3 (fuel:=8) (laidMet_of_run' 8 (by kernel_rfl) (by kernel_rfl)) (by kernel_rfl) (by kernel_rfl)
theorem lifted(os:Os)(b:os.Started)(H:Type)(enc:TypeId×Value->H):ReturnsInHanded {} Tryz.checked os 3 .any (fun w a=>(Rows.fnFoldSpec.pre enc Tryz.prog Tryz.f3 [] false w a/\laidMetH Tryz.prog Rows.fnFoldRow.laid w)/\sizedMet enc Tryz.prog Tryz.f3 (OpenSpec.ofChange Rows.fnFoldSpec) false w a) (Rows.fnFoldSpec.post enc Tryz.prog Tryz.f3 false true false false):=by refine returnsInHanded_of_change_and (C:=Tryz.checked) (X:=fun w _=>laidMetH Tryz.prog Rows.fnFoldRow.laid w) (fun _ _ _ hh h=>h.of_heap hh) own b (by kernel_rfl) Tryz.func3 (ChangeSpec.witness_shaped (enc:=enc) (C:=Tryz.checked) (os:=os) (X:=fun w _=>laidMetH Tryz.prog Rows.fnFoldRow.laid w) false (World.doorLaid Tryz.prog 400 os) #[.slice none 0 0] 8 rfl (World.shaped_of_RefB (by kernel_rfl) (by kernel_rfl)) (by kernel_rfl) (by kernel_rfl) (by kernel_rfl) (door_met os _)) ?_;intro W base a ds gs g d hW _ _ hL _;have c:∀(j:Nat) t v,Tryz.f3.params[j]?=some t->a[j]?=some v->Value.okWide Tryz.prog W .any base t v:=d;have k:=hW;obtain⟨p,q,i,hV,rfl,hfz,hnd⟩:=hW;have hA:DataW.TrodAll enc Tryz.prog W 0 (fun _=>true) true Tryz.f3.params.toList a.toList ds p:=i;rw[Tryz.params3]at hA c;obtain⟨v0,vs0,d0,ds0,p0,q0,l,rfl,rfl,h0,r0⟩:=trodAll_cons hA;obtain⟨rfl,rfl,rfl⟩:=trodAll_nil r0;obtain rfl:a=#[v0]:=by{cases a;simp_all};obtain⟨_,_,_,_,_,_,rfl,_,_,_,_,rfl⟩:=trodVars_one hV;have hK:KT W:=yH (by rw[MakeChecks.laidMetH_plain _ _ _ (by kernel_rfl)]at hL;exact hL);obtain⟨A0,n0,c0,l0,rfl,m,n,f⟩:=DH Tryz.underlying22 Tryz.underlying5 (by kernel_rfl) (c 0 22 v0 rfl rfl) h0;refine(sP A0 n0 c0 l0 W m (by simp only[maxLen]at f;omega) hK).mono fun e W' ⟨he,hf⟩=>?_;subst he;exact⟨_,rfl,CV k rfl rfl Tryz.underlying4 DG (by kernel_rfl) (by kernel_rfl) hf⟩
theorem closed:joinedFacts Tryz.pinned.checked.prog 3 Tryz.f3 Rows.fnFoldSpec Rows.fnFoldRow=true:=by unfold joinedFacts;rw[AW,AX,AY,CW];kernel_rfl
theorem row_holds:Rows.FnFoldSaid:=
 OpenClaim.holds_of_wide 3 Tryz.f3 rfl rfl rfl rfl rfl rfl rfl ⟨rfl,rfl,rfl,rfl,rfl⟩ rfl rfl rfl rfl rfl (by kernel_rfl) Tryz.func3 closed
  (of_decide_eq_true (by kernel_rfl)) (by unfold Func.isWrapper;first|(rw[if_pos (by decide +kernel)];kernel_rfl)|(rw[if_neg (by decide +kernel)];exact⟨rfl,rfl⟩))
  (fun os a H enc _=>lifted os a H enc)
theorem holds:Rows.FnFoldCardSaid:=
 Claim7.holds_tied_plain_at .later [] [.data] true _ _
  row_holds (fun _ h=>by cases h) (by kernel_rfl) (fun _ h=>by cases h) fnFold_row_tie rfl ⟨rfl,rfl⟩ (by kernel_rfl) rfl
  (fun f fn hf d=>by
   obtain rfl:f=3:=Option.some.inj ((show Tryz.prog.funcNamed "loop.example/g00773/laws.FnFold" = some 3 by kernel_rfl).symm.trans hf) |>.symm
   obtain rfl:fn=Tryz.f3:=(Option.some.inj (Tryz.func3.symm.trans d)).symm;exact⟨by kernel_rfl,fun j t ht=>by
    rw[Tryz.params3]at ht;have a:([22]:List TypeId).all (fun t=>!Tryz.prog.wantsStandIn t)=true:=by kernel_rfl
    have b:t∈([22]:List TypeId):=mD (i:=j) (by simpa using ht);have c:Tryz.prog.wantsStandIn t=false:=by simpa using List.all_eq_true.1 a t b
    exact c⟩)
  (by kernel_rfl)
end Go.Proofs.YtbaadmhbpkfjbaaGreatDoor.lawFnFold
