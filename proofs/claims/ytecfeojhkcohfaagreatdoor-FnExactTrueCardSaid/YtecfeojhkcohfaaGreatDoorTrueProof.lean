import Derived.Test.YtecfeojhkcohfaaGreatDoorTrueLaw
import Derived.Test.YtecfeojhkcohfaaGreatDoorTie
import Derived.Test.YtecfeojhkcohfaaGreatDoorCards
import Derived.Test.YtecfeojhkcohfaaGreatDoorChkD
import Derived.SevenTiedAt
import Derived.ChangeMaps5
set_option linter.all false
set_option maxRecDepth 100000
set_option maxHeartbeats 64000000
namespace Go.Proofs.YtecfeojhkcohfaaGreatDoor.lawFnExactTrue
open Go.ChangeShapes Go.WideShapes Go.ChangeAt Go.RowKit
theorem door_met (os:Os) (a:Array Value):laidMetH Tryz.prog Rows.fnExactTrueRow.laid ((World.doorLaid Tryz.prog 400 os).forCall (fun _ _=>0) ⟨#[],a,[]⟩).memory:=
 laidMetH_of_parts3 (fuel:=8) (laidMet_of_run' 8 (by kernel_rfl) (by kernel_rfl)) (by kernel_rfl) (by kernel_rfl)
theorem lifted(os:Os)(c:os.Started)(H:Type)(enc:TypeId×Value->H):ReturnsInHanded {} Tryz.checked os 3 .any (fun w a=>(Rows.fnExactTrueSpec.pre enc Tryz.prog Tryz.f3 [] false w a/\laidMetH Tryz.prog Rows.fnExactTrueRow.laid w)/\sizedMet enc Tryz.prog Tryz.f3 (OpenSpec.ofChange Rows.fnExactTrueSpec) false w a) (Rows.fnExactTrueSpec.post enc Tryz.prog Tryz.f3 false true false false):=by refine returnsInHanded_of_change_and (C:=Tryz.checked) (X:=fun w _=>laidMetH Tryz.prog Rows.fnExactTrueRow.laid w) (fun _ _ _ hh h=>h.of_heap hh) own c (by kernel_rfl) Tryz.func3 (ChangeSpec.witness_shaped (enc:=enc) (C:=Tryz.checked) (os:=os) (X:=fun w _=>laidMetH Tryz.prog Rows.fnExactTrueRow.laid w) false (World.doorLaid Tryz.prog 400 os) #[.agg #[.bool false,.int .i64 0,.slice none 0 0,.int .i64 0,.slice none 0 0,.slice none 0 0,.int .i64 0,.int .i64 0,.slice none 0 0,.slice none 0 0,.slice none 0 0,.int .i64 0,.int .i64 0]] 8 rfl (World.shaped_of_RefB (by kernel_rfl) (by kernel_rfl)) (by kernel_rfl) (by kernel_rfl) (by kernel_rfl) (door_met os _)) ?_;intro W b a ds gs k g hW _ _ hL _;have d:∀(j:Nat) t v,Tryz.f3.params[j]?=some t->a[j]?=some v->Value.okWide Tryz.prog W .any b t v:=g;have n:=hW;obtain⟨p,q,m,hV,rfl,hfz,hnd⟩:=hW;have hA:DataW.TrodAll enc Tryz.prog W 0 (fun _=>true) true Tryz.f3.params.toList a.toList ds p:=m;rw[Tryz.params3]at hA d;obtain⟨v0,vs0,d0,ds0,p0,q0,o,rfl,rfl,h0,r0⟩:=trodAll_cons hA;obtain⟨rfl,rfl,rfl⟩:=trodAll_nil r0;obtain rfl:a=#[v0]:=by{cases a;simp_all};obtain⟨_,_,_,_,_,_,rfl,_,_,_,_,rfl⟩:=trodVars_one hV;have hK:KT W:=Av (by rw[MakeChecks.laidMetH_plain _ _ _ (by kernel_rfl)]at hL;exact hL);obtain⟨cs,rfl,i⟩:=okWide_struct Tryz.underlying31 (d 0 31 v0 rfl rfl);obtain⟨fuel,hf⟩:=h0;have r:cs.toList.length=13:=by{have:Tryz.prog.cellsOf 31=13:=by{kernel_rfl};rw[this]at i;simpa using i};have s:DataW.trod enc Tryz.prog W 0 (fun _=>true) true fuel 31 cs.toList=some (d0,p0):=hf;obtain⟨up,m1,m2,sq,st,sv,tr,A1,A2,A3,A6,A7,A8,n1,n2,n3,n6,n7,n8,c1,c2,c3,c6,c7,c8,L1,L2,b,bl,pd,f,l,⟨a1,a2,a3⟩,⟨b1,b2,b3⟩,⟨e1,e2,e3⟩,⟨f1,f2,f3⟩,⟨g1,g2,g3⟩,⟨k1,k2,k3⟩,_,_,_⟩:=FL r s;obtain rfl:cs=#[.bool up,.int .i64 m1,.slice A1 n1 c1,.int .i64 m2,.slice A2 n2 c2,.slice A3 n3 c3,.int .i64 sq,.int .i64 st,.slice A6 n6 c6,.slice A7 n7 c7,.slice A8 n8 c8,.int .i64 sv,.int .i64 tr]:=by{apply Array.toList_inj.1;exact l};refine(oQ up m1 m2 sq st sv tr A1 A2 A3 A6 A7 A8 n1 n2 n3 n6 n7 n8 c1 c2 c3 c6 c7 c8 L1 L2 b bl pd f W a1 a2 a3 b1 b2 b3 e1 e2 e3 f1 f2 f3 g1 g2 g3 k1 k2 k3 hK).mono fun e W' ⟨he,hf⟩=>?_;subst he;exact⟨_,rfl,DR n rfl rfl Tryz.underlying4 Ez (by kernel_rfl) (by kernel_rfl) hf⟩
theorem closed:joinedFacts Tryz.pinned.checked.prog 3 Tryz.f3 Rows.fnExactTrueSpec Rows.fnExactTrueRow=true:=by unfold joinedFacts;rw[Cv,Cw,Cx,DT];kernel_rfl
theorem row_holds:Rows.FnExactTrueSaid:=
 OpenClaim.holds_of_wide 3 Tryz.f3 rfl rfl rfl rfl rfl rfl rfl ⟨rfl,rfl,rfl,rfl,rfl⟩ rfl rfl rfl rfl rfl (by kernel_rfl) Tryz.func3 closed
  (of_decide_eq_true (by kernel_rfl)) (by unfold Func.isWrapper;first|(rw[if_pos (by decide +kernel)];kernel_rfl)|(rw[if_neg (by decide +kernel)];exact⟨rfl,rfl⟩))
  (fun os a H enc _=>lifted os a H enc)
theorem holds:Rows.FnExactTrueCardSaid:=
 Claim7.holds_tied_plain_at .later [] [.data] true _ _
  row_holds (fun _ h=>by cases h) (by kernel_rfl) (fun _ h=>by cases h) fnExactTrue_row_tie rfl ⟨rfl,rfl⟩ (by kernel_rfl) rfl
  (fun f fn hf d=>by
   obtain rfl:f=3:=Option.some.inj ((show Tryz.prog.funcNamed "loop.example/g00773/laws.FnExactTrue" = some 3 by kernel_rfl).symm.trans hf) |>.symm
   obtain rfl:fn=Tryz.f3:=(Option.some.inj (Tryz.func3.symm.trans d)).symm;exact⟨by kernel_rfl,fun j t ht=>by
    rw[Tryz.params3]at ht;have a:([31]:List TypeId).all (fun t=>!Tryz.prog.wantsStandIn t)=true:=by kernel_rfl
    have b:t∈([31]:List TypeId):=hZ (i:=j) (by simpa using ht);have c:Tryz.prog.wantsStandIn t=false:=by simpa using List.all_eq_true.1 a t b
    exact c⟩)
  (by kernel_rfl)
end Go.Proofs.YtecfeojhkcohfaaGreatDoor.lawFnExactTrue
