import Derived.Test.YtbaadmhbpkfjbaaGreatDoorDrawVol
import Derived.Test.YtbaadmhbpkfjbaaGreatDoorGl
set_option linter.all false
set_option maxRecDepth 100000
set_option maxHeartbeats 64000000
namespace Go.Proofs.YtbaadmhbpkfjbaaGreatDoor
open Go.RowKit
theorem gH.blocks{nx:Int}{ns:List cJ}(h:gH nx ns):∀t∈dA nx ns,t.size<=20000:=by intro t ht;rw[iO]at ht;rcases List.mem_cons.1 ht with rfl|ht;{rw[dy];have v0:=dD nx;have v1:=dD (ns.length:Int);simp only[jC,List.length_cons,List.length_append];omega};{obtain⟨i,_,rfl⟩:=List.mem_map.1 ht;unfold mN;split;{rename_i x hx;have hm:=mD hx;have hd:=h.toVW.fit.2 x hm;have h1:x.2.2.2.1.size<=20:=by{rcases h.toVW.typ x hm with h4|h4;{exact h4.2.2};{have:=h4.2.1;omega}};have k1:=pO (m:=24) x.2.2.2.2 fun e he=>by{have h5:=rU (rV (q8 hd he));rw[df]at h5;omega};have k2:x.2.2.2.2.length*(21+24)<=12*(21+24):=Nat.mul_le_mul_right _ hd.len;have k3:=nR x.2.2.2.1;have v0:=dD x.1;have v1:=dD x.2.1;have v2:=dD x.2.2.1;have v3:=dD (x.2.2.2.2.length:Int);rw[dy];simp only[eE,List.length_append,List.length_cons];omega};{exact Nat.zero_le _}}
theorem o6.of {nx:Int} {L:List (Value×cJ)} (h:gH nx (cz L)):o6 L:=fY.nod fun p hp=>by
 have hm:=List.mem_map_of_mem (f:=Prod.snd) hp;have hd:=h.toVW.fit.2 p.2 hm;exact⟨by have:=h.data p hp;omega,hd.len,jP hd⟩
theorem Hp.wr2 {W:List Nat} {w0 w:World} {l:List Ob} {g n q:Nat} {outs:List eV} (H:Hp W w0 w l) (i:Nat) (hi:l[i]?=some (.row 154 2 (.slice (some ⟨g,0,none⟩) n q) n (outs.flatMap dR))) {k:Nat} {x0:Int} {x1:ByteArray} (hx:outs[k]?=some (x0,x1)):w.cell? ⟨g,k*2,none⟩=some (.int .i64 x0)/\w.cell? ⟨g,k*2+1,none⟩=some (.string x1):=
 ⟨H.atL i hi dg (r:=0) hx rfl,H.atL i hi dg (r:=1) hx rfl⟩
