import Derived.Test.YtbaadmhbpkfjbaaGreatDoorGa
import Derived.Laws.BitsLemmas
import Derived.Deep.RegionLaw
import Derived.Deep.RegionHeld
set_option linter.all false
set_option maxRecDepth 100000
set_option maxHeartbeats 64000000
namespace Go.Proofs.YtbaadmhbpkfjbaaGreatDoor
open Go.RowKit
def cz (L:List (Value×cJ)):List cJ:=L.map (·.2)
theorem cW (L:List (Value×cJ)):(cz L).length=L.length:=by simp[cz]
def dR (r:Int×ByteArray):List Value:=[.int .i64 r.1,.string r.2]
theorem dg (r:Int×ByteArray):(dR r).length=2:=rfl
theorem jI:(Tryz.prog.info? 154).map (fun i=>(i.zero,i.size,i.bytes))=some (some (.agg #[.int .i64 0,.string ⟨#[]⟩]),2,24):=by kernel_rfl
def ix (r:Int×Int×ByteArray×Int×ByteArray×ByteArray):List Value:=[.int .i64 r.1,.int .i64 r.2.1,.string r.2.2.1,.int .i64 r.2.2.2.1,.string r.2.2.2.2.1,.string r.2.2.2.2.2]
theorem fM (r:Int×Int×ByteArray×Int×ByteArray×ByteArray):(ix r).length=6:=rfl
theorem rf:(Tryz.prog.info? 39).map (fun i=>(i.zero,i.size,i.bytes))=some (some (.agg #[.int .i64 0,.int .i64 0,.string ⟨#[]⟩,.int .i64 0,.string ⟨#[]⟩,.string ⟨#[]⟩]),6,72):=by kernel_rfl
def dw (n:Nat):List UInt8:=if _h:n<128 then [UInt8.ofNat n] else UInt8.ofNat (n % 128+128)::dw (n / 128)
termination_by n
decreasing_by omega
theorem oZ {n:Nat} (h:n<128):dw n=[UInt8.ofNat n]:=by rw[dw,dif_pos h]
theorem qV {n:Nat} (h:¬n<128):dw n=UInt8.ofNat (n % 128+128)::dw (n / 128):=by rw[dw,dif_neg h]
theorem rg:∀(k n:Nat),n<128 ^ (k+1)->(dw n).length<=k+1
 |0,n,h=>by rw[oZ (by simpa using h)];simp
 |k+1,n,h=>by
   by_cases hn:n<128
   ·rw[oZ hn];simp
   ·rw[qV hn,List.length_cons]
    have:=rg k (n / 128) (by rw[Nat.div_lt_iff_lt_mul (by decide)];rw[Nat.pow_succ]at h;omega);omega
def jy (n:Int):List UInt8:=if 0<=n/\n<=562949953421311 then dw n.toNat else []
def eW (n:Int):ByteArray:=dx (jy n)
theorem dD(n:Int):(jy n).length<=7:=by rw[jy];split;{exact rg 6 n.toNat (by rename_i h;show n.toNat<562949953421312;omega)};{simp}
theorem fo (n:Int):(eW n).size<=7:=by rw[eW,dy];exact dD n
theorem vm{y:Int}(h0:0<=y)(h1:y<=255):∃u:UInt8,y=(u.toNat:Int):=by refine⟨UInt8.ofNat y.toNat,?_⟩;rw[UInt8.toNat_ofNat_of_lt' (by simp[UInt8.size];omega)];omega
theorem dW(n:Int)(w:World):Calls Tryz.prog 115 #[.int .i64 n] w fun e w'=>e=.returned (.string (eW n))/\Fr w w':=by by_cases hb:0<=n/\n<=562949953421311;{obtain⟨k,rfl⟩:∃k:Nat,n=k:=⟨n.toNat,by omega⟩;have H:=(Hp.start w).lit0 5 1;have o:(dw k).length<=7:=by{have:=dD (k:Int);rwa [jy,if_pos hb,Int.toNat_natCast]at this};have HV:=hJ (show eW (k:Int)=dx (dw k) by rw[eW,jy,if_pos hb,Int.toNat_natCast]);rw[HV.out];have hk:k<=562949953421311:=by{omega};clear HV;go_enter Tryz.func115,Tryz.ntmps115;go_wp2_with fail;refine(cK _ _ _ _).mono ?_;rintro e wq ⟨rfl,a⟩;rw[a];clear a;have hd:cY (k:Int) 0 562949953421311=true:=dh.2 hb;rw[hd];clear hd hb;go_wp2_with fail;go_loopw [0,3] (fun nv ov wr=>∃(m:Nat) (l:List UInt8),nv=.int .i64 m/\m<=562949953421311/\l++dw m=dw k/\Hp [] w wr [.row 5 1 ov l.length (l.map kr)]) (fun nv _ _=>(intOf nv).toNat);{exact⟨k,[],rfl,hk,rfl,H⟩};clear H;obtain⟨m,l,rfl,hm,hl,H⟩:=hrel;have HL:=hJ hl;have hll:l.length<=7:=by{have:=congrArg List.length hl;rw[List.length_append]at this;omega};clear hl;by_cases hlt:127<m;{obtain⟨r,hr⟩:∃r:Nat,(m:Int) % 128=(r:Int):=⟨m % 128,by omega⟩;obtain⟨q,hq⟩:∃q:Nat,(m:Int) / 128=(q:Int):=⟨m / 128,by omega⟩;have hrb:r<128:=by{omega};obtain⟨u,hu⟩:=vm (y:=(r:Int)+128) (by omega) (by omega);have HS:=hJ (show dw m=u::dw q by{rw[qV (by omega),show m / 128=q by omega,show m % 128+128=u.toNat by omega,UInt8.ofNat_toNat]});have hqm:q<m:=by{omega};have g:128<=(m:Int):=by{omega};have i:=u.toNat_lt;have j:128+(r:Int)=(u.toNat:Int):=by{omega};have a1:(m:Int).tmod 128=(r:Int):=by{rw[Int.tmod_eq_emod_of_nonneg (by omega)];omega};have a2:(m:Int).tdiv 128=(q:Int):=by{rw[Int.tdiv_eq_ediv_of_nonneg (by omega)];omega};have a3:IntKind.i64.wrap (r:Int)=(r:Int):=hY _;have a4:IntKind.u8.wrap (u.toNat:Int)=(u.toNat:Int):=wraps_u8 _ (by omega) (by omega);have a5:IntKind.i64.wrap (128+(r:Int))=(u.toNat:Int):=by{rw[j];exact hY _};clear hr hq hu;go_wp2_with (at_builtin;refine eF (f:=kr) (H) rfl _ _ _ rfl Tryz.underlying22 jH rfl 0 _ _ rfl rfl _ _ (u) rfl (by simp) rfl (by first|(simp only[maxLen];omega)|(simp[maxLen];done)|(simp[maxLen];omega)) (by first|omega|(simp;done)|(simp;omega)) ?_);intro v' w5 H5;have H6:=hJ (show Hp [] w w5 [.row 5 1 v' (l++[u]).length ((l++[u]).map kr)] by{rw[List.map_append,List.length_append];exact H5});clear H H5;go_wp2_with fail;go_roundw;{exact⟨q,l++[u],rfl,by omega,by rw[List.append_assoc,<-HL.out,HS.out];rfl,H6.out⟩};simp[intOf];omega};{obtain⟨u,hu⟩:=vm (y:=(m:Int)) (by omega) (by omega);have HS:=hJ (show dw m=[u] by rw[oZ (by omega),show m=u.toNat by omega,UInt8.ofNat_toNat]);have h:m=u.toNat:=by{omega};subst h;have i:=u.toNat_lt;have g:¬(127<(u.toNat:Int)):=by{omega};have p:¬(128<=(u.toNat:Int)):=by{omega};have hw8:IntKind.u8.wrap (u.toNat:Int)=(u.toNat:Int):=wraps_u8 _ (by omega) (by omega);clear hu;go_wp2_with (at_builtin;refine eF (f:=kr) (H) rfl _ _ _ rfl Tryz.underlying22 jH rfl 0 _ _ rfl rfl _ _ (u) rfl (by simp) rfl (by first|(simp only[maxLen];omega)|(simp[maxLen];done)|(simp[maxLen];omega)) (by first|omega|(simp;done)|(simp;omega)) ?_);intro v' w5 H5;have H6:Hp [] w w5 [.row 5 1 v' (l.length+1) ((l++[u]).map kr)]:=by{rw[List.map_append];exact H5.recast (by simp)};obtain⟨B,d,rfl⟩:=H6.shape 0 rfl;have hks:=mj (c:=d) 22 9 5 Tryz.underlying22 Tryz.underlying5 Tryz.underlying9 (H6.rd 0 rfl);have HF:=hJ H6;clear H H5 H6;go_wp2_with fail;go_ret;have hE:=HL.out;rw[HS.out]at hE;exact⟨congrArg (fun b=>Ending.returned (.string (dx b))) hE,HF.out.fr⟩}};{have hd:cY n 0 562949953421311=false:=by{rw[<-Bool.not_eq_true,dh];exact hb};have hv:eW n=ByteArray.mk #[]:=by{rw[eW,jy,if_neg hb];rfl};rw[hv];go_enter Tryz.func115,Tryz.ntmps115;go_wp2_with fail;refine(cK _ _ _ _).mono ?_;rintro e wq ⟨rfl,a⟩;rw[a,hd];clear a;go_wp2_with fail;go_ret;exact⟨rfl,Below.refl _ _⟩}
def ex (s:ByteArray):List UInt8:=jy (s.size:Int)++cO s
def hH (e:Int×Int×ByteArray×Int):List UInt8:=jy e.2.1++(ex e.2.2.1++jy e.2.2.2)
def eE (x:cJ):List UInt8:=(105::(jy x.1++(jy x.2.1++(jy x.2.2.1++(ex x.2.2.2.1++jy (x.2.2.2.2.length:Int))))))++x.2.2.2.2.flatMap hH
def jC (next:Int) (n:Nat):List UInt8:=117::(jy next++jy (n:Int))
def dA (next:Int) (l:List cJ):List ByteArray:=dx (jC next l.length)::(List.range 16).map fun i=>match l[i]? with
 |some x=>dx (eE x)
 |none=>⟨#[]⟩
theorem xF(s:ByteArray):eW (s.size:Int)++s=dx (ex s):=by rw[eW,ex,<-dQ,fK]
theorem lC(s:ByteArray)(w:World)(hs:s.size<=4398046511104):Calls Tryz.prog 143 #[.string s] w fun e w'=>e=.returned (.string (dx (ex s)))/\Fr w w':=by have HE:=hJ (xF s);have hv:=fo (s.size:Int);go_enter Tryz.func143,Tryz.ntmps143;go_wp2_with fail;refine(dW _ _).mono ?_;rintro e w1 ⟨rfl,f1⟩;go_wp2_with fail;go_ret;rw[HE.out];exact⟨rfl,f1⟩
theorem sA {α:Type} {xs:List α} {i:Nat} (h:i<xs.toArray.size):xs.toArray[i]=xs[i]'(by simpa using h):=List.getElem_toArray h
theorem sB {α:Type} (a:α) (l:List α) (i:Nat) (h:i+1<(a::l).length):(a::l)[i+1]=l[i]'(Nat.lt_of_succ_lt_succ h):=rfl
theorem sC {α:Type} (a:α) (l:List α) (h:0<(a::l).length):(a::l)[0]=a:=rfl
theorem sD {α:Type} (l:List α) (i:Nat) (a:α):l.toArray.setIfInBounds i a=(l.set i a).toArray:=List.setIfInBounds_toArray ..
theorem sE {α:Type} (x:α) (xs:List α) (a:α):(x::xs).set 0 a=a::xs:=rfl
theorem sF {α:Type} (x:α) (xs:List α) (n:Nat) (a:α):(x::xs).set (n+1) a=x::xs.set n a:=rfl
theorem sX {α:Type}:(∀(xs:List α) (i:Nat) (h:i<xs.toArray.size),xs.toArray[i]=xs[i]'(by simpa using h))/\(∀(a:α) (l:List α) (i:Nat) (h:i+1<(a::l).length),(a::l)[i+1]=l[i]'(Nat.lt_of_succ_lt_succ h))/\(∀(a:α) (l:List α) (h:0<(a::l).length),(a::l)[0]=a) /\
 (∀(l:List α) (i:Nat) (a:α),l.toArray.setIfInBounds i a=(l.set i a).toArray)/\(∀(x:α) (xs:List α) (a:α),(x::xs).set 0 a=a::xs)/\∀(x:α) (xs:List α) (n:Nat) (a:α),(x::xs).set (n+1) a=x::xs.set n a:=
 ⟨fun _ _ h=>sA h,sB,sC,sD,sE,sF⟩
section
variable {P : Program} {md : Region.Mode} {ops : Array Oper} {Q : Exit → Act → World → Prop} {S : World → Prop} {oi : Oper} {v : Value} {fuel : Nat} {listed l' : Array Bool} {a a' : Act} {w : World}
theorem cD(i:Nat)(h:wpAnyH P md ops Q S fuel l' a' w)(hi:ops[i]?=some oi:=by exact rfl)(hv:∀w,S w->(execOp a.eval oi).run P w=.ok (.value v) w:=by intro w hSw;(try dsimp only at hSw);go_simp;try (with_reducible rfl))(ha:a.put oi.dst v=a':=by(try simp only[sA,sB,sC,Act.put,sD,sE,sF]);try exact rfl)(hl:listed.setIfInBounds i true=l':=by(try simp only[sD,sE,sF]);try exact rfl)(hs:Region.noSelect ops=true:=by kernel_rfl)(hf:Region.free md ops listed i=true:=by kernel_rfl)(hr:(Region.ready md ops listed).contains i=true:=by kernel_rfl)(hQ:∀c a w,Q (.panic c) (a.put oi.dst v) w->Q (.panic c) a w:=by first|exact fun _ _ _ h=>h|exact fun _ _ _ h=>nomatch h.1)(hy:Region.wanted oi (yielded ops a.tmps)=true:=by kernel_rfl)(hS:S w:=by assumption):wpAnyH P md ops Q S (fuel+1) listed a w:=by subst ha hl;exact wpAnyH_take hi hs hf hr hQ (Or.inl ⟨hy,hv⟩) hS h
theorem cN(i:Nat)(h:wpAnyH P md ops Q S fuel l' a' w)(hi:ops[i]?=some oi:=by exact rfl)(ha:a.put oi.dst undef=a':=by(try simp only[sA,sB,sC,Act.put,sD,sE,sF]);try exact rfl)(hl:listed.setIfInBounds i true=l':=by(try simp only[sD,sE,sF]);try exact rfl)(hs:Region.noSelect ops=true:=by kernel_rfl)(hf:Region.free md ops listed i=true:=by kernel_rfl)(hr:(Region.ready md ops listed).contains i=true:=by kernel_rfl)(hQ:∀c a w,Q (.panic c) (a.put oi.dst undef) w->Q (.panic c) a w:=by first|exact fun _ _ _ h=>h|exact fun _ _ _ h=>nomatch h.1)(hy:Region.wanted oi (yielded ops a.tmps)=false:=by kernel_rfl)(hS:S w:=by assumption):wpAnyH P md ops Q S (fuel+1) listed a w:=by subst ha hl;exact wpAnyH_take hi hs hf hr hQ (Or.inr ⟨hy,rfl⟩) hS h
theorem cR (i:Nat) {o:Oper} (h:∀K':Act->World->Prop,Shut (∀a w,S w->(S w->wpAnyH P md ops Q S fuel (listed.setIfInBounds i true) a w)->K' a w)->if Region.wanted o (yielded ops a.tmps)=true then Oper.wp P o a w K' Q else K' (a.put o.dst undef) w)
 (ho:ops[i]?=some o:=by exact rfl) (hr:Region.ready md ops listed=[i]:=by kernel_rfl):wpAnyH P md ops Q S (fuel+1) listed a w:=
 wpAnyH_ready hr (by simp) (AllReadyH.cons ho h AllReadyH.nil)
end
theorem CX{α:Type}{p:List α->Prop}(nil:p [])(snoc:∀l a,p l->p (l++[a]))(l:List α):p l:=by have h:∀n,∀l:List α,l.length=n->p l:=by{intro n;induction n with|zero=>{intro l hl;rw[List.eq_nil_of_length_eq_zero hl];exact nil}|succ n ih=>{intro l hl;rcases List.eq_nil_or_concat l with h|⟨l',a,h⟩;{subst h;cases hl};{rw[List.concat_eq_append]at h;subst h;exact snoc l' a (ih l' (by simpa using hl))}}};exact h _ l rfl
theorem vo {α β:Type} {f g:α->Option β}:∀{l:List α},(∀x∈l,f x=g x)->l.filterMap f=l.filterMap g
 | [],_=>rfl
 |x::l,h=>by
   rw[List.filterMap_cons,List.filterMap_cons,h x (by simp),vo (l:=l) fun y hy=>h y (by simp[hy])]
theorem Hp.reord{W:List Nat}{w0 w:World}{l:List Ob}(h:Hp W w0 w l)(is:List Nat){n:Nat}(hn:l.length=n)(hp:is.Perm (List.range n)):Hp W w0 w (is.filterMap fun i=>l[i]?):=by subst hn;refine h.perm (List.Perm.symm ?_);have h1:=hp.filterMap (fun i=>l[i]?);have h2:(List.range l.length).filterMap (fun i=>l[i]?)=l:=by{clear h1 hp h;induction l using CX with|nil=>{rfl}|snoc l a ih=>{rw[List.length_append,List.length_singleton,List.range_succ,List.filterMap_append];have h3:(List.range l.length).filterMap (fun i=>(l++[a])[i]?)=(List.range l.length).filterMap (fun i=>l[i]?):=by{apply vo;intro i hi;rw[List.getElem?_append_left (List.mem_range.1 hi)]};rw[h3,ih];simp}};rwa [h2]at h1
section
variable {P : Program} {ops : Array Oper} {o : Oper} {a : Act} {Q : Exit → Act → World → Prop} {E : TypeId} {z : Value} {k bytes : Nat} {W : List Nat} {w0 w : World} {l : List Ob}
theorem kT{K:Act->World->Prop}{E0:Prop}(H:Hp W w0 w l)(F:o.guard=none)(s x:Operand)(t:TypeId)(ho:o.op=.call {callee:=.builtin .append,args:=#[s,x],argTypes:=#[t,t]})(ht:P.underlying t=some (.slice E))(hI:(P.info? E).map (fun i=>(i.zero,i.size,i.bytes))=some (some z,k,bytes))(J:z.cells.size=k)(G:0<k)(i:Nat)(v:Value)(n:Nat)(xs:List Value)(d:l[i]?=some (.row E k v n xs))(hs:a.eval s=v)(A:Option Addr)(m c:Nat)(ys:List Value)(hx:a.eval x=.slice A m c)(hc:A=none->c=0)(q:Rd w A m k ys)(h1:∀u∈ys,u.oneCell'=true)(C:n+m<=maxLen)(p:(n+m)*bytes<=140737488355328)(h:∀v' w',Hp W w0 w' (l.set i (.row E k v' (n+m) (xs++ys)))->K (a.put o.dst v') w'):if Region.wanted o (yielded ops a.tmps)=true then Oper.wp P o a w K Q else E0:=by rw[if_pos (by simp[Region.wanted,F])];obtain⟨B,hi,hz,y,D⟩:=info_parts hI;cases A with|none=>{have hm:m=0:=by{rcases Nat.eq_zero_or_pos m with h0|h0;{exact h0};{obtain⟨b,o,e,_⟩:=q.2 h0;cases e}};subst hm;obtain rfl:=hc rfl;have I:ys=[]:=List.eq_nil_of_length_eq_zero (by simpa using q.1);subst I;have hr:=run_append_owned_none (P:=P) (w:=w) 0 t o.type E B k ht hi v n xs (H.row i d);have f:=h v w (by{have h2:=H.turnRow i d (Gr.refl _ w) (H.row i d) (.inl rfl);simpa using h2});unfold Oper.wp execOp;simp only[ho,resolve,invoke,builtin,Sem.run_bind,Sem.run_pure,Result.andThen_ok,List.map_toArray,List.map_cons,List.map_nil,hs,hx,hr];exact f}|some ad=>{obtain⟨v',w',hr,h2,h3,_,h5⟩:=run_append_own_at (P:=P) w 0 t o.type E B z k bytes ht hi hz y D J G v n xs (H.row i d) ad m c ys q.1 (fun j u hu=>by{obtain⟨b,o,e,r⟩:=q.get hu;injection e with e;subst e;rw[Addr.add_lit];exact r}) h1 C p (Nat.zero_le _);have f:=h v' w' (H.grow i d h3 h2 (h5.imp id fun e g hg=>by rw[e]at hg;injection hg with hg;omega));unfold Oper.wp execOp;simp only[ho,resolve,invoke,builtin,Sem.run_bind,Sem.run_pure,Result.andThen_ok,List.map_toArray,List.map_cons,List.map_nil,hs,hx,hr];exact f}
theorem jc {c:Code} (R:Act->Act->World->Prop) (h1:c.wp P (fun e a' w'=>e=.normal/\R a a' w') a w) (h2:∀a' w',R a a' w'->Q .normal a' w'):c.wp P Q a w:=
 Code.wp_mono (fun e a' w' ⟨he,hr⟩=>by subst he;exact h2 a' w' hr) h1
end
section
variable {W : List Nat} {w0 w w' : World} {l : List Ob} {P : Program} {ops : Array Oper} {rest : List Oper} {o : Oper} {a : Act} {Q : Exit → Act → World → Prop} {E : TypeId} {z : Value} {bytes : Nat}
theorem pg{α:Type}{f:α->Value}(H:Hp W w0 w l)(g:o.guard=none)(s x:Operand)(t:TypeId)(ho:o.op=.call {callee:=.builtin .append,args:=#[s,x],argTypes:=#[t,t]})(ht:P.underlying t=some (.slice E))(hI:(P.info? E).map (fun i=>(i.zero,i.size,i.bytes))=some (some z,1,bytes))(k:z.cells.size=1)(i:Nat)(v:Value)(L:List α)(d:l[i]?=some (.row E 1 v L.length (L.map f)))(hs:a.eval s=v)(A:Option Addr)(c:Nat)(M:List α)(hx:a.eval x=.slice A M.length c)(hc:A=none->c=0)(j:Rd w A M.length 1 (M.map f))(h1:∀u∈M,(f u).oneCell'=true)(e:L.length+M.length<=maxLen)(b:(L.length+M.length)*bytes<=140737488355328)(h:∀v' w',Hp W w0 w' (l.set i (.row E 1 v' (L++M).length ((L++M).map f)))->wpList P ops Q rest (a.put o.dst v') w'):wpList P ops Q (o::rest) a w:=by refine gu H g s x t ho ht hI k Nat.one_pos i v L.length (L.map f) d hs A M.length c (M.map f) hx hc j (by intro u hu;obtain⟨y,hy,rfl⟩:=List.mem_map.1 hu;exact h1 y hy) e b fun v' w' h'=>h v' w' ?_;rwa [List.length_append,List.map_append]
end
theorem ni{w:World}{b:Nat}{E:TypeId}{k n:Nat}{A:Option Addr}{m c:Nat}{xs:List Value}(h:w.ownsRow b E k (.slice A m c) n xs):A=none->c=0:=by intro hA;rcases h.2 with⟨hv,_⟩|⟨g,cap,cur,hv,_⟩;{injection hv};{injection hv with h1 _ _;rw[hA]at h1;cases h1}
def rq:List (Int×Int):=[(32,126),(161,255),(768,772),(776,776),(778,778),(803,803),(807,807),(902,902),(904,906),(908,908),(910,911),(913,929),(931,937),(940,943),(945,969),(972,974),(1040,1103),(469,470),(7840,7841),(7852,7853),(8486,8486),(8491,8491),(4352,4370),(4449,4469),(4520,4546),(44032,55203)]
def rt:List Int:=[32,161,768,776,778,803,807,902,904,908,910,913,931,940,945,972,1040,469,7840,7852,8486,8491,4352,4449,4520,44032]
def C3:List Int:=[126,255,772,776,778,803,807,902,906,908,911,929,937,943,969,974,1103,470,7841,7853,8486,8491,4370,4469,4546,55203]
def ib:List (Int×Int):=[(32,46),(48,126),(161,255),(469,470),(768,772),(776,776),(778,778),(803,803),(807,807),(902,902),(904,906),(908,908),(910,911),(913,929),(931,937),(940,943),(945,969),(972,974),(1040,1103),(4352,4370),(4449,4469),(4520,4546),(7840,7841),(7852,7853),(8486,8486),(8491,8491),(44032,55203)]
theorem zP:rt=rq.map Prod.fst:=rfl
theorem C4:C3=rq.map Prod.snd:=rfl
theorem tG:rq.length=26:=rfl
theorem qC:ib.length=27:=rfl
def fl (c:Int):Bool:=rq.any (fun p=>cY c p.1 p.2) && decide (c≠47)
theorem qD(c:Int):ib.any (fun p=>cY c p.1 p.2)=fl c:=by rw[Bool.eq_iff_iff];simp only[ib,fl,rq,List.any_cons,List.any_nil,Bool.or_eq_true,Bool.and_eq_true,dh,decide_eq_true_eq,Bool.or_false];omega
def qE (p:Int×Int):List Value:=[.int .i64 p.1,.int .i64 p.2]
def DJ:List Int:=ib.flatMap fun p=>[p.1,p.2]
