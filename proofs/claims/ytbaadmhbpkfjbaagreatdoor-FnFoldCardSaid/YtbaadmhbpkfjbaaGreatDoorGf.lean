import Derived.Test.YtbaadmhbpkfjbaaGreatDoorGe
import Derived.Shelf.RegionOpenPlain
import Derived.Lib.Walk
import Derived.ArgAppend
set_option linter.all false
set_option maxRecDepth 100000
set_option maxHeartbeats 64000000
namespace Go.Proofs.YtbaadmhbpkfjbaaGreatDoor
open Go.RowKit
theorem yX {l:List cJ}:oM l↔(l.map (·.1)).Pairwise (· < ·):=by rw[List.pairwise_map]
theorem Dd{l:List cJ}{k:Nat}{x y:cJ}(hx:l[k]?=some x)(h:y.1=x.1):(l.set k y).map (·.1)=l.map (·.1):=by apply List.ext_getElem?;intro j;rw[List.getElem?_map,List.getElem?_map];by_cases hj:k=j;{subst hj;rw[List.getElem?_set_self (mE hx).1,hx];simp[h]};{rw[List.getElem?_set_ne hj]}
theorem pw{l:List cJ}{k:Nat}{x y:cJ}(hs:oM l)(hx:l[k]?=some x)(h:y.1=x.1):oM (l.set k y):=by rw[yX,Dd hx h];exact yX.1 hs
theorem eS{l:List cJ}{k:Nat}{x y z:cJ}(hs:oM l)(hx:l[k]?=some x):z∈l.set k y↔z=y\/(z∈l/\z.1≠x.1):=by have hk:=(mE hx).1;constructor;{intro hz;obtain⟨j,hj⟩:=List.getElem?_of_mem hz;by_cases a:k=j;{subst a;rw[List.getElem?_set_self hk]at hj;injection hj with hj;exact .inl hj.symm};{rw[List.getElem?_set_ne a]at hj;refine .inr ⟨mD hj,fun e=>a ?_⟩;have h1:=fd hs hj;rw[e,fd hs hx]at h1;injection h1}};{rintro(rfl|⟨hz,hne⟩);{exact mD (List.getElem?_set_self hk)};{obtain⟨j,hj⟩:=List.getElem?_of_mem hz;refine mD (i:=j) ?_;rw[List.getElem?_set_ne (fun e=>by subst e;rw[hx]at hj;injection hj with hj;exact hne (by rw[hj])),hj]}}
theorem xW{l:List cJ}{k:Nat}{x y:cJ}(hs:oM l)(hx:l[k]?=some x)(h:y.1=x.1){i:Int}:(∃z∈l.set k y,z.1=i)↔∃z∈l,z.1=i:=by constructor;{rintro⟨z,hz,rfl⟩;rcases(eS hs hx).1 hz with rfl|⟨hz,_⟩;{exact⟨x,mD hx,h.symm⟩};{exact⟨z,hz,rfl⟩}};{rintro⟨z,hz,rfl⟩;by_cases a:z.1=x.1;{exact⟨y,(eS hs hx).2 (.inl rfl),h.trans a.symm⟩};{exact⟨z,(eS hs hx).2 (.inr ⟨hz,a⟩),rfl⟩}}
theorem qY{l:List cJ}{k:Nat}{x y:cJ}(hs:oM l)(hx:l[k]?=some x)(h:y.1=x.1){a b:Int}:kt (l.set k y) a b↔(a=x.1/\b∈ig y.2.2.2.2)\/(a≠x.1/\kt l a b):=by constructor;{rintro⟨z,hz,rfl,e,he,rfl⟩;rcases(eS hs hx).1 hz with rfl|⟨hz,hne⟩;{exact .inl ⟨h,List.mem_map_of_mem he⟩};{exact .inr ⟨hne,z,hz,rfl,e,he,rfl⟩}};{rintro(⟨rfl,hb⟩|⟨hne,z,hz,rfl,r⟩);{obtain⟨e,he,rfl⟩:=List.mem_map.1 hb;exact⟨y,(eS hs hx).2 (.inl rfl),h,e,he,rfl⟩};{exact⟨z,(eS hs hx).2 (.inr ⟨hz,hne⟩),rfl,r⟩}}
theorem mw{l:List cJ}{k:Nat}{x:cJ}(hs:oM l)(hx:l[k]?=some x){b:Int}:kt l x.1 b↔b∈ig x.2.2.2.2:=by constructor;{rintro⟨z,hz,e0,e,he,rfl⟩;have:=jh hs hz (mD hx) e0;subst this;exact List.mem_map_of_mem he};{intro hb;obtain⟨e,he,rfl⟩:=List.mem_map.1 hb;exact⟨x,mD hx,rfl,e,he,rfl⟩}
theorem VW.set{next:Int}{l:List cJ}{k:Nat}{x y:cJ}(h:VW next l)(hx:l[k]?=some x)(h1:y.1=x.1)(h2:y.2.1=x.2.1)(ht:D1 y)(he:∀e∈y.2.2.2.2,e.2.2.2≠1/\∃z∈l,z.1=e.2.2.2):VW next (l.set k y):=by refine⟨h.lo,h.hi,by rw[List.length_set];exact h.len,pw h.srt hx h1,fun z hz=>?_,?_,fun z hz=>?_,fun z hz e a=>?_⟩;{rcases(eS h.srt hx).1 hz with rfl|⟨hz,_⟩;{rw[h1];exact h.rng x (mD hx)};{exact h.rng z hz}};{obtain⟨r,hr,r1,r2⟩:=h.root;by_cases hk:k=0;{subst hk;rw[hx]at hr;injection hr with hr;subst hr;exact⟨y,List.getElem?_set_self (mE hx).1,by rw[h1,r1],by rw[h2,r2]⟩};{exact⟨r,by rw[List.getElem?_set_ne hk,hr],r1,r2⟩}};{rcases(eS h.srt hx).1 hz with rfl|⟨hz,_⟩;{exact ht};{exact h.typ z hz}};{rcases(eS h.srt hx).1 hz with rfl|⟨hz,_⟩;{exact⟨(he e a).1,(xW h.srt hx h1).2 (he e a).2⟩};{exact⟨(h.ent z hz e a).1,(xW h.srt hx h1).2 (h.ent z hz e a).2⟩}}
theorem ij{l:List cJ}{k:Nat}{x z:cJ}(hs:oM l)(hx:l[k]?=some x):z∈l.eraseIdx k↔z∈l/\z.1≠x.1:=by rw[List.mem_eraseIdx_iff_getElem?];constructor;{rintro⟨j,hj,hz⟩;refine⟨mD hz,fun e=>hj ?_⟩;have h1:=fd hs hz;rw[e,fd hs hx]at h1;injection h1 with h1;exact h1.symm};{rintro⟨hz,a⟩;obtain⟨j,hj⟩:=List.getElem?_of_mem hz;exact⟨j,fun e=>by subst e;rw[hx]at hj;injection hj with hj;exact a (by rw[hj]),hj⟩}
theorem zX{l:List cJ}{k:Nat}{x:cJ}(hs:oM l)(hx:l[k]?=some x){a b:Int}:kt (l.eraseIdx k) a b↔a≠x.1/\kt l a b:=by constructor;{rintro⟨z,hz,rfl,r⟩;obtain⟨h1,h2⟩:=(ij hs hx).1 hz;exact⟨h2,z,h1,rfl,r⟩};{rintro⟨c,z,hz,rfl,r⟩;exact⟨z,(ij hs hx).2 ⟨hz,c⟩,rfl,r⟩}
theorem VW.erase{next:Int}{l:List cJ}{k:Nat}{x:cJ}(h:VW next l)(hx:l[k]?=some x)(h1:x.1≠1)(hn:∀a,¬kt l a x.1):VW next (l.eraseIdx k):=by have hk:=(mE hx).1;refine⟨h.lo,h.hi,by rw[List.length_eraseIdx_of_lt hk];have:=h.len;omega,h.srt.sublist (List.eraseIdx_sublist _ _),fun z hz=>h.rng z ((ij h.srt hx).1 hz).1,?_,fun z hz=>h.typ z ((ij h.srt hx).1 hz).1,fun z hz e he=>?_⟩;{obtain⟨r,hr,r1,r2⟩:=h.root;have b:0<k:=by{rcases Nat.eq_zero_or_pos k with h0|h0;{subst h0;rw[hx]at hr;injection hr with hr;subst hr;exact absurd r1 h1};{exact h0}};exact⟨r,by rw[List.getElem?_eraseIdx_of_lt b,hr],r1,r2⟩};{obtain⟨hz,hne⟩:=(ij h.srt hx).1 hz;obtain⟨e1,y,hy,e2⟩:=h.ent z hz e he;refine⟨e1,y,(ij h.srt hx).2 ⟨hy,fun e3=>hn z.1 ⟨z,hz,rfl,e,he,?_⟩⟩,e2⟩;rw[<-e2,e3]}
theorem VW.app{next:Int}{l:List cJ}{x:cJ}(h:VW next l)(h1:x.1=next)(ht:D1 x)(he:x.2.2.2.2=[])(hn:next<100000)(hl:l.length<16):VW (next+1) (l++[x]):=by have hlo:=h.lo;have mem:∀{z},z∈l++[x]↔z∈l\/z=x:=by{simp};refine⟨by omega,by omega,by simp;omega,?_,fun z hz=>?_,?_,fun z hz=>?_,fun z hz e c=>?_⟩;{refine List.pairwise_append.2 ⟨h.srt,List.pairwise_singleton _ _,fun a ha b hb=>?_⟩;rw[List.mem_singleton.1 hb,h1];exact(h.rng a ha).2};{rcases mem.1 hz with hz|rfl;{have:=h.rng z hz;omega};{omega}};{obtain⟨r,hr,r1,r2⟩:=h.root;exact⟨r,by rw[List.getElem?_append_left (mE hr).1,hr],r1,r2⟩};{rcases mem.1 hz with hz|rfl;{exact h.typ z hz};{exact ht}};{rcases mem.1 hz with hz|rfl;{obtain⟨e1,y,hy,e2⟩:=h.ent z hz e c;exact⟨e1,y,mem.2 (.inl hy),e2⟩};{rw[he]at c;simp at c}}
theorem De{l:List cJ}{x:cJ}(he:x.2.2.2.2=[]){a b:Int}:kt (l++[x]) a b↔kt l a b:=by constructor;{rintro⟨z,hz,rfl,e,c,rfl⟩;rcases List.mem_append.1 hz with hz|hz;{exact⟨z,hz,rfl,e,c,rfl⟩};{rw[List.mem_singleton.1 hz,he]at c;simp at c}};{rintro⟨z,hz,r⟩;exact⟨z,List.mem_append_left _ hz,r⟩}
theorem uJ{d:List cI}{s:ByteArray}{id:Int}(h1:dH (cO s)=true)(h2:dJ d (cO s)=none)(h3:cY id 1 100000=true)(h4:d.length<12):(ig (eI d s id).1).Perm (id::ig d):=by rw[eI,if_pos (by simp[h1,h2,h3,h4])];exact(qe _ _).map _
theorem iJ{d:List cI}{s:ByteArray}{e:cI}(h:dX d s=some e):∃k,dJ d (cO s)=some k/\d[k]?=some e:=by rw[dX,Option.bind_eq_some_iff]at h;exact h
theorem rJ {α:Type}:∀{l:List α} {k:Nat} {x:α},l[k]?=some x->l.Perm (x::l.eraseIdx k)
 | [],k,x,h=>by simp at h
 |y::l,0,x,h=>by injection h with h;subst h;exact .refl _
 |y::l,k+1,x,h=>by
   rw[List.eraseIdx_cons_succ];exact((rJ (l:=l) (k:=k) h).cons y).trans (.swap _ _ _)
theorem gW{d:List cI}{s:ByteArray}{e:cI}(h:dX d s=some e):(ig d).Perm (e.2.2.2::ig (da d s).1):=by obtain⟨k,h1,h2⟩:=iJ h;rw[da,h1];exact(rJ h2).map _
theorem wh {α:Type}:∀{l:List α} {k:Nat} {x y:α},l[k]?=some x->(l.set k y).Perm (y::l.eraseIdx k)
 | [],k,x,y,h=>by simp at h
 |z::l,0,x,y,h=>.refl _
 |z::l,k+1,x,y,h=>by
   rw[List.eraseIdx_cons_succ,List.set_cons_succ];exact((wh (l:=l) (k:=k) (y:=y) h).cons z).trans (.swap _ _ _)
theorem wi{d:List cI}{s:ByteArray}{id:Int}{e:cI}(h:dX d s=some e)(a:cY id 1 100000=true):(ig (dK d s id).1).Perm (id::ig (da d s).1):=by obtain⟨k,h1,h2⟩:=iJ h;rw[lX h1 h2 a,da,h1];exact(wh (y:=(e.1,e.2.1,s,id)) h2).map _
section
variable {next : Int} {l : List cJ} {k : Nat} {x : cJ} {d : List cI} {a b i : Int}
theorem dm (hx:l[k]?=some x):di l k d=l.set k (x.1,x.2.1,x.2.2.1,x.2.2.2.1,d):=by rw[di,hx]
theorem dr (hx:l[k]?=some x):dN l k=x.2.2.2.2:=by rw[dN,hx]
theorem dZ (hx:l[k]?=some x):oI l k=x.2.1:=by rw[oI,hx]
theorem kg(h:VW next l)(hx:l[k]?=some x)(hk:x.2.1=2)(hd:fA d)(he:∀e∈d,e.2.2.2≠1/\∃z∈l,z.1=e.2.2.2):VW next (di l k d):=by rw[dm hx];refine h.set hx rfl rfl ?_ he;rcases h.typ x (mD hx)with t|t;{omega};{exact .inr ⟨t.1,t.2.1,hd⟩}
theorem gf(hx:l[k]?=some x):cU (di l k d) i+(ig x.2.2.2.2).count i=cU l i+(ig d).count i:=by have h:=kV i (x.1,x.2.1,x.2.2.1,x.2.2.2.1,d) l k x hx;rw[qm,qm]at h;rw[dm hx];exact h
theorem fp(hs:oM l)(hx:l[k]?=some x):kt (di l k d) a b↔(a=x.1/\b∈ig d)\/(a≠x.1/\kt l a b):=by rw[dm hx];exact qY (y:=(x.1,x.2.1,x.2.2.1,x.2.2.2.1,d)) hs hx rfl
theorem rK(hx:l[k]?=some x){j:Nat}{y:cJ}(hy:l[j]?=some y):(di l k d)[j]?=some (y.1,y.2.1,y.2.2.1,y.2.2.2.1,if j=k then d else y.2.2.2.2):=by rw[dm hx];by_cases h:j=k;{subst h;rw[hx]at hy;injection hy with hy;subst hy;rw[List.getElem?_set_self (mE hx).1,if_pos rfl]};{rw[List.getElem?_set_ne (fun e=>h e.symm),hy,if_neg h]}
theorem eN(hs:oM l)(hx:l[k]?=some x){y:cJ}(hy:y∈di l k d):∃z∈l,y.1=z.1/\y.2.1=z.2.1/\y.2.2.1=z.2.2.1:=by rw[dm hx]at hy;rcases(eS hs hx).1 hy with rfl|⟨h,_⟩;{exact⟨x,mD hx,rfl,rfl,rfl⟩};{exact⟨y,h,rfl,rfl,rfl⟩}
theorem px(hs:oM l)(hx:l[k]?=some x):(∃z∈di l k d,z.1=i)↔∃z∈l,z.1=i:=by rw[dm hx];exact xW (y:=(x.1,x.2.1,x.2.2.1,x.2.2.2.1,d)) hs hx rfl
end
theorem BH{next:Int}{l:List cJ}{o:Int}(h:VW next l)(h1:∀y∈l,y.2.1=2->y.2.2.1=1)(hl:∀y∈l,y.1=1\/y.2.2.1=(cU l y.1:Int)+(if y.1=o then 1 else 0))(s:o≠1)(q:∀b,¬kt l o b)(hr:∀y∈l,y.1=o\/vY l y.1)(B:∃y∈l,y.1=o):gH next (kC l o):=by obtain⟨y,hy,c⟩:=B;obtain⟨j,hj⟩:=List.getElem?_of_mem hy;have u:eD l o=some j:=by{rw[<-c];exact fd h.srt hj};have D:=(hl y hy).resolve_left (by rw[c];exact s);rw[if_pos c,c]at D;have J:y.2.2.2.2=[]:=by{rcases he:y.2.2.2.2 with _|⟨e,r⟩;{rfl};{exact absurd ⟨y,hy,c,e,by rw[he];exact List.mem_cons_self,rfl⟩ (q e.2.2.2)}};unfold kC;rw[u];simp only[hj];by_cases g:y.2.2.1=1;{rw[if_pos g];have hn0:cU l o=0:=by{omega};have E:∀a,¬kt l a y.1:=fun a ha=>by{have:=nJ.2 ⟨a,ha⟩;rw[c]at this;omega};have hW:=h.erase hj (by rw[c];exact s) E;have p:∀i,cU (l.eraseIdx j) i=cU l i:=fun i=>by{have:=pu i l j y hj;rw[J]at this;simpa[eB]using this};refine⟨hW,fun z hz=>h1 z ((ij h.srt hj).1 hz).1,fun z hz=>?_,fun z hz=>?_⟩;{obtain⟨hz,d⟩:=(ij h.srt hj).1 hz;rcases hl z hz with h2|h2;{exact .inl h2};{right;rw[h2,p,if_neg (by rw[<-c];exact d)];omega}};{obtain⟨hz,d⟩:=(ij h.srt hj).1 hz;refine iB h.srt hW.srt (fun a b f=>?_) ((hr z hz).resolve_left (by rw[<-c];exact d));exact(zX h.srt hj).2 ⟨fun e=>q b (by rw[<-c,<-e];exact f),f⟩}};{rw[if_neg g];unfold jO;simp only[hj];have C:y.2.1≠2:=fun e=>g (h1 y hy e);have I:D1 (y.1,y.2.1,y.2.2.1-1,y.2.2.2.1,y.2.2.2.2):=h.typ y hy;have hW:VW next (l.set j (y.1,y.2.1,y.2.2.1-1,y.2.2.2.1,y.2.2.2.2)):=h.set hj rfl rfl I (h.ent y hy);have p:∀i,cU (l.set j (y.1,y.2.1,y.2.2.1-1,y.2.2.2.1,y.2.2.2.2)) i=cU l i:=fun i=>by{have h9:cU (l.set j (y.1,y.2.1,y.2.2.1-1,y.2.2.2.1,y.2.2.2.2)) i+eB y.2.2.2.2 i=cU l i+eB y.2.2.2.2 i:=kV i (y.1,y.2.1,y.2.2.1-1,y.2.2.2.1,y.2.2.2.2) l j y hj;omega};have m:∀a b,kt l a b->kt (l.set j (y.1,y.2.1,y.2.2.1-1,y.2.2.2.1,y.2.2.2.2)) a b:=fun a b f=>by{rw[qY (y:=(y.1,y.2.1,y.2.2.1-1,y.2.2.2.1,y.2.2.2.2)) h.srt hj rfl];by_cases n:a=y.1;{exact .inl ⟨n,(mw h.srt hj).1 (n▸f)⟩};{exact .inr ⟨n,f⟩}};have t:0<cU l o:=by{omega};obtain⟨a,ha⟩:=nJ.1 t;have F:vY l o:=by{obtain⟨z,hz,hza,r⟩:=ha;have G:=(hr z hz).resolve_left (fun e=>by{obtain⟨e1,x,A⟩:=r;exact q o ⟨z,hz,e,e1,x,A⟩});exact ji h.srt G ⟨z,hz,rfl,r⟩};have k:∀z∈l,vY l z.1:=fun z hz=>(hr z hz).elim (fun e=>e▸F) id;refine⟨hW,fun z hz=>?_,fun z hz=>?_,fun z hz=>?_⟩;{rcases(eS h.srt hj).1 hz with rfl|⟨hz,_⟩;{exact fun e=>absurd e C};{exact h1 z hz}};{rw[p];rcases(eS h.srt hj).1 hz with rfl|⟨hz,d⟩;{right;show y.2.2.1-1=(cU l y.1:Int);rw[c];omega};{rcases hl z hz with h2|h2;{exact .inl h2};{right;rw[h2,if_neg (by rw[<-c];exact d)];omega}}};{rcases(eS h.srt hj).1 hz with rfl|⟨hz,d⟩;{exact iB h.srt hW.srt m (k y hy)};{exact iB h.srt hW.srt m (k z hz)}}}
theorem gg(a i:Int)(l:List Int):(a::l).count i=l.count i+(if i=a then 1 else 0):=by rw[List.count_cons];by_cases h:i=a;{rw[if_pos h,h,if_pos (by simp)]};{rw[if_neg h,if_neg (by simpa using fun e=>h e.symm)]}
theorem VW.dir{next:Int}{l:List cJ}{k:Nat}{x:cJ}(h:VW next l)(hx:l[k]?=some x)(hd:x.2.1=2):fA x.2.2.2.2:=by rcases h.typ x (mD hx)with t|t;{omega};{exact t.2.2}
theorem jj {d:List cI} {e:cI} (h:e∈d):e.2.2.2∈ig d:=List.mem_map_of_mem h
theorem D3{d:List cI}{b:Int}(h:b∈ig d):∃e∈d,e.2.2.2=b:=by obtain⟨e,h1,h2⟩:=List.mem_map.1 h;exact⟨e,h1,h2⟩
theorem VW.ids{next:Int}{l:List cJ}{k:Nat}{x:cJ}(h:VW next l)(hx:l[k]?=some x){b:Int}(hb:b∈ig x.2.2.2.2):b≠1/\∃z∈l,z.1=b:=by obtain⟨e,he,rfl⟩:=D3 hb;exact h.ent x (mD hx) e he
theorem VW.inB_id{next:Int}{l:List cJ}{x:cJ}(h:VW next l)(hx:x∈l):cY x.1 1 100000=true:=by have h1:=h.rng x hx;have h2:=h.hi;exact dh.2 ⟨h1.1,by omega⟩
theorem VW.dirs_ne {next:Int} {l:List cJ} (h:VW next l) {x:cJ} (hx:x∈l) (hk:x.2.1≠2):x.1≠1:=fun e=>by
 obtain⟨r,hr,r1,r2⟩:=h.root_mem;have:=jh h.srt hx hr (e.trans r1.symm);subst this;exact hk r2
theorem qZ{l:List cJ}{k:Nat}{x:cJ}{d:List cI}(hs:oM l)(hx:l[k]?=some x)(hd:∀b∈ig x.2.2.2.2,b∈ig d){a b:Int}(h:kt l a b):kt (di l k d) a b:=by rw[fp hs hx];by_cases e:a=x.1;{exact .inl ⟨e,hd b ((mw hs hx).1 (e▸h))⟩};{exact .inr ⟨e,h⟩}
theorem D4 {next:Int} {l:List cJ} {k:Nat} {x:cJ} {c:dY} (h:gH next l) (hx:l[k]?=some x) (hd:x.2.1=2) (hn:dH (cO c.2.2.1)=true):gH (eu next l k c).1.1 (eu next l k c).1.2:=by
 unfold eu;rw[dr hx]
 by_cases h1:(dJ x.2.2.2.2 (cO c.2.2.1)).isSome=true
 ·rw[if_pos h1];exact h
 rw[if_neg h1]
 by_cases h2:12<=x.2.2.2.2.length\/16<=l.length\/100000<=next
 ·rw[if_pos h2];exact h
 rw[if_neg h2];have hlo:=h.lo;have r:=mD hx;have hk:=(mE hx).1;have m:=h.toVW.dir hx hd;have hp:=uJ (id:=next) hn (by simpa using h1) (dh.2 ⟨by omega,by omega⟩) (by omega:x.2.2.2.2.length<12);have o:=uF m c.2.2.1 next
 generalize (eI x.2.2.2.2 c.2.2.1 next).1=d at hp o
 obtain⟨n,g⟩:∃n:cJ,n=(next,(if c.1=2 then 2 else 1),1,⟨#[]⟩,[]):=⟨_,rfl⟩
 show gH (next+1) (di l k d++[(next,(if c.1=2 then 2 else 1),1,⟨#[]⟩,[])])
 rw[<-g];have n1:n.1=next:=by rw[g]
 have n3:n.2.2.1=1:=by rw[g]
 have n5:n.2.2.2.2=[]:=by rw[g]
 have nt:D1 n:=by
  rw[g]
  by_cases hc:c.1=2
  ·exact .inr ⟨if_pos hc,rfl,vN⟩
  ·exact .inl ⟨if_neg hc,rfl,Nat.zero_le _⟩
 clear g;have hA:=h.toVW.app n1 nt n5 (by omega) (by omega);have f:(l++[n])[k]?=some x:=by rw[List.getElem?_append_left hk,hx]
 have he:di l k d++[n]=di (l++[n]) k d:=by rw[dm hx,dm f,List.set_append_left _ _ hk]
 rw[he];have hW:VW (next+1) (di (l++[n]) k d):=kg hA f hd o fun e he=>by
  rcases List.mem_cons.1 (hp.mem_iff.1 (jj he))with h3|h3
  ·rw[h3];exact⟨by omega,n,by simp,n1⟩
  ·obtain⟨h4,z,hz,h5⟩:=h.toVW.ids hx h3
   exact⟨h4,z,by simp[hz],h5⟩
 have q:∀i,cU (di (l++[n]) k d) i=cU l i+(if i=next then 1 else 0):=fun i=>by
  have h3:=gf (d:=d) (i:=i) f;rw[hp.count_eq,gg,oo]at h3;have h4:cU [n] i=0:=by rw[ev,n5];simp[eB,cU]
  omega
 have s:cU l next=0:=xU fun a ⟨y,hy,_,e,he,hen⟩=>by
  obtain⟨_,z,hz,h5⟩:=h.ent y hy e he;have:=h.rng z hz;omega
 have j:∀a b,kt l a b->kt (di (l++[n]) k d) a b:=fun a b p=>
  qZ hA.srt f (fun b hb=>hp.mem_iff.2 (List.mem_cons_of_mem _ hb)) ((De n5).2 p)
 refine⟨hW,fun y hy=>?_,fun y hy=>?_,fun y hy=>?_⟩
 ·obtain⟨z,hz,e1,e2,e3⟩:=eN hA.srt f hy
  rw[e2,e3]
  rcases List.mem_append.1 hz with hz|hz
  ·exact h.one z hz
  ·rw[List.mem_singleton.1 hz];exact fun _=>n3
 ·obtain⟨z,hz,e1,e2,e3⟩:=eN hA.srt f hy
  rw[e1,e3,q]
  rcases List.mem_append.1 hz with hz|hz
  ·have:=h.rng z hz
   rcases h.lnk z hz with h4|h4
   ·exact .inl h4
   ·right;rw[h4,if_neg (by omega)];rfl
  ·rw[List.mem_singleton.1 hz,n1,n3,if_pos rfl,s];exact .inr rfl
 ·obtain⟨z,hz,e1,e2,e3⟩:=eN hA.srt f hy
  rw[e1]
  rcases List.mem_append.1 hz with hz|hz
  ·exact iB h.srt hW.srt j (h.rch z hz)
  ·rw[List.mem_singleton.1 hz,n1]
   refine ji hW.srt (iB h.srt hW.srt j (h.rch x r)) ?_;rw[fp hA.srt f];exact .inl ⟨rfl,hp.mem_iff.2 List.mem_cons_self⟩
theorem D5{next:Int}{l:List cJ}{t xi:Nat}{y x:cJ}{c:dY}(h:gH next l)(ht:l[t]?=some y)(hd:y.2.1=2)(hx:l[xi]?=some x)(hn:dH (cO c.2.2.2.2.1)=true):gH (gG next l t xi x c).1.1 (gG next l t xi x c).1.2:=by unfold gG;rw[dr ht];by_cases h0:x.2.1=2;{rw[if_pos h0];exact h};rw[if_neg h0];by_cases h1:(dJ y.2.2.2.2 (cO c.2.2.2.2.1)).isSome=true;{rw[if_pos h1];exact h};rw[if_neg h1];by_cases h2:12<=y.2.2.2.2.length;{rw[if_pos h2];exact h};rw[if_neg h2];have m:=mD hx;have C:xi≠t:=fun e=>by{subst e;rw[hx]at ht;injection ht with ht;subst ht;exact h0 hd};have r:=h.toVW.dir ht hd;have hp:=uJ (id:=x.1) hn (by simpa using h1) (h.toVW.inB_id m) (by omega:y.2.2.2.2.length<12);have s:=uF r c.2.2.2.2.1 x.1;generalize (eI y.2.2.2.2 c.2.2.2.2.1 x.1).1=d at hp s;show gH next (jO (di l t d) xi (x.2.2.1+1));have B:=h.toVW.dirs_ne m h0;have g:VW next (di l t d):=kg h.toVW ht hd s fun e he=>by{rcases List.mem_cons.1 (hp.mem_iff.1 (jj he))with h3|h3;{rw[h3];exact⟨B,x,m,rfl⟩};{exact h.toVW.ids ht h3}};have f:(di l t d)[xi]?=some x:=by{rw[rK ht hx,if_neg C]};have u:∀i,cU (di l t d) i=cU l i+(if i=x.1 then 1 else 0):=fun i=>by{have h3:=gf (d:=d) (i:=i) ht;rw[hp.count_eq,gg]at h3;omega};have n:∀a b,kt l a b->kt (di l t d) a b:=fun a b p=>qZ h.srt ht (fun b hb=>hp.mem_iff.2 (List.mem_cons_of_mem _ hb)) p;have k:=fun {z:cJ} (hz:z∈di l t d)=>eN h.srt ht hz;generalize di l t d=l1 at g f u n k;unfold jO;simp only[f];obtain⟨x',j⟩:∃x':cJ,x'=(x.1,x.2.1,x.2.2.1+1,x.2.2.2.1,x.2.2.2.2):=⟨_,rfl⟩;rw[<-j];have x1:x'.1=x.1:=by{rw[j]};have x2:x'.2.1=x.2.1:=by{rw[j]};have x3:x'.2.2.1=x.2.2.1+1:=by{rw[j]};have x5:x'.2.2.2.2=x.2.2.2.2:=by{rw[j]};have xt:D1 x':=by{rw[j];exact h.typ x m};clear j;have hW:VW next (l1.set xi x'):=g.set f x1 x2 xt (by rw[x5];exact g.ent x (mD f));have A:∀i,cU (l1.set xi x') i=cU l1 i:=fun i=>by{have:=kV i x' l1 xi x f;rw[x5]at this;omega};have o:∀a b,kt l a b->kt (l1.set xi x') a b:=fun a b p=>by{rw[qY g.srt f x1];by_cases e:a=x.1;{exact .inl ⟨e,by rw[x5];exact(mw g.srt f).1 (e▸n a b p)⟩};{exact .inr ⟨e,n a b p⟩}};refine⟨hW,fun z hz=>?_,fun z hz=>?_,fun z hz=>?_⟩;{rcases(eS g.srt f).1 hz with rfl|⟨hz,_⟩;{rw[x2];exact fun e=>absurd e h0};{obtain⟨q,hq,e1,e2,e3⟩:=k hz;rw[e2,e3];exact h.one q hq}};{rw[A,u];rcases(eS g.srt f).1 hz with rfl|⟨hz,hne2⟩;{right;rw[x1,x3,if_pos rfl,(h.lnk x m).resolve_left B];rfl};{obtain⟨q,hq,e1,e2,e3⟩:=k hz;rw[if_neg hne2,e1,e3];exact h.lnk q hq}};{rcases(eS g.srt f).1 hz with rfl|⟨hz,hne2⟩;{rw[x1];exact iB h.srt hW.srt o (h.rch x m)};{obtain⟨q,hq,e1,e2,e3⟩:=k hz;rw[e1];exact iB h.srt hW.srt o (h.rch q hq)}}
theorem D6{next:Int}{l:List cJ}{xi:Nat}{x:cJ}{s:ByteArray}(h:gH next l)(hx:l[xi]?=some x)(h0:x.2.1≠2)(hs:s.size<=20):gH next (rE l xi s):=by have c:=mD hx;unfold rE;simp only[hx];have xt:D1 (x.1,x.2.1,x.2.2.1,s,x.2.2.2.2):=by{rcases h.typ x c with t|t;{exact .inl ⟨t.1,t.2.1,hs⟩};{exact absurd t.1 h0}};have hW:VW next (l.set xi (x.1,x.2.1,x.2.2.1,s,x.2.2.2.2)):=h.toVW.set hx rfl rfl xt (h.ent x c);have g:∀i,cU (l.set xi (x.1,x.2.1,x.2.2.1,s,x.2.2.2.2)) i=cU l i:=fun i=>by{have h9:cU (l.set xi (x.1,x.2.1,x.2.2.1,s,x.2.2.2.2)) i+eB x.2.2.2.2 i=cU l i+eB x.2.2.2.2 i:=kV i (x.1,x.2.1,x.2.2.1,s,x.2.2.2.2) l xi x hx;omega};have d:∀a b,kt l a b->kt (l.set xi (x.1,x.2.1,x.2.2.1,s,x.2.2.2.2)) a b:=fun a b f=>by{rw[qY (y:=(x.1,x.2.1,x.2.2.1,s,x.2.2.2.2)) h.srt hx rfl];by_cases e:a=x.1;{exact .inl ⟨e,(mw h.srt hx).1 (e▸f)⟩};{exact .inr ⟨e,f⟩}};refine⟨hW,fun z hz=>?_,fun z hz=>?_,fun z hz=>?_⟩;{rcases(eS h.srt hx).1 hz with rfl|⟨hz,_⟩;{exact h.one x c};{exact h.one z hz}};{rw[g];rcases(eS h.srt hx).1 hz with rfl|⟨hz,_⟩;{exact h.lnk x c};{exact h.lnk z hz}};{rcases(eS h.srt hx).1 hz with rfl|⟨hz,_⟩;{exact iB h.srt hW.srt d (h.rch x c)};{exact iB h.srt hW.srt d (h.rch z hz)}}
theorem EJ{next:Int}{l:List cJ}{k xi:Nat}{y x:cJ}{s:ByteArray}{e:cI}(h:gH next l)(hy:l[k]?=some y)(hd:y.2.1=2)(hl:dX y.2.2.2.2 s=some e)(hx:l[xi]?=some x)(n:e.2.2.2=x.1)(h5:x.2.2.2.2=[]):gH next (kC (di l k (da y.2.2.2.2 s).1) x.1):=by have m:=mD hx;have f:=h.toVW.dir hy hd;have hp:=gW hl;have g:=jY f s;rw[n]at hp;generalize (da y.2.2.2.2 s).1=d at hp g;have p:x.1≠1:=(h.toVW.ids hy (hp.mem_iff.2 List.mem_cons_self)).1;have hW:VW next (di l k d):=kg h.toVW hy hd g fun e he=>h.toVW.ids hy (hp.mem_iff.2 (List.mem_cons_of_mem _ (jj he)));have o:∀i,cU l i=cU (di l k d) i+(if i=x.1 then 1 else 0):=fun i=>by{have h3:=gf (d:=d) (i:=i) hy;rw[hp.count_eq,gg]at h3;omega};have j:∀b,¬kt l x.1 b:=fun b hb=>by{have h6:=(mw h.srt hx).1 hb;rw[h5]at h6;simp[ig]at h6};have r:x.1≠y.1:=fun e2=>by{have:=jh h.srt m (mD hy) e2;subst this;rw[h5]at hp;exact absurd hp.length_eq (by simp[ig])};refine BH hW (fun z hz=>?_) (fun z hz=>?_) p (fun b hb=>?_) (fun z hz=>?_) ((px h.srt hy).2 ⟨x,m,rfl⟩);{obtain⟨q,hq,e1,e2,e3⟩:=eN h.srt hy hz;rw[e2,e3];exact h.one q hq};{obtain⟨q,hq,e1,e2,e3⟩:=eN h.srt hy hz;rw[e1,e3];rcases h.lnk q hq with h6|h6;{exact .inl h6};{right;rw[h6,o];split<;>simp}};{rcases(fp h.srt hy).1 hb with⟨e1,_⟩|⟨_,h6⟩;{exact r e1};{exact j b h6}};{obtain⟨q,hq,e1,e2,e3⟩:=eN h.srt hy hz;rw[e1];refine BG h.srt hW.srt (fun a b c=>?_) j (h.rch q hq);by_cases hb:b=x.1;{exact .inr hb};{left;rw[fp h.srt hy];by_cases e4:a=y.1;{refine .inl ⟨e4,?_⟩;have h6:=(mw h.srt hy).1 (e4▸c);exact(List.mem_cons.1 (hp.mem_iff.1 h6)).resolve_left hb};{exact .inr ⟨e4,c⟩}}}
theorem D7{next:Int}{l:List cJ}{k:Nat}{y:cJ}{d:List cI}(h:gH next l)(hy:l[k]?=some y)(hd:y.2.1=2)(f:fA d)(hp:(ig d).Perm (ig y.2.2.2.2)):gH next (di l k d):=by have hW:VW next (di l k d):=kg h.toVW hy hd f fun e he=>h.toVW.ids hy (hp.mem_iff.1 (jj he));have g:∀i,cU (di l k d) i=cU l i:=fun i=>by{have h3:=gf (d:=d) (i:=i) hy;rw[hp.count_eq]at h3;omega};refine⟨hW,fun z hz=>?_,fun z hz=>?_,fun z hz=>?_⟩;{obtain⟨q,hq,e1,e2,e3⟩:=eN h.srt hy hz;rw[e2,e3];exact h.one q hq};{obtain⟨q,hq,e1,e2,e3⟩:=eN h.srt hy hz;rw[e1,e3,g];exact h.lnk q hq};{obtain⟨q,hq,e1,e2,e3⟩:=eN h.srt hy hz;rw[e1];exact iB h.srt hW.srt (fun a b c=>qZ h.srt hy (fun b hb=>hp.mem_iff.2 hb) c) (h.rch q hq)}
theorem Df{l:List cJ}(h:oM l){a b:Int}(hb:nl l a b):∃c,kt l a c:=by induction hb with|one hk=>{exact⟨_,(ii h).1 hk⟩}|more _ _ ih=>{exact ih}
theorem mx{d:List cI}{s:ByteArray}(h:dX d s=none):dJ d (cO s)=none:=by cases h1:dJ d (cO s)with|none=>{rfl}|some k=>{obtain⟨e,h2,_⟩:=gQ h1;rw[dX,h1,Option.bind_some,h2]at h;cases h}
theorem lw{d:List cI}{s:List UInt8}(h:∀e∈d,eA (cO e.2.2.1) s=false):dJ d s=none:=by rw[dJ,List.findIdx?_eq_none_iff];intro e he;simp[h e he]
theorem fU{d:List cI}{s:ByteArray}{e:cI}(h:dX d s=some e):e∈d:=by obtain⟨k,_,h2⟩:=iJ h;exact mD h2
theorem kW(d:List cI)(s:ByteArray):(da d s).1.Sublist d:=by rw[da];split;{exact List.Sublist.refl _};{exact List.eraseIdx_sublist _ _}
theorem wj{next:Int}{l:List cJ}{x y:cJ}(h:gH next l)(hx:x∈l)(hy:y∈l)(f:y.2.1=2)(a:¬(x.2.1=2/\(y.1=x.1\/nl l x.1 y.1))):y.1≠x.1/\¬nl l x.1 y.1:=by by_cases b:x.2.1=2;{exact⟨fun e=>a ⟨b,.inl e⟩,fun e=>a ⟨b,.inr e⟩⟩};{refine⟨fun e=>?_,fun e=>?_⟩;{have:=jh h.srt hy hx e;subst this;exact b f};{obtain⟨c,z,hz,g,en,d,_⟩:=Df h.srt e;have:=jh h.srt hz hx g;subst this;rcases h.typ z hx with t|t;{rw[t.2.1]at d;simp at d};{exact b t.1}}}
theorem E7 {next:Int} {l:List cJ} {k t:Nat} {yk yt x:cJ} {s s2:ByteArray} {e:cI} (h:gH next l) (hk:l[k]?=some yk) (R:yk.2.1=2) (ht:l[t]?=some yt) (U:yt.2.1=2) (hl:dX yk.2.2.2.2 s=some e) (I:x∈l) (V:e.2.2.2=x.1)
 (Y:dH (cO s2)=true) (a4:dX yt.2.2.2.2 s2=none) (S:k≠t->yt.2.2.2.2.length<12) (F:¬(x.2.1=2/\(yt.1=x.1\/nl l x.1 yt.1))) :
 gH next (di (di l k (da yk.2.2.2.2 s).1) t (eI (dN (di l k (da yk.2.2.2.2 s).1) t) s2 x.1).1):=by
 have G:=mD ht;have M:=h.toVW.dir hk R;have hp:=gW hl;have N:=jY M s;have D:=kW yk.2.2.2.2 s;rw[V]at hp
 generalize (da yk.2.2.2.2 s).1=d1 at hp N D
 have a5:x.1≠1:=(h.toVW.ids hk (hp.mem_iff.2 List.mem_cons_self)).1;have g:VW next (di l k d1):=kg h.toVW hk R N fun e he=>h.toVW.ids hk (hp.mem_iff.2 (List.mem_cons_of_mem _ (jj he)));have C:∀i,cU l i=cU (di l k d1) i+(if i=x.1 then 1 else 0):=fun i=>by
  have h3:=gf (d:=d1) (i:=i) hk;rw[hp.count_eq,gg]at h3;omega
 have c:=rK (d:=d1) hk ht;have L:dJ yt.2.2.2.2 (cO s2)=none:=mx a4;obtain⟨dt,E⟩:∃dt,dt=if t=k then d1 else yt.2.2.2.2:=⟨_,rfl⟩;rw[<-E]at c;have Q:dJ dt (cO s2)=none:=lw fun e he=>gR L e (by
  rw[E]at he
  split at he
  ·rename_i hh;subst hh
   rw[hk]at ht;injection ht with ht;subst ht;exact D.subset he
  ·exact he)
 have P:dt.length<12:=by
  rw[E]
  split
  ·have h3:=hp.length_eq
   have h4:=M.len;simp only[ig,List.length_map,List.length_cons]at h3;omega
  ·rename_i hh;exact S fun e=>hh e.symm
 have n:=fun {z:cJ} (hz:z∈di l k d1)=>eN h.srt hk hz;have m:∀a b,kt l a b->b≠x.1->kt (di l k d1) a b:=fun a b u hb=>by
  rw[fp h.srt hk]
  by_cases e4:a=yk.1
  ·exact .inl ⟨e4,(List.mem_cons.1 (hp.mem_iff.1 ((mw h.srt hk).1 (e4▸u)))).resolve_left hb⟩
  ·exact .inr ⟨e4,u⟩
 have B:∃z∈di l k d1,z.1=x.1:=(px h.srt hk).2 ⟨x,I,rfl⟩
 generalize di l k d1=l1 at g C c n m B
 obtain⟨J,f⟩:∃y:cJ,y=(yt.1,yt.2.1,yt.2.2.1,yt.2.2.2.1,dt):=⟨_,rfl⟩;rw[<-f]at c;have y1:J.1=yt.1:=by rw[f]
 have y2:J.2.1=2:=by rw[f];exact U
 have y5:J.2.2.2.2=dt:=by rw[f]
 clear f;have p:=uJ (d:=dt) (id:=x.1) Y Q (h.toVW.inB_id I) P;have O:fA dt:=by have:=g.dir c y2;rwa [y5]at this
 have A:=uF O s2 x.1;rw[dr c,y5]
 generalize (eI dt s2 x.1).1=d2 at p A
 have K:VW next (di l1 t d2):=kg g c y2 A fun e he=>by
  rcases List.mem_cons.1 (p.mem_iff.1 (jj he))with h3|h3
  ·rw[h3];exact⟨a5,B⟩
  ·exact g.ids c (by rw[y5];exact h3)
 have T:∀i,cU (di l1 t d2) i=cU l i:=fun i=>by
  have h3:=gf (d:=d2) (i:=i) c;rw[p.count_eq,gg,y5]at h3;have:=C i;omega
 have j:∀{z:cJ},z∈di l1 t d2->∃q∈l,z.1=q.1/\z.2.1=q.2.1/\z.2.2.1=q.2.2.1:=fun hz=>by
  obtain⟨q,hq,a1,a2,a3⟩:=eN g.srt c hz;obtain⟨r,hr,b1,b2,b3⟩:=n hq;exact⟨r,hr,a1.trans b1,a2.trans b2,a3.trans b3⟩
 obtain⟨a0,Z⟩:=wj h I G U F;have X:=vZ (o:=0) h.srt K.srt (x:=x.1) (t:=yt.1) (fun a b u=>by
  by_cases hb:b=x.1
  ·exact .inr (.inl hb)
  ·exact .inl (qZ g.srt c (fun b hb=>p.mem_iff.2 (List.mem_cons_of_mem _ (by rw[<-y5];exact hb))) (m a b u hb)))
  (fun b ⟨z,hz,e0,_⟩=>by have:=h.rng z hz;omega)
  ((fp g.srt c).2 (.inl ⟨y1.symm,p.mem_iff.2 List.mem_cons_self⟩)) a0 Z (by have:=h.rng yt G;omega) (h.rch yt G)
 refine⟨K,fun z hz=>?_,fun z hz=>?_,fun z hz=>?_⟩
 ·obtain⟨q,hq,a1,a2,a3⟩:=j hz
  rw[a2,a3];exact h.one q hq
 ·obtain⟨q,hq,a1,a2,a3⟩:=j hz
  rw[a1,a3,T];exact h.lnk q hq
 ·obtain⟨q,hq,a1,a2,a3⟩:=j hz
  rw[a1];exact(X _ (h.rch q hq)).resolve_left (by have:=h.rng q hq;omega)
theorem tN{d:List cI}{s s2:ByteArray}{id:Int}{e e2:cI}(h2:dX d s2=some e2)(h1:dX d s=some e)(c:e2≠e)(b:cY id 1 100000=true):dX (dK d s2 id).1 s=some e:=by obtain⟨j,a1,a2⟩:=iJ h1;obtain⟨j2,b1,b2⟩:=iJ h2;have hj:j2≠j:=fun hh=>by{subst hh;rw[a2]at b2;injection b2 with b2;exact c b2.symm};obtain⟨c1,c2,c3⟩:=List.findIdx?_eq_some_iff_getElem.1 a1;obtain⟨q2,d2,d3⟩:=gQ b1;rw[b2]at d2;injection d2 with d2;subst d2;rw[lX b1 b2 b];have hj2:=(mE b2).1;have h3:dJ (d.set j2 (e2.1,e2.2.1,s2,id)) (cO s)=some j:=by{refine List.findIdx?_eq_some_iff_getElem.2 ⟨by rw[List.length_set];exact c1,?_,fun i hi=>?_⟩;{rw[List.getElem_set_ne hj];exact c2};{by_cases a:j2=i;{subst a;rw[List.getElem_set_self];intro hh;have h5:=oH d3 hh;have h6:=c3 j2 hi;rw[(mE b2).2]at h6;exact h6 h5};{rw[List.getElem_set_ne a];exact c3 i hi}}};rw[dX,h3,Option.bind_some,List.getElem?_set_ne hj,a2]
theorem D8 {next:Int} {l:List cJ} {k t:Nat} {yk yt x o:cJ} {s s2:ByteArray} {e e2:cI} (h:gH next l) (hk:l[k]?=some yk) (af:yk.2.1=2) (ht:l[t]?=some yt) (U:yt.2.1=2) (hl:dX yk.2.2.2.2 s=some e) (I:x∈l) (E:e.2.2.2=x.1)
 (B:dX yt.2.2.2.2 s2=some e2) (F:o∈l) (Q:e2.2.2.2=o.1) (a7:o.1≠x.1) (T:o.2.2.2.2=[]) (S:¬(x.2.1=2/\(yt.1=x.1\/nl l x.1 yt.1))) :
 gH next (kC (di (di l t (dK yt.2.2.2.2 s2 x.1).1) k (da (dN (di l t (dK yt.2.2.2.2 s2 x.1).1) k) s).1) o.1):=by
 have G:=mD ht;have a4:=mD hk;have ae:=h.toVW.dir ht U;have u:=gW B;have p:=wi B (h.toVW.inB_id I);have Z:=pm ae s2 x.1;have a5:k=t->dX (dK yt.2.2.2.2 s2 x.1).1 s=some e:=fun hh=>by
  subst hh;rw[hk]at ht;injection ht with ht;subst ht;exact tN B hl (fun e3=>a7 (by rw[<-Q,<-E,e3])) (h.toVW.inB_id I)
 rw[Q]at u
 generalize (dK yt.2.2.2.2 s2 x.1).1=d1 at p Z a5
 generalize ig (da yt.2.2.2.2 s2).1=r at u p
 have am:x.1≠1:=(h.toVW.ids hk (by rw[<-E];exact jj (fU hl))).1;have ak:o.1≠1:=(h.toVW.ids ht (by rw[<-Q];exact jj (fU B))).1;have aa:o.1≠yk.1:=fun e3=>by
  have:=jh h.srt F a4 e3;subst this;have:=fU hl;rw[T]at this;simp at this
 have N:o.1≠yt.1:=fun e3=>by
  have:=jh h.srt F G e3;subst this;have:=fU B;rw[T]at this;simp at this
 have a9:∀b,¬kt l o.1 b:=fun b ⟨z,hz,e0,en,a0,_⟩=>by
  have:=jh h.srt hz F e0;subst this;rw[T]at a0;simp at a0
 have f:VW next (di l t d1):=kg h.toVW ht U Z fun en he=>by
  rcases List.mem_cons.1 (p.mem_iff.1 (jj he))with h3|h3
  ·rw[h3];exact⟨am,x,I,rfl⟩
  ·exact h.toVW.ids ht (u.mem_iff.2 (List.mem_cons_of_mem _ h3))
 have M:∀i,cU (di l t d1) i+(if i=o.1 then 1 else 0)=cU l i+(if i=x.1 then 1 else 0):=fun i=>by
  have h3:=gf (d:=d1) (i:=i) ht;rw[u.count_eq,p.count_eq,gg,gg]at h3;omega
 have c:=rK (d:=d1) ht hk;obtain⟨dk,P⟩:∃dk,dk=if k=t then d1 else yk.2.2.2.2:=⟨_,rfl⟩;rw[<-P]at c;have a6:dX dk s=some e:=by
  rw[P];split
  ·rename_i hh;exact a5 hh
  ·exact hl
 have C:=fun {z:cJ} (hz:z∈di l t d1)=>eN h.srt ht hz;have A:∀a b,kt l a b->b≠o.1->kt (di l t d1) a b:=fun a b j hb=>by
  rw[fp h.srt ht]
  by_cases e4:a=yt.1
  ·exact .inl ⟨e4,p.mem_iff.2 (List.mem_cons_of_mem _ ((List.mem_cons.1 (u.mem_iff.1 ((mw h.srt ht).1 (e4▸j)))).resolve_left hb))⟩
  ·exact .inr ⟨e4,j⟩
 have L:∀b,¬kt (di l t d1) o.1 b:=fun b hb=>by
  rcases(fp h.srt ht).1 hb with⟨e3,_⟩|⟨_,h3⟩
  ·exact N e3
  ·exact a9 b h3
 have K:∃z∈di l t d1,z.1=o.1:=(px h.srt ht).2 ⟨o,F,rfl⟩;have O:kt (di l t d1) yt.1 x.1:=(fp h.srt ht).2 (.inl ⟨rfl,p.mem_iff.2 List.mem_cons_self⟩)
 generalize di l t d1=l1 at f M c C A L K O
 obtain⟨D,g⟩:∃y:cJ,y=(yk.1,yk.2.1,yk.2.2.1,yk.2.2.2.1,dk):=⟨_,rfl⟩;rw[<-g]at c;have y1:D.1=yk.1:=by rw[g]
 have y2:D.2.1=2:=by rw[g];exact af
 have y5:D.2.2.2.2=dk:=by rw[g]
 clear g;rw[dr c,y5];have n:=gW a6;rw[E]at n;have Y:fA dk:=by have:=f.dir c y2;rwa [y5]at this
 have J:=jY Y s
 generalize (da dk s).1=d2 at n J
 have V:VW next (di l1 k d2):=kg f c y2 J fun en he=>f.ids c (by rw[y5];exact n.mem_iff.2 (List.mem_cons_of_mem _ (jj he)));have a8:∀i,cU l i=cU (di l1 k d2) i+(if i=o.1 then 1 else 0):=fun i=>by
  have h3:=gf (d:=d2) (i:=i) c;rw[y5,n.count_eq,gg]at h3;have:=M i;omega
 have m:∀{z:cJ},z∈di l1 k d2->∃q∈l,z.1=q.1/\z.2.1=q.2.1/\z.2.2.1=q.2.2.1:=fun hz=>by
  obtain⟨q,hq,a1,a2,a3⟩:=eN f.srt c hz;obtain⟨r,hr,b1,b2,b3⟩:=C hq;exact⟨r,hr,a1.trans b1,a2.trans b2,a3.trans b3⟩
 have R:∀a b,kt l1 a b->b≠x.1->kt (di l1 k d2) a b:=fun a b j hb=>by
  rw[fp f.srt c]
  by_cases e4:a=D.1
  ·exact .inl ⟨e4,(List.mem_cons.1 (n.mem_iff.1 (by rw[<-y5];exact(mw f.srt c).1 (e4▸j)))).resolve_left hb⟩
  ·exact .inr ⟨e4,j⟩
 have ab:kt (di l1 k d2) yt.1 x.1:=by
  rw[fp f.srt c]
  by_cases e4:yt.1=D.1
  ·left
   refine⟨e4,?_⟩;have ac:yt=yk:=jh h.srt G a4 (e4.trans y1);have ag:k=t:=by
    have a1:=fd h.srt hk;have a2:=fd h.srt ht;rw[ac,a1]at a2;injection a2
   have ad:dk=d1:=by rw[P,if_pos ag]
   rw[ad]at n;have h6:(ig d2).Perm r:=List.Perm.cons_inv (n.symm.trans p);refine h6.mem_iff.2 ?_;have h7:x.1∈ig yt.2.2.2.2:=by rw[ac,<-E];exact jj (fU hl)
   exact(List.mem_cons.1 (u.mem_iff.1 h7)).resolve_left fun e5=>a7 e5.symm
  ·exact .inr ⟨e4,O⟩
 obtain⟨aj,ai⟩:=wj h I G U S;have ah:=vZ (o:=o.1) h.srt V.srt (x:=x.1) (t:=yt.1) (fun a b j=>by
  by_cases hb:b=x.1
  ·exact .inr (.inl hb)
  ·by_cases X:b=o.1
   ·exact .inr (.inr X)
   ·exact .inl (R a b (A a b j X) hb))
  a9 ab aj ai (fun e3=>N e3.symm) (h.rch yt G)
 refine BH V (fun z hz=>?_) (fun z hz=>?_) ak (fun b hb=>?_) (fun z hz=>?_) ((px f.srt c).2 K)
 ·obtain⟨q,hq,a1,a2,a3⟩:=m hz
  rw[a2,a3];exact h.one q hq
 ·obtain⟨q,hq,a1,a2,a3⟩:=m hz
  rw[a1,a3]
  rcases h.lnk q hq with h6|h6
  ·exact .inl h6
  ·right;rw[h6,a8];split<;>simp
 ·rcases(fp f.srt c).1 hb with⟨e3,_⟩|⟨_,h3⟩
  ·exact aa (e3.trans y1)
  ·exact L b h3
 ·obtain⟨q,hq,a1,a2,a3⟩:=m hz
  rw[a1];exact ah _ (h.rch q hq)
theorem Dg{next:Int}{l:List cJ}{x o:cJ}(h:gH next l)(hx:x∈l)(ho:o∈l)(hc:eg x o=0):o.2.2.2.2=[]:=by unfold eg at hc;rcases h.typ o ho with t|t;{exact t.2.1};{by_cases b:x.2.1=2;{rw[if_neg (by omega)]at hc;split at hc;{omega};{rename_i hh;rcases he:o.2.2.2.2 with _|⟨a,r⟩;{rfl};{exact absurd ⟨b,by rw[he];simp⟩ hh}}};{rw[if_neg (by omega),if_neg (by simp[b]),if_pos ⟨b,t.1⟩]at hc;omega}}
theorem i6 {l:List cJ} {i:Int} {k:Nat} (h:eD l i=some k):∃y,l[k]?=some y/\y.1=i:=lY h
theorem EK{next:Int}{l:List cJ}{k t:Nat}{yk yt x:cJ}{e:cI}{c:dY}(h:gH next l)(hk:l[k]?=some yk)(i:yk.2.1=2)(u:yk.1=c.2.1)(ht:l[t]?=some yt)(d:yt.2.1=2)(r:yt.1=c.2.2.2.1)(hl:dX yk.2.2.2.2 c.2.2.1=some e)(f:x∈l)(g:e.2.2.2=x.1)(z:dH (cO c.2.2.2.2.1)=true):gH (dP next l k t x c).1.1 (dP next l k t x c).1.2:=by unfold dP;rw[dr ht,dr hk];by_cases a:x.2.1=2/\(c.2.2.2.1=x.1\/nl l x.1 c.2.2.2.1);{rw[if_pos a];exact h};rw[if_neg a];rw[<-r]at a;cases h2:dX yt.2.2.2.2 c.2.2.2.2.1 with|none=>{simp only;by_cases h3:c.2.1≠c.2.2.2.1/\12<=yt.2.2.2.2.length;{rw[if_pos h3];exact h};rw[if_neg h3];refine E7 h hk i ht d hl f g z h2 (fun y=>?_) a;have:c.2.1≠c.2.2.2.1:=fun e4=>y (by{have a1:=fd h.srt hk;have a2:=fd h.srt ht;rw[u,e4,<-r,a2]at a1;injection a1 with a1;exact a1.symm});have:=fun s=>h3 ⟨this,s⟩;omega}|some e2=>{simp only;by_cases h3:e2.2.2.2=x.1;{rw[if_pos h3];by_cases h4:c.2.1=c.2.2.2.1/\eA (cO c.2.2.1) (cO c.2.2.2.2.1)=true;{rw[if_pos h4];have q:=gW h2;have A:=wi h2 (h.toVW.inB_id f);rw[h3]at q;exact D7 h ht d (pm (h.toVW.dir ht d) _ _) (A.trans q.symm)};{rw[if_neg h4];exact h}};{rw[if_neg h3];cases h5:(eD l e2.2.2.2).bind fun j=>l[j]? with|none=>{exact h}|some o=>{rw[Option.bind_eq_some_iff]at h5;obtain⟨j,hj,n⟩:=h5;obtain⟨o',b,m⟩:=i6 hj;rw[n]at b;injection b with b;subst b;simp only;by_cases h6:eg x o≠0;{rw[if_pos h6];exact h};{rw[if_neg h6];have p:=mD n;exact D8 h hk i ht d hl f g h2 p m.symm (by rw[m];exact h3) (Dg h f p (by omega)) a}}}}
theorem yY{l:List cJ}{c:dY}(h:dI l c=0):∃k t yk yt,eD l c.2.1=some k/\eD l (if jA c.1=true then c.2.2.2.1 else c.2.1)=some t/\l[k]?=some yk/\yk.1=c.2.1/\yk.2.1=2/\l[t]?=some yt/\yt.1=(if jA c.1=true then c.2.2.2.1 else c.2.1)/\yt.2.1=2/\dH (cO c.2.2.1)=true/\(jA c.1=true->dH (cO c.2.2.2.2.1)=true):=by unfold dI at h;split at h;{rename_i k t h1 h2;obtain⟨yk,a1,a2⟩:=i6 h1;obtain⟨yt,b1,b2⟩:=i6 h2;rw[dZ a1,dZ b1]at h;split at h;{rename_i h3;split at h;{rename_i h4;exact⟨k,t,yk,yt,h1,h2,a1,a2,h3.1,b1,b2,h3.2,h4.1,h4.2⟩};{omega}};{omega}};{omega}
theorem BI{next:Int}{l:List cJ}{c:dY}(h:gH next l):gH (de next l c).1.1 (de next l c).1.2:=by unfold de;by_cases hc:eh c=true;rotate_left;{rw[if_neg hc];exact h};rw[if_pos hc];by_cases hb:dI l c=0;rotate_left;{rw[if_neg hb];exact h};rw[if_pos hb];obtain⟨k,t,yk,yt,m,o,hk,n,a,ht,f,g,hn,d⟩:=yY hb;rw[m,o];simp only;by_cases b:c.1=1\/c.1=2;{rw[if_pos b];exact D4 h hk a hn};rw[if_neg b];unfold nG;rw[dr hk];cases hl:dX yk.2.2.2.2 c.2.2.1 with|none=>{exact h}|some e=>{simp only;cases ha:eD l e.2.2.2 with|none=>{exact h}|some xi=>{obtain⟨x,hx,i⟩:=i6 ha;have j:=mD hx;simp only[hx];by_cases g1:(c.1=3\/c.1=7)/\x.2.1=2;{rw[if_pos g1];exact h};rw[if_neg g1];by_cases g2:c.1=4/\x.2.1≠2;{rw[if_pos g2];exact h};rw[if_neg g2];by_cases g3:c.1=4/\x.2.2.2.2≠[];{rw[if_pos g3];exact h};rw[if_neg g3];by_cases g4:c.1=3\/c.1=4;{rw[if_pos g4];refine EJ h hk a hl hx i.symm ?_;rcases g4 with g4|g4;{rcases h.typ x j with t|t;{exact t.2.1};{exact absurd ⟨.inl g4,t.1⟩ g1}};{exact Classical.byContradiction fun hh=>g3 ⟨g4,hh⟩}};rw[if_neg g4];by_cases g5:c.1=5;{rw[if_pos g5];exact D5 h ht g hx (d (by simp[jA,g5]))};rw[if_neg g5];by_cases g6:c.1=6;{rw[if_pos g6];have h2:jA c.1=true:=by{simp[jA,g6]};rw[if_pos h2]at f;exact EK h hk a n ht g f hl j i.symm (d h2)};rw[if_neg g6];by_cases g7:c.1=7;{rw[if_pos g7];refine D6 h hx (fun e5=>g1 ⟨.inr g7,e5⟩) ?_;simp only[eh,Bool.and_eq_true,decide_eq_true_eq]at hc;exact hc.1.1.2};{rw[if_neg g7];exact h}}}
theorem oN {α:Type} (f:α->List Value) (k:Nat) (hk:∀x,(f x).length=k):∀(L:List α) (j:Nat),j<L.length->(L.flatMap f).take (j*k)++(L.flatMap f).drop ((j+1)*k)=(L.eraseIdx j).flatMap f
 | [],j,h=>by simp at h
 |a::L,0,h=>by
   rw[List.flatMap_cons,Nat.zero_mul,List.take_zero,List.nil_append,List.eraseIdx_cons_zero,Nat.zero_add,Nat.one_mul,<-hk a,List.drop_left]
 |a::L,j+1,h=>by
   have ih:=oN f k hk L j (by simpa using h);rw[List.flatMap_cons,List.eraseIdx_cons_succ,List.flatMap_cons,<-ih];have e1:(j+1)*k=(f a).length+j*k:=by rw[hk,Nat.add_mul,Nat.one_mul,Nat.add_comm]
   have e2:(j+1+1)*k=(f a).length+(j+1)*k:=by rw[hk,Nat.add_mul (j+1),Nat.one_mul,Nat.add_comm]
   rw[e2,e1,List.take_length_add_append,List.drop_length_add_append,<-e1,List.append_assoc]
theorem jl (e:Int×Int×ByteArray×Int):∀u∈cQ e,u.oneCell'=true:=by simp[cQ,Value.oneCell']
theorem BJ (g n c j : Nat) (L : List (Int × Int × ByteArray × Int)) (w : World) (h : w.ownsRow 0 78 4 (.slice (some ⟨g, 0, none⟩) n c) n (L.flatMap cQ)) (hj : j < n) :
 Calls Tryz.prog 114 #[.slice (some ⟨g, 0, none⟩) n c, .int .i64 (j : Int), .int .i64 ((j : Int) + 1)] w fun e w' =>
  e = .returned (.slice (some ⟨g, 0, none⟩) (n - 1) c) ∧ Hp [g] w w' [.row 78 4 (.slice (some ⟨g, 0, none⟩) (n - 1) c) (n - 1) ((L.eraseIdx j).flatMap cQ)] := by
 have s := h;have hL : (L.flatMap cQ).length = n * 4 := h.1;have y : L.length = n := by rw [iw cH] at hL; omega
 have m := py h;simp only [maxLen] at m;have H := Hp.start_row h;have f := fun {q : Nat} (hq : q < c * 4) => kh h hq;have p := fun q : Nat => h.frozenAt q;have i := fun {q : Nat} {u : Value} (hu : (L.flatMap cQ)[q]? = some u) => H.at_ 0 rfl hu;obtain ⟨i0, r, z, B, hz2⟩ := info_parts fi;obtain ⟨a, b⟩ : ∃ a, a = (L.flatMap cQ).drop ((j + 1) * 4) := ⟨_, rfl⟩;have d : a.length = (n - (j + 1)) * 4 := by rw [b, List.length_drop, hL]; omega
 obtain ⟨A, hA, x⟩ : ∃ A : Addr, (if c = j + 1 then some (⟨g, 0, none⟩ : Addr) else some ⟨g, (j + 1) * 4, none⟩) = some A ∧ Hid (∀ t u, a[t]? = some u → w.drew.cell? (A.add t) = some u) := by
  by_cases o : c = j + 1
  ·refine ⟨⟨g, 0, none⟩, by simp [o], fun t u hu => ?_⟩
   have h0 : a.length = 0 := by rw [d, show n - (j + 1) = 0 by omega]
   rw [List.length_eq_zero_iff.1 h0] at hu;simp at hu
  ·refine ⟨⟨g, (j + 1) * 4, none⟩, by simp [o], fun t u hu => ?_⟩
   rw [Addr.add_lit];rw [b, List.getElem?_drop] at hu;exact i hu
 have s1 : Hid (a.length = (n - (j + 1)) * 4) := d;have s2 : Hid (∀ u ∈ a, u.oneCell' = true) := by
  intro u hu;rw [b] at hu;obtain ⟨e, hL9, he⟩ := List.mem_flatMap.1 (List.mem_of_mem_drop hu);exact jl e u he
 have s3 : Hid (∀ t, t < a.length → (w.drew.cell? ⟨g, 0 + j * 4 + t, none⟩).isSome = true ∧ w.drew.frozen? ⟨g, 0 + j * 4 + t, none⟩ = false) := by
  intro t ht;rw [d] at ht;rw [Nat.zero_add];exact ⟨f (by omega), p _⟩
 obtain ⟨W1, k⟩ : ∃ W1, W1 = w.drew.setCells g (0 + j * 4) a := ⟨_, rfl⟩;have H1 : Hp [g] w W1 [.row 78 4 (.slice (some ⟨g, 0, none⟩) n c) n (lp (L.flatMap cQ) (j * 4) a)] := by
  have h2 := Hp.puts 0 a (L.flatMap cQ) (j * 4) _ _ H.drew rfl;rw [k, Nat.zero_add]; exact h2
 have l := H1.row 0 rfl;have hcl : ∀ ty, (Builtin.clear_ #[54] ty #[.slice (some ⟨g, (n - 1) * 4, none⟩) 1 (c - (n - 1))]).run Tryz.prog W1 = .ok (.tuple #[]) (W1.setCells g ((n - 1) * 4) [.int .i64 0, .int .i64 0, .string ⟨#[]⟩, .int .i64 0]) := fun ty => by
  have h5 := rL W1 54 78 ty _ Tryz.underlying54 (fun w => qI r z w) (by simp [Value.cells, Value.oneCell']) g ((n - 1) * 4) (c - (n - 1)) (fun q hq => kh l (by have : q < 4 := hq; omega)) (fun q hq => l.frozenAt _);exact h5
 have H2 := hJ (((Hp.puts 0 [.int .i64 0, .int .i64 0, .string ⟨#[]⟩, .int .i64 0] _ ((n - 1) * 4) _ _ H1 rfl).cut 0 rfl (show n - 1 ≤ n by omega)).recast (l' := [.row 78 4 (.slice (some ⟨g, 0, none⟩) (n - 1) c) (n - 1) ((L.eraseIdx j).flatMap cQ)]) (by
  have e1 : lp (L.flatMap cQ) (j * 4) a = (L.flatMap cQ).take (j * 4) ++ a ++ (L.flatMap cQ).drop (j * 4 + a.length) := kG _ _ _ (by rw [d, hL]; omega);have e2 := oN cQ 4 cH L j (by omega)
  show [Ob.row _ _ _ _ ((lp (lp (L.flatMap cQ) (j * 4) a) ((n - 1) * 4) [.int .i64 0, .int .i64 0, .string ⟨#[]⟩, .int .i64 0]).take ((n - 1) * 4))] = _
  congr 2
  rw [kG _ _ _ (by rw [nr, hL]; show (n - 1) * 4 + 4 ≤ n * 4; omega), e1, ← e2, b];have e3 : ((L.flatMap cQ).take (j * 4) ++ (L.flatMap cQ).drop ((j + 1) * 4)).length = (n - 1) * 4 := by rw [List.length_append, List.length_take, List.length_drop, hL]; omega
  rw [List.append_assoc, List.take_append_of_le_length (by rw [List.length_take, List.length_append, e3]; omega), List.take_take, Nat.min_self, List.take_append_of_le_length (by omega), List.take_of_length_le (by omega)]))
 have hW : Hid (W1 = w.drew.setCells g (0 + j * 4) a) := k;have hj1 : j + 1 ≤ n := hj;have hic : j ≤ c := by omega
 have hjc : j + 1 ≤ c := by omega
 have hne : ¬ ((j : Int) = (j : Int) + 1) := by omega
 have hnb : ((j : Int) == (j : Int) + 1) = false := by simp; omega
 have C : Tryz.prog.follows .mixedOrders = true := by kernel_rfl
 have hb0 : (0 : Int) ≤ (j : Int) + 1 := by omega
 have hb1 : (j : Int) + 1 ≤ (n : Int) := by omega
 have hn1 : j + (n - (j + 1)) = n - 1 := by omega
 have hn2 : n - (n - 1) = 1 := by omega
 clear k H1 l H s h i b d f p y hL;go_enter Tryz.func114, Tryz.ntmps114;go_wp2_with fail
 go_region_law_o (refine step_append_room rfl (.tmp 22) (.tmp 25) 54 rfl 78 i0 4 Tryz.underlying54 r B g 0 j c (by simp [Act.eval, Act.put]) A (n - (j + 1)) (c - (j + 1)) a (by simp [Act.eval, Act.put]) s1.out x.out s2.out (by omega) s3.out ?_; rw [← hW.out])
 go_wp2_with fail;go_ret;exact ⟨rfl, H2.out⟩
theorem Di{p:Value×cJ}(h:p.1.oneCell'=true):∀u∈fJ p,u.oneCell'=true:=by intro u hu;simp only[fJ,List.mem_cons,List.mem_nil_iff,or_false]at hu;rcases hu with rfl|rfl|rfl|rfl|rfl<;>first|rfl|exact h
theorem BK (g n c j : Nat) (L : List (Value × cJ)) (w : World) (h : w.ownsRow 0 56 5 (.slice (some ⟨g, 0, none⟩) n c) n (L.flatMap fJ)) (hj : j < n) (h1 : ∀ p ∈ L, p.1.oneCell' = true) :
 Calls Tryz.prog 78 #[.slice (some ⟨g, 0, none⟩) n c, .int .i64 (j : Int), .int .i64 ((j : Int) + 1)] w fun e w' =>
  e = .returned (.slice (some ⟨g, 0, none⟩) (n - 1) c) ∧ Hp [g] w w' [.row 56 5 (.slice (some ⟨g, 0, none⟩) (n - 1) c) (n - 1) ((L.eraseIdx j).flatMap fJ)] := by
 have x := h;have hL : (L.flatMap fJ).length = n * 5 := h.1;have B : L.length = n := by rw [iw eJ] at hL; omega
 have m := py h;simp only [maxLen] at m;have H := Hp.start_row h;have f := fun {q : Nat} (hq : q < c * 5) => kh h hq;have r := fun q : Nat => h.frozenAt q;have i := fun {q : Nat} {u : Value} (hu : (L.flatMap fJ)[q]? = some u) => H.at_ 0 rfl hu;obtain ⟨i0, s, C, D, hz2⟩ := info_parts gw;obtain ⟨a, b⟩ : ∃ a, a = (L.flatMap fJ).drop ((j + 1) * 5) := ⟨_, rfl⟩;have d : a.length = (n - (j + 1)) * 5 := by rw [b, List.length_drop, hL]; omega
 obtain ⟨A, hA, y⟩ : ∃ A : Addr, (if c = j + 1 then some (⟨g, 0, none⟩ : Addr) else some ⟨g, (j + 1) * 5, none⟩) = some A ∧ Hid (∀ t u, a[t]? = some u → w.drew.cell? (A.add t) = some u) := by
  by_cases o : c = j + 1
  ·refine ⟨⟨g, 0, none⟩, by simp [o], fun t u hu => ?_⟩
   have h0 : a.length = 0 := by rw [d, show n - (j + 1) = 0 by omega]
   rw [List.length_eq_zero_iff.1 h0] at hu;simp at hu
  ·refine ⟨⟨g, (j + 1) * 5, none⟩, by simp [o], fun t u hu => ?_⟩
   rw [Addr.add_lit];rw [b, List.getElem?_drop] at hu;exact i hu
 have s1 : Hid (a.length = (n - (j + 1)) * 5) := d;have s2 : Hid (∀ u ∈ a, u.oneCell' = true) := by
  intro u hu;rw [b] at hu;obtain ⟨e, z, he⟩ := List.mem_flatMap.1 (List.mem_of_mem_drop hu);exact Di (h1 e z) u he
 have s3 : Hid (∀ t, t < a.length → (w.drew.cell? ⟨g, 0 + j * 5 + t, none⟩).isSome = true ∧ w.drew.frozen? ⟨g, 0 + j * 5 + t, none⟩ = false) := by
  intro t ht;rw [d] at ht;rw [Nat.zero_add];exact ⟨f (by omega), r _⟩
 obtain ⟨W1, k⟩ : ∃ W1, W1 = w.drew.setCells g (0 + j * 5) a := ⟨_, rfl⟩;have H1 : Hp [g] w W1 [.row 56 5 (.slice (some ⟨g, 0, none⟩) n c) n (lp (L.flatMap fJ) (j * 5) a)] := by
  have h2 := Hp.puts 0 a (L.flatMap fJ) (j * 5) _ _ H.drew rfl;rw [k, Nat.zero_add]; exact h2
 have l := H1.row 0 rfl;have hcl : ∀ ty, (Builtin.clear_ #[27] ty #[.slice (some ⟨g, (n - 1) * 5, none⟩) 1 (c - (n - 1))]).run Tryz.prog W1 = .ok (.tuple #[]) (W1.setCells g ((n - 1) * 5) [.int .i64 0, .int .i64 0, .int .i64 0, .string ⟨#[]⟩, .slice none 0 0]) := fun ty => by
  have h5 := rL W1 27 56 ty _ Tryz.underlying27 (fun w => qI s C w) (by simp [Value.cells, Value.oneCell']) g ((n - 1) * 5) (c - (n - 1)) (fun q hq => kh l (by have : q < 5 := hq; omega)) (fun q hq => l.frozenAt _);exact h5
 have H2 := hJ (((Hp.puts 0 [.int .i64 0, .int .i64 0, .int .i64 0, .string ⟨#[]⟩, .slice none 0 0] _ ((n - 1) * 5) _ _ H1 rfl).cut 0 rfl (show n - 1 ≤ n by omega)).recast (l' := [.row 56 5 (.slice (some ⟨g, 0, none⟩) (n - 1) c) (n - 1) ((L.eraseIdx j).flatMap fJ)]) (by
  have e1 : lp (L.flatMap fJ) (j * 5) a = (L.flatMap fJ).take (j * 5) ++ a ++ (L.flatMap fJ).drop (j * 5 + a.length) := kG _ _ _ (by rw [d, hL]; omega);have e2 := oN fJ 5 eJ L j (by omega)
  show [Ob.row _ _ _ _ ((lp (lp (L.flatMap fJ) (j * 5) a) ((n - 1) * 5) [.int .i64 0, .int .i64 0, .int .i64 0, .string ⟨#[]⟩, .slice none 0 0]).take ((n - 1) * 5))] = _
  congr 2
  rw [kG _ _ _ (by rw [nr, hL]; show (n - 1) * 5 + 5 ≤ n * 5; omega), e1, ← e2, b];have e3 : ((L.flatMap fJ).take (j * 5) ++ (L.flatMap fJ).drop ((j + 1) * 5)).length = (n - 1) * 5 := by rw [List.length_append, List.length_take, List.length_drop, hL]; omega
  rw [List.append_assoc, List.take_append_of_le_length (by rw [List.length_take, List.length_append, e3]; omega), List.take_take, Nat.min_self, List.take_append_of_le_length (by omega), List.take_of_length_le (by omega)]))
 have hW : Hid (W1 = w.drew.setCells g (0 + j * 5) a) := k;have hj1 : j + 1 ≤ n := hj;have hic : j ≤ c := by omega
 have hjc : j + 1 ≤ c := by omega
 have hne : ¬ ((j : Int) = (j : Int) + 1) := by omega
 have hnb : ((j : Int) == (j : Int) + 1) = false := by simp; omega
 have E : Tryz.prog.follows .mixedOrders = true := by kernel_rfl
 have hb0 : (0 : Int) ≤ (j : Int) + 1 := by omega
 have hb1 : (j : Int) + 1 ≤ (n : Int) := by omega
 have hn1 : j + (n - (j + 1)) = n - 1 := by omega
 have hn2 : n - (n - 1) = 1 := by omega
 clear k H1 l H x h i b d f r B hL;go_enter Tryz.func78, Tryz.ntmps78;go_wp2_with fail
 go_region_law_o (refine step_append_room rfl (.tmp 22) (.tmp 25) 27 rfl 56 i0 5 Tryz.underlying27 s D g 0 j c (by simp [Act.eval, Act.put]) A (n - (j + 1)) (c - (j + 1)) a (by simp [Act.eval, Act.put]) s1.out y.out s2.out (by omega) s3.out ?_; rw [← hW.out])
 go_wp2_with fail;go_ret;exact ⟨rfl, H2.out⟩
def qo (L:List (Value×cJ)):Prop:=∀p∈L,p.2.2.2.2.2.length<=1048576
theorem rM (es:List cI) (id:Int):eB es id<=es.length:=List.countP_le_length
theorem l8 {L:List (Value×cJ)} (h:qo L) (id:Int):∀k,k<=L.length->cU ((cz L).take k) id<=k*1048576
 |0,_=>by simp[cU]
 |k+1,hk=>by
   obtain⟨p,hp⟩:∃p,L[k]?=some p:=⟨_,List.getElem?_eq_getElem (by omega)⟩;rw[nk (cL hp)];have h1:=l8 h id k (by omega);have h2:=rM p.2.2.2.2.2 id;have h3:=h p (mD hp);omega
theorem tO {es:List cI} {m:Nat} (h:es.length=m) (id:Int):eB (es.take m) id=eB es id:=by rw[List.take_of_length_le (by omega)]
theorem lJ(next:Int)(A:Option Addr)(n c:Nat)(L:List (Value×cJ))(id:Int)(w:World)(h:kM w A n L)(hn:n<=1048576)(b:qo L):Calls Tryz.prog 67 #[.agg #[.int .i64 next,.slice A n c],.int .i64 id] w fun e w'=>e=.returned (.int .i64 (cU (cz L) id))/\Fr w w':=by have HL:=hJ h.len;have HR:=hJ h;have C:=hJ b;have HB:=hJ (fun k hk=>l8 b id k hk);have u:=hJ ((Hp.start w).lay_ 29 [.int .i64 next,.slice A n c] rfl).fr;obtain⟨z,hz⟩:∃z:Nat,z=cU (cz L) id:=⟨_,rfl⟩;rw[<-hz];have HZ:=hJ hz;clear hz h b;go_enter Tryz.func67,Tryz.ntmps67;go_wp2_with fail;go_loopw [5,13] (fun cv iv wr=>∃i k:Nat,iv=.int .i64 i/\cv=.int .i64 k/\i<=n/\k=cU ((cz L).take i) id/\Fr w wr) (fun _ iv _=>n-(intOf iv).toNat);{exact⟨0,0,rfl,rfl,by omega,rfl,u.out⟩};obtain⟨i,k,rfl,rfl,hi,hk,hf⟩:=hrel;have t:=hJ hk;have HF:=hJ hf;have hkb:k<=i*1048576:=by{rw[hk];exact HB.out i (by rw[HL.out];exact hi)};clear hk hf;have hi0:(0:Int)<=(i:Int):=by{omega};by_cases N:i<n;{have J:(i:Int)<(n:Int):=by{omega};obtain⟨⟨v,x0,x1,x2,x3,es⟩,hx⟩:=cM HL.out N;have hm:=C.out _ (mD hx);obtain⟨bk,of,B1,d1,rfl,e1,r1,c1⟩:=(HR.out.fr HF.out).elem hx;simp only at e1 r1 hm;subst e1;have F:=c1 0 _ rfl;simp only[Nat.add_zero]at F;have ca1:=c1 1 _ rfl;have ca2:=c1 2 _ rfl;have ca3:=c1 3 _ rfl;have G:=c1 4 _ rfl;have HX:=hJ (cL hx);have H2:=((Hp.start w).go HF.out).lay_ 56 [.int .i64 x0,.int .i64 x1,.int .i64 x2,.string x3,.slice B1 es.length d1] rfl;have f:=hJ H2.fr;have o:=hJ (r1.fr (((Hp.start wr).lay_ 56 [.int .i64 x0,.int .i64 x1,.int .i64 x2,.string x3,.slice B1 es.length d1] rfl).fr));obtain⟨m,p⟩:∃m,m=es.length:=⟨_,rfl⟩;have HM:=hJ p.symm;rw[<-p]at hm G f o;clear hx c1 r1 H2 p;obtain⟨wA,d⟩:∃x,x=wr.alloc (.cells #[.int .i64 x0,.int .i64 x1,.int .i64 x2,.string x3,.slice B1 m d1] 56):=⟨_,rfl⟩;have D:=hJ (show Rd wA B1 m 4 (es.flatMap cQ) by rw[d];exact o.out);have y:=hJ (show Fr w wA by rw[d];exact f.out);have E:=hJ d;clear d o f;go_wp2_with fail;go_loopw [5,20] (fun cv jv wq=>∃j q:Nat,jv=.int .i64 j/\cv=.int .i64 q/\j<=m/\q=k+eB (es.take j) id/\Fr wA wq) (fun _ jv _=>m-(intOf jv).toNat);{exact⟨0,k,rfl,rfl,by omega,by simp[eB],by rw[E.out];exact Below.refl _ _⟩};obtain⟨j,q,rfl,rfl,hj,hq,hf⟩:=hrel;have l:=hJ hq;have g:=hJ hf;have hqb:q<=k+m:=by{have h1:=rM (es.take j) id;rw[List.length_take]at h1;omega};clear hq hf;have hj0:(0:Int)<=(j:Int):=by{omega};by_cases M:j<m;{have K:(j:Int)<(m:Int):=by{omega};obtain⟨⟨y0,y1,y2,y3⟩,hy⟩:=cM HM.out M;obtain⟨bq,oq,rfl,a⟩:=(D.out.fr g.out).elem cH hy (by omega);have I:=a 0 _ rfl;simp only[Nat.add_zero]at I;have cb1:=a 1 _ rfl;have cb2:=a 2 _ rfl;have cb3:=a 3 _ rfl;have r:=hJ (rD hy id);have s:=hJ (g.out.then ((Hp.start _).lay_ 78 [.int .i64 y0,.int .i64 y1,.string y2,.int .i64 y3] rfl).fr);clear hy a;by_cases he:y3=id;{have HE:=hJ (show q+1=k+eB (es.take (j+1)) id by rw[r.out,l.out,if_pos he];omega);subst he;go_wp2_with fail;go_roundw;{exact⟨j+1,q+1,by go_num,by go_num,by omega,HE.out,s.out⟩};simp[intOf];omega};{have HE:=hJ (show q=k+eB (es.take (j+1)) id by rw[r.out,l.out,if_neg he];rfl);have he2:(y3 == id)=false:=by{simpa using he};go_wp2_with fail;go_roundw;{exact⟨j+1,q,by go_num,rfl,by omega,HE.out,s.out⟩};simp[intOf];omega}};{have K:¬(j:Int)<(m:Int):=by{omega};have HE:=hJ (show q=cU ((cz L).take (i+1)) id by{rw[nk HX.out,l.out,t.out,show j=m by omega,tO HM.out]});have B:=hJ (y.out.then g.out);go_wp2_with fail;go_roundw;{exact⟨i+1,q,by go_num,rfl,by omega,HE.out,B.out⟩};simp[intOf];omega}};{have J:¬(i:Int)<(n:Int):=by{omega};have HE:=hJ (show z=k by{rw[HZ.out,t.out,List.take_of_length_le (by rw[cW,HL.out];omega)]});go_wp2_with fail;go_ret;rw[HE.out];exact⟨rfl,HF.out⟩}
def i7 {α:Type} (P:α->Bool) (l:List α):Int:=match l.findIdx? P with
 |some k=>(k:Int)
 |none=>-1
theorem nL{α:Type}{P:α->Bool}{l:List α}{k:Nat}{x:α}(b:∀y∈l.take k,P y=false)(hx:l[k]?=some x)(he:P x=true):i7 P l=(k:Int):=by have:l.findIdx? P=some k:=by{obtain⟨hk,c⟩:=mE hx;refine List.findIdx?_eq_some_iff_getElem.2 ⟨hk,by rw[c];exact he,fun j hj=>?_⟩;have a:l[j]∈l.take k:=by{rw[List.mem_take_iff_getElem];exact⟨j,by omega,rfl⟩};simp[b _ a]};rw[i7,this]
theorem my{α:Type}{P:α->Bool}{l:List α}(a:∀y∈l,P y=false):i7 P l = -1:=by have:l.findIdx? P=none:=List.findIdx?_eq_none_iff.2 fun x hx=>a x hx;rw[i7,this]
theorem qp{α:Type}(P:α->Bool)(l:List α):decide (0<=i7 P l)=l.any P:=by unfold i7;cases h:l.findIdx? P with|none=>{have h1:l.any P=false:=by{rw[List.any_eq_false];intro x hx;have:=List.findIdx?_eq_none_iff.1 h x hx;simp[this]};rw[h1];decide}|some k=>{obtain⟨hk,h1,_⟩:=List.findIdx?_eq_some_iff_getElem.1 h;have h2:l.any P=true:=List.any_eq_true.2 ⟨l[k],List.getElem_mem hk,h1⟩;rw[h2];simp}
theorem nM{α:Type}{P:α->Bool}{l:List α}{i:Nat}{x:α}(a:∀y∈l.take i,P y=false)(hx:l[i]?=some x)(he:P x=false):∀y∈l.take (i+1),P y=false:=by intro y hy;rw[List.take_add_one,hx]at hy;rcases List.mem_append.1 hy with h|h;{exact a y h};{simp only[Option.toList_some,List.mem_singleton]at h;rw[h];exact he}
theorem uK(g:Value)(P:cI->Bool)(A:Option Addr)(n c:Nat)(l:List cI)(w:World)(h:Rd w A n 4 (l.flatMap cQ))(hn:n<=1048576)(hP:∀e∈l,∀w',Fr w w'->Calls Tryz.prog 70 #[.agg #[.int .i64 e.1,.int .i64 e.2.1,.string e.2.2.1,.int .i64 e.2.2.2],g] w' fun r q=>r=.returned (.bool (P e))/\Fr w' q):Calls Tryz.prog 109 #[.slice A n c,.func (.func 70) #[] #[g]] w fun e w'=>e=.returned (.int .i64 (i7 P l))/\Fr w w':=by have HL:=hJ (h.lenk cH (by omega));have HR:=hJ h;have HP:=hJ hP;clear h hP;obtain⟨z,hz⟩:∃z,z=i7 P l:=⟨_,rfl⟩;rw[<-hz];have HZ:=hJ hz;clear hz;go_enter Tryz.func109,Tryz.ntmps109;go_wp2_with fail;go_loopw [5,8] (fun jv iv wr=>∃i:Nat,iv=.int .i64 i/\i<=n/\(∀y∈l.take i,P y=false)/\Fr w wr) (fun _ iv _=>n-(intOf iv).toNat);{exact⟨0,rfl,by omega,by simp,Below.refl _ _⟩};obtain⟨i,rfl,hi,j,hf⟩:=hrel;have HO:=hJ j;have HF:=hJ hf;clear j hf;have hi0:(0:Int)<=(i:Int):=by{omega};by_cases p:i<n;{have o:(i:Int)<(n:Int):=by{omega};obtain⟨⟨x0,x1,x2,x3⟩,hx⟩:=dV HL.out p;obtain⟨bk,of,rfl,a⟩:=(HR.out.fr HF.out).elem cH hx (by omega);have m:=a 0 _ rfl;simp only[Nat.add_zero]at m;have ca1:=a 1 _ rfl;have ca2:=a 2 _ rfl;have ca3:=a 3 _ rfl;have HX:=hJ hx;clear hx a;go_wp2_with fail;have HC:=HP.out _ (HX.out.mem) _ HF.out;simp only at HC;refine HC.mono ?_;clear HC;rintro e w2 ⟨rfl,f2⟩;obtain⟨pb,d⟩:∃b,P (x0,x1,x2,x3)=b:=⟨_,rfl⟩;have f:=hJ d;rw[d];clear d;cases pb with|true=>{have HE:=hJ (HZ.out.trans (nL HO.out HX.out f.out));go_wp2_with fail;go_ret;rw[HE.out];exact⟨rfl,HF.out.then f2⟩}|false=>{have k:=hJ (nM HO.out HX.out f.out);have F2:=hJ (HF.out.then f2);clear f2;go_wp2_with fail;go_roundw;{exact⟨i+1,by go_num,by omega,k.out,F2.out⟩};simp[intOf];omega}};{have o:¬(i:Int)<(n:Int):=by{omega};have HE:=hJ (HZ.out.trans (my (by{have:=HO.out;rwa [List.take_of_length_le (by rw[HL.out];omega)]at this})));go_wp2_with fail;go_ret;rw[HE.out];exact⟨rfl,HF.out⟩}
theorem xX(g:Value)(P:cI->Bool)(A:Option Addr)(n c:Nat)(l:List cI)(w:World)(h:Rd w A n 4 (l.flatMap cQ))(hn:n<=1048576)(hP:∀e∈l,∀w',Fr w w'->Calls Tryz.prog 113 #[.agg #[.int .i64 e.1,.int .i64 e.2.1,.string e.2.2.1,.int .i64 e.2.2.2],g] w' fun r q=>r=.returned (.bool (P e))/\Fr w' q):Calls Tryz.prog 109 #[.slice A n c,.func (.func 113) #[] #[g]] w fun e w'=>e=.returned (.int .i64 (i7 P l))/\Fr w w':=by have HL:=hJ (h.lenk cH (by omega));have HR:=hJ h;have HP:=hJ hP;clear h hP;obtain⟨z,hz⟩:∃z,z=i7 P l:=⟨_,rfl⟩;rw[<-hz];have HZ:=hJ hz;clear hz;go_enter Tryz.func109,Tryz.ntmps109;go_wp2_with fail;go_loopw [5,8] (fun jv iv wr=>∃i:Nat,iv=.int .i64 i/\i<=n/\(∀y∈l.take i,P y=false)/\Fr w wr) (fun _ iv _=>n-(intOf iv).toNat);{exact⟨0,rfl,by omega,by simp,Below.refl _ _⟩};obtain⟨i,rfl,hi,j,hf⟩:=hrel;have HO:=hJ j;have HF:=hJ hf;clear j hf;have hi0:(0:Int)<=(i:Int):=by{omega};by_cases p:i<n;{have o:(i:Int)<(n:Int):=by{omega};obtain⟨⟨x0,x1,x2,x3⟩,hx⟩:=dV HL.out p;obtain⟨bk,of,rfl,a⟩:=(HR.out.fr HF.out).elem cH hx (by omega);have m:=a 0 _ rfl;simp only[Nat.add_zero]at m;have ca1:=a 1 _ rfl;have ca2:=a 2 _ rfl;have ca3:=a 3 _ rfl;have HX:=hJ hx;clear hx a;go_wp2_with fail;have HC:=HP.out _ (HX.out.mem) _ HF.out;simp only at HC;refine HC.mono ?_;clear HC;rintro e w2 ⟨rfl,f2⟩;obtain⟨pb,d⟩:∃b,P (x0,x1,x2,x3)=b:=⟨_,rfl⟩;have f:=hJ d;rw[d];clear d;cases pb with|true=>{have HE:=hJ (HZ.out.trans (nL HO.out HX.out f.out));go_wp2_with fail;go_ret;rw[HE.out];exact⟨rfl,HF.out.then f2⟩}|false=>{have k:=hJ (nM HO.out HX.out f.out);have F2:=hJ (HF.out.then f2);clear f2;go_wp2_with fail;go_roundw;{exact⟨i+1,by go_num,by omega,k.out,F2.out⟩};simp[intOf];omega}};{have o:¬(i:Int)<(n:Int):=by{omega};have HE:=hJ (HZ.out.trans (my (by{have:=HO.out;rwa [List.take_of_length_le (by rw[HL.out];omega)]at this})));go_wp2_with fail;go_ret;rw[HE.out];exact⟨rfl,HF.out⟩}
theorem BL(g:Value)(P:cI->Bool)(A:Option Addr)(n c:Nat)(l:List cI)(w:World)(h:Rd w A n 4 (l.flatMap cQ))(hn:n<=1048576)(hP:∀e∈l,∀w',Fr w w'->Calls Tryz.prog 141 #[.agg #[.int .i64 e.1,.int .i64 e.2.1,.string e.2.2.1,.int .i64 e.2.2.2],g] w' fun r q=>r=.returned (.bool (P e))/\Fr w' q):Calls Tryz.prog 109 #[.slice A n c,.func (.func 141) #[] #[g]] w fun e w'=>e=.returned (.int .i64 (i7 P l))/\Fr w w':=by have HL:=hJ (h.lenk cH (by omega));have HR:=hJ h;have HP:=hJ hP;clear h hP;obtain⟨z,hz⟩:∃z,z=i7 P l:=⟨_,rfl⟩;rw[<-hz];have HZ:=hJ hz;clear hz;go_enter Tryz.func109,Tryz.ntmps109;go_wp2_with fail;go_loopw [5,8] (fun jv iv wr=>∃i:Nat,iv=.int .i64 i/\i<=n/\(∀y∈l.take i,P y=false)/\Fr w wr) (fun _ iv _=>n-(intOf iv).toNat);{exact⟨0,rfl,by omega,by simp,Below.refl _ _⟩};obtain⟨i,rfl,hi,j,hf⟩:=hrel;have HO:=hJ j;have HF:=hJ hf;clear j hf;have hi0:(0:Int)<=(i:Int):=by{omega};by_cases p:i<n;{have o:(i:Int)<(n:Int):=by{omega};obtain⟨⟨x0,x1,x2,x3⟩,hx⟩:=dV HL.out p;obtain⟨bk,of,rfl,a⟩:=(HR.out.fr HF.out).elem cH hx (by omega);have m:=a 0 _ rfl;simp only[Nat.add_zero]at m;have ca1:=a 1 _ rfl;have ca2:=a 2 _ rfl;have ca3:=a 3 _ rfl;have HX:=hJ hx;clear hx a;go_wp2_with fail;have HC:=HP.out _ (HX.out.mem) _ HF.out;simp only at HC;refine HC.mono ?_;clear HC;rintro e w2 ⟨rfl,f2⟩;obtain⟨pb,d⟩:∃b,P (x0,x1,x2,x3)=b:=⟨_,rfl⟩;have f:=hJ d;rw[d];clear d;cases pb with|true=>{have HE:=hJ (HZ.out.trans (nL HO.out HX.out f.out));go_wp2_with fail;go_ret;rw[HE.out];exact⟨rfl,HF.out.then f2⟩}|false=>{have k:=hJ (nM HO.out HX.out f.out);have F2:=hJ (HF.out.then f2);clear f2;go_wp2_with fail;go_roundw;{exact⟨i+1,by go_num,by omega,k.out,F2.out⟩};simp[intOf];omega}};{have o:¬(i:Int)<(n:Int):=by{omega};have HE:=hJ (HZ.out.trans (my (by{have:=HO.out;rwa [List.take_of_length_le (by rw[HL.out];omega)]at this})));go_wp2_with fail;go_ret;rw[HE.out];exact⟨rfl,HF.out⟩}
theorem xY(f:Value)(P:(Value×cJ)->Bool)(A:Option Addr)(n c:Nat)(l:List (Value×cJ))(w:World)(h:kM w A n l)(hn:n<=1048576)(hP:∀p∈l,∀w',Fr w w'->Calls Tryz.prog 39 #[.agg #[.int .i64 p.2.1,.int .i64 p.2.2.1,.int .i64 p.2.2.2.1,.string p.2.2.2.2.1,p.1],f] w' fun r q=>r=.returned (.bool (P p))/\Fr w' q):Calls Tryz.prog 71 #[.slice A n c,.func (.func 39) #[] #[f]] w fun e w'=>e=.returned (.int .i64 (i7 P l))/\Fr w w':=by have HL:=hJ (h.len);have HR:=hJ h;have HP:=hJ hP;clear h hP;obtain⟨z,hz⟩:∃z,z=i7 P l:=⟨_,rfl⟩;rw[<-hz];have HZ:=hJ hz;clear hz;go_enter Tryz.func71,Tryz.ntmps71;go_wp2_with fail;go_loopw [5,8] (fun jv iv wr=>∃i:Nat,iv=.int .i64 i/\i<=n/\(∀y∈l.take i,P y=false)/\Fr w wr) (fun _ iv _=>n-(intOf iv).toNat);{exact⟨0,rfl,by omega,by simp,Below.refl _ _⟩};obtain⟨i,rfl,hi,g,hf⟩:=hrel;have HO:=hJ g;have HF:=hJ hf;clear g hf;have hi0:(0:Int)<=(i:Int):=by{omega};by_cases o:i<n;{have m:(i:Int)<(n:Int):=by{omega};obtain⟨⟨v,x0,x1,x2,x3,es⟩,hx⟩:=dV HL.out o;obtain⟨bk,of,B1,d1,rfl,e1,r1,c1⟩:=(HR.out.fr HF.out).elem hx;simp only at e1 r1;subst e1;have k:=c1 0 _ rfl;simp only[Nat.add_zero]at k;have ca1:=c1 1 _ rfl;have ca2:=c1 2 _ rfl;have ca3:=c1 3 _ rfl;have ca4:=c1 4 _ rfl;have HX:=hJ hx;clear hx c1 r1;go_wp2_with fail;have HC:=HP.out _ (HX.out.mem) _ HF.out;simp only at HC;refine HC.mono ?_;clear HC;rintro e w2 ⟨rfl,f2⟩;obtain⟨pb,a⟩:∃b,P (.slice B1 es.length d1,x0,x1,x2,x3,es)=b:=⟨_,rfl⟩;have d:=hJ a;rw[a];clear a;cases pb with|true=>{have HE:=hJ (HZ.out.trans (nL HO.out HX.out d.out));go_wp2_with fail;go_ret;rw[HE.out];exact⟨rfl,HF.out.then f2⟩}|false=>{have j:=hJ (nM HO.out HX.out d.out);have F2:=hJ (HF.out.then f2);clear f2;go_wp2_with fail;go_roundw;{exact⟨i+1,by go_num,by omega,j.out,F2.out⟩};simp[intOf];omega}};{have m:¬(i:Int)<(n:Int):=by{omega};have HE:=hJ (HZ.out.trans (my (by{have:=HO.out;rwa [List.take_of_length_le (by rw[HL.out];omega)]at this})));go_wp2_with fail;go_ret;rw[HE.out];exact⟨rfl,HF.out⟩}
theorem pz(a:Value)(P:cI->Bool)(A:Option Addr)(n c:Nat)(l:List cI)(w:World)(h:Rd w A n 4 (l.flatMap cQ))(hn:n<=1048576)(hP:∀e∈l,∀w',Fr w w'->Calls Tryz.prog 70 #[.agg #[.int .i64 e.1,.int .i64 e.2.1,.string e.2.2.1,.int .i64 e.2.2.2],a] w' fun r b=>r=.returned (.bool (P e))/\Fr w' b):Calls Tryz.prog 69 #[.slice A n c,.func (.func 70) #[] #[a]] w fun e w'=>e=.returned (.bool (l.any P))/\Fr w w':=by have HR:=hJ h;have HP:=hJ hP;clear h hP;have HA:=hJ (qp P l);obtain⟨z,hz⟩:∃z,z=i7 P l:=⟨_,rfl⟩;rw[<-hz]at HA;have HZ:=hJ hz;rw[<-HA.out];clear hz;go_enter Tryz.func69,Tryz.ntmps69;go_wp2_with fail;refine(uK a P A n c l _ HR.out hn HP.out).mono ?_;rintro e w2 ⟨rfl,f2⟩;rw[<-HZ.out];by_cases h0:0<=z;{have HE:=hJ (decide_eq_true h0);go_wp2_with fail;go_ret;rw[HE.out];exact⟨rfl,f2⟩};{have HE:=hJ (decide_eq_false h0);go_wp2_with fail;go_ret;rw[HE.out];exact⟨rfl,f2⟩}
theorem BM(a:Value)(P:cI->Bool)(A:Option Addr)(n c:Nat)(l:List cI)(w:World)(h:Rd w A n 4 (l.flatMap cQ))(hn:n<=1048576)(hP:∀e∈l,∀w',Fr w w'->Calls Tryz.prog 141 #[.agg #[.int .i64 e.1,.int .i64 e.2.1,.string e.2.2.1,.int .i64 e.2.2.2],a] w' fun r b=>r=.returned (.bool (P e))/\Fr w' b):Calls Tryz.prog 69 #[.slice A n c,.func (.func 141) #[] #[a]] w fun e w'=>e=.returned (.bool (l.any P))/\Fr w w':=by have HR:=hJ h;have HP:=hJ hP;clear h hP;have HA:=hJ (qp P l);obtain⟨z,hz⟩:∃z,z=i7 P l:=⟨_,rfl⟩;rw[<-hz]at HA;have HZ:=hJ hz;rw[<-HA.out];clear hz;go_enter Tryz.func69,Tryz.ntmps69;go_wp2_with fail;refine(BL a P A n c l _ HR.out hn HP.out).mono ?_;rintro e w2 ⟨rfl,f2⟩;rw[<-HZ.out];by_cases h0:0<=z;{have HE:=hJ (decide_eq_true h0);go_wp2_with fail;go_ret;rw[HE.out];exact⟨rfl,f2⟩};{have HE:=hJ (decide_eq_false h0);go_wp2_with fail;go_ret;rw[HE.out];exact⟨rfl,f2⟩}
theorem rN(a:Value)(P:(Value×cJ)->Bool)(A:Option Addr)(n c:Nat)(l:List (Value×cJ))(w:World)(h:kM w A n l)(hn:n<=1048576)(hP:∀p∈l,∀w',Fr w w'->Calls Tryz.prog 39 #[.agg #[.int .i64 p.2.1,.int .i64 p.2.2.1,.int .i64 p.2.2.2.1,.string p.2.2.2.2.1,p.1],a] w' fun r b=>r=.returned (.bool (P p))/\Fr w' b):Calls Tryz.prog 38 #[.slice A n c,.func (.func 39) #[] #[a]] w fun e w'=>e=.returned (.bool (l.any P))/\Fr w w':=by have HR:=hJ h;have HP:=hJ hP;clear h hP;have HA:=hJ (qp P l);obtain⟨z,hz⟩:∃z,z=i7 P l:=⟨_,rfl⟩;rw[<-hz]at HA;have HZ:=hJ hz;rw[<-HA.out];clear hz;go_enter Tryz.func38,Tryz.ntmps38;go_wp2_with fail;refine(xY a P A n c l _ HR.out hn HP.out).mono ?_;rintro e w2 ⟨rfl,f2⟩;rw[<-HZ.out];by_cases h0:0<=z;{have HE:=hJ (decide_eq_true h0);go_wp2_with fail;go_ret;rw[HE.out];exact⟨rfl,f2⟩};{have HE:=hJ (decide_eq_false h0);go_wp2_with fail;go_ret;rw[HE.out];exact⟨rfl,f2⟩}
def wt (e:cI):ByteArray:=dx (et (cO e.2.2.1)).1
def ki (d:List cI):List ByteArray:=d.map wt
theorem rQ{d:List cI}{k:Nat}{e:cI}(h:d[k]?=some e):ki (d.take (k+1))=ki (d.take k)++[wt e]:=by rw[ki,ki,List.take_add_one,h,List.map_append];rfl
theorem z6 (d:List cI):(ki d).length=d.length:=by rw[ki,List.length_map]
theorem wu {d:List cI} {e:cI} (h:(et (cO e.2.2.1)).2=false):iZ d e=false:=by simp[iZ,ky,h]
theorem wv{d:List cI}{e:cI}(h:e.1≠dU (cO e.2.2.1)):iZ d e=false:=by have:(e.1 == dU (cO e.2.2.1))=false:=by{simpa using h};simp[iZ,ky,this]
theorem rR{d:List cI}{e:cI}(h:∃p∈d,eA (cO p.2.2.1) (cO e.2.2.1)=true):iZ d e=false:=by obtain⟨p,hp,ha⟩:=h;have:(d.all fun p=>!eA (cO p.2.2.1) (cO e.2.2.1))=false:=by{rw[List.all_eq_false];exact⟨p,hp,by simp[ha]⟩};simp only[iZ,this,Bool.and_false]
theorem ww {d:List cI} {e:cI} (h:cY e.2.1 0 12=false):iZ d e=false:=by simp[iZ,ky,h]
theorem wB {d:List cI} {e:cI} (h:cY e.2.2.2 1 100000=false):iZ d e=false:=by simp[iZ,ky,h]
theorem wE{d:List cI}{k:Nat}{p e:cI}(hp:d[k]?=some p)(h:fw p e.1 e.2.1=false):iZ (d.take (k+1)) e=false:=by have:(d.take (k+1)).getLast?=some p:=by{rw[List.take_add_one,hp];simp};simp[iZ,this,h]
theorem pA{d:List cI}{e:cI}(h1:(et (cO e.2.2.1)).2=true)(h2:e.1=dU (cO e.2.2.1))(h3:∀p∈d,eA (cO p.2.2.1) (cO e.2.2.1)=false)(h4:cY e.2.1 0 12=true)(h5:cY e.2.2.2 1 100000=true)(h6:∀p,d.getLast?=some p->fw p e.1 e.2.1=true):iZ d e=true:=by have ha:(d.all fun p=>!eA (cO p.2.2.1) (cO e.2.2.1))=true:=by{rw[List.all_eq_true];intro p hp;simp[h3 p hp]};have hh:(e.1 == dU (cO e.2.2.1))=true:=by{simpa using h2};rw[iZ,Bool.and_eq_true,Bool.and_eq_true];refine⟨⟨by simp only[ky,h1,hh,h4,h5,Bool.and_true],?_⟩,ha⟩;cases hq:d.getLast? with|none=>{rfl}|some p=>{exact h6 p hq}
theorem tQ {d:List cI} {k:Nat} {p:cI} (hp:d[k]?=some p):(d.take (k+1)).getLast?=some p:=by rw[List.take_add_one,hp];simp
theorem ik{d:List cI}{k:Nat}{e:cI}(he:d[k]?=some e)(h:iZ (d.take k) e=false):mY d=false:=by cases hq:jf d d.length with|false=>{rw[mY,hq,Bool.and_false]}|true=>{rw[BA hq he]at h;cases h}
theorem mA{d:List cI}{k:Nat}{e:cI}(he:d[k]?=some e)(h0:jf d k=true)(h:iZ (d.take k) e=true):jf d (k+1)=true:=by rw[jf,he,h0,Bool.true_and];exact h
theorem wF {d:List cI} (h1:d.length<=12) (h:jf d d.length=true):mY d=true:=by rw[mY,h];simpa using h1
theorem tR{d:List cI}(h1:12<d.length):mY d=false:=by have:decide (d.length<=12)=false:=decide_eq_false (by omega);rw[mY,this,Bool.false_and]
theorem wG{d:List cI}{k:Nat}(hk:k<=d.length)(h:jf d k=true):∀p∈d.take k,(et (cO p.2.2.1)).2=true:=by intro p hp;have:=(uE k hk h).1 p hp;simp only[ky,Bool.and_eq_true]at this;exact this.1.1.1
theorem BT{d:List cI}{e:cI}(hd:∀p∈d,(et (cO p.2.2.1)).2=true)(h1:(et (cO e.2.2.1)).2=true)(h:wt e∈ki d):∃p∈d,eA (cO p.2.2.1) (cO e.2.2.1)=true:=by obtain⟨p,hp,he⟩:=List.mem_map.1 h;exact⟨p,hp,by{simp only[eA,Bool.and_eq_true,decide_eq_true_eq];exact⟨⟨hd p hp,h1⟩,uw he⟩}⟩
theorem Dj{d:List cI}{e:cI}(h:wt e∉ki d):∀p∈d,eA (cO p.2.2.1) (cO e.2.2.1)=false:=by intro p hp;cases ha:eA (cO p.2.2.1) (cO e.2.2.1)with|false=>{rfl}|true=>{simp only[eA,Bool.and_eq_true,decide_eq_true_eq]at ha;exact absurd (List.mem_map.2 ⟨p,hp,by rw[wt,wt,ha.2]⟩) h}
theorem BU {s:List UInt8} (h:(et s).2=true):dU s=mt (et s).1 % 16:=by rw[dU,if_pos h]
theorem x6(A:Option Addr)(n c:Nat)(l:List Int)(x:Int)(w:World)(h:Rd w A n 1 (l.map (Value.int .i64)))(hn:n<=1048576):Calls Tryz.prog 72 #[.slice A n c,.int .i64 x] w fun e w'=>(∃r:Int,e=.returned (.int .i64 r)/\((r = -1/\x∉l)\/∃k:Nat,r=k/\k<n/\l[k]?=some x))/\w'=w:=by have HL:=hJ h.len1;have G:=hJ h;clear h;go_enter Tryz.func72,Tryz.ntmps72;go_wp2_with fail;go_loopw [5,8] (fun jv iv wr=>∃i:Nat,iv=.int .i64 i/\i<=n/\x∉l.take i/\wr=w) (fun _ iv _=>n-(intOf iv).toNat);{exact⟨0,rfl,by omega,by simp,rfl⟩};obtain⟨i,rfl,hi,a,rfl⟩:=hrel;by_cases b:i<n;{obtain⟨y,hy⟩:=cM HL.out b;obtain⟨bk,of,rfl,hc⟩:=G.out.get1 hy;have hi0:(0:Int)<=(i:Int):=by{omega};have hi1:(i:Int)<(n:Int):=by{omega};have HY:=hJ hy;have HO:=hJ a;clear hy a;by_cases d:x=y;{subst d;go_wp2_with fail;go_ret;exact⟨⟨_,rfl,Or.inr ⟨i,rfl,b,HY.out⟩⟩,rfl⟩};{go_wp2_with fail;go_roundw;{exact⟨i+1,by go_num,by omega,by rw[At.take HY.out,List.mem_append,not_or];exact⟨HO.out,by simpa using d⟩,trivial⟩};simp[intOf];omega}};{have HO:=hJ a;clear a;go_wp2_with fail;go_ret;refine⟨⟨_,rfl,Or.inl ⟨rfl,?_⟩⟩,rfl⟩;have:=HO.out;rwa [List.take_of_length_le (by rw[HL.out];omega)]at this}
theorem iC(A:Option Addr)(n c:Nat)(l:List Int)(x:Int)(w:World)(h:Rd w A n 1 (l.map (Value.int .i64)))(hn:n<=1048576):Calls Tryz.prog 40 #[.slice A n c,.int .i64 x] w fun e w'=>e=.returned (.bool (decide (x∈l)))/\w'=w:=by have G:=hJ h;clear h;obtain⟨b,hb⟩:∃b,b=decide (x∈l):=⟨_,rfl⟩;rw[<-hb];have HB:=hJ hb;clear hb;go_enter Tryz.func40,Tryz.ntmps40;go_wp2_with fail;refine(x6 A n c l x _ G.out hn).mono ?_;rintro e w2 ⟨⟨r,rfl,hr⟩,rfl⟩;rcases hr with⟨rfl,a⟩|⟨k,rfl,hk,hx⟩;{have HE:=hJ (show b=false by rw[HB.out];exact decide_eq_false a);clear a;go_wp2_with fail;go_ret;rw[HE.out];exact⟨rfl,rfl⟩};{have HE:=hJ (show b=true by rw[HB.out];exact decide_eq_true (mD hx));have hk0:(0:Int)<=(k:Int):=by{omega};clear hx;go_wp2_with fail;go_ret;rw[HE.out];exact⟨rfl,rfl⟩}
theorem x7(A:Option Addr)(n c:Nat)(l:List ByteArray)(x:ByteArray)(w:World)(h:Rd w A n 1 (l.map Value.string))(hn:n<=1048576):Calls Tryz.prog 138 #[.slice A n c,.string x] w fun e w'=>(∃r:Int,e=.returned (.int .i64 r)/\((r = -1/\x∉l)\/∃k:Nat,r=k/\k<n/\l[k]?=some x))/\w'=w:=by have HL:=hJ h.len1;have G:=hJ h;clear h;go_enter Tryz.func138,Tryz.ntmps138;go_wp2_with fail;go_loopw [5,8] (fun jv iv wr=>∃i:Nat,iv=.int .i64 i/\i<=n/\x∉l.take i/\wr=w) (fun _ iv _=>n-(intOf iv).toNat);{exact⟨0,rfl,by omega,by simp,rfl⟩};obtain⟨i,rfl,hi,a,rfl⟩:=hrel;by_cases d:i<n;{obtain⟨y,hy⟩:=cM HL.out d;obtain⟨bk,of,rfl,hc⟩:=G.out.get1 hy;have hi0:(0:Int)<=(i:Int):=by{omega};have hi1:(i:Int)<(n:Int):=by{omega};have HY:=hJ hy;have HO:=hJ a;clear hy a;by_cases b:x=y;{subst b;go_wp2_with fail;go_ret;exact⟨⟨_,rfl,Or.inr ⟨i,rfl,d,HY.out⟩⟩,rfl⟩};{have hbb:(x.toList == y.toList)=false:=m8 b;have f:=hJ b;clear b;go_wp2_with fail;go_roundw;{exact⟨i+1,by go_num,by omega,by rw[At.take HY.out,List.mem_append,not_or];exact⟨HO.out,by simpa using f.out⟩,trivial⟩};simp[intOf];omega}};{have HO:=hJ a;clear a;go_wp2_with fail;go_ret;refine⟨⟨_,rfl,Or.inl ⟨rfl,?_⟩⟩,rfl⟩;have:=HO.out;rwa [List.take_of_length_le (by rw[HL.out];omega)]at this}
theorem jZ(A:Option Addr)(n c:Nat)(l:List ByteArray)(x:ByteArray)(w:World)(h:Rd w A n 1 (l.map Value.string))(hn:n<=1048576):Calls Tryz.prog 106 #[.slice A n c,.string x] w fun e w'=>∃b,e=.returned (.bool b)/\(b=true↔x∈l)/\w'=w:=by have G:=hJ h;clear h;go_enter Tryz.func106,Tryz.ntmps106;go_wp2_with fail;refine(x7 A n c l x _ G.out hn).mono ?_;rintro e w2 ⟨⟨r,rfl,hr⟩,rfl⟩;rcases hr with⟨rfl,a⟩|⟨k,rfl,hk,hx⟩;{have HE:=hJ a;clear a;go_wp2_with fail;go_ret;exact⟨_,rfl,⟨fun h=>by simp at h,fun h=>absurd h HE.out⟩,rfl⟩};{have HE:=hJ (mD hx);have hk0:(0:Int)<=(k:Int):=by{omega};clear hx;go_wp2_with fail;go_ret;exact⟨_,rfl,⟨fun _=>HE.out,fun _=>by simp⟩,rfl⟩}
def gj (w:World) (g:Nat):Nat->List Value->World
 |_,[]=>w
 |j,v::vs=>gj (w.setCell ⟨g,j,none⟩ v) g (j+1) vs
theorem Hp.blays_aux {W:List Nat} {w0:World} {g:Nat} {t:TypeId}:∀(vs oF a:List Value) (w:World) (l:List Ob) (i:Nat),Hp W w0 w l->l[i]?=some (.blk g t (oF++a))->a.length=vs.length->Hp W w0 (gj w g oF.length vs) (l.set i (.blk g t (oF++vs)))
 | [],oF,a,w,l,i,h,hi,hl=>by
   have e:a=[]:=List.eq_nil_of_length_eq_zero hl;subst e;have e2:l.set i (.blk g t (oF++[]))=l:=by
    apply List.ext_getElem?;intro j
    by_cases b:i=j
    ·subst b;rw[List.getElem?_set_self (mE hi).1,hi]
    ·rw[List.getElem?_set_ne b]
   rw[e2];exact h
 |v::vs,oF,[],w,l,i,h,hi,hl=>by simp at hl
 |v::vs,oF,p::a,w,l,i,h,hi,hl=>by
   have h1:=h.bput i hi oF.length v;rw[List.set_append_right _ _ (Nat.le_refl _),Nat.sub_self,List.set_cons_zero]at h1;have h2:=Hp.blays_aux vs (oF++[v]) a _ _ i h1 (by rw[List.getElem?_set_self (mE hi).1,List.append_assoc];rfl) (by simpa using hl);rw[List.set_set,List.length_append,List.append_assoc]at h2;exact h2
theorem Hp.blays {W:List Nat} {w0 w:World} {l:List Ob} {g:Nat} {t:TypeId} {cs:List Value} (h:Hp W w0 w l) (i:Nat) (hi:l[i]?=some (.blk g t cs)) (vs:List Value) (hl:cs.length=vs.length):Hp W w0 (gj w g 0 vs) (l.set i (.blk g t vs)):=
 Hp.blays_aux vs [] cs w l i h hi hl
def uT {α:Type} (n a j r s:Nat) (xs ql:List α):Prop:=(r=0/\s=0/\ql=[])\/(n=j+r/\a=j+s/\ql=xs.drop j)
section
variable {P : Program} (w : World)
theorem qu(base:Nat)(t ty e:TypeId)(i:TypeInfo)(z:Value)(o:Nat)(ht:P.underlying t=some (.slice e))(hi:P.info? e=some i)(hz:i.zero=some z)(l:i.size=1)(J:i.bytes=o)(Z:z.cells.size=1)(g n y j r s:Nat)(xs ql:List Value)(C:w.ownsRow base e 1 (.slice (some ⟨g,0,none⟩) n y) n xs)(hv:uT n y j r s xs ql)(a:Addr)(m c:Nat)(b:List Value)(hm:0<m)(hl:b.length=m)(q:∀j u,b[j]?=some u->w.cell? (a.add j)=some u)(h1:∀u∈b,u.oneCell'=true)(N:n+m<=maxLen)(x:(n+m)*o<=140737488355328)(O:base<=w.heap.size):∃w' g' j' r' s' n' f xs',(Builtin.append_ #[t,t] ty #[.slice (some ⟨g,j,none⟩) r s,.slice (some a) m c]).run P w=.ok (.slice (some ⟨g',j',none⟩) r' s') w'/\n'=j'+r'/\f=j'+s'/\n'<=n+m/\w'.ownsRow base e 1 (.slice (some ⟨g',0,none⟩) n' f) n' xs'/\w.grownBy w' (some g)/\((g'=g/\j'=j/\xs'=xs++b/\ql=xs.drop j/\j<=xs.length)\/(g'=w.heap.size/\j'=0/\xs'=ql++b)):=by have E:=C;obtain⟨L,ho⟩:=C;rcases ho with⟨he,_⟩|⟨g0,a0,cur,he,Q,hg,hnc,R,S,B⟩;{cases he};injection he with e1 _ e2;injection e1 with e1;injection e1 with e1;subst e1 e2;rw[Nat.mul_one]at L S B;have hql:ql.length=r:=by{rcases hv with⟨h,_,e⟩|⟨h,_,e⟩;{rw[e,h];rfl};{rw[e,List.length_drop];omega}};(have hrn:r<=n:=by rcases hv with⟨h,_,_⟩|⟨h,_,_⟩<;>omega);by_cases F:r+m<=s;{have Y:n=j+r/\y=j+s/\ql=xs.drop j:=hv.resolve_left (by omega);obtain⟨hn,hc,hq⟩:=Y;have K:n+b.length<=cur.size:=by{omega};have T:=run_firstCells_some (P:=P) w 1 m a m c b (by omega) q;have G:=run_storeCells_at P g n e b 0 cur w hg (by simpa using K) h1;simp only[Nat.add_zero]at G;have I:(⟨g,j,none⟩:Addr).add r=⟨g,n,none⟩:=by{rw[Addr.add_lit];congr 1;omega};obtain⟨d,p⟩:∃d:Array Value,d=(cur.toList.take n++b++cur.toList.drop (n+b.length)).toArray:=⟨_,rfl⟩;rw[<-p]at G;refine⟨w.setRow g d,g,j,r+m,s,n+m,y,xs++b,?_,by omega,hc,Nat.le_refl _,⟨by simp;omega,.inr ⟨g,y,d,rfl,Q,setRow_heap w g cur d e (0,0) hg,by omega,R,?_,?_⟩⟩,⟨rfl,rfl,rfl,by simp,fun k _ hk=>setRow_other w g k d (fun e=>hk (by simp[e]))⟩,.inl ⟨rfl,rfl,rfl,hq,by omega⟩⟩;{simp[Builtin.append_,run_underlying ht,sizeOf,typeInfo,hi,l,Builtin.lenOf,F,T,I,G]};{rw[p];simp only[List.size_toArray,List.length_append,List.length_take,List.length_drop,Array.length_toList];omega};{rw[p,Nat.mul_one];simp only[B];have:(xs++b).length=n+m:=by{simp;omega};rw[<-this];exact List.take_left}};{have D:=E.cells (g:=g) rfl;have holds:∀k u,ql[k]?=some u->w.cell? ((⟨g,j,none⟩:Addr).add k)=some u:=by{intro k u hu;rcases hv with⟨_,_,hq⟩|⟨_,_,hq⟩;{rw[hq]at hu;simp at hu};{rw[hq,List.getElem?_drop]at hu;have:=D _ _ hu;rw[Addr.add_lit]at this|-;simpa using this}};obtain⟨v',w',hr,M,A⟩:=run_append_arg_grows (P:=P) w t ty e i z 1 o ht hi hz l J Z Nat.one_pos ⟨g,j,none⟩ r s ql (by omega) holds a m c b (by omega) q (by omega) (by omega) (Nat.le_trans (Nat.mul_le_mul_right _ (by omega)) x);rcases M.2 with⟨_,h0⟩|⟨g',f,d,X,a1,U,k1,k2,k3,k4⟩;{omega};subst X;refine⟨w',g',0,r+m,f,r+m,f,ql++b,hr,by omega,by omega,by omega,⟨M.1,.inr ⟨g',f,d,rfl,by omega,U,k1,k2,k3,k4⟩⟩,⟨A.os,A.tape,A.output,A.size,fun k hk _=>A.block k hk (by simp)⟩,?_⟩;have V:=run_append_grow (P:=P) w t ty e i z ht hi hz ⟨g,j,none⟩ r s ql (by rw[l];omega) holds a m c b (by rw[l];omega) q (by omega) (by simp only[maxLen]at N;omega) (growslice_fits (by omega) (by rw[J];exact Nat.le_trans (Nat.mul_le_mul_right _ (by omega)) x));rw[V]at hr;injection hr with hr _;injection hr with hr;injection hr with hr;injection hr with hr;exact .inr ⟨hr.symm,rfl,rfl⟩}
end
section
variable {P : Program} {ops : Array Oper} {rest : List Oper} {o : Oper} {a : Act} {Q : Exit → Act → World → Prop} {E : TypeId} {z : Value} {bytes : Nat} {W : List Nat} {w0 w : World} {l : List Ob}
theorem qM {α : Type} {f : α → Value} (H : Hp W w0 w l) (B : o.guard = none) (s x : Operand) (t : TypeId) (ho : o.op = .call { callee := .builtin .append, args := #[s, x], argTypes := #[t, t] })
 (ht : P.underlying t = some (.slice E)) (hI : (P.info? E).map (fun i => (i.zero, i.size, i.bytes)) = some (some z, 1, bytes)) (F : z.cells.size = 1)
 (i : Nat) (g n e j r q : Nat) (L ql : List α) (d : l[i]? = some (.row E 1 (.slice (some ⟨g, 0, none⟩) n e) n (L.map f))) (hv : uT n e j r q L ql) (hs : a.eval s = .slice (some ⟨g, j, none⟩) r q)
 (g1 : Nat) (T : TypeId) (y : α) (hx : a.eval x = .slice (some ⟨g1, 0, none⟩) 1 1) (hg : g1 = w.heap.size)
 (h1 : (f y).oneCell' = true) (u : n + 1 ≤ maxLen) (k : (n + 1) * bytes ≤ 140737488355328)
 (h : ∀ (g' j' r' q' n' c : Nat) (L' : List α) (w' : World), n' ≤ n + 1 → uT n' c j' r' q' L' (ql ++ [y]) → Hp W w0 w' (l.set i (.row E 1 (.slice (some ⟨g', 0, none⟩) n' c) n' (L'.map f))) → wpList P ops Q rest (a.put o.dst (.slice (some ⟨g', j', none⟩) r' q')) w') :
 wpList P ops Q (o :: rest) a (w.alloc (.cells #[f y] T)) := by
 subst hg;obtain ⟨G, hi, hz, m, A⟩ := info_parts hI;have H1 := H.al (.cells #[f y] T);have C : L.length = n := by simpa using (H.row i d).1
 have D : uT n e j r q (L.map f) (ql.map f) := by
  rcases hv with ⟨h1, h2, h3⟩ | ⟨h1, h2, h3⟩
  ·exact .inl ⟨h1, h2, by rw [h3]; rfl⟩
  ·exact .inr ⟨h1, h2, by rw [h3, List.map_drop]⟩
 obtain ⟨w', g', j', r', q', n', c, xs', hr, k1, k2, p, k3, k4, k5⟩ := qu (P := P) _ 0 t o.type E G z bytes ht hi hz m A F g n e j r q (L.map f) (ql.map f) (H1.row i d) D ⟨w.heap.size, 0, none⟩ 1 1 [f y] Nat.one_pos rfl
  (by simpa using yI w #[f y] T) (by simpa using h1) u k (Nat.zero_le _)
 refine wpList_plain B fun K hK => ?_;unfold Oper.wp execOp;simp only [ho, resolve, invoke, builtin, Sem.run_bind, Sem.run_pure, Result.andThen_ok, List.map_toArray, List.map_cons, List.map_nil, hs, hx, hr];refine hK _ _ ?_
 rcases k5 with ⟨rfl, rfl, rfl, k6, k7⟩ | ⟨rfl, rfl, rfl⟩
 ·rcases hv with ⟨h1, h2, h3⟩ | ⟨h1, h2, h3⟩
  ·
   have h4 : (L.drop j').map f = [] := by rw [List.map_drop, ← k6, h3]; rfl
   have h5 : L.drop j' = [] := List.map_eq_nil_iff.1 h4;refine h g' j' r' q' n' c (L ++ [y]) w' p (.inr ⟨k1, k2, by rw [List.drop_append_of_le_length (by rw [List.length_map] at k7; exact k7), h5, h3]⟩) ?_;rw [List.map_append];exact H1.grow i d k4 k3 (.inl rfl)
  ·refine h g' j' r' q' n' c (L ++ [y]) w' p (.inr ⟨k1, k2, by rw [List.drop_append_of_le_length (by omega), h3]⟩) ?_
   rw [List.map_append];exact H1.grow i d k4 k3 (.inl rfl)
 ·refine h _ 0 r' q' n' c (ql ++ [y]) w' p (.inr ⟨k1, k2, rfl⟩) ?_
  rw [List.map_append];exact H1.grow i d k4 k3 (.inr fun b hb => by injection hb with hb; rw [← hb]; exact Nat.le_refl _)
end
