import Derived.Test.YtecfeojhkcohfaaGreatDoorGm
import Derived.Shelf.RegionOpenPlain
import Derived.Lib.Walk
set_option linter.all false
set_option maxRecDepth 100000
set_option maxHeartbeats 64000000
namespace Go.Proofs.YtecfeojhkcohfaaGreatDoor
open Go.RowKit
theorem AL {l:List cI}:pB l↔(l.map (·.1)).Pairwise (· < ·):=by rw[List.pairwise_map]
theorem D9{l:List cI}{k:Nat}{x y:cI}(hx:l[k]?=some x)(h:y.1=x.1):(l.set k y).map (·.1)=l.map (·.1):=by apply List.ext_getElem?;intro j;rw[List.getElem?_map,List.getElem?_map];by_cases hj:k=j;{subst hj;rw[List.getElem?_set_self (mD hx).1,hx];simp[h]};{rw[List.getElem?_set_ne hj]}
theorem qh{l:List cI}{k:Nat}{x y:cI}(hs:pB l)(hx:l[k]?=some x)(h:y.1=x.1):pB (l.set k y):=by rw[AL,D9 hx h];exact AL.1 hs
theorem fd{l:List cI}{k:Nat}{x y z:cI}(hs:pB l)(hx:l[k]?=some x):z∈l.set k y↔z=y\/(z∈l/\z.1≠x.1):=by have hk:=(mD hx).1;constructor;{intro hz;obtain⟨j,hj⟩:=List.getElem?_of_mem hz;by_cases a:k=j;{subst a;rw[List.getElem?_set_self hk]at hj;injection hj with hj;exact .inl hj.symm};{rw[List.getElem?_set_ne a]at hj;refine .inr ⟨hZ hj,fun e=>a ?_⟩;have h1:=fm hs hj;rw[e,fm hs hx]at h1;injection h1}};{rintro(rfl|⟨hz,hne⟩);{exact hZ (List.getElem?_set_self hk)};{obtain⟨j,hj⟩:=List.getElem?_of_mem hz;refine hZ (i:=j) ?_;rw[List.getElem?_set_ne (fun e=>by subst e;rw[hx]at hj;injection hj with hj;exact hne (by rw[hj])),hj]}}
theorem zK{l:List cI}{k:Nat}{x y:cI}(hs:pB l)(hx:l[k]?=some x)(h:y.1=x.1){i:Int}:(∃z∈l.set k y,z.1=i)↔∃z∈l,z.1=i:=by constructor;{rintro⟨z,hz,rfl⟩;rcases(fd hs hx).1 hz with rfl|⟨hz,_⟩;{exact⟨x,hZ hx,h.symm⟩};{exact⟨z,hz,rfl⟩}};{rintro⟨z,hz,rfl⟩;by_cases a:z.1=x.1;{exact⟨y,(fd hs hx).2 (.inl rfl),h.trans a.symm⟩};{exact⟨z,(fd hs hx).2 (.inr ⟨hz,a⟩),rfl⟩}}
theorem sm{l:List cI}{k:Nat}{x y:cI}(hs:pB l)(hx:l[k]?=some x)(h:y.1=x.1){a b:Int}:kR (l.set k y) a b↔(a=x.1/\b∈iI y.2.2.2.2)\/(a≠x.1/\kR l a b):=by constructor;{rintro⟨z,hz,rfl,e,he,rfl⟩;rcases(fd hs hx).1 hz with rfl|⟨hz,hne⟩;{exact .inl ⟨h,List.mem_map_of_mem he⟩};{exact .inr ⟨hne,z,hz,rfl,e,he,rfl⟩}};{rintro(⟨rfl,hb⟩|⟨hne,z,hz,rfl,r⟩);{obtain⟨e,he,rfl⟩:=List.mem_map.1 hb;exact⟨y,(fd hs hx).2 (.inl rfl),h,e,he,rfl⟩};{exact⟨z,(fd hs hx).2 (.inr ⟨hz,hne⟩),rfl,r⟩}}
theorem mV{l:List cI}{k:Nat}{x:cI}(hs:pB l)(hx:l[k]?=some x){b:Int}:kR l x.1 b↔b∈iI x.2.2.2.2:=by constructor;{rintro⟨z,hz,e0,e,he,rfl⟩;have:=jy hs hz (hZ hx) e0;subst this;exact List.mem_map_of_mem he};{intro hb;obtain⟨e,he,rfl⟩:=List.mem_map.1 hb;exact⟨x,hZ hx,rfl,e,he,rfl⟩}
theorem VW.set{next:Int}{l:List cI}{k:Nat}{x y:cI}(h:VW next l)(hx:l[k]?=some x)(h1:y.1=x.1)(h2:y.2.1=x.2.1)(ht:EU y)(he:∀e∈y.2.2.2.2,e.2.2.2≠1/\∃z∈l,z.1=e.2.2.2):VW next (l.set k y):=by refine⟨h.lo,h.hi,by rw[List.length_set];exact h.len,qh h.srt hx h1,fun z hz=>?_,?_,fun z hz=>?_,fun z hz e a=>?_⟩;{rcases(fd h.srt hx).1 hz with rfl|⟨hz,_⟩;{rw[h1];exact h.rng x (hZ hx)};{exact h.rng z hz}};{obtain⟨r,hr,r1,r2⟩:=h.root;by_cases hk:k=0;{subst hk;rw[hx]at hr;injection hr with hr;subst hr;exact⟨y,List.getElem?_set_self (mD hx).1,by rw[h1,r1],by rw[h2,r2]⟩};{exact⟨r,by rw[List.getElem?_set_ne hk,hr],r1,r2⟩}};{rcases(fd h.srt hx).1 hz with rfl|⟨hz,_⟩;{exact ht};{exact h.typ z hz}};{rcases(fd h.srt hx).1 hz with rfl|⟨hz,_⟩;{exact⟨(he e a).1,(zK h.srt hx h1).2 (he e a).2⟩};{exact⟨(h.ent z hz e a).1,(zK h.srt hx h1).2 (h.ent z hz e a).2⟩}}
theorem iK{l:List cI}{k:Nat}{x z:cI}(hs:pB l)(hx:l[k]?=some x):z∈l.eraseIdx k↔z∈l/\z.1≠x.1:=by rw[List.mem_eraseIdx_iff_getElem?];constructor;{rintro⟨j,hj,hz⟩;refine⟨hZ hz,fun e=>hj ?_⟩;have h1:=fm hs hz;rw[e,fm hs hx]at h1;injection h1 with h1;exact h1.symm};{rintro⟨hz,a⟩;obtain⟨j,hj⟩:=List.getElem?_of_mem hz;exact⟨j,fun e=>by subst e;rw[hx]at hj;injection hj with hj;exact a (by rw[hj]),hj⟩}
theorem BF{l:List cI}{k:Nat}{x:cI}(hs:pB l)(hx:l[k]?=some x){a b:Int}:kR (l.eraseIdx k) a b↔a≠x.1/\kR l a b:=by constructor;{rintro⟨z,hz,rfl,r⟩;obtain⟨h1,h2⟩:=(iK hs hx).1 hz;exact⟨h2,z,h1,rfl,r⟩};{rintro⟨c,z,hz,rfl,r⟩;exact⟨z,(iK hs hx).2 ⟨hz,c⟩,rfl,r⟩}
theorem VW.erase{next:Int}{l:List cI}{k:Nat}{x:cI}(h:VW next l)(hx:l[k]?=some x)(h1:x.1≠1)(hn:∀a,¬kR l a x.1):VW next (l.eraseIdx k):=by have hk:=(mD hx).1;refine⟨h.lo,h.hi,by rw[List.length_eraseIdx_of_lt hk];have:=h.len;omega,h.srt.sublist (List.eraseIdx_sublist _ _),fun z hz=>h.rng z ((iK h.srt hx).1 hz).1,?_,fun z hz=>h.typ z ((iK h.srt hx).1 hz).1,fun z hz e he=>?_⟩;{obtain⟨r,hr,r1,r2⟩:=h.root;have b:0<k:=by{rcases Nat.eq_zero_or_pos k with h0|h0;{subst h0;rw[hx]at hr;injection hr with hr;subst hr;exact absurd r1 h1};{exact h0}};exact⟨r,by rw[List.getElem?_eraseIdx_of_lt b,hr],r1,r2⟩};{obtain⟨hz,hne⟩:=(iK h.srt hx).1 hz;obtain⟨e1,y,hy,e2⟩:=h.ent z hz e he;refine⟨e1,y,(iK h.srt hx).2 ⟨hy,fun e3=>hn z.1 ⟨z,hz,rfl,e,he,?_⟩⟩,e2⟩;rw[<-e2,e3]}
theorem VW.app{next:Int}{l:List cI}{x:cI}(h:VW next l)(h1:x.1=next)(ht:EU x)(he:x.2.2.2.2=[])(hn:next<100000)(hl:l.length<16):VW (next+1) (l++[x]):=by have hlo:=h.lo;have mem:∀{z},z∈l++[x]↔z∈l\/z=x:=by{simp};refine⟨by omega,by omega,by simp;omega,?_,fun z hz=>?_,?_,fun z hz=>?_,fun z hz e c=>?_⟩;{refine List.pairwise_append.2 ⟨h.srt,List.pairwise_singleton _ _,fun a ha b hb=>?_⟩;rw[List.mem_singleton.1 hb,h1];exact(h.rng a ha).2};{rcases mem.1 hz with hz|rfl;{have:=h.rng z hz;omega};{omega}};{obtain⟨r,hr,r1,r2⟩:=h.root;exact⟨r,by rw[List.getElem?_append_left (mD hr).1,hr],r1,r2⟩};{rcases mem.1 hz with hz|rfl;{exact h.typ z hz};{exact ht}};{rcases mem.1 hz with hz|rfl;{obtain⟨e1,y,hy,e2⟩:=h.ent z hz e c;exact⟨e1,y,mem.2 (.inl hy),e2⟩};{rw[he]at c;simp at c}}
theorem Ea{l:List cI}{x:cI}(he:x.2.2.2.2=[]){a b:Int}:kR (l++[x]) a b↔kR l a b:=by constructor;{rintro⟨z,hz,rfl,e,c,rfl⟩;rcases List.mem_append.1 hz with hz|hz;{exact⟨z,hz,rfl,e,c,rfl⟩};{rw[List.mem_singleton.1 hz,he]at c;simp at c}};{rintro⟨z,hz,r⟩;exact⟨z,List.mem_append_left _ hz,r⟩}
theorem wN{d:List cH}{s:ByteArray}{id:Int}(h1:dI (cN s)=true)(h2:dM d (cN s)=none)(h3:cV id 1 100000=true)(h4:d.length<12):(iI (fF d s id).1).Perm (id::iI d):=by rw[fF,if_pos (by simp[h1,h2,h3,h4])];exact(re _ _).map _
theorem i5{d:List cH}{s:ByteArray}{e:cH}(h:ed d s=some e):∃k,dM d (cN s)=some k/\d[k]?=some e:=by rw[ed,Option.bind_eq_some_iff]at h;exact h
theorem te {α:Type}:∀{l:List α} {k:Nat} {x:α},l[k]?=some x->l.Perm (x::l.eraseIdx k)
 | [],k,x,h=>by simp at h
 |y::l,0,x,h=>by injection h with h;subst h;exact .refl _
 |y::l,k+1,x,h=>by
   rw[List.eraseIdx_cons_succ];exact((te (l:=l) (k:=k) h).cons y).trans (.swap _ _ _)
theorem iw{d:List cH}{s:ByteArray}{e:cH}(h:ed d s=some e):(iI d).Perm (e.2.2.2::iI (de d s).1):=by obtain⟨k,h1,h2⟩:=i5 h;rw[de,h1];exact(te h2).map _
theorem ya {α:Type}:∀{l:List α} {k:Nat} {x y:α},l[k]?=some x->(l.set k y).Perm (y::l.eraseIdx k)
 | [],k,x,y,h=>by simp at h
 |z::l,0,x,y,h=>.refl _
 |z::l,k+1,x,y,h=>by
   rw[List.eraseIdx_cons_succ,List.set_cons_succ];exact((ya (l:=l) (k:=k) (y:=y) h).cons z).trans (.swap _ _ _)
theorem yc{d:List cH}{s:ByteArray}{id:Int}{e:cH}(h:ed d s=some e)(a:cV id 1 100000=true):(iI (dJ d s id).1).Perm (id::iI (de d s).1):=by obtain⟨k,h1,h2⟩:=i5 h;rw[my h1 h2 a,de,h1];exact(ya (y:=(e.1,e.2.1,s,id)) h2).map _
section
variable {next : Int} {l : List cI} {k : Nat} {x : cI} {d : List cH} {a b i : Int}
theorem dm (hx:l[k]?=some x):dg l k d=l.set k (x.1,x.2.1,x.2.2.1,x.2.2.2.1,d):=by rw[dg,hx]
theorem dr (hx:l[k]?=some x):dQ l k=x.2.2.2.2:=by rw[dQ,hx]
theorem eh (hx:l[k]?=some x):px l k=x.2.1:=by rw[px,hx]
theorem kI(h:VW next l)(hx:l[k]?=some x)(hk:x.2.1=2)(hd:gH d)(he:∀e∈d,e.2.2.2≠1/\∃z∈l,z.1=e.2.2.2):VW next (dg l k d):=by rw[dm hx];refine h.set hx rfl rfl ?_ he;rcases h.typ x (hZ hx)with t|t;{omega};{exact .inr ⟨t.1,t.2.1,hd⟩}
theorem gI(hx:l[k]?=some x):cU (dg l k d) i+(iI x.2.2.2.2).count i=cU l i+(iI d).count i:=by have h:=lv i (x.1,x.2.1,x.2.2.1,x.2.2.2.1,d) l k x hx;rw[rl,rl]at h;rw[dm hx];exact h
theorem fI(hs:pB l)(hx:l[k]?=some x):kR (dg l k d) a b↔(a=x.1/\b∈iI d)\/(a≠x.1/\kR l a b):=by rw[dm hx];exact sm (y:=(x.1,x.2.1,x.2.2.1,x.2.2.2.1,d)) hs hx rfl
theorem tf(hx:l[k]?=some x){j:Nat}{y:cI}(hy:l[j]?=some y):(dg l k d)[j]?=some (y.1,y.2.1,y.2.2.1,y.2.2.2.1,if j=k then d else y.2.2.2.2):=by rw[dm hx];by_cases h:j=k;{subst h;rw[hx]at hy;injection hy with hy;subst hy;rw[List.getElem?_set_self (mD hx).1,if_pos rfl]};{rw[List.getElem?_set_ne (fun e=>h e.symm),hy,if_neg h]}
theorem eT(hs:pB l)(hx:l[k]?=some x){y:cI}(hy:y∈dg l k d):∃z∈l,y.1=z.1/\y.2.1=z.2.1/\y.2.2.1=z.2.2.1:=by rw[dm hx]at hy;rcases(fd hs hx).1 hy with rfl|⟨h,_⟩;{exact⟨x,hZ hx,rfl,rfl,rfl⟩};{exact⟨y,h,rfl,rfl,rfl⟩}
theorem qi(hs:pB l)(hx:l[k]?=some x):(∃z∈dg l k d,z.1=i)↔∃z∈l,z.1=i:=by rw[dm hx];exact zK (y:=(x.1,x.2.1,x.2.2.1,x.2.2.2.1,d)) hs hx rfl
end
theorem C7{next:Int}{l:List cI}{o:Int}(h:VW next l)(h1:∀y∈l,y.2.1=2->y.2.2.1=1)(hl:∀y∈l,y.1=1\/y.2.2.1=(cU l y.1:Int)+(if y.1=o then 1 else 0))(s:o≠1)(q:∀b,¬kR l o b)(hr:∀y∈l,y.1=o\/x7 l y.1)(A:∃y∈l,y.1=o):kW next (kV l o):=by obtain⟨y,hy,c⟩:=A;obtain⟨j,hj⟩:=List.getElem?_of_mem hy;have u:eK l o=some j:=by{rw[<-c];exact fm h.srt hj};have C:=(hl y hy).resolve_left (by rw[c];exact s);rw[if_pos c,c]at C;have I:y.2.2.2.2=[]:=by{rcases he:y.2.2.2.2 with _|⟨e,r⟩;{rfl};{exact absurd ⟨y,hy,c,e,by rw[he];exact List.mem_cons_self,rfl⟩ (q e.2.2.2)}};unfold kV;rw[u];simp only[hj];by_cases g:y.2.2.1=1;{rw[if_pos g];have hn0:cU l o=0:=by{omega};have D:∀a,¬kR l a y.1:=fun a ha=>by{have:=oy.2 ⟨a,ha⟩;rw[c]at this;omega};have hW:=h.erase hj (by rw[c];exact s) D;have p:∀i,cU (l.eraseIdx j) i=cU l i:=fun i=>by{have:=qg i l j y hj;rw[I]at this;simpa[eG]using this};refine⟨hW,fun z hz=>h1 z ((iK h.srt hj).1 hz).1,fun z hz=>?_,fun z hz=>?_⟩;{obtain⟨hz,d⟩:=(iK h.srt hj).1 hz;rcases hl z hz with h2|h2;{exact .inl h2};{right;rw[h2,p,if_neg (by rw[<-c];exact d)];omega}};{obtain⟨hz,d⟩:=(iK h.srt hj).1 hz;refine iV h.srt hW.srt (fun a b f=>?_) ((hr z hz).resolve_left (by rw[<-c];exact d));exact(BF h.srt hj).2 ⟨fun e=>q b (by rw[<-c,<-e];exact f),f⟩}};{rw[if_neg g];unfold jY;simp only[hj];have B:y.2.1≠2:=fun e=>g (h1 y hy e);have G:EU (y.1,y.2.1,y.2.2.1-1,y.2.2.2.1,y.2.2.2.2):=h.typ y hy;have hW:VW next (l.set j (y.1,y.2.1,y.2.2.1-1,y.2.2.2.1,y.2.2.2.2)):=h.set hj rfl rfl G (h.ent y hy);have p:∀i,cU (l.set j (y.1,y.2.1,y.2.2.1-1,y.2.2.2.1,y.2.2.2.2)) i=cU l i:=fun i=>by{have h9:cU (l.set j (y.1,y.2.1,y.2.2.1-1,y.2.2.2.1,y.2.2.2.2)) i+eG y.2.2.2.2 i=cU l i+eG y.2.2.2.2 i:=lv i (y.1,y.2.1,y.2.2.1-1,y.2.2.2.1,y.2.2.2.2) l j y hj;omega};have m:∀a b,kR l a b->kR (l.set j (y.1,y.2.1,y.2.2.1-1,y.2.2.2.1,y.2.2.2.2)) a b:=fun a b f=>by{rw[sm (y:=(y.1,y.2.1,y.2.2.1-1,y.2.2.2.1,y.2.2.2.2)) h.srt hj rfl];by_cases n:a=y.1;{exact .inl ⟨n,(mV h.srt hj).1 (n▸f)⟩};{exact .inr ⟨n,f⟩}};have t:0<cU l o:=by{omega};obtain⟨a,ha⟩:=oy.1 t;have E:x7 l o:=by{obtain⟨z,hz,hza,r⟩:=ha;have F:=(hr z hz).resolve_left (fun e=>by{obtain⟨e1,v,x⟩:=r;exact q o ⟨z,hz,e,e1,v,x⟩});exact jz h.srt F ⟨z,hz,rfl,r⟩};have k:∀z∈l,x7 l z.1:=fun z hz=>(hr z hz).elim (fun e=>e▸E) id;refine⟨hW,fun z hz=>?_,fun z hz=>?_,fun z hz=>?_⟩;{rcases(fd h.srt hj).1 hz with rfl|⟨hz,_⟩;{exact fun e=>absurd e B};{exact h1 z hz}};{rw[p];rcases(fd h.srt hj).1 hz with rfl|⟨hz,d⟩;{right;show y.2.2.1-1=(cU l y.1:Int);rw[c];omega};{rcases hl z hz with h2|h2;{exact .inl h2};{right;rw[h2,if_neg (by rw[<-c];exact d)];omega}}};{rcases(fd h.srt hj).1 hz with rfl|⟨hz,d⟩;{exact iV h.srt hW.srt m (k y hy)};{exact iV h.srt hW.srt m (k z hz)}}}
theorem gJ(a i:Int)(l:List Int):(a::l).count i=l.count i+(if i=a then 1 else 0):=by rw[List.count_cons];by_cases h:i=a;{rw[if_pos h,h,if_pos (by simp)]};{rw[if_neg h,if_neg (by simpa using fun e=>h e.symm)]}
theorem VW.dir{next:Int}{l:List cI}{k:Nat}{x:cI}(h:VW next l)(hx:l[k]?=some x)(hd:x.2.1=2):gH x.2.2.2.2:=by rcases h.typ x (hZ hx)with t|t;{omega};{exact t.2.2}
theorem jA {d:List cH} {e:cH} (h:e∈d):e.2.2.2∈iI d:=List.mem_map_of_mem h
theorem EV{d:List cH}{b:Int}(h:b∈iI d):∃e∈d,e.2.2.2=b:=by obtain⟨e,h1,h2⟩:=List.mem_map.1 h;exact⟨e,h1,h2⟩
theorem VW.ids{next:Int}{l:List cI}{k:Nat}{x:cI}(h:VW next l)(hx:l[k]?=some x){b:Int}(hb:b∈iI x.2.2.2.2):b≠1/\∃z∈l,z.1=b:=by obtain⟨e,he,rfl⟩:=EV hb;exact h.ent x (hZ hx) e he
theorem VW.inB_id{next:Int}{l:List cI}{x:cI}(h:VW next l)(hx:x∈l):cV x.1 1 100000=true:=by have h1:=h.rng x hx;have h2:=h.hi;exact da.2 ⟨h1.1,by omega⟩
theorem VW.dirs_ne {next:Int} {l:List cI} (h:VW next l) {x:cI} (hx:x∈l) (hk:x.2.1≠2):x.1≠1:=fun e=>by
 obtain⟨r,hr,r1,r2⟩:=h.root_mem;have:=jy h.srt hx hr (e.trans r1.symm);subst this;exact hk r2
theorem sn{l:List cI}{k:Nat}{x:cI}{d:List cH}(hs:pB l)(hx:l[k]?=some x)(hd:∀b∈iI x.2.2.2.2,b∈iI d){a b:Int}(h:kR l a b):kR (dg l k d) a b:=by rw[fI hs hx];by_cases e:a=x.1;{exact .inl ⟨e,hd b ((mV hs hx).1 (e▸h))⟩};{exact .inr ⟨e,h⟩}
theorem EW {next:Int} {l:List cI} {k:Nat} {x:cI} {c:eS} (h:kW next l) (hx:l[k]?=some x) (hd:x.2.1=2) (hn:dI (cN c.2.2.1)=true):kW (eB next l k c).1.1 (eB next l k c).1.2:=by
 unfold eB;rw[dr hx]
 by_cases h1:(dM x.2.2.2.2 (cN c.2.2.1)).isSome=true
 ·rw[if_pos h1];exact h
 rw[if_neg h1]
 by_cases h2:12<=x.2.2.2.2.length\/16<=l.length\/100000<=next
 ·rw[if_pos h2];exact h
 rw[if_neg h2];have hlo:=h.lo;have r:=hZ hx;have hk:=(mD hx).1;have m:=h.toVW.dir hx hd;have hp:=wN (id:=next) hn (by simpa using h1) (da.2 ⟨by omega,by omega⟩) (by omega:x.2.2.2.2.length<12);have o:=zH m c.2.2.1 next
 generalize (fF x.2.2.2.2 c.2.2.1 next).1=d at hp o
 obtain⟨n,g⟩:∃n:cI,n=(next,(if c.1=2 then 2 else 1),1,⟨#[]⟩,[]):=⟨_,rfl⟩
 show kW (next+1) (dg l k d++[(next,(if c.1=2 then 2 else 1),1,⟨#[]⟩,[])])
 rw[<-g];have n1:n.1=next:=by rw[g]
 have n3:n.2.2.1=1:=by rw[g]
 have n5:n.2.2.2.2=[]:=by rw[g]
 have nt:EU n:=by
  rw[g]
  by_cases hc:c.1=2
  ·exact .inr ⟨if_pos hc,rfl,xQ⟩
  ·exact .inl ⟨if_neg hc,rfl,Nat.zero_le _⟩
 clear g;have hA:=h.toVW.app n1 nt n5 (by omega) (by omega);have f:(l++[n])[k]?=some x:=by rw[List.getElem?_append_left hk,hx]
 have he:dg l k d++[n]=dg (l++[n]) k d:=by rw[dm hx,dm f,List.set_append_left _ _ hk]
 rw[he];have hW:VW (next+1) (dg (l++[n]) k d):=kI hA f hd o fun e he=>by
  rcases List.mem_cons.1 (hp.mem_iff.1 (jA he))with h3|h3
  ·rw[h3];exact⟨by omega,n,by simp,n1⟩
  ·obtain⟨h4,z,hz,h5⟩:=h.toVW.ids hx h3
   exact⟨h4,z,by simp[hz],h5⟩
 have q:∀i,cU (dg (l++[n]) k d) i=cU l i+(if i=next then 1 else 0):=fun i=>by
  have h3:=gI (d:=d) (i:=i) f;rw[hp.count_eq,gJ,o7]at h3;have h4:cU [n] i=0:=by rw[eC,n5];simp[eG,cU]
  omega
 have s:cU l next=0:=zJ fun a ⟨y,hy,_,e,he,hen⟩=>by
  obtain⟨_,z,hz,h5⟩:=h.ent y hy e he;have:=h.rng z hz;omega
 have j:∀a b,kR l a b->kR (dg (l++[n]) k d) a b:=fun a b p=>
  sn hA.srt f (fun b hb=>hp.mem_iff.2 (List.mem_cons_of_mem _ hb)) ((Ea n5).2 p)
 refine⟨hW,fun y hy=>?_,fun y hy=>?_,fun y hy=>?_⟩
 ·obtain⟨z,hz,e1,e2,e3⟩:=eT hA.srt f hy
  rw[e2,e3]
  rcases List.mem_append.1 hz with hz|hz
  ·exact h.one z hz
  ·rw[List.mem_singleton.1 hz];exact fun _=>n3
 ·obtain⟨z,hz,e1,e2,e3⟩:=eT hA.srt f hy
  rw[e1,e3,q]
  rcases List.mem_append.1 hz with hz|hz
  ·have:=h.rng z hz
   rcases h.lnk z hz with h4|h4
   ·exact .inl h4
   ·right;rw[h4,if_neg (by omega)];rfl
  ·rw[List.mem_singleton.1 hz,n1,n3,if_pos rfl,s];exact .inr rfl
 ·obtain⟨z,hz,e1,e2,e3⟩:=eT hA.srt f hy
  rw[e1]
  rcases List.mem_append.1 hz with hz|hz
  ·exact iV h.srt hW.srt j (h.rch z hz)
  ·rw[List.mem_singleton.1 hz,n1]
   refine jz hW.srt (iV h.srt hW.srt j (h.rch x r)) ?_;rw[fI hA.srt f];exact .inl ⟨rfl,hp.mem_iff.2 List.mem_cons_self⟩
theorem EX{next:Int}{l:List cI}{t xi:Nat}{y x:cI}{c:eS}(h:kW next l)(ht:l[t]?=some y)(hd:y.2.1=2)(hx:l[xi]?=some x)(hn:dI (cN c.2.2.2.2.1)=true):kW (ie next l t xi x c).1.1 (ie next l t xi x c).1.2:=by unfold ie;rw[dr ht];by_cases h0:x.2.1=2;{rw[if_pos h0];exact h};rw[if_neg h0];by_cases h1:(dM y.2.2.2.2 (cN c.2.2.2.2.1)).isSome=true;{rw[if_pos h1];exact h};rw[if_neg h1];by_cases h2:12<=y.2.2.2.2.length;{rw[if_pos h2];exact h};rw[if_neg h2];have m:=hZ hx;have B:xi≠t:=fun e=>by{subst e;rw[hx]at ht;injection ht with ht;subst ht;exact h0 hd};have r:=h.toVW.dir ht hd;have hp:=wN (id:=x.1) hn (by simpa using h1) (h.toVW.inB_id m) (by omega:y.2.2.2.2.length<12);have s:=zH r c.2.2.2.2.1 x.1;generalize (fF y.2.2.2.2 c.2.2.2.2.1 x.1).1=d at hp s;show kW next (jY (dg l t d) xi (x.2.2.1+1));have A:=h.toVW.dirs_ne m h0;have g:VW next (dg l t d):=kI h.toVW ht hd s fun e he=>by{rcases List.mem_cons.1 (hp.mem_iff.1 (jA he))with h3|h3;{rw[h3];exact⟨A,x,m,rfl⟩};{exact h.toVW.ids ht h3}};have f:(dg l t d)[xi]?=some x:=by{rw[tf ht hx,if_neg B]};have u:∀i,cU (dg l t d) i=cU l i+(if i=x.1 then 1 else 0):=fun i=>by{have h3:=gI (d:=d) (i:=i) ht;rw[hp.count_eq,gJ]at h3;omega};have n:∀a b,kR l a b->kR (dg l t d) a b:=fun a b p=>sn h.srt ht (fun b hb=>hp.mem_iff.2 (List.mem_cons_of_mem _ hb)) p;have k:=fun {z:cI} (hz:z∈dg l t d)=>eT h.srt ht hz;generalize dg l t d=l1 at g f u n k;unfold jY;simp only[f];obtain⟨x',j⟩:∃x':cI,x'=(x.1,x.2.1,x.2.2.1+1,x.2.2.2.1,x.2.2.2.2):=⟨_,rfl⟩;rw[<-j];have x1:x'.1=x.1:=by{rw[j]};have x2:x'.2.1=x.2.1:=by{rw[j]};have x3:x'.2.2.1=x.2.2.1+1:=by{rw[j]};have x5:x'.2.2.2.2=x.2.2.2.2:=by{rw[j]};have xt:EU x':=by{rw[j];exact h.typ x m};clear j;have hW:VW next (l1.set xi x'):=g.set f x1 x2 xt (by rw[x5];exact g.ent x (hZ f));have v:∀i,cU (l1.set xi x') i=cU l1 i:=fun i=>by{have:=lv i x' l1 xi x f;rw[x5]at this;omega};have o:∀a b,kR l a b->kR (l1.set xi x') a b:=fun a b p=>by{rw[sm g.srt f x1];by_cases e:a=x.1;{exact .inl ⟨e,by rw[x5];exact(mV g.srt f).1 (e▸n a b p)⟩};{exact .inr ⟨e,n a b p⟩}};refine⟨hW,fun z hz=>?_,fun z hz=>?_,fun z hz=>?_⟩;{rcases(fd g.srt f).1 hz with rfl|⟨hz,_⟩;{rw[x2];exact fun e=>absurd e h0};{obtain⟨q,hq,e1,e2,e3⟩:=k hz;rw[e2,e3];exact h.one q hq}};{rw[v,u];rcases(fd g.srt f).1 hz with rfl|⟨hz,hne2⟩;{right;rw[x1,x3,if_pos rfl,(h.lnk x m).resolve_left A];rfl};{obtain⟨q,hq,e1,e2,e3⟩:=k hz;rw[if_neg hne2,e1,e3];exact h.lnk q hq}};{rcases(fd g.srt f).1 hz with rfl|⟨hz,hne2⟩;{rw[x1];exact iV h.srt hW.srt o (h.rch x m)};{obtain⟨q,hq,e1,e2,e3⟩:=k hz;rw[e1];exact iV h.srt hW.srt o (h.rch q hq)}}
theorem EY{next:Int}{l:List cI}{xi:Nat}{x:cI}{s:ByteArray}(h:kW next l)(hx:l[xi]?=some x)(h0:x.2.1≠2)(hs:s.size<=20):kW next (sZ l xi s):=by have c:=hZ hx;unfold sZ;simp only[hx];have xt:EU (x.1,x.2.1,x.2.2.1,s,x.2.2.2.2):=by{rcases h.typ x c with t|t;{exact .inl ⟨t.1,t.2.1,hs⟩};{exact absurd t.1 h0}};have hW:VW next (l.set xi (x.1,x.2.1,x.2.2.1,s,x.2.2.2.2)):=h.toVW.set hx rfl rfl xt (h.ent x c);have g:∀i,cU (l.set xi (x.1,x.2.1,x.2.2.1,s,x.2.2.2.2)) i=cU l i:=fun i=>by{have h9:cU (l.set xi (x.1,x.2.1,x.2.2.1,s,x.2.2.2.2)) i+eG x.2.2.2.2 i=cU l i+eG x.2.2.2.2 i:=lv i (x.1,x.2.1,x.2.2.1,s,x.2.2.2.2) l xi x hx;omega};have d:∀a b,kR l a b->kR (l.set xi (x.1,x.2.1,x.2.2.1,s,x.2.2.2.2)) a b:=fun a b f=>by{rw[sm (y:=(x.1,x.2.1,x.2.2.1,s,x.2.2.2.2)) h.srt hx rfl];by_cases e:a=x.1;{exact .inl ⟨e,(mV h.srt hx).1 (e▸f)⟩};{exact .inr ⟨e,f⟩}};refine⟨hW,fun z hz=>?_,fun z hz=>?_,fun z hz=>?_⟩;{rcases(fd h.srt hx).1 hz with rfl|⟨hz,_⟩;{exact h.one x c};{exact h.one z hz}};{rw[g];rcases(fd h.srt hx).1 hz with rfl|⟨hz,_⟩;{exact h.lnk x c};{exact h.lnk z hz}};{rcases(fd h.srt hx).1 hz with rfl|⟨hz,_⟩;{exact iV h.srt hW.srt d (h.rch x c)};{exact iV h.srt hW.srt d (h.rch z hz)}}
theorem FE{next:Int}{l:List cI}{k xi:Nat}{y x:cI}{s:ByteArray}{e:cH}(h:kW next l)(hy:l[k]?=some y)(hd:y.2.1=2)(hl:ed y.2.2.2.2 s=some e)(hx:l[xi]?=some x)(n:e.2.2.2=x.1)(h5:x.2.2.2.2=[]):kW next (kV (dg l k (de y.2.2.2.2 s).1) x.1):=by have m:=hZ hx;have f:=h.toVW.dir hy hd;have hp:=iw hl;have g:=ld f s;rw[n]at hp;generalize (de y.2.2.2.2 s).1=d at hp g;have p:x.1≠1:=(h.toVW.ids hy (hp.mem_iff.2 List.mem_cons_self)).1;have hW:VW next (dg l k d):=kI h.toVW hy hd g fun e he=>h.toVW.ids hy (hp.mem_iff.2 (List.mem_cons_of_mem _ (jA he)));have o:∀i,cU l i=cU (dg l k d) i+(if i=x.1 then 1 else 0):=fun i=>by{have h3:=gI (d:=d) (i:=i) hy;rw[hp.count_eq,gJ]at h3;omega};have j:∀b,¬kR l x.1 b:=fun b hb=>by{have h6:=(mV h.srt hx).1 hb;rw[h5]at h6;simp[iI]at h6};have r:x.1≠y.1:=fun e2=>by{have:=jy h.srt m (hZ hy) e2;subst this;rw[h5]at hp;exact absurd hp.length_eq (by simp[iI])};refine C7 hW (fun z hz=>?_) (fun z hz=>?_) p (fun b hb=>?_) (fun z hz=>?_) ((qi h.srt hy).2 ⟨x,m,rfl⟩);{obtain⟨q,hq,e1,e2,e3⟩:=eT h.srt hy hz;rw[e2,e3];exact h.one q hq};{obtain⟨q,hq,e1,e2,e3⟩:=eT h.srt hy hz;rw[e1,e3];rcases h.lnk q hq with h6|h6;{exact .inl h6};{right;rw[h6,o];split<;>simp}};{rcases(fI h.srt hy).1 hb with⟨e1,_⟩|⟨_,h6⟩;{exact r e1};{exact j b h6}};{obtain⟨q,hq,e1,e2,e3⟩:=eT h.srt hy hz;rw[e1];refine C6 h.srt hW.srt (fun a b c=>?_) j (h.rch q hq);by_cases hb:b=x.1;{exact .inr hb};{left;rw[fI h.srt hy];by_cases e4:a=y.1;{refine .inl ⟨e4,?_⟩;have h6:=(mV h.srt hy).1 (e4▸c);exact(List.mem_cons.1 (hp.mem_iff.1 h6)).resolve_left hb};{exact .inr ⟨e4,c⟩}}}
theorem EZ{next:Int}{l:List cI}{k:Nat}{y:cI}{d:List cH}(h:kW next l)(hy:l[k]?=some y)(hd:y.2.1=2)(f:gH d)(hp:(iI d).Perm (iI y.2.2.2.2)):kW next (dg l k d):=by have hW:VW next (dg l k d):=kI h.toVW hy hd f fun e he=>h.toVW.ids hy (hp.mem_iff.1 (jA he));have g:∀i,cU (dg l k d) i=cU l i:=fun i=>by{have h3:=gI (d:=d) (i:=i) hy;rw[hp.count_eq]at h3;omega};refine⟨hW,fun z hz=>?_,fun z hz=>?_,fun z hz=>?_⟩;{obtain⟨q,hq,e1,e2,e3⟩:=eT h.srt hy hz;rw[e2,e3];exact h.one q hq};{obtain⟨q,hq,e1,e2,e3⟩:=eT h.srt hy hz;rw[e1,e3,g];exact h.lnk q hq};{obtain⟨q,hq,e1,e2,e3⟩:=eT h.srt hy hz;rw[e1];exact iV h.srt hW.srt (fun a b c=>sn h.srt hy (fun b hb=>hp.mem_iff.2 hb) c) (h.rch q hq)}
theorem Eb{l:List cI}(h:pB l){a b:Int}(hb:nP l a b):∃c,kR l a c:=by induction hb with|one hk=>{exact⟨_,(iJ h).1 hk⟩}|more _ _ ih=>{exact ih}
theorem mW{d:List cH}{s:ByteArray}(h:ed d s=none):dM d (cN s)=none:=by cases h1:dM d (cN s)with|none=>{rfl}|some k=>{obtain⟨e,h2,_⟩:=im h1;rw[ed,h1,Option.bind_some,h2]at h;cases h}
theorem lN{d:List cH}{s:List UInt8}(h:∀e∈d,eF (cN e.2.2.1) s=false):dM d s=none:=by rw[dM,List.findIdx?_eq_none_iff];intro e he;simp[h e he]
theorem gC{d:List cH}{s:ByteArray}{e:cH}(h:ed d s=some e):e∈d:=by obtain⟨k,_,h2⟩:=i5 h;exact hZ h2
theorem lw(d:List cH)(s:ByteArray):(de d s).1.Sublist d:=by rw[de];split;{exact List.Sublist.refl _};{exact List.eraseIdx_sublist _ _}
theorem yd{next:Int}{l:List cI}{x y:cI}(h:kW next l)(hx:x∈l)(hy:y∈l)(f:y.2.1=2)(a:¬(x.2.1=2/\(y.1=x.1\/nP l x.1 y.1))):y.1≠x.1/\¬nP l x.1 y.1:=by by_cases b:x.2.1=2;{exact⟨fun e=>a ⟨b,.inl e⟩,fun e=>a ⟨b,.inr e⟩⟩};{refine⟨fun e=>?_,fun e=>?_⟩;{have:=jy h.srt hy hx e;subst this;exact b f};{obtain⟨c,z,hz,g,en,d,_⟩:=Eb h.srt e;have:=jy h.srt hz hx g;subst this;rcases h.typ z hx with t|t;{rw[t.2.1]at d;simp at d};{exact b t.1}}}
theorem FR {next:Int} {l:List cI} {k t:Nat} {yk yt x:cI} {s s2:ByteArray} {e:cH} (h:kW next l) (hk:l[k]?=some yk) (Q:yk.2.1=2) (ht:l[t]?=some yt) (T:yt.2.1=2) (hl:ed yk.2.2.2.2 s=some e) (G:x∈l) (U:e.2.2.2=x.1)
 (X:dI (cN s2)=true) (a0:ed yt.2.2.2.2 s2=none) (R:k≠t->yt.2.2.2.2.length<12) (E:¬(x.2.1=2/\(yt.1=x.1\/nP l x.1 yt.1))) :
 kW next (dg (dg l k (de yk.2.2.2.2 s).1) t (fF (dQ (dg l k (de yk.2.2.2.2 s).1) t) s2 x.1).1):=by
 have F:=hZ ht;have L:=h.toVW.dir hk Q;have hp:=iw hl;have M:=ld L s;have C:=lw yk.2.2.2.2 s;rw[U]at hp
 generalize (de yk.2.2.2.2 s).1=d1 at hp M C
 have a4:x.1≠1:=(h.toVW.ids hk (hp.mem_iff.2 List.mem_cons_self)).1;have g:VW next (dg l k d1):=kI h.toVW hk Q M fun e he=>h.toVW.ids hk (hp.mem_iff.2 (List.mem_cons_of_mem _ (jA he)));have B:∀i,cU l i=cU (dg l k d1) i+(if i=x.1 then 1 else 0):=fun i=>by
  have h3:=gI (d:=d1) (i:=i) hk;rw[hp.count_eq,gJ]at h3;omega
 have c:=tf (d:=d1) hk ht;have K:dM yt.2.2.2.2 (cN s2)=none:=mW a0;obtain⟨dt,D⟩:∃dt,dt=if t=k then d1 else yt.2.2.2.2:=⟨_,rfl⟩;rw[<-D]at c;have P:dM dt (cN s2)=none:=lN fun e he=>io K e (by
  rw[D]at he
  split at he
  ·rename_i hh;subst hh
   rw[hk]at ht;injection ht with ht;subst ht;exact C.subset he
  ·exact he)
 have O:dt.length<12:=by
  rw[D]
  split
  ·have h3:=hp.length_eq
   have h4:=L.len;simp only[iI,List.length_map,List.length_cons]at h3;omega
  ·rename_i hh;exact R fun e=>hh e.symm
 have n:=fun {z:cI} (hz:z∈dg l k d1)=>eT h.srt hk hz;have m:∀a b,kR l a b->b≠x.1->kR (dg l k d1) a b:=fun a b u hb=>by
  rw[fI h.srt hk]
  by_cases e4:a=yk.1
  ·exact .inl ⟨e4,(List.mem_cons.1 (hp.mem_iff.1 ((mV h.srt hk).1 (e4▸u)))).resolve_left hb⟩
  ·exact .inr ⟨e4,u⟩
 have A:∃z∈dg l k d1,z.1=x.1:=(qi h.srt hk).2 ⟨x,G,rfl⟩
 generalize dg l k d1=l1 at g B c n m A
 obtain⟨I,f⟩:∃y:cI,y=(yt.1,yt.2.1,yt.2.2.1,yt.2.2.2.1,dt):=⟨_,rfl⟩;rw[<-f]at c;have y1:I.1=yt.1:=by rw[f]
 have y2:I.2.1=2:=by rw[f];exact T
 have y5:I.2.2.2.2=dt:=by rw[f]
 clear f;have p:=wN (d:=dt) (id:=x.1) X P (h.toVW.inB_id G) O;have N:gH dt:=by have:=g.dir c y2;rwa [y5]at this
 have v:=zH N s2 x.1;rw[dr c,y5]
 generalize (fF dt s2 x.1).1=d2 at p v
 have J:VW next (dg l1 t d2):=kI g c y2 v fun e he=>by
  rcases List.mem_cons.1 (p.mem_iff.1 (jA he))with h3|h3
  ·rw[h3];exact⟨a4,A⟩
  ·exact g.ids c (by rw[y5];exact h3)
 have S:∀i,cU (dg l1 t d2) i=cU l i:=fun i=>by
  have h3:=gI (d:=d2) (i:=i) c;rw[p.count_eq,gJ,y5]at h3;have:=B i;omega
 have j:∀{z:cI},z∈dg l1 t d2->∃q∈l,z.1=q.1/\z.2.1=q.2.1/\z.2.2.1=q.2.2.1:=fun hz=>by
  obtain⟨q,hq,a1,a2,a3⟩:=eT g.srt c hz;obtain⟨r,hr,b1,b2,b3⟩:=n hq;exact⟨r,hr,a1.trans b1,a2.trans b2,a3.trans b3⟩
 obtain⟨Z,Y⟩:=yd h G F T E;have V:=x8 (o:=0) h.srt J.srt (x:=x.1) (t:=yt.1) (fun a b u=>by
  by_cases hb:b=x.1
  ·exact .inr (.inl hb)
  ·exact .inl (sn g.srt c (fun b hb=>p.mem_iff.2 (List.mem_cons_of_mem _ (by rw[<-y5];exact hb))) (m a b u hb)))
  (fun b ⟨z,hz,e0,_⟩=>by have:=h.rng z hz;omega)
  ((fI g.srt c).2 (.inl ⟨y1.symm,p.mem_iff.2 List.mem_cons_self⟩)) Z Y (by have:=h.rng yt F;omega) (h.rch yt F)
 refine⟨J,fun z hz=>?_,fun z hz=>?_,fun z hz=>?_⟩
 ·obtain⟨q,hq,a1,a2,a3⟩:=j hz
  rw[a2,a3];exact h.one q hq
 ·obtain⟨q,hq,a1,a2,a3⟩:=j hz
  rw[a1,a3,S];exact h.lnk q hq
 ·obtain⟨q,hq,a1,a2,a3⟩:=j hz
  rw[a1];exact(V _ (h.rch q hq)).resolve_left (by have:=h.rng q hq;omega)
theorem vi{d:List cH}{s s2:ByteArray}{id:Int}{e e2:cH}(h2:ed d s2=some e2)(h1:ed d s=some e)(c:e2≠e)(b:cV id 1 100000=true):ed (dJ d s2 id).1 s=some e:=by obtain⟨j,a1,a2⟩:=i5 h1;obtain⟨j2,b1,b2⟩:=i5 h2;have hj:j2≠j:=fun hh=>by{subst hh;rw[a2]at b2;injection b2 with b2;exact c b2.symm};obtain⟨c1,c2,c3⟩:=List.findIdx?_eq_some_iff_getElem.1 a1;obtain⟨q2,d2,d3⟩:=im b1;rw[b2]at d2;injection d2 with d2;subst d2;rw[my b1 b2 b];have hj2:=(mD b2).1;have h3:dM (d.set j2 (e2.1,e2.2.1,s2,id)) (cN s)=some j:=by{refine List.findIdx?_eq_some_iff_getElem.2 ⟨by rw[List.length_set];exact c1,?_,fun i hi=>?_⟩;{rw[List.getElem_set_ne hj];exact c2};{by_cases a:j2=i;{subst a;rw[List.getElem_set_self];intro hh;have h5:=pw d3 hh;have h6:=c3 j2 hi;rw[(mD b2).2]at h6;exact h6 h5};{rw[List.getElem_set_ne a];exact c3 i hi}}};rw[ed,h3,Option.bind_some,List.getElem?_set_ne hj,a2]
theorem E9 {next:Int} {l:List cI} {k t:Nat} {yk yt x o:cI} {s s2:ByteArray} {e e2:cH} (h:kW next l) (hk:l[k]?=some yk) (ae:yk.2.1=2) (ht:l[t]?=some yt) (T:yt.2.1=2) (hl:ed yk.2.2.2.2 s=some e) (G:x∈l) (D:e.2.2.2=x.1)
 (A:ed yt.2.2.2.2 s2=some e2) (E:o∈l) (P:e2.2.2.2=o.1) (a6:o.1≠x.1) (S:o.2.2.2.2=[]) (R:¬(x.2.1=2/\(yt.1=x.1\/nP l x.1 yt.1))) :
 kW next (kV (dg (dg l t (dJ yt.2.2.2.2 s2 x.1).1) k (de (dQ (dg l t (dJ yt.2.2.2.2 s2 x.1).1) k) s).1) o.1):=by
 have F:=hZ ht;have a0:=hZ hk;have ad:=h.toVW.dir ht T;have u:=iw A;have p:=yc A (h.toVW.inB_id G);have Y:=pY ad s2 x.1;have a4:k=t->ed (dJ yt.2.2.2.2 s2 x.1).1 s=some e:=fun hh=>by
  subst hh;rw[hk]at ht;injection ht with ht;subst ht;exact vi A hl (fun e3=>a6 (by rw[<-P,<-D,e3])) (h.toVW.inB_id G)
 rw[P]at u
 generalize (dJ yt.2.2.2.2 s2 x.1).1=d1 at p Y a4
 generalize iI (de yt.2.2.2.2 s2).1=r at u p
 have ak:x.1≠1:=(h.toVW.ids hk (by rw[<-D];exact jA (gC hl))).1;have aj:o.1≠1:=(h.toVW.ids ht (by rw[<-P];exact jA (gC A))).1;have a9:o.1≠yk.1:=fun e3=>by
  have:=jy h.srt E a0 e3;subst this;have:=gC hl;rw[S]at this;simp at this
 have M:o.1≠yt.1:=fun e3=>by
  have:=jy h.srt E F e3;subst this;have:=gC A;rw[S]at this;simp at this
 have a8:∀b,¬kR l o.1 b:=fun b ⟨z,hz,e0,en,Z,_⟩=>by
  have:=jy h.srt hz E e0;subst this;rw[S]at Z;simp at Z
 have f:VW next (dg l t d1):=kI h.toVW ht T Y fun en he=>by
  rcases List.mem_cons.1 (p.mem_iff.1 (jA he))with h3|h3
  ·rw[h3];exact⟨ak,x,G,rfl⟩
  ·exact h.toVW.ids ht (u.mem_iff.2 (List.mem_cons_of_mem _ h3))
 have L:∀i,cU (dg l t d1) i+(if i=o.1 then 1 else 0)=cU l i+(if i=x.1 then 1 else 0):=fun i=>by
  have h3:=gI (d:=d1) (i:=i) ht;rw[u.count_eq,p.count_eq,gJ,gJ]at h3;omega
 have c:=tf (d:=d1) ht hk;obtain⟨dk,O⟩:∃dk,dk=if k=t then d1 else yk.2.2.2.2:=⟨_,rfl⟩;rw[<-O]at c;have a5:ed dk s=some e:=by
  rw[O];split
  ·rename_i hh;exact a4 hh
  ·exact hl
 have B:=fun {z:cI} (hz:z∈dg l t d1)=>eT h.srt ht hz;have v:∀a b,kR l a b->b≠o.1->kR (dg l t d1) a b:=fun a b j hb=>by
  rw[fI h.srt ht]
  by_cases e4:a=yt.1
  ·exact .inl ⟨e4,p.mem_iff.2 (List.mem_cons_of_mem _ ((List.mem_cons.1 (u.mem_iff.1 ((mV h.srt ht).1 (e4▸j)))).resolve_left hb))⟩
  ·exact .inr ⟨e4,j⟩
 have K:∀b,¬kR (dg l t d1) o.1 b:=fun b hb=>by
  rcases(fI h.srt ht).1 hb with⟨e3,_⟩|⟨_,h3⟩
  ·exact M e3
  ·exact a8 b h3
 have J:∃z∈dg l t d1,z.1=o.1:=(qi h.srt ht).2 ⟨o,E,rfl⟩;have N:kR (dg l t d1) yt.1 x.1:=(fI h.srt ht).2 (.inl ⟨rfl,p.mem_iff.2 List.mem_cons_self⟩)
 generalize dg l t d1=l1 at f L c B v K J N
 obtain⟨C,g⟩:∃y:cI,y=(yk.1,yk.2.1,yk.2.2.1,yk.2.2.2.1,dk):=⟨_,rfl⟩;rw[<-g]at c;have y1:C.1=yk.1:=by rw[g]
 have y2:C.2.1=2:=by rw[g];exact ae
 have y5:C.2.2.2.2=dk:=by rw[g]
 clear g;rw[dr c,y5];have n:=iw a5;rw[D]at n;have X:gH dk:=by have:=f.dir c y2;rwa [y5]at this
 have I:=ld X s
 generalize (de dk s).1=d2 at n I
 have U:VW next (dg l1 k d2):=kI f c y2 I fun en he=>f.ids c (by rw[y5];exact n.mem_iff.2 (List.mem_cons_of_mem _ (jA he)));have a7:∀i,cU l i=cU (dg l1 k d2) i+(if i=o.1 then 1 else 0):=fun i=>by
  have h3:=gI (d:=d2) (i:=i) c;rw[y5,n.count_eq,gJ]at h3;have:=L i;omega
 have m:∀{z:cI},z∈dg l1 k d2->∃q∈l,z.1=q.1/\z.2.1=q.2.1/\z.2.2.1=q.2.2.1:=fun hz=>by
  obtain⟨q,hq,a1,a2,a3⟩:=eT f.srt c hz;obtain⟨r,hr,b1,b2,b3⟩:=B hq;exact⟨r,hr,a1.trans b1,a2.trans b2,a3.trans b3⟩
 have Q:∀a b,kR l1 a b->b≠x.1->kR (dg l1 k d2) a b:=fun a b j hb=>by
  rw[fI f.srt c]
  by_cases e4:a=C.1
  ·exact .inl ⟨e4,(List.mem_cons.1 (n.mem_iff.1 (by rw[<-y5];exact(mV f.srt c).1 (e4▸j)))).resolve_left hb⟩
  ·exact .inr ⟨e4,j⟩
 have aa:kR (dg l1 k d2) yt.1 x.1:=by
  rw[fI f.srt c]
  by_cases e4:yt.1=C.1
  ·left
   refine⟨e4,?_⟩;have ab:yt=yk:=jy h.srt F a0 (e4.trans y1);have af:k=t:=by
    have a1:=fm h.srt hk;have a2:=fm h.srt ht;rw[ab,a1]at a2;injection a2
   have ac:dk=d1:=by rw[O,if_pos af]
   rw[ac]at n;have h6:(iI d2).Perm r:=List.Perm.cons_inv (n.symm.trans p);refine h6.mem_iff.2 ?_;have h7:x.1∈iI yt.2.2.2.2:=by rw[ab,<-D];exact jA (gC hl)
   exact(List.mem_cons.1 (u.mem_iff.1 h7)).resolve_left fun e5=>a6 e5.symm
  ·exact .inr ⟨e4,N⟩
 obtain⟨ai,ah⟩:=yd h G F T R;have ag:=x8 (o:=o.1) h.srt U.srt (x:=x.1) (t:=yt.1) (fun a b j=>by
  by_cases hb:b=x.1
  ·exact .inr (.inl hb)
  ·by_cases V:b=o.1
   ·exact .inr (.inr V)
   ·exact .inl (Q a b (v a b j V) hb))
  a8 aa ai ah (fun e3=>M e3.symm) (h.rch yt F)
 refine C7 U (fun z hz=>?_) (fun z hz=>?_) aj (fun b hb=>?_) (fun z hz=>?_) ((qi f.srt c).2 J)
 ·obtain⟨q,hq,a1,a2,a3⟩:=m hz
  rw[a2,a3];exact h.one q hq
 ·obtain⟨q,hq,a1,a2,a3⟩:=m hz
  rw[a1,a3]
  rcases h.lnk q hq with h6|h6
  ·exact .inl h6
  ·right;rw[h6,a7];split<;>simp
 ·rcases(fI f.srt c).1 hb with⟨e3,_⟩|⟨_,h3⟩
  ·exact a9 (e3.trans y1)
  ·exact K b h3
 ·obtain⟨q,hq,a1,a2,a3⟩:=m hz
  rw[a1];exact ag _ (h.rch q hq)
theorem Ec{next:Int}{l:List cI}{x o:cI}(h:kW next l)(hx:x∈l)(ho:o∈l)(hc:em x o=0):o.2.2.2.2=[]:=by unfold em at hc;rcases h.typ o ho with t|t;{exact t.2.1};{by_cases b:x.2.1=2;{rw[if_neg (by omega)]at hc;split at hc;{omega};{rename_i hh;rcases he:o.2.2.2.2 with _|⟨a,r⟩;{rfl};{exact absurd ⟨b,by rw[he];simp⟩ hh}}};{rw[if_neg (by omega),if_neg (by simp[b]),if_pos ⟨b,t.1⟩]at hc;omega}}
theorem jm {l:List cI} {i:Int} {k:Nat} (h:eK l i=some k):∃y,l[k]?=some y/\y.1=i:=nN h
theorem FF{next:Int}{l:List cI}{k t:Nat}{yk yt x:cI}{e:cH}{c:eS}(h:kW next l)(hk:l[k]?=some yk)(i:yk.2.1=2)(u:yk.1=c.2.1)(ht:l[t]?=some yt)(d:yt.2.1=2)(r:yt.1=c.2.2.2.1)(hl:ed yk.2.2.2.2 c.2.2.1=some e)(f:x∈l)(g:e.2.2.2=x.1)(y:dI (cN c.2.2.2.2.1)=true):kW (dU next l k t x c).1.1 (dU next l k t x c).1.2:=by unfold dU;rw[dr ht,dr hk];by_cases a:x.2.1=2/\(c.2.2.2.1=x.1\/nP l x.1 c.2.2.2.1);{rw[if_pos a];exact h};rw[if_neg a];rw[<-r]at a;cases h2:ed yt.2.2.2.2 c.2.2.2.2.1 with|none=>{simp only;by_cases h3:c.2.1≠c.2.2.2.1/\12<=yt.2.2.2.2.length;{rw[if_pos h3];exact h};rw[if_neg h3];refine FR h hk i ht d hl f g y h2 (fun v=>?_) a;have:c.2.1≠c.2.2.2.1:=fun e4=>v (by{have a1:=fm h.srt hk;have a2:=fm h.srt ht;rw[u,e4,<-r,a2]at a1;injection a1 with a1;exact a1.symm});have:=fun s=>h3 ⟨this,s⟩;omega}|some e2=>{simp only;by_cases h3:e2.2.2.2=x.1;{rw[if_pos h3];by_cases h4:c.2.1=c.2.2.2.1/\eF (cN c.2.2.1) (cN c.2.2.2.2.1)=true;{rw[if_pos h4];have q:=iw h2;have z:=yc h2 (h.toVW.inB_id f);rw[h3]at q;exact EZ h ht d (pY (h.toVW.dir ht d) _ _) (z.trans q.symm)};{rw[if_neg h4];exact h}};{rw[if_neg h3];cases h5:(eK l e2.2.2.2).bind fun j=>l[j]? with|none=>{exact h}|some o=>{rw[Option.bind_eq_some_iff]at h5;obtain⟨j,hj,n⟩:=h5;obtain⟨o',b,m⟩:=jm hj;rw[n]at b;injection b with b;subst b;simp only;by_cases h6:em x o≠0;{rw[if_pos h6];exact h};{rw[if_neg h6];have p:=hZ n;exact E9 h hk i ht d hl f g h2 p m.symm (by rw[m];exact h3) (Ec h f p (by omega)) a}}}}
theorem AM{l:List cI}{c:eS}(h:dG l c=0):∃k t yk yt,eK l c.2.1=some k/\eK l (if jN c.1=true then c.2.2.2.1 else c.2.1)=some t/\l[k]?=some yk/\yk.1=c.2.1/\yk.2.1=2/\l[t]?=some yt/\yt.1=(if jN c.1=true then c.2.2.2.1 else c.2.1)/\yt.2.1=2/\dI (cN c.2.2.1)=true/\(jN c.1=true->dI (cN c.2.2.2.2.1)=true):=by unfold dG at h;split at h;{rename_i k t h1 h2;obtain⟨yk,a1,a2⟩:=jm h1;obtain⟨yt,b1,b2⟩:=jm h2;rw[eh a1,eh b1]at h;split at h;{rename_i h3;split at h;{rename_i h4;exact⟨k,t,yk,yt,h1,h2,a1,a2,h3.1,b1,b2,h3.2,h4.1,h4.2⟩};{omega}};{omega}};{omega}
theorem FS{next:Int}{l:List cI}{c:eS}(h:kW next l):kW (dh next l c).1.1 (dh next l c).1.2:=by unfold dh;by_cases hc:dN c=true;rotate_left;{rw[if_neg hc];exact h};rw[if_pos hc];by_cases hb:dG l c=0;rotate_left;{rw[if_neg hb];exact h};rw[if_pos hb];obtain⟨k,t,yk,yt,m,o,hk,n,a,ht,f,g,hn,d⟩:=AM hb;rw[m,o];simp only;by_cases b:c.1=1\/c.1=2;{rw[if_pos b];exact EW h hk a hn};rw[if_neg b];unfold oo;rw[dr hk];cases hl:ed yk.2.2.2.2 c.2.2.1 with|none=>{exact h}|some e=>{simp only;cases ha:eK l e.2.2.2 with|none=>{exact h}|some xi=>{obtain⟨x,hx,i⟩:=jm ha;have j:=hZ hx;simp only[hx];by_cases g1:(c.1=3\/c.1=7)/\x.2.1=2;{rw[if_pos g1];exact h};rw[if_neg g1];by_cases g2:c.1=4/\x.2.1≠2;{rw[if_pos g2];exact h};rw[if_neg g2];by_cases g3:c.1=4/\x.2.2.2.2≠[];{rw[if_pos g3];exact h};rw[if_neg g3];by_cases g4:c.1=3\/c.1=4;{rw[if_pos g4];refine FE h hk a hl hx i.symm ?_;rcases g4 with g4|g4;{rcases h.typ x j with t|t;{exact t.2.1};{exact absurd ⟨.inl g4,t.1⟩ g1}};{exact Classical.byContradiction fun hh=>g3 ⟨g4,hh⟩}};rw[if_neg g4];by_cases g5:c.1=5;{rw[if_pos g5];exact EX h ht g hx (d (by simp[jN,g5]))};rw[if_neg g5];by_cases g6:c.1=6;{rw[if_pos g6];have h2:jN c.1=true:=by{simp[jN,g6]};rw[if_pos h2]at f;exact FF h hk a n ht g f hl j i.symm (d h2)};rw[if_neg g6];by_cases g7:c.1=7;{rw[if_pos g7];refine EY h hx (fun e5=>g1 ⟨.inr g7,e5⟩) ?_;simp only[dN,Bool.and_eq_true,decide_eq_true_eq]at hc;exact hc.1.1.2};{rw[if_neg g7];exact h}}}
theorem pD {α:Type} (f:α->List Value) (k:Nat) (hk:∀x,(f x).length=k):∀(L:List α) (j:Nat),j<L.length->(L.flatMap f).take (j*k)++(L.flatMap f).drop ((j+1)*k)=(L.eraseIdx j).flatMap f
 | [],j,h=>by simp at h
 |a::L,0,h=>by
   rw[List.flatMap_cons,Nat.zero_mul,List.take_zero,List.nil_append,List.eraseIdx_cons_zero,Nat.zero_add,Nat.one_mul,<-hk a,List.drop_left]
 |a::L,j+1,h=>by
   have ih:=pD f k hk L j (by simpa using h);rw[List.flatMap_cons,List.eraseIdx_cons_succ,List.flatMap_cons,<-ih];have e1:(j+1)*k=(f a).length+j*k:=by rw[hk,Nat.add_mul,Nat.one_mul,Nat.add_comm]
   have e2:(j+1+1)*k=(f a).length+(j+1)*k:=by rw[hk,Nat.add_mul (j+1),Nat.one_mul,Nat.add_comm]
   rw[e2,e1,List.take_length_add_append,List.drop_length_add_append,<-e1,List.append_assoc]
theorem jB (e:Int×Int×ByteArray×Int):∀u∈cO e,u.oneCell'=true:=by simp[cO,Value.oneCell']
theorem C8 (g n c j : Nat) (L : List (Int × Int × ByteArray × Int)) (w : World) (h : w.ownsRow 0 147 4 (.slice (some ⟨g, 0, none⟩) n c) n (L.flatMap cO)) (hj : j < n) :
 Calls Tryz.prog 188 #[.slice (some ⟨g, 0, none⟩) n c, .int .i64 (j : Int), .int .i64 ((j : Int) + 1)] w fun e w' =>
  e = .returned (.slice (some ⟨g, 0, none⟩) (n - 1) c) ∧ Hp [g] w w' [.row 147 4 (.slice (some ⟨g, 0, none⟩) (n - 1) c) (n - 1) ((L.eraseIdx j).flatMap cO)] := by
 have s := h;have hL : (L.flatMap cO).length = n * 4 := h.1;have x : L.length = n := by rw [gV cF] at hL; omega
 have m := qj h;simp only [maxLen] at m;have H := Hp.start_row h;have f := fun {q : Nat} (hq : q < c * 4) => kJ h hq;have p := fun q : Nat => h.frozenAt q;have i := fun {q : Nat} {u : Value} (hu : (L.flatMap cO)[q]? = some u) => H.at_ 0 rfl hu;obtain ⟨i0, r, y, z, hz2⟩ := info_parts eY;obtain ⟨a, b⟩ : ∃ a, a = (L.flatMap cO).drop ((j + 1) * 4) := ⟨_, rfl⟩;have d : a.length = (n - (j + 1)) * 4 := by rw [b, List.length_drop, hL]; omega
 obtain ⟨A, hA, v⟩ : ∃ A : Addr, (if c = j + 1 then some (⟨g, 0, none⟩ : Addr) else some ⟨g, (j + 1) * 4, none⟩) = some A ∧ Hid (∀ t u, a[t]? = some u → w.drew.cell? (A.add t) = some u) := by
  by_cases o : c = j + 1
  ·refine ⟨⟨g, 0, none⟩, by simp [o], fun t u hu => ?_⟩
   have h0 : a.length = 0 := by rw [d, show n - (j + 1) = 0 by omega]
   rw [List.length_eq_zero_iff.1 h0] at hu;simp at hu
  ·refine ⟨⟨g, (j + 1) * 4, none⟩, by simp [o], fun t u hu => ?_⟩
   rw [Addr.add_lit];rw [b, List.getElem?_drop] at hu;exact i hu
 have s1 : Hid (a.length = (n - (j + 1)) * 4) := d;have s2 : Hid (∀ u ∈ a, u.oneCell' = true) := by
  intro u hu;rw [b] at hu;obtain ⟨e, hL9, he⟩ := List.mem_flatMap.1 (List.mem_of_mem_drop hu);exact jB e u he
 have s3 : Hid (∀ t, t < a.length → (w.drew.cell? ⟨g, 0 + j * 4 + t, none⟩).isSome = true ∧ w.drew.frozen? ⟨g, 0 + j * 4 + t, none⟩ = false) := by
  intro t ht;rw [d] at ht;rw [Nat.zero_add];exact ⟨f (by omega), p _⟩
 obtain ⟨W1, k⟩ : ∃ W1, W1 = w.drew.setCells g (0 + j * 4) a := ⟨_, rfl⟩;have H1 : Hp [g] w W1 [.row 147 4 (.slice (some ⟨g, 0, none⟩) n c) n (lH (L.flatMap cO) (j * 4) a)] := by
  have h2 := Hp.puts 0 a (L.flatMap cO) (j * 4) _ _ H.drew rfl;rw [k, Nat.zero_add]; exact h2
 have l := H1.row 0 rfl;have hcl : ∀ ty, (Builtin.clear_ #[109] ty #[.slice (some ⟨g, (n - 1) * 4, none⟩) 1 (c - (n - 1))]).run Tryz.prog W1 = .ok (.tuple #[]) (W1.setCells g ((n - 1) * 4) [.int .i64 0, .int .i64 0, .string ⟨#[]⟩, .int .i64 0]) := fun ty => by
  have h5 := tg W1 109 147 ty _ Tryz.underlying109 (fun w => rP r y w) (by simp [Value.cells, Value.oneCell']) g ((n - 1) * 4) (c - (n - 1)) (fun q hq => kJ l (by have : q < 4 := hq; omega)) (fun q hq => l.frozenAt _);exact h5
 have H2 := hJ (((Hp.puts 0 [.int .i64 0, .int .i64 0, .string ⟨#[]⟩, .int .i64 0] _ ((n - 1) * 4) _ _ H1 rfl).cut 0 rfl (show n - 1 ≤ n by omega)).recast (l' := [.row 147 4 (.slice (some ⟨g, 0, none⟩) (n - 1) c) (n - 1) ((L.eraseIdx j).flatMap cO)]) (by
  have e1 : lH (L.flatMap cO) (j * 4) a = (L.flatMap cO).take (j * 4) ++ a ++ (L.flatMap cO).drop (j * 4 + a.length) := lg _ _ _ (by rw [d, hL]; omega);have e2 := pD cO 4 cF L j (by omega)
  show [Ob.row _ _ _ _ ((lH (lH (L.flatMap cO) (j * 4) a) ((n - 1) * 4) [.int .i64 0, .int .i64 0, .string ⟨#[]⟩, .int .i64 0]).take ((n - 1) * 4))] = _
  congr 2
  rw [lg _ _ _ (by rw [nR, hL]; show (n - 1) * 4 + 4 ≤ n * 4; omega), e1, ← e2, b];have e3 : ((L.flatMap cO).take (j * 4) ++ (L.flatMap cO).drop ((j + 1) * 4)).length = (n - 1) * 4 := by rw [List.length_append, List.length_take, List.length_drop, hL]; omega
  rw [List.append_assoc, List.take_append_of_le_length (by rw [List.length_take, List.length_append, e3]; omega), List.take_take, Nat.min_self, List.take_append_of_le_length (by omega), List.take_of_length_le (by omega)]))
 have hW : Hid (W1 = w.drew.setCells g (0 + j * 4) a) := k;have hj1 : j + 1 ≤ n := hj;have hic : j ≤ c := by omega
 have hjc : j + 1 ≤ c := by omega
 have hne : ¬ ((j : Int) = (j : Int) + 1) := by omega
 have hnb : ((j : Int) == (j : Int) + 1) = false := by simp; omega
 have B : Tryz.prog.follows .mixedOrders = true := by kernel_rfl
 have hb0 : (0 : Int) ≤ (j : Int) + 1 := by omega
 have hb1 : (j : Int) + 1 ≤ (n : Int) := by omega
 have hn1 : j + (n - (j + 1)) = n - 1 := by omega
 have hn2 : n - (n - 1) = 1 := by omega
 clear k H1 l H s h i b d f p x hL;go_enter Tryz.func188, Tryz.ntmps188;go_wp2_with fail
 go_region_law_o (refine step_append_room rfl (.tmp 22) (.tmp 25) 109 rfl 147 i0 4 Tryz.underlying109 r z g 0 j c (by simp [Act.eval, Act.put]) A (n - (j + 1)) (c - (j + 1)) a (by simp [Act.eval, Act.put]) s1.out v.out s2.out (by omega) s3.out ?_; rw [← hW.out])
 go_wp2_with fail;go_ret;exact ⟨rfl, H2.out⟩
theorem Ee{p:Value×cI}(h:p.1.oneCell'=true):∀u∈fB p,u.oneCell'=true:=by intro u hu;simp only[fB,List.mem_cons,List.mem_nil_iff,or_false]at hu;rcases hu with rfl|rfl|rfl|rfl|rfl<;>first|rfl|exact h
theorem Da (g n c j : Nat) (L : List (Value × cI)) (w : World) (h : w.ownsRow 0 111 5 (.slice (some ⟨g, 0, none⟩) n c) n (L.flatMap fB)) (hj : j < n) (h1 : ∀ p ∈ L, p.1.oneCell' = true) :
 Calls Tryz.prog 171 #[.slice (some ⟨g, 0, none⟩) n c, .int .i64 (j : Int), .int .i64 ((j : Int) + 1)] w fun e w' =>
  e = .returned (.slice (some ⟨g, 0, none⟩) (n - 1) c) ∧ Hp [g] w w' [.row 111 5 (.slice (some ⟨g, 0, none⟩) (n - 1) c) (n - 1) ((L.eraseIdx j).flatMap fB)] := by
 have v := h;have hL : (L.flatMap fB).length = n * 5 := h.1;have z : L.length = n := by rw [gV eD] at hL; omega
 have m := qj h;simp only [maxLen] at m;have H := Hp.start_row h;have f := fun {q : Nat} (hq : q < c * 5) => kJ h hq;have r := fun q : Nat => h.frozenAt q;have i := fun {q : Nat} {u : Value} (hu : (L.flatMap fB)[q]? = some u) => H.at_ 0 rfl hu;obtain ⟨i0, s, B, C, hz2⟩ := info_parts gn;obtain ⟨a, b⟩ : ∃ a, a = (L.flatMap fB).drop ((j + 1) * 5) := ⟨_, rfl⟩;have d : a.length = (n - (j + 1)) * 5 := by rw [b, List.length_drop, hL]; omega
 obtain ⟨A, hA, x⟩ : ∃ A : Addr, (if c = j + 1 then some (⟨g, 0, none⟩ : Addr) else some ⟨g, (j + 1) * 5, none⟩) = some A ∧ Hid (∀ t u, a[t]? = some u → w.drew.cell? (A.add t) = some u) := by
  by_cases o : c = j + 1
  ·refine ⟨⟨g, 0, none⟩, by simp [o], fun t u hu => ?_⟩
   have h0 : a.length = 0 := by rw [d, show n - (j + 1) = 0 by omega]
   rw [List.length_eq_zero_iff.1 h0] at hu;simp at hu
  ·refine ⟨⟨g, (j + 1) * 5, none⟩, by simp [o], fun t u hu => ?_⟩
   rw [Addr.add_lit];rw [b, List.getElem?_drop] at hu;exact i hu
 have s1 : Hid (a.length = (n - (j + 1)) * 5) := d;have s2 : Hid (∀ u ∈ a, u.oneCell' = true) := by
  intro u hu;rw [b] at hu;obtain ⟨e, y, he⟩ := List.mem_flatMap.1 (List.mem_of_mem_drop hu);exact Ee (h1 e y) u he
 have s3 : Hid (∀ t, t < a.length → (w.drew.cell? ⟨g, 0 + j * 5 + t, none⟩).isSome = true ∧ w.drew.frozen? ⟨g, 0 + j * 5 + t, none⟩ = false) := by
  intro t ht;rw [d] at ht;rw [Nat.zero_add];exact ⟨f (by omega), r _⟩
 obtain ⟨W1, k⟩ : ∃ W1, W1 = w.drew.setCells g (0 + j * 5) a := ⟨_, rfl⟩;have H1 : Hp [g] w W1 [.row 111 5 (.slice (some ⟨g, 0, none⟩) n c) n (lH (L.flatMap fB) (j * 5) a)] := by
  have h2 := Hp.puts 0 a (L.flatMap fB) (j * 5) _ _ H.drew rfl;rw [k, Nat.zero_add]; exact h2
 have l := H1.row 0 rfl;have hcl : ∀ ty, (Builtin.clear_ #[34] ty #[.slice (some ⟨g, (n - 1) * 5, none⟩) 1 (c - (n - 1))]).run Tryz.prog W1 = .ok (.tuple #[]) (W1.setCells g ((n - 1) * 5) [.int .i64 0, .int .i64 0, .int .i64 0, .string ⟨#[]⟩, .slice none 0 0]) := fun ty => by
  have h5 := tg W1 34 111 ty _ Tryz.underlying34 (fun w => rP s B w) (by simp [Value.cells, Value.oneCell']) g ((n - 1) * 5) (c - (n - 1)) (fun q hq => kJ l (by have : q < 5 := hq; omega)) (fun q hq => l.frozenAt _);exact h5
 have H2 := hJ (((Hp.puts 0 [.int .i64 0, .int .i64 0, .int .i64 0, .string ⟨#[]⟩, .slice none 0 0] _ ((n - 1) * 5) _ _ H1 rfl).cut 0 rfl (show n - 1 ≤ n by omega)).recast (l' := [.row 111 5 (.slice (some ⟨g, 0, none⟩) (n - 1) c) (n - 1) ((L.eraseIdx j).flatMap fB)]) (by
  have e1 : lH (L.flatMap fB) (j * 5) a = (L.flatMap fB).take (j * 5) ++ a ++ (L.flatMap fB).drop (j * 5 + a.length) := lg _ _ _ (by rw [d, hL]; omega);have e2 := pD fB 5 eD L j (by omega)
  show [Ob.row _ _ _ _ ((lH (lH (L.flatMap fB) (j * 5) a) ((n - 1) * 5) [.int .i64 0, .int .i64 0, .int .i64 0, .string ⟨#[]⟩, .slice none 0 0]).take ((n - 1) * 5))] = _
  congr 2
  rw [lg _ _ _ (by rw [nR, hL]; show (n - 1) * 5 + 5 ≤ n * 5; omega), e1, ← e2, b];have e3 : ((L.flatMap fB).take (j * 5) ++ (L.flatMap fB).drop ((j + 1) * 5)).length = (n - 1) * 5 := by rw [List.length_append, List.length_take, List.length_drop, hL]; omega
  rw [List.append_assoc, List.take_append_of_le_length (by rw [List.length_take, List.length_append, e3]; omega), List.take_take, Nat.min_self, List.take_append_of_le_length (by omega), List.take_of_length_le (by omega)]))
 have hW : Hid (W1 = w.drew.setCells g (0 + j * 5) a) := k;have hj1 : j + 1 ≤ n := hj;have hic : j ≤ c := by omega
 have hjc : j + 1 ≤ c := by omega
 have hne : ¬ ((j : Int) = (j : Int) + 1) := by omega
 have hnb : ((j : Int) == (j : Int) + 1) = false := by simp; omega
 have D : Tryz.prog.follows .mixedOrders = true := by kernel_rfl
 have hb0 : (0 : Int) ≤ (j : Int) + 1 := by omega
 have hb1 : (j : Int) + 1 ≤ (n : Int) := by omega
 have hn1 : j + (n - (j + 1)) = n - 1 := by omega
 have hn2 : n - (n - 1) = 1 := by omega
 clear k H1 l H v h i b d f r z hL;go_enter Tryz.func171, Tryz.ntmps171;go_wp2_with fail
 go_region_law_o (refine step_append_room rfl (.tmp 22) (.tmp 25) 34 rfl 111 i0 5 Tryz.underlying34 s C g 0 j c (by simp [Act.eval, Act.put]) A (n - (j + 1)) (c - (j + 1)) a (by simp [Act.eval, Act.put]) s1.out x.out s2.out (by omega) s3.out ?_; rw [← hW.out])
 go_wp2_with fail;go_ret;exact ⟨rfl, H2.out⟩
