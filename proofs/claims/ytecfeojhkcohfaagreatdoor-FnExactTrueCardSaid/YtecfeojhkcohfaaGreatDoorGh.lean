import Derived.Test.YtecfeojhkcohfaaGreatDoorGg
set_option linter.all false
set_option maxRecDepth 100000
set_option maxHeartbeats 64000000
namespace Go.Proofs.YtecfeojhkcohfaaGreatDoor
open Go.RowKit
theorem vc:∀(l m:List Int),l.Nodup->(∀x∈l,x∈m)->l.length<=m.length
 | [],m,_,_=>by simp
 |a::l,m,h,hs=>by
   have hn:=List.nodup_cons.1 h;have h1:=vc l (m.erase a) hn.2 fun x hx=>(List.mem_erase_of_ne (fun e:x=a=>hn.1 (by rw[<-e];exact hx))).2 (hs x (List.mem_cons_of_mem _ hx));have h2:=hs a List.mem_cons_self;rw[List.length_erase_of_mem h2]at h1;have h3:=List.length_pos_of_mem h2;rw[List.length_cons];omega
def l9 (l:List cI):List Int:=l.flatMap fun x=>x.2.2.2.2.map fun e=>e.2.2.2
theorem C3{l:List cI}{a c:Int}(h:c∈ip l a):c∈l9 l:=by unfold ip at h;split at h;{simp at h};{split at h;{simp at h};{rename_i k _ x hx;exact List.mem_flatMap.2 ⟨x,hZ hx,h⟩}}
structure Bq (l:List cI) (a:Int) (out q:List Int) (cur:Option Int) (done:List Int):Prop where
 nd:out.Nodup
 all:∀x∈out,x∈l9 l
 sound:∀x∈out,nP l a x
 qs:∀x∈q,x=a\/x∈out
 cs:∀x,cur=some x->x=a\/x∈out
 closed:∀b,(b=a\/b∈out)->b∈q\/cur=some b\/∀c∈ip l b,c∈out
 dn:∀c∈done,c∈out
theorem Bq.start (l:List cI) (a:Int):Bq l a [] [a] none []:=
 ⟨.nil,by simp,by simp,by simp,by simp,by simp,by simp⟩
theorem Bq.pop {l:List cI} {a x:Int} {out q:List Int} (h:Bq l a out (x::q) none []):Bq l a out q (some x) []:=
 ⟨h.nd,h.all,h.sound,fun y hy=>h.qs y (List.mem_cons_of_mem _ hy),fun y hy=>by injection hy with hy;subst hy;exact h.qs x List.mem_cons_self,fun b hb=>by
  rcases h.closed b hb with h1|h1|h1
  ·rcases List.mem_cons.1 h1 with rfl|h2
   ·exact .inr (.inl rfl)
   ·exact .inl h2
  ·cases h1
  ·exact .inr (.inr h1),by simp⟩
theorem Bq.old {l:List cI} {a x c:Int} {out q done:List Int} (h:Bq l a out q (some x) done) (hc:c∈out):Bq l a out q (some x) (done++[c]):=
 ⟨h.nd,h.all,h.sound,h.qs,h.cs,h.closed,fun y hy=>by
  rcases List.mem_append.1 hy with h1|h1
  ·exact h.dn y h1
  ·rw[List.mem_singleton.1 h1];exact hc⟩
theorem Bq.fresh {l:List cI} {a x c:Int} {out q done:List Int} (h:Bq l a out q (some x) done) (hc:¬c∈out) (hk:c∈ip l x):Bq l a (out++[c]) (q++[c]) (some x) (done++[c]):=
 ⟨List.nodup_append.2 ⟨h.nd,by simp,fun y hy z hz=>by
  rw[List.mem_singleton.1 hz];exact fun e=>hc (e▸hy)⟩,fun y hy=>by
  rcases List.mem_append.1 hy with h1|h1
  ·exact h.all y h1
  ·rw[List.mem_singleton.1 h1];exact C3 hk,fun y hy=>by
  rcases List.mem_append.1 hy with h1|h1
  ·exact h.sound y h1
  ·rw[List.mem_singleton.1 h1]
   rcases h.cs x rfl with h2|h2
   ·rw[h2]at hk;exact .one hk
   ·exact .more (h.sound x h2) hk,fun y hy=>by
  rcases List.mem_append.1 hy with h1|h1
  ·rcases h.qs y h1 with h2|h2
   ·exact .inl h2
   ·exact .inr (List.mem_append_left _ h2)
  ·exact .inr (List.mem_append_right _ h1),fun y hy=>by
  rcases h.cs y hy with h2|h2
  ·exact .inl h2
  ·exact .inr (List.mem_append_left _ h2),fun b hb=>by
  have d:(b=a\/b∈out)\/b=c:=by
   rcases hb with h1|h1
   ·exact .inl (.inl h1)
   ·rcases List.mem_append.1 h1 with h2|h2
    ·exact .inl (.inr h2)
    ·exact .inr (List.mem_singleton.1 h2)
  rcases d with h1|h1
  ·rcases h.closed b h1 with h2|h2|h2
   ·exact .inl (List.mem_append_left _ h2)
   ·exact .inr (.inl h2)
   ·exact .inr (.inr fun y hy=>List.mem_append_left _ (h2 y hy))
  ·exact .inl (List.mem_append_right _ (by rw[h1];simp)),fun y hy=>by
  rcases List.mem_append.1 hy with h1|h1
  ·exact List.mem_append_left _ (h.dn y h1)
  ·exact List.mem_append_right _ h1⟩
theorem Bq.close {l:List cI} {a x:Int} {out q done:List Int} (h:Bq l a out q (some x) done) (hk:∀c∈ip l x,c∈done):Bq l a out q none []:=
 ⟨h.nd,h.all,h.sound,h.qs,by simp,fun b hb=>by
  rcases h.closed b hb with h2|h2|h2
  ·exact .inl h2
  ·injection h2 with h2;subst h2
   exact .inr (.inr fun c hc=>h.dn c (hk c hc))
  ·exact .inr (.inr h2),by simp⟩
theorem Bq.done{l:List cI}{a:Int}{out:List Int}(h:Bq l a out [] none [])(x:Int):x∈out↔nP l a x:=by have d:∀b,(b=a\/b∈out)->∀c∈ip l b,c∈out:=fun b hb=>by{rcases h.closed b hb with h2|h2|h2;{simp at h2};{cases h2};{exact h2}};refine⟨h.sound x,fun hx=>?_⟩;induction hx with|one h1=>{exact d a (.inl rfl) _ h1}|more _ h1 ih=>{exact d _ (.inr ih) _ h1}
theorem Bq.len {l:List cI} {a:Int} {out q done:List Int} {b:Option Int} (h:Bq l a out q b done):out.length<=(l9 l).length:=
 vc _ _ h.nd fun x hx=>h.all x hx
abbrev BS:=List Bool×List Bool
def eH (l:List cI) (s:BS) (e:cH):BS:=match eK l e.2.2.2 with
 |none=>s
 |some x=>(s.1.set x true,s.2.set x true)
def ou (l:List cI) (s:BS) (i:Nat):BS:=match l[i]? with
 |none=>s
 |some x=>if s.2[i]?=some true then x.2.2.2.2.foldl (eH l) s else s
def iQ (l:List cI) (s:BS):BS:=(List.range l.length).foldl (ou l) s
def dx (l:List cI) (s:BS):Nat->BS
 |0=>s
 |r+1=>iQ l (dx l s r)
def On (s:List Bool) (i:Nat):Prop:=s[i]?=some true
theorem On.set{s:List Bool}{i x:Nat}(h:On s i):On (s.set x true) i:=by unfold On at *;rw[List.getElem?_set];have:=(mD h).1;split;{rename_i e;subst e;simp[this]};{exact h}
theorem On.set_self{s:List Bool}{x:Nat}(h:x<s.length):On (s.set x true) x:=by unfold On;rw[List.getElem?_set_self h]
theorem On.of_set{s:List Bool}{i x:Nat}(h:On (s.set x true) i):On s i\/(i=x/\x<s.length):=by unfold On at *;rw[List.getElem?_set]at h;split at h;{rename_i e;split at h;{exact .inr ⟨e.symm,by assumption⟩};{cases h}};{exact .inl h}
theorem ER{s:List Bool}{x:Nat}(h:On s x):s.set x true=s:=by refine List.ext_getElem? fun i=>?_;rw[List.getElem?_set];unfold On at h;split;{rename_i e;subst e;have:=(mD h).1;simp only[this,if_true];exact h.symm};{rfl}
structure Bs (l:List cI) (a:Int) (s:BS):Prop where
 l1:s.1.length=l.length
 l2:s.2.length=l.length
 inn:∀i,On s.1 i->∃b,nP l a b/\eK l b=some i
 opn:∀i,On s.2 i->eK l a=some i\/On s.1 i
theorem ox{l:List cI}{b:Int}{i:Nat}{x:cI}(h1:eK l b=some i)(h2:l[i]?=some x):ip l b=x.2.2.2.2.map fun e=>e.2.2.2:=by rw[ip,h1];simp only[h2]
theorem ri(l:List cI)(s:BS)(e:cH):(eH l s e).1.length=s.1.length/\(eH l s e).2.length=s.2.length:=by unfold eH;split<;>simp
theorem xU{l:List cI}{s:BS}{e:cH}{i:Nat}:(On s.1 i->On (eH l s e).1 i)/\(On s.2 i->On (eH l s e).2 i):=by unfold eH;split;{exact⟨id,id⟩};{exact⟨On.set,On.set⟩}
theorem mA {l:List cI} {i:Nat}:∀(es:List cH) (s:BS),(On s.1 i->On (es.foldl (eH l) s).1 i)/\(On s.2 i->On (es.foldl (eH l) s).2 i)
 | [],s=>⟨id,id⟩
 |e::es,s=>⟨fun h=>(mA es _).1 (xU.1 h),fun h=>(mA es _).2 (xU.2 h)⟩
theorem zI{l:List cI}{s:BS}{i k:Nat}:(On s.1 i->On (ou l s k).1 i)/\(On s.2 i->On (ou l s k).2 i):=by unfold ou;split;{exact⟨id,id⟩};{split;{exact mA _ _};{exact⟨id,id⟩}}
theorem qc {l:List cI} {i:Nat}:∀(ks:List Nat) (s:BS),(On s.1 i->On (ks.foldl (ou l) s).1 i)/\(On s.2 i->On (ks.foldl (ou l) s).2 i)
 | [],s=>⟨id,id⟩
 |k::ks,s=>⟨fun h=>(qc ks _).1 (zI.1 h),fun h=>(qc ks _).2 (zI.2 h)⟩
theorem Bs.mark{l:List cI}{a:Int}{s:BS}{e:cH}(h:Bs l a s)(he:nP l a e.2.2.2):Bs l a (eH l s e):=by obtain⟨m1,m2⟩:=ri l s e;refine⟨m1.trans h.l1,m2.trans h.l2,?_,?_⟩<;>unfold eH<;>split;{exact h.inn};{rename_i x hx;intro i hi;rcases hi.of_set with h1|⟨rfl,_⟩;{exact h.inn i h1};{exact⟨_,he,hx⟩}};{exact h.opn};{rename_i x hx;intro i hi;rcases hi.of_set with h1|⟨rfl,h2⟩;{rcases h.opn i h1 with h3|h3;{exact .inl h3};{exact .inr h3.set}};{exact .inr (On.set_self (by rw[h.l1,<-h.l2];exact h2))}}
theorem Bs.marks {l:List cI} {a:Int}:∀(es:List cH) (s:BS),Bs l a s->(∀e∈es,nP l a e.2.2.2)->Bs l a (es.foldl (eH l) s)
 | [],s,h,_=>h
 |e::es,s,h,he=>Bs.marks es _ (h.mark (he e List.mem_cons_self)) fun x hx=>he x (List.mem_cons_of_mem _ hx)
theorem Bs.go{l:List cI}{a:Int}{s:BS}(h:Bs l a s)(i:Nat):Bs l a (ou l s i):=by unfold ou;split;{exact h};{rename_i x hx;split;{rename_i ho;refine Bs.marks _ _ h fun e he=>?_;have hm:e.2.2.2∈x.2.2.2.2.map fun e=>e.2.2.2:=List.mem_map_of_mem he;rcases h.opn i ho with h1|h1;{exact .one (by rw[ox h1 hx];exact hm)};{obtain⟨b,hb,h2⟩:=h.inn i h1;exact .more hb (by rw[ox h2 hx];exact hm)}};{exact h}}
theorem Bs.goes {l:List cI} {a:Int}:∀(ks:List Nat) (s:BS),Bs l a s->Bs l a (ks.foldl (ou l) s)
 | [],s,h=>h
 |k::ks,s,h=>Bs.goes ks _ (h.go k)
theorem Bs.rounds {l:List cI} {a:Int} {s:BS} (h:Bs l a s):∀r,Bs l a (dx l s r)
 |0=>h
 |r+1=>Bs.goes _ _ (h.rounds r)
theorem xV {l:List cI} {x:Nat}:∀(es:List cH) (s:BS) (e:cH),e∈es->eK l e.2.2.2=some x->x<s.1.length->x<s.2.length->On (es.foldl (eH l) s).1 x/\On (es.foldl (eH l) s).2 x
 | [],s,e,he,_,_,_=>by simp at he
 |e'::es,s,e,he,hx,h1,h2=>by
   obtain⟨m1,m2⟩:=ri l s e'
   rcases List.mem_cons.1 he with rfl|h3
   ·rw[List.foldl_cons]
    have hm:eH l s e=(s.1.set x true,s.2.set x true):=by rw[eH,hx]
    exact⟨(mA es _).1 (by rw[hm];exact On.set_self h1),(mA es _).2 (by rw[hm];exact On.set_self h2)⟩
   ·exact xV es _ e h3 hx (by rw[m1];exact h1) (by rw[m2];exact h2)
theorem wJ {l:List cI} {a:Int} {i x:Nat} {nd:cI} {e:cH} (hn:l[i]?=some nd) (he:e∈nd.2.2.2.2) (hx:eK l e.2.2.2=some x):∀(ks:List Nat) (s:BS),Bs l a s->i∈ks->On s.2 i->On (ks.foldl (ou l) s).1 x/\On (ks.foldl (ou l) s).2 x
 | [],s,_,h,_=>by simp at h
 |k::ks,s,hs,h,ho=>by
   rcases List.mem_cons.1 h with rfl|h3
   ·rw[List.foldl_cons]
    have hg:ou l s i=nd.2.2.2.2.foldl (eH l) s:=by rw[ou,hn];exact if_pos ho
    have b:=sW hx;obtain⟨g1,g2⟩:=xV nd.2.2.2.2 s e he hx (by rw[hs.l1];exact b) (by rw[hs.l2];exact b);exact⟨(qc ks _).1 (by rw[hg];exact g1),(qc ks _).2 (by rw[hg];exact g2)⟩
   ·exact wJ hn he hx ks _ (hs.go k) h3 (zI.2 ho)
def py (s:List Bool):Nat:=s.count true
theorem ta:∀(s:List Bool) (x:Nat),s.set x true≠s->py s<py (s.set x true)
 | [],x,h=>by simp at h
 |b::s,0,h=>by cases b<;>simp[py]at *
 |b::s,x+1,h=>by
   have:=ta s x (fun e=>h (by rw[List.set_cons_succ,e]));simp only[py,List.set_cons_succ,List.count_cons]at *;omega
def Gw (s t:List Bool):Prop:=t=s\/py s<py t
theorem Gw.trans{a b c:List Bool}(h1:Gw a b)(h2:Gw b c):Gw a c:=by rcases h1 with rfl|h1;{exact h2};{rcases h2 with rfl|h2;{exact .inr h1};{exact .inr (Nat.lt_trans h1 h2)}}
theorem C4(l:List cI)(s:BS)(e:cH):Gw s.2 (eH l s e).2:=by unfold eH;split;{exact .inl rfl};{rename_i x _;by_cases h:s.2.set x true=s.2;{exact .inl h};{exact .inr (ta _ _ h)}}
theorem xW (l:List cI):∀(es:List cH) (s:BS),Gw s.2 (es.foldl (eH l) s).2
 | [],s=>.inl rfl
 |e::es,s=>(C4 l s e).trans (xW l es _)
theorem ES(l:List cI)(s:BS)(i:Nat):Gw s.2 (ou l s i).2:=by unfold ou;split;{exact .inl rfl};{split;{exact xW _ _ _};{exact .inl rfl}}
theorem wK (l:List cI):∀(ks:List Nat) (s:BS),Gw s.2 (ks.foldl (ou l) s).2
 | [],s=>.inl rfl
 |k::ks,s=>(ES l s k).trans (wK l ks _)
def AI (l:List cI) (o:List Bool):Prop:=∀i x (nd:cI) (e:cH),On o i->l[i]?=some nd->e∈nd.2.2.2.2->eK l e.2.2.2=some x->On o x
theorem qd {l:List cI} {o:List Bool}:∀(es:List cH) (s:BS),s.2=o->(∀e∈es,∀x,eK l e.2.2.2=some x->On o x)->(es.foldl (eH l) s).2=o
 | [],s,h,_=>h
 |e::es,s,h,hc=>by
   rw[List.foldl_cons];refine qd es _ ?_ fun x hx=>hc x (List.mem_cons_of_mem _ hx);unfold eH;split
   ·exact h
   ·rename_i x hx
    show s.2.set x true=o
    rw[h];exact ER (hc e List.mem_cons_self x hx)
theorem nQ {l:List cI} {o:List Bool} (hc:AI l o):∀(ks:List Nat) (s:BS),s.2=o->(ks.foldl (ou l) s).2=o
 | [],s,h=>h
 |k::ks,s,h=>by
   rw[List.foldl_cons];refine nQ hc ks _ ?_;unfold ou;split
   ·exact h
   ·rename_i x hx
    split
    ·rename_i ho
     rw[h]at ho;exact qd _ _ h fun e he y hy=>hc k y x e ho hx he hy
    ·exact h
theorem qe{l:List cI}{a:Int}{s:BS}(hs:Bs l a s)(h:(iQ l s).2=s.2):AI l s.2:=by intro i x nd e ho hn he hx;have hi:i∈List.range l.length:=List.mem_range.2 (mD hn).1;have:=(wJ hn he hx (List.range l.length) s hs hi ho).2;rw[iQ]at h;rwa [h]at this
theorem ET:∀(s:List Bool),py s<=s.length:=fun s=>List.count_le_length
theorem tc {l:List cI} {a:Int} {s:BS} (hs:Bs l a s) (h0:0<py s.2):∀r,r<py (dx l s r).2\/((iQ l (dx l s r)).2=(dx l s r).2)
 |0=>.inl h0
 |r+1=>by
   rcases tc hs h0 r with h1|h1
   ·rcases wK l (List.range l.length) (dx l s r)with h2|h2
    ·refine .inr ?_
     have hc:=qe (hs.rounds r) h2
     show(iQ l (iQ l (dx l s r))).2=(iQ l (dx l s r)).2
     have h3:(iQ l (dx l s r)).2=(dx l s r).2:=h2;rw[h3];exact nQ hc _ _ h3
    ·refine .inl ?_
     show r+1<py (iQ l (dx l s r)).2
     have:py (dx l s r).2<py (iQ l (dx l s r)).2:=h2;omega
   ·refine .inr ?_
    have hc:=qe (hs.rounds r) h1
    show(iQ l (iQ l (dx l s r))).2=(iQ l (dx l s r)).2
    rw[h1];exact nQ hc _ _ h1
def fG (l:List cI) (k:Nat):BS:=(List.replicate l.length false,(List.replicate l.length false).set k true)
def iu (l:List cI) (a:Int):List Bool:=match eK l a with
 |none=>List.replicate l.length false
 |some k=>(dx l (fG l k) l.length).1
theorem pA{n i:Nat}:¬On (List.replicate n false) i:=by unfold On;rw[List.getElem?_replicate];split<;>simp
theorem rj {l:List cI} {a:Int} {k:Nat} (h:eK l a=some k):Bs l a (fG l k):=
 ⟨by simp[fG],by simp[fG],fun i hi=>absurd hi pA,fun i hi=>by
  rcases On.of_set hi with h1|⟨rfl,_⟩
  ·exact absurd h1 pA
  ·exact .inl h⟩
theorem vd(l:List cI)(a:Int)(x:Nat):On (iu l a) x↔∃b,nP l a b/\eK l b=some x:=by unfold iu;split;{rename_i hk;refine⟨fun h=>absurd h pA,fun ⟨b,hb,_⟩=>?_⟩;exfalso;have h0:ip l a=[]:=by{rw[ip,hk]};have:∀c,nP l a c->False:=by{intro c hc;induction hc with|one h1=>{rw[h0]at h1;simp at h1}|more _ _ ih=>{exact ih}};exact this b hb};{rename_i k hk;have hs:=rj hk;refine⟨fun h=>(hs.rounds _).inn x h,fun ⟨b,hb,hx⟩=>?_⟩;obtain⟨n,hn⟩:∃n,l.length=n+1:=⟨l.length-1,by have:=sW hk;omega⟩;have m:k<(List.replicate l.length false).length:=by{simp;exact sW hk};have h0:0<py (fG l k).2:=by{have hh:On (fG l k).2 k:=On.set_self m;exact List.count_pos_iff.2 (hZ hh)};have d:(iQ l (dx l (fG l k) n)).2=(dx l (fG l k) n).2:=by{rcases tc hs h0 n with h1|h1;{rcases wK l (List.range l.length) (dx l (fG l k) n)with h2|h2;{exact h2};{exfalso;have h3:=ET (dx l (fG l k) (n+1)).2;rw[(hs.rounds (n+1)).l2]at h3;have h4:py (dx l (fG l k) n).2<py (dx l (fG l k) (n+1)).2:=h2;omega}};{exact h1}};have q:=hs.rounds n;have g:On (dx l (fG l k) n).2 k:=by{have:∀r,On (dx l (fG l k) r).2 k:=by{intro r;induction r with|zero=>{exact On.set_self m}|succ r ih=>{exact(qc _ _).2 ih}};exact this n};have s:∀b,nP l a b->∀x,eK l b=some x->On (dx l (fG l k) (n+1)).1 x/\On (dx l (fG l k) n).2 x:=by{have f:∀p i,eK l p=some i->On (dx l (fG l k) n).2 i->∀c∈ip l p,∀x,eK l c=some x->On (dx l (fG l k) (n+1)).1 x/\On (dx l (fG l k) n).2 x:=by{intro p i hp ho c hc x hx;obtain⟨nd,o,_⟩:=nN hp;rw[ox hp o]at hc;obtain⟨e,he,rfl⟩:=List.mem_map.1 hc;have:=wJ o he hx (List.range l.length) _ q (List.mem_range.2 (sW hp)) ho;refine⟨this.1,?_⟩;have h5:=this.2;rw[iQ]at d;rwa [d]at h5};have j:∀p,eK l p=none->ip l p=[]:=fun p hp=>by{rw[ip,hp]};intro b hb;induction hb with|one h1=>{exact f a k hk g _ h1} | @more p c _ h1 ih=>{cases hp:eK l p with|none=>{rw[j p hp]at h1;simp at h1}|some i=>{exact f p i hp (ih i hp).2 _ h1}}};rw[hn];exact(s b hb x hx).1}
def BM:Value->Nat
 |.slice _ n _=>n
 |_=>0
theorem Hp.castW {W:List Nat} {w0 w w':World} {l:List Ob} (h:Hp W w0 w l) (e:w=w'):Hp W w0 w' l:=e▸h
theorem Hp.lit_{W:List Nat}{w0 w:World}{l:List Ob}(h:Hp W w0 w l)(E:TypeId)(k n:Nat)(cs:List Value)(hs:cs.length=n*k)(hn:n<=maxLen){g:Nat}(hg:g=w.heap.size):Hp W w0 (w.alloc (.cells cs.toArray E)) (.row E k (.slice (some ⟨g,0,none⟩) n n) n cs::l):=by subst hg;exact h.lit E k n cs hs hn
theorem mf(next:Int)(A:Option Addr)(n c:Nat)(L:List (Value×cI))(id:Int)(w:World)(h:ig w A n L)(hn:n<=1048576)(ac:ma L)(aw:(l9 (cw L)).length<=1000000):Calls Tryz.prog 93 #[.agg #[.int .i64 next,.slice A n c],.int .i64 id] w fun e w'=>∃(B:Option Addr) (d:Nat) (out:List Int),e=.returned (.slice B out.length d)/\(∀x,x∈out↔nP (cw L) id x)/\out.length<=1000000/\w'.ownsRow w.heap.size 3 1 (.slice B out.length d) out.length (out.map (Value.int .i64))/\Fr w w':=by have HL:=hJ h.len;have HR:=hJ h;have av:=hJ ac;obtain⟨T,hT⟩:∃T,T=(l9 (cw L)).length:=⟨_,rfl⟩;rw[<-hT]at aw;have HT:=hJ hT;clear hT h ac;have H0:=(((Hp.start w).lay_ 36 [.int .i64 next,.slice A n c] rfl).lit_ 3 1 0 [] rfl (by simp[maxLen]) (g:=w.heap.size+1) (by simp)).lit_ 3 1 1 [.int .i64 id] rfl (by simp[maxLen]) (g:=w.heap.size+1+1) (by simp);go_enter Tryz.func93,Tryz.ntmps93;go_wp2_with fail;go_loopw [5,6] (fun ov qv wr=>∃(out Q ql:List Int) (gq nq cq j r s:Nat),qv=.slice (some ⟨gq,j,none⟩) r s/\wZ nq cq j r s Q ql/\ql.length=r/\nq<=out.length+1/\Bq (cw L) id out ql none []/\Hp [] w wr [.row 3 1 (.slice (some ⟨gq,0,none⟩) nq cq) nq (Q.map (Value.int .i64)),.row 3 1 ov out.length (out.map (Value.int .i64)),.blk w.heap.size 36 [.int .i64 next,.slice A n c]]) (fun ov qv _=>2*(T-BM ov)+BM qv);{exact⟨[],[id],[id],w.heap.size+1+1,1,1,0,1,1,rfl,.inr ⟨rfl,rfl,rfl⟩,rfl,by simp,Bq.start _ _,H0⟩};clear H0;obtain⟨out,Q,ql,gq,nq,cq,j,r,s,rfl,G,I,t,i,H⟩:=hrel;obtain⟨C,oc,rfl⟩:=H.shape 1 rfl;have a8:=i.len;rw[<-HT.out]at a8;cases ql with|nil=>{have aH:r=0:=I.symm;subst aH;have HB:=hJ i;clear G i;go_wp2_with fail;go_ret;exact⟨_,_,out,rfl,HB.out.done,by omega,H.out 1 rfl,H.fr⟩}|cons x b=>{have aI:r=b.length+1:=by{rw[<-I];rfl};subst aI;have ax:=G.resolve_left (fun h=>by have:=h.1;omega);obtain⟨ad,ab,an⟩:=ax;have aE:Q.length=nq:=by{simpa using(H.row 0 rfl).1};have aG:nq<=cq:=by{obtain⟨_,_,_,e,_,_,h3,_⟩:=((H.row 0 rfl).2).resolve_left (fun h=>by cases h.1);injection e with _ _ e;rw[e];exact h3};have HX:=hJ (show Q[j]?=some x by{have:=congrArg (fun l=>l[0]?) an;simpa using this.symm});have aB:=hJ (show b=Q.drop (j+1) by{have:=congrArg List.tail an;simpa using this});have q:=hJ i;obtain⟨z,hz⟩:∃z,z=kF (cw L) x:=⟨_,rfl⟩;have HZ:=hJ hz;have hp0:(0:Int)<(b.length:Int)+1:=by{omega};have hp1:(0:Int)<((b.length+1:Nat):Int):=by{omega};clear G I i an hz;have aa:=hJ (And.intro ad ab);clear ad ab;have aJ:∃s1,s=s1+1:=⟨s-1,by have:=aa.out;omega⟩;obtain⟨s1,rfl⟩:=aJ;go_wp2_with fail;replace H:=H.drew;obtain⟨y0,y1⟩:=H.f2 2 rfl;have y2:=H.atM (f1:=Value.int .i64) 0 rfl HX.out;refine wp_region_held_drew (S:=fun w'=>w'.cell? ⟨w.heap.size,0,none⟩=some (.int .i64 next)/\w'.cell? ⟨w.heap.size,1,none⟩=some (.slice A n c)/\w'.cell? ⟨gq,j,none⟩=some (.int .i64 x)) (by kernel_rfl) ?_ fun q_=>?_;{exact⟨y0,y1,y2⟩};generalize wr.drew=u0 at H q_|-;refine cz 0 ?_;refine cz 1 ?_;refine cz 2 ?_;refine cz 3 ?_;refine cY 4 fun K hK=>?_;go_simp;refine(eU next A n c L x _ (HR.out.fr H.fr) hn).mono ?_;rintro e u1 ⟨rfl,f9⟩;replace H:=H.go f9;clear f9;rw[<-HZ.out];go_wp2_with fail;refine hK.out _ _ ?_ fun q_=>?_;{exact⟨H.fa 2 0 rfl rfl,H.fa 2 1 rfl rfl,H.atM (f1:=Value.int .i64) 0 rfl HX.out⟩};clear hK K;refine cz 5 ?_;refine wpAnyH_done (by kernel_rfl) ?_ _;clear y0 y1 y2;by_cases az:s1=0;{subst az;have ay:b.length=0:=by{have:=aa.out;omega};have P:=hJ (show wZ nq cq j 0 0 Q b from .inl ⟨rfl,rfl,List.eq_nil_of_length_eq_zero ay⟩);obtain rfl:b=[]:=List.eq_nil_of_length_eq_zero ay;have N:=hJ (show Bq (cw L) id out ([]:List Int) (some x) []from q.out.pop);obtain⟨M,hM⟩:∃M,M=2*(T-out.length)+([]:List Int).length:=⟨_,rfl⟩;have HM:=hJ hM;clear hM;rcases lm (cw L) x with⟨D,E⟩|⟨k,D,E,Y⟩;{have ae:=hJ (show ip (cw L) x=[] by rw[ip,E]);have a0:z = -1:=HZ.out.trans D;subst a0;clear D E;have J:=hJ (show Bq (cw L) id out ([]:List Int) none []from N.out.close (by rw[ae.out];simp));go_wp2_with fail;go_roundw;(case rel=>exact⟨out,Q,([]:List Int),gq,nq,cq,j,0,0,rfl,P.out,rfl,t,J.out,H⟩);case measure=>simp only[BM];omega};{have a0:z=(k:Int):=HZ.out.trans D;subst a0;have aq:k<n:=by{rw[cW,HL.out]at Y;exact Y};have ao:(0:Int)<=(k:Int):=by{omega};have a7:(k:Int)<(n:Int):=by{omega};have aC:¬(k:Int)<0:=by{omega};obtain⟨⟨v,x0,x1,x2,x3,es⟩,hx⟩:=cE HL.out aq;have hm:=av.out _ (hZ hx);obtain⟨bk,of,B1,d1,rfl,e1,r1,c1⟩:=(HR.out.fr H.fr).elem hx;simp only at e1 r1 hm;subst e1;have a4:=c1 4 _ rfl;have O:=hJ (ox E (cL hx));simp only at O;have a2:=hJ (show ∀w',Fr w w'->Rd w' B1 es.length 4 (es.flatMap cO)from fun w' f=>by{obtain⟨_,_,B2,d2,_,e2,r2,_⟩:=(HR.out.fr f).elem hx;simp only at e2 r2;injection e2 with e2 _ _;subst e2;exact r2});obtain⟨m,p⟩:∃m,m=es.length:=⟨_,rfl⟩;have a1:=hJ p.symm;rw[<-p]at hm a4 a2;clear hx c1 r1 p D E Y;have t1:=H.fa 2 1 rfl rfl;go_wp2_with fail;clear t1 a4;have H1:=H;clear H;go_loopw [5,6,32] (fun ov qv kv wr=>∃(k:Nat) (out Q ql:List Int) (gq nq cq j r s:Nat),kv=.int .i64 k/\k<=m/\qv=.slice (some ⟨gq,j,none⟩) r s/\wZ nq cq j r s Q ql/\ql.length=r/\nq<=out.length+1/\Bq (cw L) id out ql (some x) ((es.map fun e=>e.2.2.2).take k)/\2*(T-out.length)+r<=M/\Hp [] w wr [.row 3 1 (.slice (some ⟨gq,0,none⟩) nq cq) nq (Q.map (Value.int .i64)),.row 3 1 ov out.length (out.map (Value.int .i64)),.blk w.heap.size 36 [.int .i64 next,.slice (some ⟨bk,of,none⟩) n c]]) (fun _ _ kv _=>m-(intOf kv).toNat);{exact⟨0,out,Q,([]:List Int),gq,nq,cq,j,0,0,rfl,by omega,rfl,P.out,rfl,t,by simpa using N.out,by rw[HM.out];exact Nat.le_refl _,H1⟩};clear H1 t;clear P q N;obtain⟨k,out,Q,ql,gq,nq,cq,j,r,s,rfl,hk,rfl,G,I,t,i,p,H⟩:=hrel;have R:=hJ G;have V:=hJ I;have q:=hJ i;have U:=hJ p;have a8:=i.len;rw[<-HT.out]at a8;clear G I i p;obtain⟨C,oc,rfl⟩:=H.shape 1 rfl;have ao:(0:Int)<=(k:Int):=by{omega};by_cases ap:k<m;{have a7:(k:Int)<(m:Int):=by{omega};obtain⟨⟨y0,y1,y2,y3⟩,hy⟩:=cE a1.out ap;obtain⟨bq,oq,rfl,a⟩:=(a2.out _ H.fr).elem cF hy (by omega);have a6:=a 0 _ rfl;simp only[Nat.add_zero]at a6;have aj:=a 1 _ rfl;have ak:=a 2 _ rfl;have am:=a 3 _ rfl;have HY:=hJ (show(es.map fun e=>e.2.2.2).take (k+1)=(es.map fun e=>e.2.2.2).take k++[y3] by{rw[List.take_add_one,List.getElem?_map,hy];rfl});have ai:=hJ (show y3∈ip (cw L) x by{rw[O.out];exact List.mem_map_of_mem (f:=fun e:cH=>e.2.2.2) (hZ hy)});clear hy a;go_wp2_with fail;have H2:=H.lay_ 147 [.int .i64 y0,.int .i64 y1,.string y2,.int .i64 y3] rfl;clear a6 aj ak am H;obtain⟨g2,X⟩:∃x,x=wr.heap.size:=⟨_,rfl⟩;rw[<-X]at H2|-;have aA:=hJ X;clear X;obtain⟨w2,Z⟩:∃x,x=wr.alloc (.cells #[.int .i64 y0,.int .i64 y1,.string y2,.int .i64 y3] 147):=⟨_,rfl⟩;have H:=H2.castW Z.symm;rw[<-Z];clear Z H2;refine(iW C out.length oc out y3 w2 (H.rd 2 rfl) (by omega)).mono ?_;rintro e w3 ⟨rfl,au⟩;subst au;by_cases o:y3∈out;{have hd:decide (y3∈out)=true:=decide_eq_true o;have F:=hJ (q.out.old o);rw[hd];clear hd o;have H9:=H.tail;clear H;go_wp2_with fail;go_roundw;{exact⟨k+1,out,Q,ql,gq,nq,cq,j,r,s,by go_num,by omega,rfl,R.out,V.out,t,by rw[HY.out];exact F.out,U.out,H9⟩};simp[intOf];omega};{have hd:decide (y3∈out)=false:=decide_eq_false o;have F:=hJ (q.out.fresh o ai.out);have a9:=F.out.len;rw[<-HT.out,List.length_append,List.length_singleton]at a9;rw[hd];clear hd o;have t3:=H.fa 0 3 rfl rfl;have H3:=H;clear H;go_wp2_with (at_builtin;refine eX (f:=Value.int .i64) (H3) rfl _ _ _ rfl Tryz.underlying106 gl rfl 2 _ _ rfl rfl _ _ (y3) rfl (by simp) rfl (by first|(simp only[maxLen];omega)|(simp[maxLen];done)|(simp[maxLen];omega)) (by first|omega|(simp;done)|(simp;omega)) ?_);intro v' w4 H;clear H3 t3;replace H:Hp [] w w4 [.blk g2 147 [.int .i64 y0,.int .i64 y1,.string y2,.int .i64 y3],.row 3 1 (.slice (some ⟨gq,0,none⟩) nq cq) nq (Q.map (Value.int .i64)),.row 3 1 v' (out++[y3]).length ((out++[y3]).map (Value.int .i64)),.blk w.heap.size 36 [.int .i64 next,.slice (some ⟨bk,of,none⟩) n c]]:=H.recast (by simp);have t3:=H.fa 0 3 rfl rfl;have H3:=H;clear H;go_wp2_with (at_builtin;refine rR (f:=Value.int .i64) H3 rfl _ _ _ rfl Tryz.underlying106 gl rfl 1 gq nq cq j r s Q ql rfl R.out rfl _ _ y3 rfl (by simp) rfl (by simp only[maxLen];omega) (by omega) ?_);intro g' j' r' q' n' a5 L' w5 aF u H;clear H3 t3;have af:=hJ u;have a3:=hJ (show(ql++[y3]).length=r' by{have aD:L'.length=n':=by{simpa using(H.row 1 rfl).1};rcases u with⟨h1,h2,h3⟩|⟨h1,h2,h3⟩;{rw[h3,h1];rfl};{rw[h3,List.length_drop];omega}});have ah:=a3.out;rw[List.length_append,List.length_singleton,V.out]at ah;clear u;have H9:=H.tail;have ar:n'<=(out++[y3]).length+1:=by{rw[List.length_append,List.length_singleton];omega};have ag:=hJ (show 2*(T-(out++[y3]).length)+r'<=M by{have:=U.out;rw[List.length_append,List.length_singleton];omega});clear H;go_wp2_with fail;go_roundw;{exact⟨k+1,out++[y3],L',ql++[y3],g',n',a5,j',r',q',by go_num,by omega,rfl,af.out,a3.out,ar,by rw[HY.out];exact F.out,ag.out,H9.recast (by simp)⟩};simp[intOf];omega}};{have a7:¬(k:Int)<(m:Int):=by{omega};have J:=hJ (show Bq (cw L) id out ql none []from q.out.close (by{rw[O.out];intro y hy;rwa [List.take_of_length_le (by rw[List.length_map,a1.out];omega)]}));go_wp2_with fail;go_roundw;(case rel=>exact⟨out,Q,ql,gq,nq,cq,j,r,s,rfl,R.out,V.out,t,J.out,H⟩);case measure=>have:=U.out;have:=HM.out;simp only[BM];omega}}};{have aK:¬(s1+1=1):=by{omega};have hs3:(s1+1=1)=False:=eq_false aK;have hs4:(s1=0)=False:=eq_false az;have P:=hJ (show wZ nq cq (j+1) b.length s1 Q b from .inr ⟨by have:=aa.out;omega,by have:=aa.out;omega,aB.out⟩);have N:=hJ (show Bq (cw L) id out b (some x) []from q.out.pop);obtain⟨M,hM⟩:∃M,M=2*(T-out.length)+b.length:=⟨_,rfl⟩;have HM:=hJ hM;clear hM;rcases lm (cw L) x with⟨D,E⟩|⟨k,D,E,Y⟩;{have ae:=hJ (show ip (cw L) x=[] by rw[ip,E]);have a0:z = -1:=HZ.out.trans D;subst a0;clear D E;have J:=hJ (show Bq (cw L) id out b none []from N.out.close (by rw[ae.out];simp));go_wp2_with fail;go_roundw;(case rel=>exact⟨out,Q,b,gq,nq,cq,j+1,b.length,s1,rfl,P.out,rfl,t,J.out,H⟩);case measure=>simp only[BM];omega};{have a0:z=(k:Int):=HZ.out.trans D;subst a0;have aq:k<n:=by{rw[cW,HL.out]at Y;exact Y};have ao:(0:Int)<=(k:Int):=by{omega};have a7:(k:Int)<(n:Int):=by{omega};have aC:¬(k:Int)<0:=by{omega};obtain⟨⟨v,x0,x1,x2,x3,es⟩,hx⟩:=cE HL.out aq;have hm:=av.out _ (hZ hx);obtain⟨bk,of,B1,d1,rfl,e1,r1,c1⟩:=(HR.out.fr H.fr).elem hx;simp only at e1 r1 hm;subst e1;have a4:=c1 4 _ rfl;have O:=hJ (ox E (cL hx));simp only at O;have a2:=hJ (show ∀w',Fr w w'->Rd w' B1 es.length 4 (es.flatMap cO)from fun w' f=>by{obtain⟨_,_,B2,d2,_,e2,r2,_⟩:=(HR.out.fr f).elem hx;simp only at e2 r2;injection e2 with e2 _ _;subst e2;exact r2});obtain⟨m,p⟩:∃m,m=es.length:=⟨_,rfl⟩;have a1:=hJ p.symm;rw[<-p]at hm a4 a2;clear hx c1 r1 p D E Y;have t1:=H.fa 2 1 rfl rfl;go_wp2_with fail;clear t1 a4;have H1:=H;clear H;go_loopw [5,6,32] (fun ov qv kv wr=>∃(k:Nat) (out Q ql:List Int) (gq nq cq j r s:Nat),kv=.int .i64 k/\k<=m/\qv=.slice (some ⟨gq,j,none⟩) r s/\wZ nq cq j r s Q ql/\ql.length=r/\nq<=out.length+1/\Bq (cw L) id out ql (some x) ((es.map fun e=>e.2.2.2).take k)/\2*(T-out.length)+r<=M/\Hp [] w wr [.row 3 1 (.slice (some ⟨gq,0,none⟩) nq cq) nq (Q.map (Value.int .i64)),.row 3 1 ov out.length (out.map (Value.int .i64)),.blk w.heap.size 36 [.int .i64 next,.slice (some ⟨bk,of,none⟩) n c]]) (fun _ _ kv _=>m-(intOf kv).toNat);{exact⟨0,out,Q,b,gq,nq,cq,j+1,b.length,s1,rfl,by omega,rfl,P.out,rfl,t,by simpa using N.out,by rw[HM.out];exact Nat.le_refl _,H1⟩};clear H1 t;clear P q N;obtain⟨k,out,Q,ql,gq,nq,cq,j,r,s,rfl,hk,rfl,G,I,t,i,p,H⟩:=hrel;have R:=hJ G;have V:=hJ I;have q:=hJ i;have U:=hJ p;have a8:=i.len;rw[<-HT.out]at a8;clear G I i p;obtain⟨C,oc,rfl⟩:=H.shape 1 rfl;have ao:(0:Int)<=(k:Int):=by{omega};by_cases ap:k<m;{have a7:(k:Int)<(m:Int):=by{omega};obtain⟨⟨y0,y1,y2,y3⟩,hy⟩:=cE a1.out ap;obtain⟨bq,oq,rfl,a⟩:=(a2.out _ H.fr).elem cF hy (by omega);have a6:=a 0 _ rfl;simp only[Nat.add_zero]at a6;have aj:=a 1 _ rfl;have ak:=a 2 _ rfl;have am:=a 3 _ rfl;have HY:=hJ (show(es.map fun e=>e.2.2.2).take (k+1)=(es.map fun e=>e.2.2.2).take k++[y3] by{rw[List.take_add_one,List.getElem?_map,hy];rfl});have ai:=hJ (show y3∈ip (cw L) x by{rw[O.out];exact List.mem_map_of_mem (f:=fun e:cH=>e.2.2.2) (hZ hy)});clear hy a;go_wp2_with fail;have H2:=H.lay_ 147 [.int .i64 y0,.int .i64 y1,.string y2,.int .i64 y3] rfl;clear a6 aj ak am H;obtain⟨g2,X⟩:∃x,x=wr.heap.size:=⟨_,rfl⟩;rw[<-X]at H2|-;have aA:=hJ X;clear X;obtain⟨w2,Z⟩:∃x,x=wr.alloc (.cells #[.int .i64 y0,.int .i64 y1,.string y2,.int .i64 y3] 147):=⟨_,rfl⟩;have H:=H2.castW Z.symm;rw[<-Z];clear Z H2;refine(iW C out.length oc out y3 w2 (H.rd 2 rfl) (by omega)).mono ?_;rintro e w3 ⟨rfl,au⟩;subst au;by_cases o:y3∈out;{have hd:decide (y3∈out)=true:=decide_eq_true o;have F:=hJ (q.out.old o);rw[hd];clear hd o;have H9:=H.tail;clear H;go_wp2_with fail;go_roundw;{exact⟨k+1,out,Q,ql,gq,nq,cq,j,r,s,by go_num,by omega,rfl,R.out,V.out,t,by rw[HY.out];exact F.out,U.out,H9⟩};simp[intOf];omega};{have hd:decide (y3∈out)=false:=decide_eq_false o;have F:=hJ (q.out.fresh o ai.out);have a9:=F.out.len;rw[<-HT.out,List.length_append,List.length_singleton]at a9;rw[hd];clear hd o;have t3:=H.fa 0 3 rfl rfl;have H3:=H;clear H;go_wp2_with (at_builtin;refine eX (f:=Value.int .i64) (H3) rfl _ _ _ rfl Tryz.underlying106 gl rfl 2 _ _ rfl rfl _ _ (y3) rfl (by simp) rfl (by first|(simp only[maxLen];omega)|(simp[maxLen];done)|(simp[maxLen];omega)) (by first|omega|(simp;done)|(simp;omega)) ?_);intro v' w4 H;clear H3 t3;replace H:Hp [] w w4 [.blk g2 147 [.int .i64 y0,.int .i64 y1,.string y2,.int .i64 y3],.row 3 1 (.slice (some ⟨gq,0,none⟩) nq cq) nq (Q.map (Value.int .i64)),.row 3 1 v' (out++[y3]).length ((out++[y3]).map (Value.int .i64)),.blk w.heap.size 36 [.int .i64 next,.slice (some ⟨bk,of,none⟩) n c]]:=H.recast (by simp);have t3:=H.fa 0 3 rfl rfl;have H3:=H;clear H;go_wp2_with (at_builtin;refine rR (f:=Value.int .i64) H3 rfl _ _ _ rfl Tryz.underlying106 gl rfl 1 gq nq cq j r s Q ql rfl R.out rfl _ _ y3 rfl (by simp) rfl (by simp only[maxLen];omega) (by omega) ?_);intro g' j' r' q' n' a5 L' w5 aF u H;clear H3 t3;have af:=hJ u;have a3:=hJ (show(ql++[y3]).length=r' by{have aD:L'.length=n':=by{simpa using(H.row 1 rfl).1};rcases u with⟨h1,h2,h3⟩|⟨h1,h2,h3⟩;{rw[h3,h1];rfl};{rw[h3,List.length_drop];omega}});have ah:=a3.out;rw[List.length_append,List.length_singleton,V.out]at ah;clear u;have H9:=H.tail;have ar:n'<=(out++[y3]).length+1:=by{rw[List.length_append,List.length_singleton];omega};have ag:=hJ (show 2*(T-(out++[y3]).length)+r'<=M by{have:=U.out;rw[List.length_append,List.length_singleton];omega});clear H;go_wp2_with fail;go_roundw;{exact⟨k+1,out++[y3],L',ql++[y3],g',n',a5,j',r',q',by go_num,by omega,rfl,af.out,a3.out,ar,by rw[HY.out];exact F.out,ag.out,H9.recast (by simp)⟩};simp[intOf];omega}};{have a7:¬(k:Int)<(m:Int):=by{omega};have J:=hJ (show Bq (cw L) id out ql none []from q.out.close (by{rw[O.out];intro y hy;rwa [List.take_of_length_le (by rw[List.length_map,a1.out];omega)]}));go_wp2_with fail;go_roundw;(case rel=>exact⟨out,Q,ql,gq,nq,cq,j,r,s,rfl,R.out,V.out,t,J.out,H⟩);case measure=>have:=U.out;have:=HM.out;simp only[BM];omega}}}}
theorem kG {next:Int} {l:List cI} (h:ja next l=false):gA next l=false:=by rw[gA,h];rfl
theorem kH {next:Int} {l:List cI} (h:fl next l l.length=false):gA next l=false:=by rw[gA,h];simp
theorem xX {next:Int} {l:List cI} (h1:ja next l=true) (h2:fl next l l.length=true):gA next l=(l.drop 1).all fun x=>wI l 1 x.1:=by rw[gA,h1,h2];simp
theorem xY {next:Int} {l:List cI} (h:cV next 2 100000=false):ja next l=false:=by rw[ja,h];rfl
theorem xZ {next:Int} {l:List cI} (h:cV (l.length:Int) 1 16=false):ja next l=false:=by simp[ja,h]
theorem qf{next:Int}{l:List cI}{x:cI}(h0:l[0]?=some x)(h:¬(x.1=1/\x.2.1=2)):ja next l=false:=by cases hh:ja next l with|false=>{rfl}|true=>{simp only[ja,h0,Bool.and_eq_true,decide_eq_true_eq]at hh;exact absurd hh.2 h}
theorem x6{next:Int}{l:List cI}{x:cI}(h1:cV next 2 100000=true)(h2:cV (l.length:Int) 1 16=true)(h0:l[0]?=some x)(h3:x.1=1)(h4:x.2.1=2):ja next l=true:=by simp only[ja,h0,Bool.and_eq_true,decide_eq_true_eq];exact⟨⟨h1,h2⟩,h3,h4⟩
theorem vf {next:Int} {l:List cI} {k:Nat} {x:cI} (h:cV x.1 1 (next-1)=false):iU next l k x=false:=by simp only[iU,h,Bool.false_and]
theorem vh{next:Int}{l:List cI}{k:Nat}{x p:cI}(hp:l[k]?=some p)(h:x.1<=p.1):iU next l (k+1) x=false:=by have:decide (p.1<x.1)=false:=decide_eq_false (by omega);simp only[iU,hp,this,Bool.and_false,Bool.false_and]
theorem AJ {next:Int} {l:List cI} {x:cI} (h:cV x.1 1 (next-1)=true):iU next l 0 x=ib l x:=by simp only[iU,h,Bool.true_and]
theorem AK{next:Int}{l:List cI}{k:Nat}{x p:cI}(h:cV x.1 1 (next-1)=true)(hp:l[k]?=some p)(h1:p.1<x.1):iU next l (k+1) x=ib l x:=by simp only[iU,h,hp,decide_eq_true h1,Bool.true_and]
theorem lM{next:Int}{l:List cI}{k:Nat}{x:cI}(hx:l[k]?=some x)(h0:fl next l k=true)(h:iU next l k x=true):fl next l (k+1)=true:=by rw[fl,hx,h0,Bool.true_and];exact h
theorem BE{l:List cI}{x:cI}(h:ib l x=true):x.2.2.2.2.length<=12:=by unfold ib at h;split at h;{simp only[Bool.and_eq_true,decide_eq_true_eq]at h;omega};{simp only[Bool.and_eq_true,decide_eq_true_eq]at h;exact(zE h.1.1.2).len}
theorem td{next:Int}{l:List cI}(h:fl next l l.length=true):∀x∈l,x.2.2.2.2.length<=12:=by intro x hx;obtain⟨k,hk⟩:=List.getElem?_of_mem hx;have h1:=mz h hk;unfold iU at h1;rw[Bool.and_eq_true]at h1;exact BE h1.2
theorem rk:∀(l:List cI),(∀x∈l,x.2.2.2.2.length<=12)->(l9 l).length<=12*l.length
 | [],_=>by simp[l9]
 |x::l,h=>by
   have h1:=rk l fun y hy=>h y (List.mem_cons_of_mem _ hy);have h2:=h x List.mem_cons_self;simp only[l9,List.flatMap_cons,List.length_append,List.length_map,List.length_cons]at h1|-;omega
theorem C5{l:List cI}{out:List Int}(h:∀x,x∈out↔nP l 1 x):((l.drop 1).all fun x=>wI l 1 x.1)=(l.drop 1).all fun x=>decide (x.1∈out):=by congr 1;funext x;rw[Bool.eq_iff_iff,pZ,decide_eq_true_iff,h]
theorem zX(l:List cI)(a:Int)(h:∀k,eK l a=some k->Bs l a (fG l k)):(iu l a).length=l.length:=by unfold iu;split;{simp};{rename_i k hk;exact((h k hk).rounds _).l1}
theorem BQ{l:List cI}(hs:l.Pairwise fun a b=>a.1<b.1){a:Int}{i:Nat}{x:cI}(hx:l[i]?=some x):(iu l a)[i]?=some (wI l a x.1):=by have d:=fm hs hx;have c:i<(iu l a).length:=by{rw[zX l a fun k hk=>rj hk];exact(mD hx).1};have h1:=vd l a i;have h2:On (iu l a) i↔wI l a x.1=true:=by{rw[h1,pZ];refine⟨fun ⟨b,hb,e⟩=>?_,fun hb=>⟨_,hb,d⟩⟩;obtain⟨y,hy,f⟩:=nN e;rw[hx]at hy;injection hy with hy;subst hy;rw[f];exact hb};obtain⟨b,hb⟩:∃b,(iu l a)[i]?=some b:=⟨_,List.getElem?_eq_getElem c⟩;rw[hb];unfold On at h2;rw[hb]at h2;congr 1;rw[Bool.eq_iff_iff,<-h2];simp
theorem rq (l:List cI):∀(es:List cH) (s:BS),(es.foldl (eH l) s).1.length=s.1.length/\(es.foldl (eH l) s).2.length=s.2.length
 | [],s=>⟨rfl,rfl⟩
 |e::es,s=>by
   obtain⟨h1,h2⟩:=rq l es (eH l s e);obtain⟨h3,h4⟩:=ri l s e;exact⟨h1.trans h3,h2.trans h4⟩
theorem zW{l:List cI}{es:List cH}{k:Nat}{e:cH}(h:es[k]?=some e)(s:BS):(es.take (k+1)).foldl (eH l) s=eH l ((es.take k).foldl (eH l) s) e:=by rw[List.take_add_one,h,List.foldl_append];rfl
theorem BO(l:List cI)(s:BS)(i:Nat):(List.range (i+1)).foldl (ou l) s=ou l ((List.range i).foldl (ou l) s) i:=by rw[List.range_succ,List.foldl_append];rfl
theorem Ej {l:List cI} {s:BS} {i:Nat} {x:cI} (h:l[i]?=some x) (ho:s.2[i]?=some true):ou l s i=x.2.2.2.2.foldl (eH l) s:=by rw[ou,h];exact if_pos ho
theorem Ek {l:List cI} {s:BS} {i:Nat} {x:cI} (h:l[i]?=some x) (ho:s.2[i]?=some false):ou l s i=s:=by rw[ou,h];exact if_neg (by rw[ho];simp)
theorem pf(next:Int)(A:Option Addr)(n c:Nat)(L:List (Value×cI))(id:Int)(w:World)(h:ig w A n L)(hn:n<=1048576)(N:ma L):Calls Tryz.prog 76 #[.agg #[.int .i64 next,.slice A n c],.int .i64 id] w (mO w 4 1 n ((iu (cw L) id).map Value.bool)):=by have HL:=hJ h.len;have q:=hJ (show(cw L).length=n by rw[cW];exact h.len);have HR:=hJ h;have a9:=hJ N;have H:=(Hp.start w).lay_ 36 [.int .i64 next,.slice A n c] rfl;have y1:=H.fa 0 1 rfl rfl;clear h N;obtain⟨BB,P⟩:∃x,x=iu (cw L) id:=⟨_,rfl⟩;rw[<-P];have V:=hJ P;clear P;go_enter Tryz.func76,Tryz.ntmps76;go_wp2_with (at_make;refine CE (H) rfl _ _ _ rfl Tryz.underlying115 xx rfl rfl (n) _ _ _ _ rfl rfl rfl rfl (by first|omega|(simp;done)|(simp;omega)) (by first|(simp only[maxLen];omega)|(simp[maxLen];done)|(simp[maxLen];omega)) ?_);intro w1 H_;have H1:Hp [] w w1 [.row 4 1 (.slice (some ⟨w.heap.size+1,0,none⟩) n n) n ((List.replicate n false).map Value.bool),.blk w.heap.size 36 [.int .i64 next,.slice A n c]]:=H_.recast (by simp);clear H_ H y1;have y1:=H1.fa 1 1 rfl rfl;have a4:=H1.lt 0 rfl (g:=w.heap.size+1) rfl;go_wp2_with (at_make;refine CE (H1) rfl _ _ _ rfl Tryz.underlying115 xx rfl rfl (n) _ _ _ _ rfl rfl rfl rfl (by first|omega|(simp;done)|(simp;omega)) (by first|(simp only[maxLen];omega)|(simp[maxLen];done)|(simp[maxLen];omega)) ?_);intro w2 H_;have H:Hp [] w w2 [.row 4 1 (.slice (some ⟨w1.heap.size,0,none⟩) n n) n ((List.replicate n false).map Value.bool),.row 4 1 (.slice (some ⟨w.heap.size+1,0,none⟩) n n) n ((List.replicate n false).map Value.bool),.blk w.heap.size 36 [.int .i64 next,.slice A n c]]:=H_.recast (by simp);clear H_ H1 y1;obtain⟨g1,F⟩:∃x,x=w.heap.size+1:=⟨_,rfl⟩;obtain⟨g2,G⟩:∃x,x=w1.heap.size:=⟨_,rfl⟩;rw[<-F,<-G]at H|-;rw[<-F,<-G]at a4;have HG1:=hJ F;have HG2:=hJ G;clear F G;have ai:¬g1=g2:=by{omega};have aj:¬g2=g1:=by{omega};obtain⟨y0,y1⟩:=H.f2 2 rfl;go_wp2_with fail;refine(dE next A n c L id _ (HR.out.fr H.fr) hn).mono ?_;rintro e w3 ⟨rfl,f9⟩;replace H:=H.go f9;clear f9 y0 y1;rcases lm (cw L) id with⟨p,d⟩|⟨a,p,d,E⟩;{rw[p];have HE:=hJ (show BB=List.replicate n false by rw[V.out,iu,d];simp only[q.out]);clear p d;have H9:=hJ (H.toMade 1 rfl);clear H;go_wp2_with fail;go_ret;rw[HE.out];exact H9.out};{rw[p];rw[q.out]at E;have ab:(0:Int)<=(a:Int):=by{omega};have ac:(a:Int)<(n:Int):=by{omega};have ha2:¬(a:Int)<0:=by{omega};obtain⟨s0,I⟩:∃x,x=fG (cw L) a:=⟨_,rfl⟩;have a2:=hJ (show s0.1=List.replicate n false/\s0.2=(List.replicate n false).set a true by rw[I,fG,q.out];exact⟨rfl,rfl⟩);have HE:=hJ (show BB=(dx (cw L) s0 n).1 by rw[V.out,iu,d];simp only[q.out,I]);have a7:=hJ (show Bs (cw L) id s0 by rw[I];exact rj d);clear p d I;have e0:=H.free 0 rfl a;have e1:=H.atM (f1:=Value.bool) 0 rfl (j:=a) (x:=false) (by simp[List.getElem?_replicate,E]);have H2:=H.putM (f1:=Value.bool) 0 rfl a true;have H3:Hp [] w (w3.setCell ⟨g2,a,none⟩ (.bool true)) [.row 4 1 (.slice (some ⟨g2,0,none⟩) n n) n (s0.2.map Value.bool),.row 4 1 (.slice (some ⟨g1,0,none⟩) n n) n (s0.1.map Value.bool),.blk w.heap.size 36 [.int .i64 next,.slice A n c]]:=H2.recast (by rw[a2.out.1,a2.out.2];rfl);clear H H2;have y1:=H3.fa 2 1 rfl rfl;go_wp2_with fail;go_loopw [8] (fun rv wr=>∃r:Nat,rv=.int .i64 r/\r<=n/\Hp [] w wr [.row 4 1 (.slice (some ⟨g2,0,none⟩) n n) n ((dx (cw L) s0 r).2.map Value.bool),.row 4 1 (.slice (some ⟨g1,0,none⟩) n n) n ((dx (cw L) s0 r).1.map Value.bool),.blk w.heap.size 36 [.int .i64 next,.slice A n c]]) (fun rv _=>n-(intOf rv).toNat);{exact⟨0,rfl,by omega,H3⟩};clear H3 y1 e0 e1;obtain⟨r,rfl,hr,H⟩:=hrel;have y1:=H.fa 2 1 rfl rfl;have hr0:(0:Int)<=(r:Int):=by{omega};by_cases hrn:r<n;{have ah:(r:Int)<(n:Int):=by{omega};obtain⟨t0,J⟩:∃x,x=dx (cw L) s0 r:=⟨_,rfl⟩;rw[<-J]at H;have aa:=hJ (show dx (cw L) s0 (r+1)=(List.range n).foldl (ou (cw L)) t0 by rw[dx,iQ,q.out,J]);have X:=hJ (show Bs (cw L) id t0 by rw[J];exact a7.out.rounds r);clear J;go_wp2_with fail;clear y1;have H1:=H;clear H;go_loopw [9] (fun iv wr=>∃i:Nat,iv=.int .i64 i/\i<=n/\Hp [] w wr [.row 4 1 (.slice (some ⟨g2,0,none⟩) n n) n (((List.range i).foldl (ou (cw L)) t0).2.map Value.bool),.row 4 1 (.slice (some ⟨g1,0,none⟩) n n) n (((List.range i).foldl (ou (cw L)) t0).1.map Value.bool),.blk w.heap.size 36 [.int .i64 next,.slice A n c]]) (fun iv _=>n-(intOf iv).toNat);{exact⟨0,rfl,by omega,H1⟩};clear H1;obtain⟨i,rfl,hi,H⟩:=hrel;have y1:=H.fa 2 1 rfl rfl;have hi0:(0:Int)<=(i:Int):=by{omega};by_cases a5:i<n;{have ad:(i:Int)<(n:Int):=by{omega};obtain⟨t1,M⟩:∃x,x=(List.range i).foldl (ou (cw L)) t0:=⟨_,rfl⟩;rw[<-M]at H;have t:=hJ (show Bs (cw L) id t1 by rw[M];exact X.out.goes _);have D:=hJ (show(List.range (i+1)).foldl (ou (cw L)) t0=ou (cw L) t1 i by rw[BO,M]);clear M;obtain⟨⟨v,x0,x1,x2,x3,es⟩,hx⟩:=cE HL.out a5;have hm:=a9.out _ (hZ hx);obtain⟨bk,of,B1,d1,rfl,e1,a6,c1⟩:=(HR.out.fr H.fr).elem hx;simp only at e1 a6 hm;subst e1;have O:=hJ (cL hx);simp only at O;have u:=hJ (show ∀w',Fr w w'->Rd w' B1 es.length 4 (es.flatMap cO)/\w'.cell? ⟨bk,of+i*5+4,none⟩=some (.slice B1 es.length d1)from fun w' f=>by{obtain⟨b',o',B2,d2,ea,e2,r2,cc⟩:=(HR.out.fr f).elem hx;injection ea with ea;injection ea with ea eb;subst ea eb;simp only at e2 r2;have c4:=cc 4 _ rfl;injection e2 with e2 _ e3;subst e2 e3;exact⟨r2,c4⟩});obtain⟨m,R⟩:∃m,m=es.length:=⟨_,rfl⟩;have a0:=hJ R.symm;rw[<-R]at hm u;clear hx c1 a6 R;obtain⟨o,ho⟩:∃o,t1.2[i]?=some o:=⟨_,List.getElem?_eq_getElem (by rw[t.out.l2,q.out];exact a5)⟩;have HO:=hJ ho;clear ho;go_wp2_with fail;clear y1;have H1:=H;clear H;go_loopw [10] (fun kv wr=>∃k:Nat,kv=.int .i64 k/\k<=m/\(o=true\/k=0)/\Hp [] w wr [.row 4 1 (.slice (some ⟨g2,0,none⟩) n n) n (((es.take k).foldl (eH (cw L)) t1).2.map Value.bool),.row 4 1 (.slice (some ⟨g1,0,none⟩) n n) n (((es.take k).foldl (eH (cw L)) t1).1.map Value.bool),.blk w.heap.size 36 [.int .i64 next,.slice (some ⟨bk,of,none⟩) n c]]) (fun kv _=>m-(intOf kv).toNat);{exact⟨0,rfl,by omega,.inr rfl,H1⟩};clear H1;obtain⟨k,rfl,hk,ag,H⟩:=hrel;have y1:=H.fa 2 1 rfl rfl;have y4:=(u.out _ H.fr).2;have hk0:(0:Int)<=(k:Int):=by{omega};cases o with|false=>{have C:k=0:=ag.resolve_left (by simp);have y:=hJ (show(List.range (i+1)).foldl (ou (cw L)) t0=(es.take k).foldl (eH (cw L)) t1 by{rw[D.out,Ek O.out HO.out,C];rfl});have c0:=H.atM (f1:=Value.bool) 0 rfl (j:=i) (x:=false) (by rw[C];exact HO.out);clear C;go_wp2_with fail;go_roundw;{exact⟨i+1,by go_num,by omega,by rw[y.out];exact H⟩};simp[intOf];omega}|true=>{obtain⟨t2,s⟩:∃x,x=(es.take k).foldl (eH (cw L)) t1:=⟨_,rfl⟩;rw[<-s]at H;have T:t2.2[i]?=some true:=by{rw[s];exact(mA _ _).2 HO.out};have hl1:t2.1.length=n:=by{rw[s,(rq _ _ _).1,t.out.l1,q.out]};have hl2:t2.2.length=n:=by{rw[s,(rq _ _ _).2,t.out.l2,q.out]};have y:=hJ s;clear s;have c0:=H.atM (f1:=Value.bool) 0 rfl (j:=i) (x:=true) T;have HO2:=hJ T;clear T;by_cases af:k<m;{have ae:(k:Int)<(m:Int):=by{omega};obtain⟨⟨z0,z1,z2,y3⟩,hy⟩:=cE a0.out af;obtain⟨bq,oq,rfl,_⟩:=(u.out _ H.fr).1.elem cF hy (by omega);have Z:=hJ (show ∀w',Fr w w'->w'.cell? ⟨bk,of+i*5+4,none⟩=some (.slice (some ⟨bq,oq,none⟩) m d1)from fun w' f=>(u.out _ f).2);have Y:=hJ (show ∀w',Fr w w'->w'.cell? ⟨bq,oq+k*4+3,none⟩=some (.int .i64 y3)from fun w' f=>by{obtain⟨b',o',e,hc⟩:=(u.out _ f).1.elem cF hy (by omega);injection e with e;injection e with e1 e2;subst e1 e2;exact hc 3 _ rfl});have a1:=hJ (zW (l:=cw L) hy t1);clear hy;obtain⟨z,hz⟩:∃z,z=kF (cw L) y3:=⟨_,rfl⟩;have HZ:=hJ hz;clear hz;go_wp2_with fail;clear y1 y4 c0;replace H:=H.drew;obtain⟨y0,y1⟩:=H.f2 2 rfl;have y4:=Z.out _ H.fr;have y5:=Y.out _ H.fr;refine wp_region_held_drew (S:=fun w'=>w'.cell? ⟨w.heap.size,0,none⟩=some (.int .i64 next)/\w'.cell? ⟨w.heap.size,1,none⟩=some (.slice (some ⟨bk,of,none⟩) n c)/\w'.cell? ⟨bk,of+i*5+4,none⟩=some (.slice (some ⟨bq,oq,none⟩) m d1)/\w'.cell? ⟨bq,oq+k*4+3,none⟩=some (.int .i64 y3)) (by kernel_rfl) ?_ fun q_=>?_;{exact⟨y0,y1,y4,y5⟩};generalize wr.drew=u0 at H q_|-;refine cz 0 ?_;refine cz 1 ?_;refine cz 2 ?_;refine cz 3 ?_;refine cz 4 ?_;refine cz 5 ?_;refine cz 6 ?_;refine cz 7 ?_;refine cz 8 ?_;refine cz 9 ?_;refine cz 10 ?_;refine cY 11 fun K hK=>?_;go_simp;refine(dE next _ n c L y3 _ (HR.out.fr H.fr) hn).mono ?_;rintro e u1 ⟨rfl,f9⟩;replace H:=H.go f9;clear f9;rw[<-HZ.out];go_wp2_with fail;refine hK.out _ _ ?_ fun q_=>?_;{exact⟨H.fa 2 0 rfl rfl,H.fa 2 1 rfl rfl,Z.out _ H.fr,Y.out _ H.fr⟩};clear hK K;refine cz 12 ?_;refine wpAnyH_done (by kernel_rfl) ?_ _;clear y0 y1 y4 y5;rcases lm (cw L) y3 with⟨p,d⟩|⟨a,p,d,E⟩;{have U:z = -1:=HZ.out.trans p;subst U;have B:=hJ (show(es.take (k+1)).foldl (eH (cw L)) t1=t2 by rw[a1.out,<-y.out,eH,d]);clear p d;go_wp2_with fail;go_roundw;{exact⟨k+1,by go_num,by omega,.inl (by trivial),by rw[B.out];exact H⟩};simp[intOf];omega};{have U:z=(a:Int):=HZ.out.trans p;subst U;rw[q.out]at E;have B:=hJ (show(es.take (k+1)).foldl (eH (cw L)) t1=(t2.1.set a true,t2.2.set a true) by rw[a1.out,<-y.out,eH,d]);have ab:(0:Int)<=(a:Int):=by{omega};have ac:(a:Int)<(n:Int):=by{omega};clear p d;obtain⟨b1,a3⟩:∃b,t2.1[a]?=some b:=⟨_,List.getElem?_eq_getElem (by omega)⟩;obtain⟨b2,Q⟩:∃b,t2.2[a]?=some b:=⟨_,List.getElem?_eq_getElem (by omega)⟩;have c1:=H.atM (f1:=Value.bool) 1 rfl a3;have c2:=H.atM (f1:=Value.bool) 0 rfl Q;have q1:=H.free 1 rfl a;have q2:=H.free 0 rfl a;have H5:=H.putM (f1:=Value.bool) 1 rfl a true;have c3:=H5.atM (f1:=Value.bool) 0 rfl Q;have q3:=H5.free 0 rfl a;have H6:=H5.putM (f1:=Value.bool) 0 rfl a true;have H7:=hJ H6;clear a3 Q H H5 H6;go_wp2_with fail;go_roundw;{exact⟨k+1,by go_num,by omega,.inl (by trivial),by rw[B.out];exact H7.out⟩};simp[intOf];omega}};{have ae:¬(k:Int)<(m:Int):=by{omega};have B:=hJ (show(List.range (i+1)).foldl (ou (cw L)) t0=t2 by{rw[D.out,Ej O.out HO.out,y.out,List.take_of_length_le (by rw[a0.out];omega)]});go_wp2_with fail;go_roundw;{exact⟨i+1,by go_num,by omega,by rw[B.out];exact H⟩};simp[intOf];omega}}};{have ad:¬(i:Int)<(n:Int):=by{omega};have D:=hJ (show dx (cw L) s0 (r+1)=(List.range i).foldl (ou (cw L)) t0 by rw[aa.out,show i=n by omega]);go_wp2_with fail;go_roundw;{exact⟨r+1,by go_num,by omega,by rw[D.out];exact H⟩};simp[intOf];omega}};{have ah:¬(r:Int)<(n:Int):=by{omega};have a8:=hJ (show BB=(dx (cw L) s0 r).1 by rw[HE.out,show r=n by omega]);have H9:=hJ (H.toMade 1 rfl);go_wp2_with fail;go_ret;rw[a8.out];exact H9.out}}
