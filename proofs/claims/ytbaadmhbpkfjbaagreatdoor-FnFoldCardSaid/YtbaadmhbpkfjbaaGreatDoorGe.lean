import Derived.Test.YtbaadmhbpkfjbaaGreatDoorGd
import Derived.Laws.IdiomCopy
import Derived.Lib.SliceRun
set_option linter.all false
set_option maxRecDepth 100000
set_option maxHeartbeats 64000000
namespace Go.Proofs.YtbaadmhbpkfjbaaGreatDoor
open Go.RowKit
def eA (a b:List UInt8):Bool:=(et a).2 && (et b).2 && decide ((et a).1=(et b).1)
theorem oh(s t:ByteArray)(w:World)(hs:s.size<=16777216)(ht:t.size<=16777216)(hk:KT w):Calls Tryz.prog 79 #[.string s,.string t] w fun e w'=>e=.returned (.bool (eA (cO s) (cO t)))/\Fr w w':=by obtain⟨q,hq⟩:∃q,q=eA (cO s) (cO t):=⟨_,rfl⟩;have HQ:=hJ hq;rw[<-hq];clear hq;go_enter Tryz.func79,Tryz.ntmps79;go_wp2_with fail;refine(fE s _ hs hk).mono ?_;rintro e w1 ⟨rfl,f1⟩;go_wp2_with fail;refine(fE t _ ht (hk.fr f1)).mono ?_;rintro e w2 ⟨rfl,f2⟩;have F:=f1.then f2;clear f1 f2;simp only[eA]at HQ;generalize et (cO s)=K at HQ|-;generalize et (cO t)=L at HQ|-;obtain⟨x,bx⟩:=K;obtain⟨y,yb⟩:=L;have h2:((dx x).toList == (dx y).toList)=decide (x=y):=by{rw[zx,dG,dG]};generalize decide (x=y)=b2 at h2 HQ;generalize dx x=tx at h2|-;generalize dx y=ty at h2|-;cases bx with|false=>{go_wp2_with fail;go_ret;rw[HQ.out];exact⟨rfl,F⟩}|true=>{cases yb with|false=>{go_wp2_with fail;go_ret;rw[HQ.out];exact⟨rfl,F⟩}|true=>{go_wp2_with fail;go_ret;rw[HQ.out];exact⟨rfl,F⟩}}
theorem jW(s t:ByteArray)(w:World)(hs:s.size<=16777216)(ht:t.size<=16777216):Calls Tryz.prog 129 #[.string s,.string t] w fun e w'=>e=.returned (.bool (eA (cO s) (cO t)))/\Fr w w':=by obtain⟨q,hq⟩:∃q,q=eA (cO s) (cO t):=⟨_,rfl⟩;have HQ:=hJ hq;rw[<-hq];clear hq;go_enter Tryz.func129,Tryz.ntmps129;go_wp2_with fail;refine(lH s _ hs).mono ?_;rintro e w1 ⟨rfl,f1⟩;go_wp2_with fail;refine(lH t _ ht).mono ?_;rintro e w2 ⟨rfl,f2⟩;have F:=f1.then f2;clear f1 f2;simp only[eA]at HQ;generalize et (cO s)=K at HQ|-;generalize et (cO t)=L at HQ|-;obtain⟨x,bx⟩:=K;obtain⟨y,yb⟩:=L;have h2:((dx x).toList == (dx y).toList)=decide (x=y):=by{rw[zx,dG,dG]};generalize decide (x=y)=b2 at h2 HQ;generalize dx x=tx at h2|-;generalize dx y=ty at h2|-;cases bx with|false=>{go_wp2_with fail;go_ret;rw[HQ.out];exact⟨rfl,F⟩}|true=>{cases yb with|false=>{go_wp2_with fail;go_ret;rw[HQ.out];exact⟨rfl,F⟩}|true=>{go_wp2_with fail;go_ret;rw[HQ.out];exact⟨rfl,F⟩}}
def dU (s:List UInt8):Int:=if (et s).2=true then mt (et s).1 % 16 else -1
abbrev cI:=Int×Int×ByteArray×Int
def qc (e:cI) (h i:Int):Bool:=decide (h<e.1) ||(e.1 == h && decide (i<e.2.1))
def fw (e:cI) (h i:Int):Bool:=decide (e.1<h) ||(e.1 == h && decide (e.2.1<i))
theorem yR(a b:cI):fw a b.1 b.2.1=qc b a.1 a.2.1:=by simp only[fw,qc];rw[Bool.eq_iff_iff];simp only[Bool.or_eq_true,Bool.and_eq_true,decide_eq_true_eq,beq_iff_eq];omega
def ky (e:cI):Bool:=(et (cO e.2.2.1)).2 && (e.1 == dU (cO e.2.2.1)) && cY e.2.1 0 12 && cY e.2.2.2 1 100000
def iZ (d:List cI) (e:cI):Bool:=ky e && (match d.getLast? with
 |none=>true
 |some p=>fw p e.1 e.2.1) && d.all fun p=>!eA (cO p.2.2.1) (cO e.2.2.1)
def jf (d:List cI):Nat->Bool
 |0=>true
 |k+1=>jf d k && (match d[k]? with
   |none=>true
   |some e=>iZ (d.take k) e)
def mY (d:List cI):Bool:=decide (d.length<=12) && jf d d.length
theorem Bz {d : List cI} {i k : Nat} (h : jf d k = true) (hi : i ≤ k) : jf d i = true := by
 induction k with
 | zero => obtain rfl : i = 0 := by omega
           exact h
 | succ k ih =>
   rcases Nat.lt_or_eq_of_le hi with h1 | h1
   ·rw [jf, Bool.and_eq_true] at h
    exact ih h.1 (by omega)
   ·rw [h1]; exact h
theorem BA{d:List cI}{i:Nat}{e:cI}(h:jf d d.length=true)(he:d[i]?=some e):iZ (d.take i) e=true:=by have hi:=(mE he).1;have h1:=Bz h (show i+1<=d.length by omega);rw[jf,he,Bool.and_eq_true]at h1;exact h1.2
def dJ (d:List cI) (s:List UInt8):Option Nat:=d.findIdx? fun e=>eA (cO e.2.2.1) s
def fj (a b:cI):Prop:=a.1<b.1\/a.1=b.1/\a.2.1<b.2.1
theorem pl{a:cI}{h i:Int}:fw a h i=true↔a.1<h\/a.1=h/\a.2.1<i:=by simp only[fw,Bool.or_eq_true,Bool.and_eq_true,decide_eq_true_eq,beq_iff_eq]
theorem oj{a b c:cI}(h1:fj a b)(h2:fj b c):fj a c:=by unfold fj at *;omega
structure fA (d:List cI):Prop where
 len:d.length<=12
 one:∀e∈d,ky e=true
 sorted:d.Pairwise fj
 once:d.Pairwise fun a b=>eA (cO a.2.2.1) (cO b.2.2.1)=false
theorem uE {d:List cI}:∀k,k<=d.length->jf d k=true->(∀e∈d.take k,ky e=true)/\(d.take k).Pairwise fj/\(d.take k).Pairwise fun a b=>eA (cO a.2.2.1) (cO b.2.2.1)=false
 |0,_,_=>by simp
 |k+1,hk,h=>by
   obtain⟨e,he⟩:∃e,d[k]?=some e:=⟨_,List.getElem?_eq_getElem (by omega)⟩;rw[jf,he,Bool.and_eq_true]at h;obtain⟨h1,h2,h3⟩:=uE k (by omega) h.1;have h4:=h.2;simp only[iZ,Bool.and_eq_true,List.all_eq_true,Bool.not_eq_true']at h4;have ht:d.take (k+1)=d.take k++[e]:=by rw[List.take_add_one,he];rfl
   rw[ht];refine⟨fun x hx=>?_,?_,?_⟩
   ·rcases List.mem_append.1 hx with h5|h5
    ·exact h1 x h5
    ·rw[List.mem_singleton.1 h5];exact h4.1.1
   ·rw[List.pairwise_append]
    refine⟨h2,List.pairwise_singleton _ _,fun a ha b hb=>?_⟩;rw[List.mem_singleton.1 hb]
    rcases List.eq_nil_or_concat (d.take k)with h5|⟨p,q,h5⟩
    ·rw[h5]at ha;simp at ha
    ·have h6:=h4.1.2
     rw[h5,List.concat_eq_append,List.getLast?_append]at h6;simp only[List.getLast?_singleton,Option.some_or]at h6;rw[h5,List.concat_eq_append]at ha h2;have hq:fj q e:=pl.1 h6
     rcases List.mem_append.1 ha with h7|h7
     ·exact oj ((List.pairwise_append.1 h2).2.2 a h7 q (by simp)) hq
     ·rw[List.mem_singleton.1 h7];exact hq
   ·rw[List.pairwise_append]
    refine⟨h3,List.pairwise_singleton _ _,fun a ha b hb=>?_⟩;rw[List.mem_singleton.1 hb];exact h4.2 a ha
theorem xQ{d:List cI}(h:mY d=true):fA d:=by rw[mY,Bool.and_eq_true,decide_eq_true_eq]at h;obtain⟨h1,h2,h3⟩:=uE d.length (Nat.le_refl _) h.2;rw[List.take_length]at h1 h2 h3;exact⟨h.1,h1,h2,h3⟩
def jX (h:Int) (k:Nat) (e:cI):Nat:=if e.1=h/\e.2.1=(k:Int) then k+1 else k
def jg (d:List cI) (h:Int):Nat:=d.foldl (jX h) 0
theorem tI (d:List cI) (e:cI) (h:Int):jg (d++[e]) h=jX h (jg d h) e:=by rw[jg,List.foldl_append];rfl
theorem qH (h:Int):∀(d:List cI) (k:Nat),d.foldl (jX h) k<=k+d.length
 | [],k=>by simp
 |e::d,k=>by
   have h1:=qH h d (jX h k e);have h2:jX h k e<=k+1:=by unfold jX;split<;>omega
   rw[List.foldl_cons,List.length_cons];omega
theorem qW(d:List cI)(h:Int):jg d h<=d.length:=by have:=qH h d 0;rw[jg];omega
theorem qX (h:Int):∀(n:Nat) (d:List cI),d.length=n->d.Pairwise fj->(∀e∈d,¬(e.1=h/\e.2.1=(jg d h:Int)))/\∀j:Nat,j<jg d h->∃e∈d,e.1=h/\e.2.1=(j:Int)
 |0,d,hd,_=>by
   have e:=List.eq_nil_of_length_eq_zero hd;subst e;simp[jg]
 |n+1,d,hd,hs=>by
   rcases List.eq_nil_or_concat d with rfl|⟨p,e,rfl⟩
   ·simp at hd
   rw[List.concat_eq_append]at hd hs|-;have a:=List.pairwise_append.1 hs;obtain⟨h1,h2⟩:=qX h n p (by simpa using hd) a.1;rw[tI,jX]
   split
   ·rename_i hc
    refine⟨fun x hx=>?_,fun j hj=>?_⟩
    ·rcases List.mem_append.1 hx with h3|h3
     ·have:=a.2.2 x h3 e (by simp)
      unfold fj at this;omega
     ·rw[List.mem_singleton.1 h3];omega
    ·rcases Nat.lt_or_eq_of_le (Nat.le_of_lt_succ hj)with h3|h3
     ·obtain⟨y,hy,h4⟩:=h2 j h3
      exact⟨y,List.mem_append_left _ hy,h4⟩
     ·exact⟨e,by simp,by rw[h3];exact hc⟩
   ·rename_i hc
    refine⟨fun x hx=>?_,fun j hj=>?_⟩
    ·rcases List.mem_append.1 hx with h3|h3
     ·exact h1 x h3
     ·rw[List.mem_singleton.1 h3];exact hc
    ·obtain⟨y,hy,h4⟩:=h2 j hj
     exact⟨y,List.mem_append_left _ hy,h4⟩
theorem xR{d:List cI}{h:Int}(hs:d.Pairwise fj){k:Nat}(h1:∀e∈d,¬(e.1=h/\e.2.1=(k:Int)))(h2:∀j:Nat,j<k->∃e∈d,e.1=h/\e.2.1=(j:Int)):k=jg d h:=by obtain⟨k1,k2⟩:=qX h d.length d rfl hs;rcases Nat.lt_trichotomy k (jg d h)with h3|h3|h3;{obtain⟨e,he,h4⟩:=k2 k h3;exact absurd h4 (h1 e he)};{exact h3};{obtain⟨e,he,h4⟩:=h2 _ h3;exact absurd h4 (k1 e he)}
def ln (d:List cI) (e:cI):List cI:=d.takeWhile (fun x=>fw x e.1 e.2.1)++e::d.dropWhile (fun x=>fw x e.1 e.2.1)
theorem qe(d:List cI)(e:cI):(ln d e).Perm (e::d):=by unfold ln;refine List.perm_middle.trans ?_;rw[List.takeWhile_append_dropWhile]
def eI (d:List cI) (s:ByteArray) (id:Int):List cI×Bool:=
 if (dH (cO s) && (dJ d (cO s)).isNone && cY id 1 100000 && decide (d.length<12))=true then(ln d (dU (cO s),(jg d (dU (cO s)):Int),s,id),true) else(d,false)
def da (d:List cI) (s:ByteArray):List cI×Bool:=
 match dJ d (cO s)with
 |none=>(d,false)
 |some k=>(d.eraseIdx k,true)
def dK (d:List cI) (s:ByteArray) (id:Int):List cI×Bool:=
 match dJ d (cO s)with
 |none=>(d,false)
 |some k=>if cY id 1 100000=true then((match d[k]? with
   |none=>d
   |some e=>d.set k (e.1,e.2.1,s,id)),true) else(d,false)
def dX (d:List cI) (s:ByteArray):Option cI:=(dJ d (cO s)).bind fun k=>d[k]?
theorem qf(a b:List UInt8):eA a b=eA b a:=by unfold eA;rw[Bool.and_comm (et a).2,show decide ((et a).1=(et b).1)=decide ((et b).1=(et a).1)from decide_eq_decide.2 eq_comm]
theorem oH{a b c:List UInt8}(h1:eA a b=true)(h2:eA b c=true):eA a c=true:=by simp only[eA,Bool.and_eq_true,decide_eq_true_eq]at *;exact⟨⟨h1.1.1,h2.1.2⟩,h1.2.trans h2.2⟩
theorem zT{a b:List UInt8}(h:eA a b=true):dU a=dU b:=by simp only[eA,Bool.and_eq_true,decide_eq_true_eq]at h;rw[dU,dU,if_pos h.1.1,if_pos h.1.2,h.2]
theorem yS {d:List cI} (h:fA d):∀k,k<=d.length->jf d k=true
 |0,_=>rfl
 |k+1,hk=>by
   obtain⟨e,he⟩:∃e,d[k]?=some e:=⟨_,List.getElem?_eq_getElem (by omega)⟩;have c:=mD he;have ht:d.take (k+1)=d.take k++[e]:=by rw[List.take_add_one,he];rfl
   have hs:(d.take k++[e]).Pairwise fj:=by rw[<-ht];exact h.sorted.sublist (List.take_sublist _ _)
   have ho:(d.take k++[e]).Pairwise fun a b=>eA (cO a.2.2.1) (cO b.2.2.1)=false:=by rw[<-ht];exact h.once.sublist (List.take_sublist _ _)
   rw[jf,he,Bool.and_eq_true];refine⟨yS h k (by omega),?_⟩;simp only[iZ,Bool.and_eq_true,List.all_eq_true,Bool.not_eq_true'];refine⟨⟨h.one e c,?_⟩,fun x hx=>(List.pairwise_append.1 ho).2.2 x hx e (by simp)⟩
   rcases List.eq_nil_or_concat (d.take k)with h5|⟨p,q,h5⟩
   ·rw[h5];rfl
   ·have h6:=(List.pairwise_append.1 hs).2.2 q (by rw[h5];simp) e (by simp)
    rw[h5,List.concat_eq_append,List.getLast?_append];simp only[List.getLast?_singleton,Option.some_or];exact pl.2 h6
theorem qg{d:List cI}(h:fA d):mY d=true:=by rw[mY,Bool.and_eq_true,decide_eq_true_eq];exact⟨h.len,yS h _ (Nat.le_refl _)⟩
theorem vN:fA []:=⟨by simp,by simp,.nil,.nil⟩
theorem fA.sub {d d':List cI} (h:fA d) (hs:d'.Sublist d):fA d':=
 ⟨Nat.le_trans hs.length_le h.len,fun e he=>h.one e (hs.subset he),h.sorted.sublist hs,h.once.sublist hs⟩
theorem xS{a e:cI}(h1:fw a e.1 e.2.1=false)(h2:¬(a.1=e.1/\a.2.1=e.2.1)):fj e a:=by have h3:¬(a.1<e.1\/a.1=e.1/\a.2.1<e.2.1):=fun h=>by{rw[pl.2 h]at h1;cases h1};unfold fj;omega
theorem ol {α:Type} (p:α->Bool):∀(l:List α) (x:α),x∈l.takeWhile p->p x=true
 | [],x,h=>by simp at h
 |a::l,x,h=>by
   rw[List.takeWhile_cons]at h
   split at h
   ·rcases List.mem_cons.1 h with rfl|h1
    ·assumption
    ·exact ol p l x h1
   ·simp at h
theorem nj {α:Type} (p:α->Bool):∀(l:List α) (a:α) (r:List α),l.dropWhile p=a::r->p a=false
 | [],a,r,h=>by simp at h
 |b::l,a,r,h=>by
   rw[List.dropWhile_cons]at h
   split at h
   ·exact nj p l a r h
   ·rename_i hb
    injection h with h1 _;rw[<-h1];simpa using hb
theorem vO{d:List cI}{e:cI}(hs:d.Pairwise fj)(hf:∀x∈d,¬(x.1=e.1/\x.2.1=e.2.1)):(ln d e).Pairwise fj:=by unfold ln;have hd:d=d.takeWhile (fun x=>fw x e.1 e.2.1)++d.dropWhile (fun x=>fw x e.1 e.2.1):=(List.takeWhile_append_dropWhile).symm;have c:=hs;rw[hd]at c;obtain⟨k1,k2,k3⟩:=List.pairwise_append.1 c;have h:∀a∈d.takeWhile (fun x=>fw x e.1 e.2.1),fj a e:=fun a ha=>pl.1 (ol _ d a ha);have g:∀b∈d.dropWhile (fun x=>fw x e.1 e.2.1),fj e b:=by{intro b hb;cases hq:d.dropWhile (fun x=>fw x e.1 e.2.1)with|nil=>{rw[hq]at hb;simp at hb}|cons a r=>{have h1:=nj _ d a r hq;have f:a∈d:=(List.dropWhile_sublist _).subset (by rw[hq];simp);have h2:=xS h1 (hf a f);rw[hq]at hb k2;rcases List.mem_cons.1 hb with rfl|h3;{exact h2};{exact oj h2 ((List.pairwise_cons.1 k2).1 b h3)}}};refine List.pairwise_append.2 ⟨k1,List.pairwise_cons.2 ⟨g,k2⟩,fun a ha b hb=>?_⟩;rcases List.mem_cons.1 hb with rfl|h3;{exact h a ha};{exact k3 a ha b h3}
theorem DX{d:List cI}{e:cI}(h:fA d)(h1:ky e=true)(hf:∀x∈d,¬(x.1=e.1/\x.2.1=e.2.1))(ho:∀x∈d,eA (cO e.2.2.1) (cO x.2.2.1)=false)(hl:d.length<12):fA (ln d e):=by have hp:=qe d e;refine⟨by rw[hp.length_eq,List.length_cons];omega,fun x hx=>?_,vO h.sorted hf,?_⟩;{rcases List.mem_cons.1 (hp.mem_iff.1 hx)with rfl|h2;{exact h1};{exact h.one x h2}};{refine(hp.pairwise_iff (fun {a b} hab=>?_)).2 (List.pairwise_cons.2 ⟨ho,h.once⟩);rw[qf];exact hab}
theorem gQ{d:List cI}{s:List UInt8}{k:Nat}(h:dJ d s=some k):∃e,d[k]?=some e/\eA (cO e.2.2.1) s=true:=by obtain⟨hk,h1,_⟩:=List.findIdx?_eq_some_iff_getElem.1 h;exact⟨d[k],List.getElem?_eq_getElem hk,h1⟩
theorem gR{d:List cI}{s:List UInt8}(h:dJ d s=none):∀e∈d,eA (cO e.2.2.1) s=false:=by intro e he;have:=List.findIdx?_eq_none_iff.1 h e he;simpa using this
theorem Db{a b:List UInt8}(h:eA a b=true):(et b).2=true:=by simp only[eA,Bool.and_eq_true]at h;exact h.1.2
theorem uF{d:List cI}(h:fA d)(s:ByteArray)(id:Int):fA (eI d s id).1:=by rw[eI];split;{rename_i hc;simp only[Bool.and_eq_true,Option.isNone_iff_eq_none,decide_eq_true_eq]at hc;obtain⟨⟨⟨c1,c2⟩,c3⟩,c4⟩:=hc;have hi:=qW d (dU (cO s));have hk:=(qX (dU (cO s)) d.length d rfl h.sorted).1;refine DX h ?_ (fun x hx=>hk x hx) (fun x hx=>?_) c4;{simp only[ky,Bool.and_eq_true,beq_self_eq_true,and_true];refine⟨⟨by rw[pi c1],dh.2 ⟨by omega,by omega⟩⟩,c3⟩};{rw[qf];exact gR c2 x hx}};{exact h}
theorem jY{d:List cI}(h:fA d)(s:ByteArray):fA (da d s).1:=by rw[da];split;{exact h};{exact h.sub (List.eraseIdx_sublist _ _)}
theorem EI{d:List cI}(h:fA d){k:Nat}{e:cI}(he:d[k]?=some e){s:ByteArray}{id:Int}(ha:eA (cO e.2.2.1) (cO s)=true)(l:cY id 1 100000=true):fA (d.set k (e.1,e.2.1,s,id)):=by have g:=mD he;have hk:=(mE he).1;have h1:=h.one e g;simp only[ky,Bool.and_eq_true,beq_iff_eq]at h1;refine⟨by rw[List.length_set];exact h.len,fun x hx=>?_,?_,?_⟩;{rcases List.mem_or_eq_of_mem_set hx with h2|rfl;{exact h.one x h2};{simp only[ky,Bool.and_eq_true,beq_iff_eq];exact⟨⟨⟨Db ha,by rw[h1.1.1.2];exact zT ha⟩,h1.1.2⟩,l⟩}};{rw[List.pairwise_iff_getElem];intro i j hi hj b;rw[List.length_set]at hi hj;have h3:=List.pairwise_iff_getElem.1 h.sorted i j hi hj b;rw[List.getElem_set,List.getElem_set];obtain⟨_,a⟩:=mE he;split<;>split;{omega};{rename_i c _;subst c;rw[a]at h3;exact h3};{rename_i _ f;subst f;rw[a]at h3;exact h3};{exact h3}};{rw[List.pairwise_iff_getElem];intro i j hi hj b;rw[List.length_set]at hi hj;have h3:=List.pairwise_iff_getElem.1 h.once i j hi hj b;rw[List.getElem_set,List.getElem_set];obtain⟨_,a⟩:=mE he;split<;>split;{omega};{rename_i c _;subst c;rw[a]at h3;rw[<-Bool.not_eq_true]at h3|-;exact fun h4=>h3 (oH ha h4)};{rename_i _ f;subst f;rw[a]at h3;rw[<-Bool.not_eq_true]at h3|-;exact fun h4=>h3 (oH h4 (by rw[qf];exact ha))};{exact h3}}
theorem lX{d:List cI}{s:ByteArray}{id:Int}{k:Nat}{e:cI}(h:dJ d (cO s)=some k)(he:d[k]?=some e)(a:cY id 1 100000=true):dK d s id=(d.set k (e.1,e.2.1,s,id),true):=by rw[dK,h];simp only[a,if_true,he]
theorem pm{d:List cI}(h:fA d)(s:ByteArray)(id:Int):fA (dK d s id).1:=by cases hk:dJ d (cO s)with|none=>{rw[dK,hk];exact h}|some k=>{obtain⟨e,he,ha⟩:=gQ hk;by_cases a:cY id 1 100000=true;{rw[lX hk he a];exact EI h he ha a};{rw[dK,hk];simp only[a];exact h}}
def eD (l:List cJ) (id:Int):Option Nat:=l.findIdx? fun x=>x.1 == id
def jb (l:List cJ) (id:Int):Int:=match eD l id with
 |some k=>(k:Int)
 |none=>-1
theorem lY{l:List cJ}{id:Int}{k:Nat}(h:eD l id=some k):∃x,l[k]?=some x/\x.1=id:=by obtain⟨hk,h1,_⟩:=List.findIdx?_eq_some_iff_getElem.1 h;exact⟨l[k],List.getElem?_eq_getElem hk,by simpa using h1⟩
theorem qh{l:List cJ}{id:Int}{k:Nat}(h:eD l id=some k):k<l.length:=by obtain⟨x,hx,_⟩:=lY h;exact(mE hx).1
def eB (es:List cI) (id:Int):Nat:=es.countP fun e=>e.2.2.2 == id
def cU (l:List cJ) (id:Int):Nat:=l.foldl (fun n x=>n+eB x.2.2.2.2 id) 0
theorem rD{es:List cI}{k:Nat}{e:cI}(h:es[k]?=some e)(id:Int):eB (es.take (k+1)) id=eB (es.take k) id+(if e.2.2.2=id then 1 else 0):=by have ht:es.take (k+1)=es.take k++[e]:=by{rw[List.take_add_one,h];rfl};rw[ht,eB,eB,List.countP_append,List.countP_singleton];congr 1;by_cases h1:e.2.2.2=id<;>simp[h1]
theorem nk{l:List cJ}{k:Nat}{x:cJ}(h:l[k]?=some x)(id:Int):cU (l.take (k+1)) id=cU (l.take k) id+eB x.2.2.2.2 id:=by have ht:l.take (k+1)=l.take k++[x]:=by{rw[List.take_add_one,h];rfl};rw[ht,cU,cU,List.foldl_append];rfl
def gF (l:List cJ) (x:cJ):Bool:=
 if x.2.1=1 then decide (x.2.2.2.2.length=0) && decide (x.2.2.2.1.size<=20) && decide (x.2.2.1=(cU l x.1:Int))
 else decide (x.2.1=2) && decide (x.2.2.2.1.size=0) && decide (x.2.2.1=1) && mY x.2.2.2.2 && (decide (x.1=1) ||decide (cU l x.1=1)) && x.2.2.2.2.all fun e=>!decide (e.2.2.2=1) && (eD l e.2.2.2).isSome
def iz (next:Int) (l:List cJ) (k:Nat) (x:cJ):Bool:=
 cY x.1 1 (next-1) && (match k with
  |0=>true
  |j+1=>match l[j]? with
    |some p=>decide (p.1<x.1)
    |none=>true) && gF l x
def eZ (next:Int) (l:List cJ):Nat->Bool
 |0=>true
 |k+1=>eZ next l k && (match l[k]? with
   |none=>true
   |some x=>iz next l k x)
def gS (l:List cJ) (a:Int):List Int:=match eD l a with
 |none=>[]
 |some k=>match l[k]? with
   |none=>[]
   |some x=>x.2.2.2.2.map fun e=>e.2.2.2
inductive nl (l:List cJ) (a:Int):Int->Prop
 |one {b:Int}:b∈gS l a->nl l a b
 |more {b c:Int}:nl l a b->c∈gS l b->nl l a c
open Classical in
noncomputable def uG (l:List cJ) (a b:Int):Bool:=decide (nl l a b)
theorem pn{l:List cJ}{a b:Int}:uG l a b=true↔nl l a b:=by classical exact decide_eq_true_iff
def iQ (next:Int) (l:List cJ):Bool:=cY next 2 100000 && cY (l.length:Int) 1 16 && (match l[0]? with
 |some x=>decide (x.1=1) && decide (x.2.1=2)
 |none=>false)
noncomputable def iA (next:Int) (l:List cJ):Bool:=iQ next l && eZ next l l.length && (l.drop 1).all fun x=>uG l 1 x.1
theorem zU {next : Int} {l : List cJ} {i k : Nat} (h : eZ next l k = true) (hi : i ≤ k) : eZ next l i = true := by
 induction k with
 | zero => obtain rfl : i = 0 := by omega
           exact h
 | succ k ih =>
   rcases Nat.lt_or_eq_of_le hi with h1 | h1
   ·rw [eZ, Bool.and_eq_true] at h
    exact ih h.1 (by omega)
   ·rw [h1]; exact h
theorem lZ{next:Int}{l:List cJ}{i:Nat}{x:cJ}(h:eZ next l l.length=true)(he:l[i]?=some x):iz next l i x=true:=by have hi:=(mE he).1;have h1:=zU h (show i+1<=l.length by omega);rw[eZ,he,Bool.and_eq_true]at h1;exact h1.2
theorem gU{next:Int}{l:List cJ}{i:Nat}{x:cJ}(he:l[i]?=some x)(h:iz next l i x=false):eZ next l l.length=false:=by cases hh:eZ next l l.length with|false=>{rfl}|true=>{rw[lZ hh he]at h;cases h}
theorem om{next:Int}{l:List cJ}(h:eZ next l l.length=true):l.Pairwise fun a b=>a.1<b.1:=by rw[List.pairwise_iff_getElem];have c:∀i (hi:i+1<l.length),(l[i]).1<(l[i+1]).1:=by{intro i hi;have h1:=lZ h (List.getElem?_eq_getElem hi);simp only[iz,List.getElem?_eq_getElem (show i<l.length by omega),Bool.and_eq_true,decide_eq_true_eq]at h1;exact h1.1.2};intro i j hi hj d;induction j with|zero=>{omega}|succ j ih=>{rcases Nat.lt_or_eq_of_le (Nat.le_of_lt_succ d)with h1|h1;{exact Int.lt_trans (ih (by omega) h1) (c j hj)};{subst h1;exact c i hj}}
theorem fd{l:List cJ}(h:l.Pairwise fun a b=>a.1<b.1){k:Nat}{x:cJ}(hx:l[k]?=some x):eD l x.1=some k:=by obtain⟨hk,he⟩:=mE hx;refine List.findIdx?_eq_some_iff_getElem.2 ⟨hk,by rw[he];simp,fun j hj=>?_⟩;have:=List.pairwise_iff_getElem.1 h j k (by omega) hk hj;rw[he]at this;simp only[beq_iff_eq];omega
theorem yT{l:List cJ}{id:Int}{k:Nat}{x:cJ}(b:∀y∈l.take k,y.1≠id)(hx:l[k]?=some x)(he:x.1=id):jb l id=(k:Int):=by have:eD l id=some k:=by{obtain⟨hk,c⟩:=mE hx;refine List.findIdx?_eq_some_iff_getElem.2 ⟨hk,by rw[c];simpa using he,fun j hj=>?_⟩;have a:l[j]∈l.take k:=by{rw[List.mem_take_iff_getElem];exact⟨j,by omega,rfl⟩};simpa using b _ a};rw[jb,this]
theorem vP{l:List cJ}{id:Int}(a:∀y∈l,y.1≠id):jb l id = -1:=by have:eD l id=none:=by{refine List.findIdx?_eq_none_iff.2 fun x hx=>?_;simpa using a x hx};rw[jb,this]
theorem kQ(l:List cJ)(id:Int):(jb l id = -1/\eD l id=none)\/∃k:Nat,jb l id=(k:Int)/\eD l id=some k/\k<l.length:=by cases h:eD l id with|none=>{exact .inl ⟨by rw[jb,h],rfl⟩}|some k=>{exact .inr ⟨k,by rw[jb,h],rfl,qh h⟩}
theorem cL {L:List (Value×cJ)} {k:Nat} {p:Value×cJ} (h:L[k]?=some p):(cz L)[k]?=some p.2:=by rw[cz,List.getElem?_map,h];rfl
theorem Dc(x0 x1 x2:Int)(x3:ByteArray)(v:Value)(id:Int)(g:Nat)(w:World)(hg:w.cell? ⟨g,0,none⟩=some (.int .i64 id))(hv:v.oneCell'=true):Calls Tryz.prog 74 #[.agg #[.int .i64 x0,.int .i64 x1,.int .i64 x2,.string x3,v],.pointer (some ⟨g,0,none⟩)] w fun e w'=>e=.returned (.bool (decide (x0=id)))/\Fr w w':=by have a:=World.block_lt_of_cell? w _ hg;simp only at a;have H:=(Hp.start w).lay_ 56 [.int .i64 x0,.int .i64 x1,.int .i64 x2,.string x3,v] rfl;have F:=hJ H.fr;have h1:=cE F.out hg;by_cases h2:x0=id;{subst h2;go_enter Tryz.func74,Tryz.ntmps74;go_wp2_with fail;go_ret;exact⟨by simp,F.out⟩};{have h2':(x0 == id)=false:=by{simpa using h2};have HE:=hJ (show decide (x0=id)=false from decide_eq_false h2);go_enter Tryz.func74,Tryz.ntmps74;go_wp2_with fail;go_ret;rw[HE.out];exact⟨rfl,F.out⟩}
theorem vQ(A:Option Addr)(n c:Nat)(L:List (Value×cJ))(id:Int)(g:Nat)(w:World)(h:kM w A n L)(hg:w.cell? ⟨g,0,none⟩=some (.int .i64 id))(hn:n<=1048576):Calls Tryz.prog 71 #[.slice A n c,.func (.func 74) #[] #[.pointer (some ⟨g,0,none⟩)]] w fun e w'=>e=.returned (.int .i64 (jb (cz L) id))/\Fr w w':=by have HL:=hJ h.len;have HR:=hJ h;have HG:=hJ hg;clear h hg;obtain⟨z,hz⟩:∃z,z=jb (cz L) id:=⟨_,rfl⟩;rw[<-hz];have HZ:=hJ hz;clear hz;go_enter Tryz.func71,Tryz.ntmps71;go_wp2_with fail;go_loopw [5,8] (fun jv iv wr=>∃i:Nat,iv=.int .i64 i/\i<=n/\(∀y∈(cz L).take i,y.1≠id)/\Fr w wr) (fun _ iv _=>n-(intOf iv).toNat);{exact⟨0,rfl,by omega,by simp,Below.refl _ _⟩};obtain⟨i,rfl,hi,a,hf⟩:=hrel;have HO:=hJ a;have HF:=hJ hf;clear a hf;have hi0:(0:Int)<=(i:Int):=by{omega};by_cases j:i<n;{have f:(i:Int)<(n:Int):=by{omega};obtain⟨⟨v,x0,x1,x2,x3,es⟩,hx⟩:=cM HL.out j;obtain⟨bk,of,B1,d1,rfl,e1,r1,c1⟩:=(HR.out.fr HF.out).elem hx;simp only at e1 r1;subst e1;have d:=c1 0 _ rfl;simp only[Nat.add_zero]at d;have ca1:=c1 1 _ rfl;have ca2:=c1 2 _ rfl;have ca3:=c1 3 _ rfl;have ca4:=c1 4 _ rfl;have HX:=hJ (cL hx);clear hx c1 r1;go_wp2_with fail;refine(Dc x0 x1 x2 x3 _ id g _ (cE HF.out HG.out) rfl).mono ?_;rintro e w2 ⟨rfl,f2⟩;by_cases he:x0=id;{have HE:=hJ (HZ.out.trans (yT HO.out HX.out he));have hd:decide (x0=id)=true:=decide_eq_true he;rw[hd];clear he hd;go_wp2_with fail;go_ret;rw[HE.out];exact⟨rfl,HF.out.then f2⟩};{have b:=hJ (show ∀y∈(cz L).take (i+1),y.1≠id from fun y hy=>by{rw[List.take_add_one,HX.out]at hy;rcases List.mem_append.1 hy with h|h;{exact HO.out y h};{simp only[Option.toList_some,List.mem_singleton]at h;rw[h];exact he}});have hd:decide (x0=id)=false:=decide_eq_false he;rw[hd];clear he hd;have F2:=hJ (HF.out.then f2);clear f2;go_wp2_with fail;go_roundw;{exact⟨i+1,by go_num,by omega,b.out,F2.out⟩};simp[intOf];omega}};{have f:¬(i:Int)<(n:Int):=by{omega};have HE:=hJ (HZ.out.trans (vP (by{have:=HO.out;rwa [List.take_of_length_le (by rw[cW,HL.out];omega)]at this})));go_wp2_with fail;go_ret;rw[HE.out];exact⟨rfl,HF.out⟩}
theorem eP(next:Int)(A:Option Addr)(n c:Nat)(L:List (Value×cJ))(id:Int)(w:World)(h:kM w A n L)(hn:n<=1048576):Calls Tryz.prog 44 #[.agg #[.int .i64 next,.slice A n c],.int .i64 id] w fun e w'=>e=.returned (.int .i64 (jb (cz L) id))/\Fr w w':=by have H:=((Hp.start w).lay_ 29 [.int .i64 next,.slice A n c] rfl).lay_ 3 [.int .i64 id] (g:=w.heap.size+1) (by simp);have HR:=hJ (h.fr H.fr);have HG:=hJ (H.fa 0 0 rfl rfl);have HF:=hJ H.fr;clear h H;have hmf:∀(fn:Fn) (first a:Array Value) (w:World),(Instr.makeFunc fn first a).run Tryz.prog w=.ok (.func fn first a) w:=fun _ _ _ _=>rfl;go_enter Tryz.func44,Tryz.ntmps44;go_wp2_with fail;refine(vQ A n c L id _ _ HR.out HG.out hn).mono ?_;rintro e w2 ⟨rfl,f2⟩;go_wp2_with fail;go_ret;exact⟨rfl,HF.out.then f2⟩
theorem du(next:Int)(A:Option Addr)(n c:Nat)(L:List (Value×cJ))(id:Int)(w:World)(h:kM w A n L)(hn:n<=1048576):Calls Tryz.prog 59 #[.agg #[.int .i64 next,.slice A n c],.int .i64 id] w fun e w'=>e=.returned (.int .i64 (jb (cz L) id))/\Fr w w':=by have HL:=hJ h.len;have H:=(Hp.start w).lay_ 29 [.int .i64 next,.slice A n c] rfl;obtain⟨w1,hw1⟩:∃x,x=w.alloc (.cells #[.int .i64 next,.slice A n c] 29):=⟨_,rfl⟩;have HR:=hJ (h.fr H.fr);have HF:=hJ H.fr;have y1:=H.fa 0 1 rfl rfl;clear h H;obtain⟨z,hz⟩:∃z,z=jb (cz L) id:=⟨_,rfl⟩;rw[<-hz];have HZ:=hJ hz;clear hz;go_enter Tryz.func59,Tryz.ntmps59;go_wp2_with fail;go_loopw [5] (fun iv wr=>∃i:Nat,iv=.int .i64 i/\i<=n/\(∀y∈(cz L).take i,y.1≠id)/\wr=w.alloc (.cells #[.int .i64 next,.slice A n c] 29)) (fun iv _=>n-(intOf iv).toNat);{exact⟨0,rfl,by omega,by simp,rfl⟩};obtain⟨i,rfl,hi,a,rfl⟩:=hrel;have HO:=hJ a;clear a;have hi0:(0:Int)<=(i:Int):=by{omega};by_cases g:i<n;{have f:(i:Int)<(n:Int):=by{omega};obtain⟨⟨v,x0,x1,x2,x3,es⟩,hx⟩:=cM HL.out g;obtain⟨bk,of,B1,d1,rfl,e1,r1,c1⟩:=HR.out.elem hx;simp only at e1 r1;subst e1;have d:=c1 0 _ rfl;simp only[Nat.add_zero]at d;have HX:=hJ (cL hx);clear hx c1 r1;by_cases he:x0=id;{have HE:=hJ (HZ.out.trans (yT HO.out HX.out he));subst he;go_wp2_with fail;go_ret;rw[HE.out];exact⟨rfl,HF.out⟩};{have b:=hJ (show ∀y∈(cz L).take (i+1),y.1≠id from fun y hy=>by{rw[List.take_add_one,HX.out]at hy;rcases List.mem_append.1 hy with h|h;{exact HO.out y h};{simp only[Option.toList_some,List.mem_singleton]at h;rw[h];exact he}});have hd:(x0 == id)=false:=by{simpa using he};go_wp2_with fail;go_roundw;{exact⟨i+1,by go_num,by omega,b.out,trivial⟩};simp[intOf];omega}};{have f:¬(i:Int)<(n:Int):=by{omega};have HE:=hJ (HZ.out.trans (vP (by{have:=HO.out;rwa [List.take_of_length_le (by rw[cW,HL.out];omega)]at this})));go_wp2_with fail;go_ret;rw[HE.out];exact⟨rfl,HF.out⟩}
abbrev BC:=Int×Int×ByteArray×ByteArray
def dj (k:Int):BC:=(k,0,⟨#[]⟩,⟨#[]⟩)
def dN (l:List cJ) (k:Nat):List cI:=match l[k]? with
 |some x=>x.2.2.2.2
 |none=>[]
def oI (l:List cJ) (k:Nat):Int:=match l[k]? with
 |some x=>x.2.1
 |none=>0
def di (l:List cJ) (k:Nat) (d:List cI):List cJ:=match l[k]? with
 |some x=>l.set k (x.1,x.2.1,x.2.2.1,x.2.2.2.1,d)
 |none=>l
def jO (l:List cJ) (k:Nat) (n:Int):List cJ:=match l[k]? with
 |some x=>l.set k (x.1,x.2.1,n,x.2.2.2.1,x.2.2.2.2)
 |none=>l
def rE (l:List cJ) (k:Nat) (s:ByteArray):List cJ:=match l[k]? with
 |some x=>l.set k (x.1,x.2.1,x.2.2.1,s,x.2.2.2.2)
 |none=>l
def kC (l:List cJ) (id:Int):List cJ:=match eD l id with
 |some k=>(match l[k]? with
   |some x=>if x.2.2.1=1 then l.eraseIdx k else jO l k (x.2.2.1-1)
   |none=>l)
 |none=>l
def dI (l:List cJ) (c:dY):Int:=match eD l c.2.1,eD l (if jA c.1=true then c.2.2.2.1 else c.2.1)with
 |some k,some t=>if oI l k=2/\oI l t=2 then(if dH (cO c.2.2.1)=true/\(jA c.1=true->dH (cO c.2.2.2.2.1)=true) then 0 else 1) else 4
 |_,_=>2
abbrev oJ:=(Int×List cJ)×BC
def eu (next:Int) (l:List cJ) (k:Nat) (c:dY):oJ:=
 if (dJ (dN l k) (cO c.2.2.1)).isSome=true then((next,l),dj 3)
 else if 12<=(dN l k).length\/16<=l.length\/100000<=next then((next,l),dj 7)
 else((next+1,di l k (eI (dN l k) c.2.2.1 next).1++[(next,(if c.1=2 then 2 else 1),1,⟨#[]⟩,[])]),(0,next,⟨#[]⟩,⟨#[]⟩))
def gG (next:Int) (l:List cJ) (t xi:Nat) (x:cJ) (c:dY):oJ:=
 if x.2.1=2 then((next,l),dj 5)
 else if (dJ (dN l t) (cO c.2.2.2.2.1)).isSome=true then((next,l),dj 3)
 else if 12<=(dN l t).length then((next,l),dj 7)
 else((next,jO (di l t (eI (dN l t) c.2.2.2.2.1 x.1).1) xi (x.2.2.1+1)),dj 0)
def eg (x y:cJ):Int:=
 if x.2.1=2/\y.2.1≠2 then 4 else if x.2.1=2/\y.2.2.2.2≠[] then 6 else if x.2.1≠2/\y.2.1=2 then 5 else 0
open Classical in
noncomputable def dP (next:Int) (l:List cJ) (k t:Nat) (x:cJ) (c:dY):oJ:=
 if x.2.1=2/\(c.2.2.2.1=x.1\/nl l x.1 c.2.2.2.1) then((next,l),dj 8)
 else match dX (dN l t) c.2.2.2.2.1 with
 |none=>if c.2.1≠c.2.2.2.1/\12<=(dN l t).length then((next,l),dj 7)
   else((next,di (di l k (da (dN l k) c.2.2.1).1) t (eI (dN (di l k (da (dN l k) c.2.2.1).1) t) c.2.2.2.2.1 x.1).1),dj 0)
 |some e=>if e.2.2.2=x.1 then
  (if c.2.1=c.2.2.2.1/\eA (cO c.2.2.1) (cO c.2.2.2.2.1)=true then((next,di l t (dK (dN l t) c.2.2.2.2.1 x.1).1),dj 0) else((next,l),dj 0))
  else match (eD l e.2.2.2).bind fun j=>l[j]? with
  |none=>((next,l),dj 0)
  |some o=>if eg x o≠0 then((next,l),dj (eg x o))
    else((next,kC (di (di l t (dK (dN l t) c.2.2.2.2.1 x.1).1) k (da (dN (di l t (dK (dN l t) c.2.2.2.2.1 x.1).1) k) c.2.2.1).1) o.1),dj 0)
noncomputable def nG (next:Int) (l:List cJ) (k t:Nat) (c:dY):oJ:=match dX (dN l k) c.2.2.1 with
 |none=>((next,l),dj 2)
 |some e=>match eD l e.2.2.2 with
   |none=>((next,l),dj 2)
   |some xi=>match l[xi]? with
     |none=>((next,l),dj 2)
     |some x=>
       if (c.1=3\/c.1=7)/\x.2.1=2 then((next,l),dj 5)
       else if c.1=4/\x.2.1≠2 then((next,l),dj 4)
       else if c.1=4/\x.2.2.2.2≠[] then((next,l),dj 6)
       else if c.1=3\/c.1=4 then((next,kC (di l k (da (dN l k) c.2.2.1).1) x.1),dj 0)
       else if c.1=5 then gG next l t xi x c
       else if c.1=6 then dP next l k t x c
       else if c.1=7 then((next,rE l xi c.2.2.2.2.2),dj 0)
       else((next,l),(0,x.1,e.2.2.1,x.2.2.2.1))
noncomputable def de (next:Int) (l:List cJ) (c:dY):oJ:=
 if eh c=true then(if dI l c=0 then(match eD l c.2.1,eD l (if jA c.1=true then c.2.2.2.1 else c.2.1)with
  |some k,some t=>if c.1=1\/c.1=2 then eu next l k c else nG next l k t c
  |_,_=>((next,l),dj 2)) else((next,l),dj (dI l c)))
 else((next,l),dj 1)
theorem tJ:∀(l m:List Int),l.Nodup->(∀x∈l,x∈m)->l.length<=m.length
 | [],m,_,_=>by simp
 |a::l,m,h,hs=>by
   have hn:=List.nodup_cons.1 h;have h1:=tJ l (m.erase a) hn.2 fun x hx=>(List.mem_erase_of_ne (fun e:x=a=>hn.1 (by rw[<-e];exact hx))).2 (hs x (List.mem_cons_of_mem _ hx));have h2:=hs a List.mem_cons_self;rw[List.length_erase_of_mem h2]at h1;have h3:=List.length_pos_of_mem h2;rw[List.length_cons];omega
def lI (l:List cJ):List Int:=l.flatMap fun x=>x.2.2.2.2.map fun e=>e.2.2.2
theorem BD{l:List cJ}{a c:Int}(h:c∈gS l a):c∈lI l:=by unfold gS at h;split at h;{simp at h};{split at h;{simp at h};{rename_i k _ x hx;exact List.mem_flatMap.2 ⟨x,mD hx,h⟩}}
structure Bq (l:List cJ) (a:Int) (out q:List Int) (cur:Option Int) (done:List Int):Prop where
 nd:out.Nodup
 all:∀x∈out,x∈lI l
 sound:∀x∈out,nl l a x
 qs:∀x∈q,x=a\/x∈out
 cs:∀x,cur=some x->x=a\/x∈out
 closed:∀b,(b=a\/b∈out)->b∈q\/cur=some b\/∀c∈gS l b,c∈out
 dn:∀c∈done,c∈out
theorem Bq.start (l:List cJ) (a:Int):Bq l a [] [a] none []:=
 ⟨.nil,by simp,by simp,by simp,by simp,by simp,by simp⟩
theorem Bq.pop {l:List cJ} {a x:Int} {out q:List Int} (h:Bq l a out (x::q) none []):Bq l a out q (some x) []:=
 ⟨h.nd,h.all,h.sound,fun y hy=>h.qs y (List.mem_cons_of_mem _ hy),fun y hy=>by injection hy with hy;subst hy;exact h.qs x List.mem_cons_self,fun b hb=>by
  rcases h.closed b hb with h1|h1|h1
  ·rcases List.mem_cons.1 h1 with rfl|h2
   ·exact .inr (.inl rfl)
   ·exact .inl h2
  ·cases h1
  ·exact .inr (.inr h1),by simp⟩
theorem Bq.old {l:List cJ} {a x c:Int} {out q done:List Int} (h:Bq l a out q (some x) done) (hc:c∈out):Bq l a out q (some x) (done++[c]):=
 ⟨h.nd,h.all,h.sound,h.qs,h.cs,h.closed,fun y hy=>by
  rcases List.mem_append.1 hy with h1|h1
  ·exact h.dn y h1
  ·rw[List.mem_singleton.1 h1];exact hc⟩
theorem Bq.fresh {l:List cJ} {a x c:Int} {out q done:List Int} (h:Bq l a out q (some x) done) (hc:¬c∈out) (hk:c∈gS l x):Bq l a (out++[c]) (q++[c]) (some x) (done++[c]):=
 ⟨List.nodup_append.2 ⟨h.nd,by simp,fun y hy z hz=>by
  rw[List.mem_singleton.1 hz];exact fun e=>hc (e▸hy)⟩,fun y hy=>by
  rcases List.mem_append.1 hy with h1|h1
  ·exact h.all y h1
  ·rw[List.mem_singleton.1 h1];exact BD hk,fun y hy=>by
  rcases List.mem_append.1 hy with h1|h1
  ·exact h.sound y h1
  ·rw[List.mem_singleton.1 h1]
   rcases h.cs x rfl with h2|h2
   ·rw[h2]at hk;exact .one hk
   ·exact .more (h.sound x h2) hk,fun y hy=>by
  rcases List.mem_append.1 hy with h1|h1
  ·rcases h.qs y h1 with h2|h2
   ·exact .inl h2
   ·exact .inr (List.mem_append_left _ h2)
  ·exact .inr (List.mem_append_right _ h1),fun y hy=>by
  rcases h.cs y hy with h2|h2
  ·exact .inl h2
  ·exact .inr (List.mem_append_left _ h2),fun b hb=>by
  have d:(b=a\/b∈out)\/b=c:=by
   rcases hb with h1|h1
   ·exact .inl (.inl h1)
   ·rcases List.mem_append.1 h1 with h2|h2
    ·exact .inl (.inr h2)
    ·exact .inr (List.mem_singleton.1 h2)
  rcases d with h1|h1
  ·rcases h.closed b h1 with h2|h2|h2
   ·exact .inl (List.mem_append_left _ h2)
   ·exact .inr (.inl h2)
   ·exact .inr (.inr fun y hy=>List.mem_append_left _ (h2 y hy))
  ·exact .inl (List.mem_append_right _ (by rw[h1];simp)),fun y hy=>by
  rcases List.mem_append.1 hy with h1|h1
  ·exact List.mem_append_left _ (h.dn y h1)
  ·exact List.mem_append_right _ h1⟩
theorem Bq.close {l:List cJ} {a x:Int} {out q done:List Int} (h:Bq l a out q (some x) done) (hk:∀c∈gS l x,c∈done):Bq l a out q none []:=
 ⟨h.nd,h.all,h.sound,h.qs,by simp,fun b hb=>by
  rcases h.closed b hb with h2|h2|h2
  ·exact .inl h2
  ·injection h2 with h2;subst h2
   exact .inr (.inr fun c hc=>h.dn c (hk c hc))
  ·exact .inr (.inr h2),by simp⟩
theorem Bq.done{l:List cJ}{a:Int}{out:List Int}(h:Bq l a out [] none [])(x:Int):x∈out↔nl l a x:=by have d:∀b,(b=a\/b∈out)->∀c∈gS l b,c∈out:=fun b hb=>by{rcases h.closed b hb with h2|h2|h2;{simp at h2};{cases h2};{exact h2}};refine⟨h.sound x,fun hx=>?_⟩;induction hx with|one h1=>{exact d a (.inl rfl) _ h1}|more _ h1 ih=>{exact d _ (.inr ih) _ h1}
theorem Bq.len {l:List cJ} {a:Int} {out q done:List Int} {cur:Option Int} (h:Bq l a out q cur done):out.length<=(lI l).length:=
 tJ _ _ h.nd fun x hx=>h.all x hx
abbrev BS:=List Bool×List Bool
def eC (l:List cJ) (s:BS) (e:cI):BS:=match eD l e.2.2.2 with
 |none=>s
 |some x=>(s.1.set x true,s.2.set x true)
def nH (l:List cJ) (s:BS) (i:Nat):BS:=match l[i]? with
 |none=>s
 |some x=>if s.2[i]?=some true then x.2.2.2.2.foldl (eC l) s else s
def ir (l:List cJ) (s:BS):BS:=(List.range l.length).foldl (nH l) s
def dB (l:List cJ) (s:BS):Nat->BS
 |0=>s
 |r+1=>ir l (dB l s r)
def On (s:List Bool) (i:Nat):Prop:=s[i]?=some true
theorem On.set{s:List Bool}{i x:Nat}(h:On s i):On (s.set x true) i:=by unfold On at *;rw[List.getElem?_set];have:=(mE h).1;split;{rename_i e;subst e;simp[this]};{exact h}
theorem On.set_self{s:List Bool}{x:Nat}(h:x<s.length):On (s.set x true) x:=by unfold On;rw[List.getElem?_set_self h]
theorem On.of_set{s:List Bool}{i x:Nat}(h:On (s.set x true) i):On s i\/(i=x/\x<s.length):=by unfold On at *;rw[List.getElem?_set]at h;split at h;{rename_i e;split at h;{exact .inr ⟨e.symm,by assumption⟩};{cases h}};{exact .inl h}
theorem DY{s:List Bool}{x:Nat}(h:On s x):s.set x true=s:=by refine List.ext_getElem? fun i=>?_;rw[List.getElem?_set];unfold On at h;split;{rename_i e;subst e;have:=(mE h).1;simp only[this,if_true];exact h.symm};{rfl}
structure Bs (l:List cJ) (a:Int) (s:BS):Prop where
 l1:s.1.length=l.length
 l2:s.2.length=l.length
 inn:∀i,On s.1 i->∃b,nl l a b/\eD l b=some i
 opn:∀i,On s.2 i->eD l a=some i\/On s.1 i
theorem nI{l:List cJ}{b:Int}{i:Nat}{x:cJ}(h1:eD l b=some i)(h2:l[i]?=some x):gS l b=x.2.2.2.2.map fun e=>e.2.2.2:=by rw[gS,h1];simp only[h2]
theorem qi(l:List cJ)(s:BS)(e:cI):(eC l s e).1.length=s.1.length/\(eC l s e).2.length=s.2.length:=by unfold eC;split<;>simp
theorem vR{l:List cJ}{s:BS}{e:cI}{i:Nat}:(On s.1 i->On (eC l s e).1 i)/\(On s.2 i->On (eC l s e).2 i):=by unfold eC;split;{exact⟨id,id⟩};{exact⟨On.set,On.set⟩}
theorem l7 {l:List cJ} {i:Nat}:∀(es:List cI) (s:BS),(On s.1 i->On (es.foldl (eC l) s).1 i)/\(On s.2 i->On (es.foldl (eC l) s).2 i)
 | [],s=>⟨id,id⟩
 |e::es,s=>⟨fun h=>(l7 es _).1 (vR.1 h),fun h=>(l7 es _).2 (vR.2 h)⟩
theorem xT{l:List cJ}{s:BS}{i k:Nat}:(On s.1 i->On (nH l s k).1 i)/\(On s.2 i->On (nH l s k).2 i):=by unfold nH;split;{exact⟨id,id⟩};{split;{exact l7 _ _};{exact⟨id,id⟩}}
theorem po {l:List cJ} {i:Nat}:∀(ks:List Nat) (s:BS),(On s.1 i->On (ks.foldl (nH l) s).1 i)/\(On s.2 i->On (ks.foldl (nH l) s).2 i)
 | [],s=>⟨id,id⟩
 |k::ks,s=>⟨fun h=>(po ks _).1 (xT.1 h),fun h=>(po ks _).2 (xT.2 h)⟩
theorem Bs.mark{l:List cJ}{a:Int}{s:BS}{e:cI}(h:Bs l a s)(he:nl l a e.2.2.2):Bs l a (eC l s e):=by obtain⟨m1,m2⟩:=qi l s e;refine⟨m1.trans h.l1,m2.trans h.l2,?_,?_⟩<;>unfold eC<;>split;{exact h.inn};{rename_i x hx;intro i hi;rcases hi.of_set with h1|⟨rfl,_⟩;{exact h.inn i h1};{exact⟨_,he,hx⟩}};{exact h.opn};{rename_i x hx;intro i hi;rcases hi.of_set with h1|⟨rfl,h2⟩;{rcases h.opn i h1 with h3|h3;{exact .inl h3};{exact .inr h3.set}};{exact .inr (On.set_self (by rw[h.l1,<-h.l2];exact h2))}}
theorem Bs.marks {l:List cJ} {a:Int}:∀(es:List cI) (s:BS),Bs l a s->(∀e∈es,nl l a e.2.2.2)->Bs l a (es.foldl (eC l) s)
 | [],s,h,_=>h
 |e::es,s,h,he=>Bs.marks es _ (h.mark (he e List.mem_cons_self)) fun x hx=>he x (List.mem_cons_of_mem _ hx)
theorem Bs.go{l:List cJ}{a:Int}{s:BS}(h:Bs l a s)(i:Nat):Bs l a (nH l s i):=by unfold nH;split;{exact h};{rename_i x hx;split;{rename_i ho;refine Bs.marks _ _ h fun e he=>?_;have hm:e.2.2.2∈x.2.2.2.2.map fun e=>e.2.2.2:=List.mem_map_of_mem he;rcases h.opn i ho with h1|h1;{exact .one (by rw[nI h1 hx];exact hm)};{obtain⟨b,hb,h2⟩:=h.inn i h1;exact .more hb (by rw[nI h2 hx];exact hm)}};{exact h}}
theorem Bs.goes {l:List cJ} {a:Int}:∀(ks:List Nat) (s:BS),Bs l a s->Bs l a (ks.foldl (nH l) s)
 | [],s,h=>h
 |k::ks,s,h=>Bs.goes ks _ (h.go k)
theorem Bs.rounds {l:List cJ} {a:Int} {s:BS} (h:Bs l a s):∀r,Bs l a (dB l s r)
 |0=>h
 |r+1=>Bs.goes _ _ (h.rounds r)
theorem vS {l:List cJ} {x:Nat}:∀(es:List cI) (s:BS) (e:cI),e∈es->eD l e.2.2.2=some x->x<s.1.length->x<s.2.length->On (es.foldl (eC l) s).1 x/\On (es.foldl (eC l) s).2 x
 | [],s,e,he,_,_,_=>by simp at he
 |e'::es,s,e,he,hx,h1,h2=>by
   obtain⟨m1,m2⟩:=qi l s e'
   rcases List.mem_cons.1 he with rfl|h3
   ·rw[List.foldl_cons]
    have hm:eC l s e=(s.1.set x true,s.2.set x true):=by rw[eC,hx]
    exact⟨(l7 es _).1 (by rw[hm];exact On.set_self h1),(l7 es _).2 (by rw[hm];exact On.set_self h2)⟩
   ·exact vS es _ e h3 hx (by rw[m1];exact h1) (by rw[m2];exact h2)
theorem uH {l:List cJ} {a:Int} {i x:Nat} {nd:cJ} {e:cI} (hn:l[i]?=some nd) (he:e∈nd.2.2.2.2) (hx:eD l e.2.2.2=some x):∀(ks:List Nat) (s:BS),Bs l a s->i∈ks->On s.2 i->On (ks.foldl (nH l) s).1 x/\On (ks.foldl (nH l) s).2 x
 | [],s,_,h,_=>by simp at h
 |k::ks,s,hs,h,ho=>by
   rcases List.mem_cons.1 h with rfl|h3
   ·rw[List.foldl_cons]
    have hg:nH l s i=nd.2.2.2.2.foldl (eC l) s:=by rw[nH,hn];exact if_pos ho
    have b:=qh hx;obtain⟨g1,g2⟩:=vS nd.2.2.2.2 s e he hx (by rw[hs.l1];exact b) (by rw[hs.l2];exact b);exact⟨(po ks _).1 (by rw[hg];exact g1),(po ks _).2 (by rw[hg];exact g2)⟩
   ·exact uH hn he hx ks _ (hs.go k) h3 (xT.2 ho)
def oK (s:List Bool):Nat:=s.count true
theorem rF:∀(s:List Bool) (x:Nat),s.set x true≠s->oK s<oK (s.set x true)
 | [],x,h=>by simp at h
 |b::s,0,h=>by cases b<;>simp[oK]at *
 |b::s,x+1,h=>by
   have:=rF s x (fun e=>h (by rw[List.set_cons_succ,e]));simp only[oK,List.set_cons_succ,List.count_cons]at *;omega
def Gw (s t:List Bool):Prop:=t=s\/oK s<oK t
theorem Gw.trans{a b c:List Bool}(h1:Gw a b)(h2:Gw b c):Gw a c:=by rcases h1 with rfl|h1;{exact h2};{rcases h2 with rfl|h2;{exact .inr h1};{exact .inr (Nat.lt_trans h1 h2)}}
theorem BE(l:List cJ)(s:BS)(e:cI):Gw s.2 (eC l s e).2:=by unfold eC;split;{exact .inl rfl};{rename_i x _;by_cases h:s.2.set x true=s.2;{exact .inl h};{exact .inr (rF _ _ h)}}
theorem vT (l:List cJ):∀(es:List cI) (s:BS),Gw s.2 (es.foldl (eC l) s).2
 | [],s=>.inl rfl
 |e::es,s=>(BE l s e).trans (vT l es _)
theorem DZ(l:List cJ)(s:BS)(i:Nat):Gw s.2 (nH l s i).2:=by unfold nH;split;{exact .inl rfl};{split;{exact vT _ _ _};{exact .inl rfl}}
theorem uI (l:List cJ):∀(ks:List Nat) (s:BS),Gw s.2 (ks.foldl (nH l) s).2
 | [],s=>.inl rfl
 |k::ks,s=>(DZ l s k).trans (uI l ks _)
def yU (l:List cJ) (o:List Bool):Prop:=∀i x (nd:cJ) (e:cI),On o i->l[i]?=some nd->e∈nd.2.2.2.2->eD l e.2.2.2=some x->On o x
theorem pp {l:List cJ} {o:List Bool}:∀(es:List cI) (s:BS),s.2=o->(∀e∈es,∀x,eD l e.2.2.2=some x->On o x)->(es.foldl (eC l) s).2=o
 | [],s,h,_=>h
 |e::es,s,h,hc=>by
   rw[List.foldl_cons];refine pp es _ ?_ fun x hx=>hc x (List.mem_cons_of_mem _ hx);unfold eC;split
   ·exact h
   ·rename_i x hx
    show s.2.set x true=o
    rw[h];exact DY (hc e List.mem_cons_self x hx)
theorem np {l:List cJ} {o:List Bool} (hc:yU l o):∀(ks:List Nat) (s:BS),s.2=o->(ks.foldl (nH l) s).2=o
 | [],s,h=>h
 |k::ks,s,h=>by
   rw[List.foldl_cons];refine np hc ks _ ?_;unfold nH;split
   ·exact h
   ·rename_i x hx
    split
    ·rename_i ho
     rw[h]at ho;exact pp _ _ h fun e he y hy=>hc k y x e ho hx he hy
    ·exact h
theorem pq{l:List cJ}{a:Int}{s:BS}(hs:Bs l a s)(h:(ir l s).2=s.2):yU l s.2:=by intro i x nd e ho hn he hx;have hi:i∈List.range l.length:=List.mem_range.2 (mE hn).1;have:=(uH hn he hx (List.range l.length) s hs hi ho).2;rw[ir]at h;rwa [h]at this
theorem D0:∀(s:List Bool),oK s<=s.length:=fun s=>List.count_le_length
theorem rG {l:List cJ} {a:Int} {s:BS} (hs:Bs l a s) (h0:0<oK s.2):∀r,r<oK (dB l s r).2\/((ir l (dB l s r)).2=(dB l s r).2)
 |0=>.inl h0
 |r+1=>by
   rcases rG hs h0 r with h1|h1
   ·rcases uI l (List.range l.length) (dB l s r)with h2|h2
    ·refine .inr ?_
     have hc:=pq (hs.rounds r) h2
     show(ir l (ir l (dB l s r))).2=(ir l (dB l s r)).2
     have h3:(ir l (dB l s r)).2=(dB l s r).2:=h2;rw[h3];exact np hc _ _ h3
    ·refine .inl ?_
     show r+1<oK (ir l (dB l s r)).2
     have:oK (dB l s r).2<oK (ir l (dB l s r)).2:=h2;omega
   ·refine .inr ?_
    have hc:=pq (hs.rounds r) h1
    show(ir l (ir l (dB l s r))).2=(ir l (dB l s r)).2
    rw[h1];exact np hc _ _ h1
def fm (l:List cJ) (k:Nat):BS:=(List.replicate l.length false,(List.replicate l.length false).set k true)
def gV (l:List cJ) (a:Int):List Bool:=match eD l a with
 |none=>List.replicate l.length false
 |some k=>(dB l (fm l k) l.length).1
theorem oL{n i:Nat}:¬On (List.replicate n false) i:=by unfold On;rw[List.getElem?_replicate];split<;>simp
theorem qj {l:List cJ} {a:Int} {k:Nat} (h:eD l a=some k):Bs l a (fm l k):=
 ⟨by simp[fm],by simp[fm],fun i hi=>absurd hi oL,fun i hi=>by
  rcases On.of_set hi with h1|⟨rfl,_⟩
  ·exact absurd h1 oL
  ·exact .inl h⟩
theorem tK(l:List cJ)(a:Int)(x:Nat):On (gV l a) x↔∃b,nl l a b/\eD l b=some x:=by unfold gV;split;{rename_i hk;refine⟨fun h=>absurd h oL,fun ⟨b,hb,_⟩=>?_⟩;exfalso;have h0:gS l a=[]:=by{rw[gS,hk]};have:∀c,nl l a c->False:=by{intro c hc;induction hc with|one h1=>{rw[h0]at h1;simp at h1}|more _ _ ih=>{exact ih}};exact this b hb};{rename_i k hk;have hs:=qj hk;refine⟨fun h=>(hs.rounds _).inn x h,fun ⟨b,hb,hx⟩=>?_⟩;obtain⟨n,hn⟩:∃n,l.length=n+1:=⟨l.length-1,by have:=qh hk;omega⟩;have m:k<(List.replicate l.length false).length:=by{simp;exact qh hk};have h0:0<oK (fm l k).2:=by{have hh:On (fm l k).2 k:=On.set_self m;exact List.count_pos_iff.2 (mD hh)};have d:(ir l (dB l (fm l k) n)).2=(dB l (fm l k) n).2:=by{rcases rG hs h0 n with h1|h1;{rcases uI l (List.range l.length) (dB l (fm l k) n)with h2|h2;{exact h2};{exfalso;have h3:=D0 (dB l (fm l k) (n+1)).2;rw[(hs.rounds (n+1)).l2]at h3;have h4:oK (dB l (fm l k) n).2<oK (dB l (fm l k) (n+1)).2:=h2;omega}};{exact h1}};have q:=hs.rounds n;have g:On (dB l (fm l k) n).2 k:=by{have:∀r,On (dB l (fm l k) r).2 k:=by{intro r;induction r with|zero=>{exact On.set_self m}|succ r ih=>{exact(po _ _).2 ih}};exact this n};have s:∀b,nl l a b->∀x,eD l b=some x->On (dB l (fm l k) (n+1)).1 x/\On (dB l (fm l k) n).2 x:=by{have f:∀p i,eD l p=some i->On (dB l (fm l k) n).2 i->∀c∈gS l p,∀x,eD l c=some x->On (dB l (fm l k) (n+1)).1 x/\On (dB l (fm l k) n).2 x:=by{intro p i hp ho c hc x hx;obtain⟨nd,o,_⟩:=lY hp;rw[nI hp o]at hc;obtain⟨e,he,rfl⟩:=List.mem_map.1 hc;have:=uH o he hx (List.range l.length) _ q (List.mem_range.2 (qh hp)) ho;refine⟨this.1,?_⟩;have h5:=this.2;rw[ir]at d;rwa [d]at h5};have j:∀p,eD l p=none->gS l p=[]:=fun p hp=>by{rw[gS,hp]};intro b hb;induction hb with|one h1=>{exact f a k hk g _ h1} | @more p c _ h1 ih=>{cases hp:eD l p with|none=>{rw[j p hp]at h1;simp at h1}|some i=>{exact f p i hp (ih i hp).2 _ h1}}};rw[hn];exact(s b hb x hx).1}
theorem ke {next:Int} {l:List cJ} (h:iQ next l=false):iA next l=false:=by rw[iA,h];rfl
theorem kf {next:Int} {l:List cJ} (h:eZ next l l.length=false):iA next l=false:=by rw[iA,h];simp
theorem vU {next:Int} {l:List cJ} (h1:iQ next l=true) (h2:eZ next l l.length=true):iA next l=(l.drop 1).all fun x=>uG l 1 x.1:=by rw[iA,h1,h2];simp
theorem vV {next:Int} {l:List cJ} (h:cY next 2 100000=false):iQ next l=false:=by rw[iQ,h];rfl
theorem vW {next:Int} {l:List cJ} (h:cY (l.length:Int) 1 16=false):iQ next l=false:=by simp[iQ,h]
theorem pt{next:Int}{l:List cJ}{x:cJ}(h0:l[0]?=some x)(h:¬(x.1=1/\x.2.1=2)):iQ next l=false:=by cases hh:iQ next l with|false=>{rfl}|true=>{simp only[iQ,h0,Bool.and_eq_true,decide_eq_true_eq]at hh;exact absurd hh.2 h}
theorem vX{next:Int}{l:List cJ}{x:cJ}(h1:cY next 2 100000=true)(h2:cY (l.length:Int) 1 16=true)(h0:l[0]?=some x)(h3:x.1=1)(h4:x.2.1=2):iQ next l=true:=by simp only[iQ,h0,Bool.and_eq_true,decide_eq_true_eq];exact⟨⟨h1,h2⟩,h3,h4⟩
theorem tL {next:Int} {l:List cJ} {k:Nat} {x:cJ} (h:cY x.1 1 (next-1)=false):iz next l k x=false:=by simp only[iz,h,Bool.false_and]
theorem tM{next:Int}{l:List cJ}{k:Nat}{x p:cJ}(hp:l[k]?=some p)(h:x.1<=p.1):iz next l (k+1) x=false:=by have:decide (p.1<x.1)=false:=decide_eq_false (by omega);simp only[iz,hp,this,Bool.and_false,Bool.false_and]
theorem yV {next:Int} {l:List cJ} {x:cJ} (h:cY x.1 1 (next-1)=true):iz next l 0 x=gF l x:=by simp only[iz,h,Bool.true_and]
theorem yW{next:Int}{l:List cJ}{k:Nat}{x p:cJ}(h:cY x.1 1 (next-1)=true)(hp:l[k]?=some p)(h1:p.1<x.1):iz next l (k+1) x=gF l x:=by simp only[iz,h,hp,decide_eq_true h1,Bool.true_and]
theorem lv{next:Int}{l:List cJ}{k:Nat}{x:cJ}(hx:l[k]?=some x)(h0:eZ next l k=true)(h:iz next l k x=true):eZ next l (k+1)=true:=by rw[eZ,hx,h0,Bool.true_and];exact h
theorem zW{l:List cJ}{x:cJ}(h:gF l x=true):x.2.2.2.2.length<=12:=by unfold gF at h;split at h;{simp only[Bool.and_eq_true,decide_eq_true_eq]at h;omega};{simp only[Bool.and_eq_true,decide_eq_true_eq]at h;exact(xQ h.1.1.2).len}
theorem rH{next:Int}{l:List cJ}(h:eZ next l l.length=true):∀x∈l,x.2.2.2.2.length<=12:=by intro x hx;obtain⟨k,hk⟩:=List.getElem?_of_mem hx;have h1:=lZ h hk;unfold iz at h1;rw[Bool.and_eq_true]at h1;exact zW h1.2
theorem qk:∀(l:List cJ),(∀x∈l,x.2.2.2.2.length<=12)->(lI l).length<=12*l.length
 | [],_=>by simp[lI]
 |x::l,h=>by
   have h1:=qk l fun y hy=>h y (List.mem_cons_of_mem _ hy);have h2:=h x List.mem_cons_self;simp only[lI,List.flatMap_cons,List.length_append,List.length_map,List.length_cons]at h1|-;omega
theorem BF{l:List cJ}{out:List Int}(h:∀x,x∈out↔nl l 1 x):((l.drop 1).all fun x=>uG l 1 x.1)=(l.drop 1).all fun x=>decide (x.1∈out):=by congr 1;funext x;rw[Bool.eq_iff_iff,pn,decide_eq_true_iff,h]
def ig (d:List cI):List Int:=d.map fun e=>e.2.2.2
theorem qm(d:List cI)(i:Int):eB d i=(ig d).count i:=by rw[eB,ig,List.count,List.countP_map];rfl
def kt (l:List cJ) (a b:Int):Prop:=∃x∈l,x.1=a/\∃e∈x.2.2.2.2,e.2.2.2=b
def vY (l:List cJ) (b:Int):Prop:=b=1\/nl l 1 b
abbrev oM (l:List cJ):Prop:=l.Pairwise fun a b=>a.1<b.1
theorem jh{l:List cJ}(h:oM l){x y:cJ}(hx:x∈l)(hy:y∈l)(e:x.1=y.1):x=y:=by obtain⟨i,hi⟩:=List.getElem?_of_mem hx;obtain⟨j,hj⟩:=List.getElem?_of_mem hy;have h1:=fd h hi;have h2:=fd h hj;rw[e,h2]at h1;injection h1 with h1;subst h1;rw[hi]at hj;injection hj
theorem ii{l:List cJ}(h:oM l){a b:Int}:b∈gS l a↔kt l a b:=by constructor;{intro hb;unfold gS at hb;cases h1:eD l a with|none=>{rw[h1]at hb;simp at hb}|some k=>{obtain⟨x,hx,d⟩:=lY h1;rw[h1]at hb;simp only[hx,List.mem_map]at hb;obtain⟨e,he,c⟩:=hb;exact⟨x,mD hx,d,e,he,c⟩}};{rintro⟨x,hx,rfl,e,he,rfl⟩;obtain⟨i,hi⟩:=List.getElem?_of_mem hx;rw[nI (fd h hi) hi];exact List.mem_map_of_mem he}
theorem iB{l l':List cJ}(h:oM l)(h':oM l')(he:∀a b,kt l a b->kt l' a b){b:Int}(hb:vY l b):vY l' b:=by rcases hb with rfl|hb;{exact .inl rfl};{right;induction hb with|one hk=>{exact .one ((ii h').2 (he _ _ ((ii h).1 hk)))}|more _ hk ih=>{exact .more ih ((ii h').2 (he _ _ ((ii h).1 hk)))}}
theorem ji{l:List cJ}(h:oM l){a b:Int}(ha:vY l a)(hk:kt l a b):vY l b:=by rcases ha with rfl|ha;{exact .inr (.one ((ii h).2 hk))};{exact .inr (.more ha ((ii h).2 hk))}
theorem BG{l l':List cJ}(h:oM l)(h':oM l'){x:Int}(he:∀a b,kt l a b->kt l' a b\/b=x)(hx:∀b,¬kt l x b){b:Int}(hb:vY l b):b=x\/vY l' b:=by rcases hb with rfl|hb;{exact .inr (.inl rfl)};{induction hb with|one hk=>{rcases he _ _ ((ii h).1 hk)with h1|h1;{exact .inr (ji h' (.inl rfl) h1)};{exact .inl h1}}|more hb hk ih=>{have c:=(ii h).1 hk;rcases ih with rfl|ih;{exact absurd c (hx _)};{rcases he _ _ c with h1|h1;{exact .inr (ji h' ih h1)};{exact .inl h1}}}}
theorem vZ{l l':List cJ}(h:oM l)(h':oM l'){x o t:Int}(he:∀a b,kt l a b->kt l' a b\/b=x\/b=o)(ho:∀b,¬kt l o b)(ht:kt l' t x)(g:t≠x)(hb:¬nl l x t)(f:t≠o)(hr:vY l t):∀b,vY l b->b=o\/vY l' b:=by have c1:∀b,vY l b->b≠x->¬nl l x b->b=o\/vY l' b:=by{intro b hb;rcases hb with rfl|hb;{exact fun _ _=>.inr (.inl rfl)};{induction hb with|one hk=>{intro h1 h2;rcases he _ _ ((ii h).1 hk)with h3|h3|h3;{exact .inr (ji h' (.inl rfl) h3)};{exact absurd h3 h1};{exact .inl h3}} | @more b' c hb hk ih=>{intro h1 h2;have d:=(ii h).1 hk;have h4:b'≠x:=fun e=>h2 (.one (e▸hk));have h5:¬nl l x b':=fun hh=>h2 (.more hh hk);rcases ih h4 h5 with rfl|ih;{exact absurd d (ho _)};{rcases he _ _ d with h3|h3|h3;{exact .inr (ji h' ih h3)};{exact absurd h3 h1};{exact .inl h3}}}}};have c2:vY l' x:=by{rcases c1 t hr g hb with h1|h1;{exact absurd h1 f};{exact ji h' h1 ht}};have c3:∀b,nl l x b->b=o\/vY l' b:=by{intro b hb;induction hb with|one hk=>{rcases he _ _ ((ii h).1 hk)with h3|h3|h3;{exact .inr (ji h' c2 h3)};{exact .inr (h3▸c2)};{exact .inl h3}}|more hb hk ih=>{have d:=(ii h).1 hk;rcases ih with rfl|ih;{exact absurd d (ho _)};{rcases he _ _ d with h3|h3|h3;{exact .inr (ji h' ih h3)};{exact .inr (h3▸c2)};{exact .inl h3}}}};intro b hb;by_cases h1:b=x;{exact .inr (h1▸c2)};{by_cases h2:nl l x b;{exact c3 b h2};{exact c1 b hb h1 h2}}
theorem mv (i:Int):∀(l:List cJ) (k:Nat),l.foldl (fun n x=>n+eB x.2.2.2.2 i) k=k+cU l i
 | [],k=>by simp[cU]
 |x::l,k=>by rw[cU,List.foldl_cons,List.foldl_cons,mv i l,mv i l];omega
theorem ev(x:cJ)(l:List cJ)(i:Int):cU (x::l) i=eB x.2.2.2.2 i+cU l i:=by rw[cU,List.foldl_cons,mv];omega
theorem oo (i:Int):∀(l m:List cJ),cU (l++m) i=cU l i+cU m i
 | [],m=>by simp[cU]
 |x::l,m=>by rw[List.cons_append,ev,ev,oo i l m];omega
theorem kV (i:Int) (y:cJ):∀(l:List cJ) (k:Nat) (x:cJ),l[k]?=some x->cU (l.set k y) i+eB x.2.2.2.2 i=cU l i+eB y.2.2.2.2 i
 | [],k,x,h=>by simp at h
 |z::l,0,x,h=>by
   injection h with h;subst h;rw[List.set_cons_zero,ev,ev];omega
 |z::l,k+1,x,h=>by
   have:=kV i y l k x h;rw[List.set_cons_succ,ev,ev];omega
theorem pu (i:Int):∀(l:List cJ) (k:Nat) (x:cJ),l[k]?=some x->cU (l.eraseIdx k) i+eB x.2.2.2.2 i=cU l i
 | [],k,x,h=>by simp at h
 |z::l,0,x,h=>by
   injection h with h;subst h;rw[List.eraseIdx_cons_zero,ev];omega
 |z::l,k+1,x,h=>by
   have:=pu i l k x h;rw[List.eraseIdx_cons_succ,ev,ev];omega
theorem nJ{l:List cJ}{i:Int}:0<cU l i↔∃a,kt l a i:=by induction l with|nil=>{simp[cU,kt]}|cons x l ih=>{rw[ev];constructor;{intro h;by_cases h1:0<eB x.2.2.2.2 i;{rw[eB,List.countP_pos_iff]at h1;obtain⟨e,he,hi⟩:=h1;exact⟨x.1,x,List.mem_cons_self,rfl,e,he,by simpa using hi⟩};{obtain⟨a,y,hy,r⟩:=ih.1 (by omega);exact⟨a,y,List.mem_cons_of_mem _ hy,r⟩}};{rintro⟨a,y,hy,rfl,e,he,hi⟩;rcases List.mem_cons.1 hy with rfl|hy;{have:0<eB y.2.2.2.2 i:=by{rw[eB,List.countP_pos_iff];exact⟨e,he,by simpa using hi⟩};omega};{have:=ih.2 ⟨y.1,y,hy,rfl,e,he,hi⟩;omega}}}
theorem xU{l:List cJ}{i:Int}(h:∀a,¬kt l a i):cU l i=0:=by rcases Nat.eq_zero_or_pos (cU l i)with h1|h1;{exact h1};{obtain⟨a,ha⟩:=nJ.1 h1;exact absurd ha (h a)}
theorem rI{l:List cJ}{i:Int}:(eD l i).isSome=true↔∃y∈l,y.1=i:=by rw[eD,List.findIdx?_isSome,List.any_eq_true];simp only[beq_iff_eq]
def D1 (x:cJ):Prop:=(x.2.1=1/\x.2.2.2.2=[]/\x.2.2.2.1.size<=20)\/(x.2.1=2/\x.2.2.2.1.size=0/\fA x.2.2.2.2)
structure VW (next:Int) (l:List cJ):Prop where
 lo:2<=next
 hi:next<=100000
 len:l.length<=16
 srt:oM l
 rng:∀x∈l,1<=x.1/\x.1<next
 root:∃x,l[0]?=some x/\x.1=1/\x.2.1=2
 typ:∀x∈l,D1 x
 ent:∀x∈l,∀e∈x.2.2.2.2,e.2.2.2≠1/\∃y∈l,y.1=e.2.2.2
structure gH (next:Int) (l:List cJ):Prop extends VW next l where
 one:∀x∈l,x.2.1=2->x.2.2.1=1
 lnk:∀x∈l,x.1=1\/x.2.2.1=(cU l x.1:Int)
 rch:∀x∈l,vY l x.1
theorem VW.root_mem{next:Int}{l:List cJ}(h:VW next l):∃x∈l,x.1=1/\x.2.1=2:=by obtain⟨x,h1,h2⟩:=h.root;exact⟨x,mD h1,h2⟩
theorem xV{next:Int}{l:List cJ}(h:iA next l=true):gH next l:=by simp only[iA,Bool.and_eq_true]at h;obtain⟨⟨h1,h2⟩,h3⟩:=h;simp only[iQ,Bool.and_eq_true]at h1;have c:=dh.1 h1.1.1;have hln:=dh.1 h1.1.2;have b:∃x,l[0]?=some x/\x.1=1/\x.2.1=2:=by{have h4:=h1.2;cases h0:l[0]? with|none=>{rw[h0]at h4;simp at h4}|some x=>{rw[h0]at h4;simp only[Bool.and_eq_true,decide_eq_true_eq]at h4;exact⟨x,rfl,h4⟩}};have d:=om h2;have a:∀x∈l,cY x.1 1 (next-1)=true/\gF l x=true:=by{intro x hx;obtain⟨k,hk⟩:=List.getElem?_of_mem hx;have h4:=lZ h2 hk;simp only[iz,Bool.and_eq_true]at h4;exact⟨h4.1.1,h4.2⟩};have f:∀x∈l,x.1=1\/nl l 1 x.1:=by{intro x hx;obtain⟨r,hr,g,_⟩:=b;obtain⟨k,hk⟩:=List.getElem?_of_mem hx;cases k with|zero=>{rw[hr]at hk;injection hk with hk;subst hk;exact .inl g}|succ k=>{have h5:=List.all_eq_true.1 h3 x (mD (i:=k) (by rw[List.getElem?_drop,Nat.add_comm];exact hk));exact .inr (pn.1 h5)}};refine⟨⟨c.1,c.2,by omega,d,fun x hx=>?_,b,fun x hx=>?_,fun x hx e he=>?_⟩,fun x hx hk=>?_,fun x hx=>?_,f⟩;{have:=dh.1 (a x hx).1;exact⟨this.1,by omega⟩};{have h4:=(a x hx).2;unfold gF at h4;split at h4;{rename_i hk;simp only[Bool.and_eq_true,decide_eq_true_eq]at h4;exact .inl ⟨hk,List.eq_nil_of_length_eq_zero h4.1.1,h4.1.2⟩};{simp only[Bool.and_eq_true,decide_eq_true_eq]at h4;exact .inr ⟨h4.1.1.1.1.1,h4.1.1.1.1.2,xQ h4.1.1.2⟩}};{have h4:=(a x hx).2;unfold gF at h4;split at h4;{simp only[Bool.and_eq_true,decide_eq_true_eq]at h4;rw[List.eq_nil_of_length_eq_zero h4.1.1]at he;simp at he};{simp only[Bool.and_eq_true,List.all_eq_true]at h4;have h5:=h4.2 e he;simp only[Bool.and_eq_true,Bool.not_eq_true',decide_eq_false_iff_not]at h5;exact⟨h5.1,rI.1 h5.2⟩}};{have h4:=(a x hx).2;unfold gF at h4;rw[if_neg (by omega)]at h4;simp only[Bool.and_eq_true,decide_eq_true_eq]at h4;exact h4.1.1.1.2};{have h4:=(a x hx).2;unfold gF at h4;split at h4;{simp only[Bool.and_eq_true,decide_eq_true_eq]at h4;exact .inr h4.2};{simp only[Bool.and_eq_true,Bool.or_eq_true,decide_eq_true_eq]at h4;rcases h4.1.2 with h5|h5;{exact .inl h5};{right;rw[h4.1.1.1.2,h5];rfl}}}
theorem qn{next:Int}{l:List cJ}(h:gH next l):iA next l=true:=by obtain⟨r,hr,a,d⟩:=h.root;have hl1:1<=l.length:=by{have:=(mE hr).1;omega};have hln:=h.len;have c:∀x∈l,gF l x=true:=by{intro x hx;have b:=h.lnk x hx;rcases h.typ x hx with⟨t1,t2,t3⟩|⟨t1,t2,t3⟩;{have h1:x.1≠1:=fun e=>by{have:=jh h.srt hx (mD hr) (e.trans a.symm);subst this;omega};unfold gF;rw[if_pos t1];simp only[Bool.and_eq_true,decide_eq_true_eq];exact⟨⟨by rw[t2];rfl,t3⟩,b.resolve_left h1⟩};{have ho:=h.one x hx t1;unfold gF;rw[if_neg (by omega)];simp only[Bool.and_eq_true,Bool.or_eq_true,decide_eq_true_eq,List.all_eq_true];refine⟨⟨⟨⟨⟨t1,t2⟩,ho⟩,qg t3⟩,?_⟩,fun e he=>?_⟩;{rcases b with h1|h1;{exact .inl h1};{right;rw[ho]at h1;omega}};{have:=h.ent x hx e he;simp only[Bool.and_eq_true,Bool.not_eq_true',decide_eq_false_iff_not];exact⟨this.1,rI.2 this.2⟩}}};simp only[iA,iQ,Bool.and_eq_true];refine⟨⟨⟨⟨dh.2 ⟨h.lo,h.hi⟩,dh.2 ⟨by omega,by omega⟩⟩,by rw[hr];simp[a,d]⟩,?_⟩,?_⟩;{have:∀k,k<=l.length->eZ next l k=true:=by{intro k;induction k with|zero=>{intro _;rfl}|succ k ih=>{intro hk;obtain⟨x,hx⟩:∃x,l[k]?=some x:=⟨_,List.getElem?_eq_getElem (by omega)⟩;have hm:=mD hx;have f:=h.rng x hm;rw[eZ,hx,Bool.and_eq_true];refine⟨ih (by omega),?_⟩;simp only[iz,Bool.and_eq_true];refine⟨⟨dh.2 ⟨f.1,by omega⟩,?_⟩,c x hm⟩;cases k with|zero=>{rfl}|succ j=>{obtain⟨p,hp⟩:∃p,l[j]?=some p:=⟨_,List.getElem?_eq_getElem (by omega)⟩;simp only[hp,decide_eq_true_eq];have h3:=List.pairwise_iff_getElem.1 h.srt j (j+1) (by omega) (by omega) (by omega);rw[List.getElem?_eq_getElem (by omega)]at hp hx;injection hp with hp;injection hx with hx;rw[hp,hx]at h3;exact h3}}};exact this _ (Nat.le_refl _)};{rw[List.all_eq_true];intro x hx;rw[pn];rcases h.rch x (List.mem_of_mem_drop hx)with h1|h1;{exfalso;obtain⟨k,hk⟩:=List.getElem?_of_mem hx;rw[List.getElem?_drop]at hk;have h3:=fd h.srt hk;have h4:=fd h.srt hr;rw[h1,<-a,h4]at h3;injection h3 with h3;omega};{exact h1}}
def lp (xs:List Value):Nat->List Value->List Value
 |_,[]=>xs
 |j,v::r=>lp (xs.set j v) (j+1) r
theorem nr:∀(vs xs:List Value) (j:Nat),(lp xs j vs).length=xs.length
 | [],xs,j=>rfl
 |v::r,xs,j=>by rw[lp,nr r,List.length_set]
theorem kG:∀(vs xs:List Value) (j:Nat),j+vs.length<=xs.length->lp xs j vs=xs.take j++vs++xs.drop (j+vs.length)
 | [],xs,j,h=>by simp[lp]
 |v::r,xs,j,h=>by
   rw[List.length_cons]at h;rw[lp,kG r _ _ (by rw[List.length_set];omega),List.length_cons];have hj:j<xs.length:=by omega
   rw[List.take_set,List.drop_set_of_lt (by omega),List.take_add_one,List.getElem?_eq_getElem hj,List.set_append_right _ _ (by rw[List.length_take];omega)];simp only[Option.toList_some,List.length_take];rw[show j-min j xs.length=0 by omega,List.set_cons_zero,List.append_assoc,List.append_assoc,List.append_assoc,show j+1+r.length=j+(r.length+1) by omega]
   rfl
section
variable {W : List Nat} {w0 w : World} {l : List Ob} {E : TypeId} {k n c g : Nat} {xs : List Value} {A : Option Addr}
theorem Hp.puts (i:Nat):∀(vs:List Value) (xs:List Value) (j:Nat) (w:World) (l:List Ob),Hp W w0 w l->l[i]?=some (.row E k (.slice (some ⟨g,0,none⟩) n c) n xs)->Hp W w0 (w.setCells g j vs) (l.set i (.row E k (.slice (some ⟨g,0,none⟩) n c) n (lp xs j vs)))
 | [],xs,j,w,l,h,hi=>by
   refine h.recast ?_;apply List.ext_getElem?;intro q
   by_cases hq:i=q
   ·subst hq;rw[List.getElem?_set_self (mE hi).1,hi];rfl
   ·rw[List.getElem?_set_ne hq]
 |v::r,xs,j,w,l,h,hi=>by
   have h1:=h.put i hi j v;have h2:=Hp.puts i r (xs.set j v) (j+1) _ _ h1 (List.getElem?_set_self (mE hi).1);rw[List.set_set]at h2;exact h2
theorem Dh{b:Nat}(h:w.ownsRow b E k (.slice A n c) n xs){m:Nat}(hm:m<=n):w.ownsRow b E k (.slice A m c) m (xs.take (m*k)):=by have d:m*k<=n*k:=Nat.mul_le_mul_right _ hm;refine⟨by rw[List.length_take,h.1];omega,?_⟩;rcases h.2 with⟨e,e2⟩|⟨g,a,cur,e,h1,h2,h3,h4,h5,h6⟩;{injection e with e0 e1 e3;left;obtain rfl:m=0:=by{omega};rw[e0,e3];exact⟨rfl,rfl⟩};{injection e with e0 e1 e3;right;refine⟨g,a,cur,by rw[e0,e3],h1,h2,by omega,h4,h5,?_⟩;rw[<-h6,List.take_take,Nat.min_eq_left d]}
theorem Hp.cut (h:Hp W w0 w l) (i:Nat) (hi:l[i]?=some (.row E k (.slice A n c) n xs)) {m:Nat} (hm:m<=n):Hp W w0 w (l.set i (.row E k (.slice A m c) m (xs.take (m*k)))):=
 h.turnRow i hi (Gr.refl _ w) (Dh (h.row i hi) hm) (.inl (by cases A<;>rfl))
theorem kh{b:Nat}(h:w.ownsRow b E k (.slice (some ⟨g,0,none⟩) n c) n xs){j:Nat}(hj:j<c*k):(w.cell? ⟨g,j,none⟩).isSome=true:=by rcases h.2 with⟨e,_⟩|⟨g2,cap,cur,e,h1,h2,h3,h4,h5,h6⟩;{cases e};{injection e with e0 e1 e3;injection e0 with e0;injection e0 with e0 _;subst e0 e3;simp only[World.cell?,h2];rw[Array.getElem?_eq_getElem (by omega)];rfl}
theorem py{b:Nat}(h:w.ownsRow b E k (.slice (some ⟨g,0,none⟩) n c) n xs):n<=c/\c<=maxLen:=by rcases h.2 with⟨e,_⟩|⟨g2,cap,cur,e,h1,h2,h3,h4,h5,h6⟩;{cases e};{injection e with e0 e1 e3;subst e3;exact⟨h3,h4⟩}
end
variable {P : Program}
theorem qI{e:TypeId}{i:TypeInfo}{z:Value}(hi:P.info? e=some i)(hz:i.zero=some z)(w:World):(zeroValue e).run P w=.ok z w:=by simp[zeroValue,typeInfo,hi,hz]
theorem rL(w:World)(t e ty:TypeId)(z:Value)(ht:P.underlying t=some (.slice e))(hv:∀w,(zeroValue e).run P w=.ok z w)(h1:∀v∈z.cells.toList,v.oneCell'=true)(b o c:Nat)(hc:∀j,j<z.cells.size->(w.cell? ⟨b,o+j,none⟩).isSome=true)(hf:∀j,j<z.cells.size->w.frozen? ⟨b,o+j,none⟩=false):(Builtin.clear_ #[t] ty #[.slice (some ⟨b,o,none⟩) 1 c]).run P w=.ok (.tuple #[]) (w.setCells b o z.cells.toList):=by have d:(Builtin.zeroCells z.cells 1).toList=z.cells.toList:=by{unfold Builtin.zeroCells;apply List.ext_getElem;{simp};{intro i h1 h2;have hi:i<z.cells.size:=by{simpa using h2};simp[Nat.mod_eq_of_lt hi,hi]}};have a:=run_storeCells_cells (P:=P) b o z.cells.toList 0 w (by simpa using hc) (by simpa using hf) h1;simp only[Nat.add_zero]at a;simp[Builtin.clear_,run_underlying ht,hv,d,a]
theorem nK(w:World)(dT sT ty elem:TypeId)(k:Nat)(b o c e:Nat)(a:Addr)(d h:Nat)(cs:List Value)(hu:P.underlying dT=some (.slice elem))(hs:(P.info? elem).map (·.size)=some k)(hn:cs.length=Nat.min d c*k)(f:∀j v,cs[j]?=some v->w.cell? (a.add j)=some v)(hc:∀j,j<cs.length->(w.cell? ⟨b,o+j,none⟩).isSome=true)(hf:∀j,j<cs.length->w.frozen? ⟨b,o+j,none⟩=false)(h1:∀v∈cs,v.oneCell'=true):(Builtin.copy_ #[dT,sT] ty #[.slice (some ⟨b,o,none⟩) c e,.slice (some a) d h]).run P w=.ok (goInt (Nat.min d c:Nat)) (w.setCells b o cs):=by have hl:=run_loadCells_list (P:=P) w a cs f;have g:=run_storeCells_cells (P:=P) b o cs 0 w (by simpa using hc) (by simpa using hf) h1;cases hq:P.info? elem with|none=>{simp[hq]at hs}|some i=>{have hi:i.size=k:=by{simpa[hq]using hs};simp only[Nat.add_zero]at g;simp[Builtin.copy_,run_underlying hu,Builtin.lenOf,Builtin.firstCells,sizeOf,typeInfo,hq,hi,<-hn,hl,g]}
theorem rP(s:ByteArray)(w:World)(hs:s.size<=16777216)(hk:KT w):Calls Tryz.prog 140 #[.string s] w fun e w'=>e=.returned (.int .i64 (dU (cO s)))/\Fr w w':=by obtain⟨q,hq⟩:∃q,q=dU (cO s):=⟨_,rfl⟩;have HQ:=hJ hq;rw[<-hq];clear hq;have HL:=hJ (rx (cO s));obtain⟨K,hK⟩:∃K,K=et (cO s):=⟨_,rfl⟩;have HK:=hJ hK;clear hK;obtain⟨kk,kb⟩:=K;go_enter Tryz.func140,Tryz.ntmps140;go_wp2_with fail;refine(fE s _ hs hk).mono ?_;rintro e w1 ⟨rfl,f1⟩;rw[<-HK.out];cases kb with|true=>{have hl:(dx kk).size<=1099511627776:=by{have:=HL.out;rw[<-HK.out]at this;rw[dy];exact Nat.le_trans this (by decide)};go_wp2_with fail;refine(i8 (dx kk) _ hl).mono ?_;rintro e w2 ⟨rfl,f2⟩;have F2:=hJ f2;clear f2;rw[dG];obtain⟨z,hz⟩:∃z,z=mt kk:=⟨_,rfl⟩;have HZ:=hJ hz;have h0:0<=z:=by{rw[hz];exact(mu kk).1};have h1:z<=4294967295:=by{rw[hz];exact(mu kk).2};rw[<-hz];clear hz;have HE:=hJ (show q=z.tmod 16 by rw[Int.tmod_eq_emod_of_nonneg h0,HZ.out,HQ.out,dU,<-HK.out,if_pos rfl]);obtain⟨y,hy⟩:∃y,y=z.tmod 16:=⟨_,rfl⟩;have HY:=hJ hy;have hy2:z.tmod 16=y:=hy.symm;have hy0:0<=y/\y<16:=by{rw[hy,Int.tmod_eq_emod_of_nonneg h0];omega};have hyw:IntKind.i64.wrap y=y:=hY _;clear hy;go_wp2_with fail;go_ret;rw[HE.out,HY.out,F2.out];exact⟨rfl,f1⟩}|false=>{have HE:=hJ (show q = -1 by rw[HQ.out,dU,<-HK.out,if_neg (by simp)]);go_wp2_with fail;go_ret;rw[HE.out];exact⟨rfl,f1⟩}
theorem eq(s:ByteArray)(w:World)(hs:s.size<=16777216):Calls Tryz.prog 130 #[.string s] w fun e w'=>e=.returned (.int .i64 (dU (cO s)))/\Fr w w':=by obtain⟨q,hq⟩:∃q,q=dU (cO s):=⟨_,rfl⟩;have HQ:=hJ hq;rw[<-hq];clear hq;have HL:=hJ (rx (cO s));obtain⟨K,hK⟩:∃K,K=et (cO s):=⟨_,rfl⟩;have HK:=hJ hK;clear hK;obtain⟨kk,kb⟩:=K;go_enter Tryz.func130,Tryz.ntmps130;go_wp2_with fail;refine(lH s _ hs).mono ?_;rintro e w1 ⟨rfl,f1⟩;rw[<-HK.out];cases kb with|true=>{have hl:(dx kk).size<=1099511627776:=by{have:=HL.out;rw[<-HK.out]at this;rw[dy];exact Nat.le_trans this (by decide)};go_wp2_with fail;refine(nu (dx kk) _ hl).mono ?_;rintro e w2 ⟨rfl,f2⟩;have F2:=hJ f2;clear f2;rw[dG];obtain⟨z,hz⟩:∃z,z=mt kk:=⟨_,rfl⟩;have HZ:=hJ hz;have h0:0<=z:=by{rw[hz];exact(mu kk).1};have h1:z<=4294967295:=by{rw[hz];exact(mu kk).2};rw[<-hz];clear hz;have HE:=hJ (show q=z.tmod 16 by rw[Int.tmod_eq_emod_of_nonneg h0,HZ.out,HQ.out,dU,<-HK.out,if_pos rfl]);obtain⟨y,hy⟩:∃y,y=z.tmod 16:=⟨_,rfl⟩;have HY:=hJ hy;have hy2:z.tmod 16=y:=hy.symm;have hy0:0<=y/\y<16:=by{rw[hy,Int.tmod_eq_emod_of_nonneg h0];omega};have hyw:IntKind.i64.wrap y=y:=hY _;clear hy;go_wp2_with fail;go_ret;rw[HE.out,HY.out,F2.out];exact⟨rfl,f1⟩}|false=>{have HE:=hJ (show q = -1 by rw[HQ.out,dU,<-HK.out,if_neg (by simp)]);go_wp2_with fail;go_ret;rw[HE.out];exact⟨rfl,f1⟩}
theorem yl(l:List cJ)(a:Int)(h:∀k,eD l a=some k->Bs l a (fm l k)):(gV l a).length=l.length:=by unfold gV;split;{simp};{rename_i k hk;exact((h k hk).rounds _).l1}
theorem Ap{l:List cJ}(hs:l.Pairwise fun a b=>a.1<b.1){a:Int}{i:Nat}{x:cJ}(hx:l[i]?=some x):(gV l a)[i]?=some (uG l a x.1):=by have d:=fd hs hx;have c:i<(gV l a).length:=by{rw[yl l a fun k hk=>qj hk];exact(mE hx).1};have h1:=tK l a i;have h2:On (gV l a) i↔uG l a x.1=true:=by{rw[h1,pn];refine⟨fun ⟨b,hb,e⟩=>?_,fun hb=>⟨_,hb,d⟩⟩;obtain⟨y,hy,f⟩:=lY e;rw[hx]at hy;injection hy with hy;subst hy;rw[f];exact hb};obtain⟨b,hb⟩:∃b,(gV l a)[i]?=some b:=⟨_,List.getElem?_eq_getElem c⟩;rw[hb];unfold On at h2;rw[hb]at h2;congr 1;rw[Bool.eq_iff_iff,<-h2];simp
