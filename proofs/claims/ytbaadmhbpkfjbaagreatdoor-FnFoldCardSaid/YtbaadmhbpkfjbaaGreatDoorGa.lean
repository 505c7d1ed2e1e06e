import Derived.Test.YtbaadmhbpkfjbaaGreatDoorRows
import Derived.WalkKit
import Derived.WalkSpells
import Derived.WalkLawsBesides
import Derived.Lib.Hide
import Derived.Maps.AppendAt
import Derived.Deep.AppendLies
import Derived.Deep.Draws
import Derived.RegionTactic
import Derived.OwnWalk
import Derived.Deep.QuietTactic
import Derived.BigQuiet
import Derived.Laws.AppendOwnNone
import Derived.Laws.IdiomStrings
import Derived.Deep.RegionHeld3
import Derived.StillTailTactics
set_option linter.all false
set_option maxRecDepth 100000
set_option maxHeartbeats 64000000
namespace Go.Proofs.YtbaadmhbpkfjbaaGreatDoor
open Go.RowKit
theorem hJ{p:Prop}(h:p):RowKit.Hid p:=Lib.hid h
theorem hY(x:Int)(h:-9223372036854775808<=x/\x<=9223372036854775807:=by omega):IntKind.i64.wrap x=x:=IntWalk.i64_in x h
theorem mD{α:Type}{l:List α}{i:Nat}{a:α}(h:l[i]?=some a):a∈l:=List.mem_of_getElem? h
theorem mE{α:Type}{l:List α}{i:Nat}{a:α}(h:l[i]?=some a):∃h:i<l.length,l[i]=a:=List.getElem?_eq_some_iff.1 h
abbrev Fr (w w':World):Prop:=Below w.heap.size w w'
theorem Fr.then {a b c:World} (h:Fr a b) (k:Fr b c):Fr a c:=Below.trans h (Below.mono k h.size)
theorem Fr.drewN_ (w:World) (n:Nat):Fr w (w.drewN n):=⟨rfl,rfl,rfl,Nat.le_refl _,fun _ _=>rfl⟩
theorem Fr.drew_ (w:World):Fr w w.drew:=Fr.drewN_ w 1
theorem Fr.of_grown {w w':World} (h:w.grownBy w' none):Fr w w':=⟨h.os,h.tape,h.output,h.size,fun k hk=>h.block k hk (by simp)⟩
theorem Fr.grown {w w':World} (h:Fr w w') (row:Option Nat):w.grownBy w' row:=⟨h.os,h.tape,h.output,h.size,fun k hk _=>h.block k hk⟩
def Dr (w w':World):Prop:=∃j,w'=w.drewN j
theorem Dr.refl (w:World):Dr w w:=⟨0,rfl⟩
theorem Dr.on{w w':World}(h:Dr w w')(n:Nat):Dr w (w'.drewN n):=by obtain⟨j,rfl⟩:=h;exact⟨j+n,by rw[World.drewN_drewN]⟩
theorem Dr.then{a b c:World}(h:Dr a b)(k:Dr b c):Dr a c:=by obtain⟨j,rfl⟩:=k;exact h.on j
theorem Dr.fr{w w':World}(h:Dr w w'):Fr w w':=by obtain⟨j,rfl⟩:=h;exact Fr.drewN_ _ _
theorem Fr.on {w w':World} (h:Fr w w') (n:Nat):Fr w (w'.drewN n):=h.then (Fr.drewN_ _ _)
theorem Fr.al {w w':World} (h:Fr w w') (o:Obj):Fr w (w'.alloc o):=h.then ((Below.refl _ _).alloc (Nat.le_refl _) _)
def Rd (w:World) (A:Option Addr) (n k:Nat) (xs:List Value):Prop:=
 xs.length=n*k/\(0<n->∃b o,A=some ⟨b,o,none⟩/\∀j u,xs[j]?=some u->w.cell? ⟨b,o+j,none⟩=some u)
section
variable {w w' : World} {A : Option Addr} {n k : Nat} {xs : List Value}
theorem Rd.nil_:Rd w A 0 k []:=⟨by simp,fun h=>absurd h (by omega)⟩
theorem Rd.keep(h:Rd w A n k xs)(hk:∀p:Addr,p.block<w.heap.size->(∀ad,A=some ad->p.block=ad.block)->w'.cell? p=w.cell? p):Rd w' A n k xs:=by refine⟨h.1,fun hn=>?_⟩;obtain⟨b,o,rfl,hc⟩:=h.2 hn;refine⟨b,o,rfl,fun j u hu=>?_⟩;have c:=hc j u hu;exact(hk _ (World.block_lt_of_cell? w _ c) (fun a ha=>by injection ha with ha;subst ha;rfl)).trans c
theorem Rd.fr (h:Rd w A n k xs) (hf:Fr w w'):Rd w' A n k xs:=h.keep fun _ hp _=>hf.cell hp
theorem Rd.drew (h:Rd w A n k xs):Rd w.drew A n k xs:=h
theorem Rd.drewN (h:Rd w A n k xs) (m:Nat):Rd (w.drewN m) A n k xs:=h
theorem Rd.alloc (h:Rd w A n k xs) (o:Obj):Rd (w.alloc o) A n k xs:=h.keep fun p hp _=>World.cell?_alloc_lt w o p hp
theorem Rd.get{j:Nat}{u:Value}(h:Rd w A n k xs)(hu:xs[j]?=some u):∃b o,A=some ⟨b,o,none⟩/\w.cell? ⟨b,o+j,none⟩=some u:=by have hj:j<xs.length:=(mE hu).1;have hn:0<n:=by{rcases Nat.eq_zero_or_pos n with h0|h0;{have:=h.1;rw[h0,Nat.zero_mul]at this;omega};{exact h0}};obtain⟨b,o,e,hc⟩:=h.2 hn;exact⟨b,o,e,hc j u hu⟩
theorem Rd.get1 {α:Type} {f:α->Value} {l:List α} {j:Nat} {x:α} (h:Rd w A n 1 (l.map f)) (hx:l[j]?=some x):∃b o,A=some ⟨b,o,none⟩/\w.cell? ⟨b,o+j,none⟩=some (f x):=
 h.get (by simp[hx])
theorem Rd.len1 {α:Type} {f:α->Value} {l:List α} (h:Rd w A n 1 (l.map f)):l.length=n:=by simpa using h.1
theorem Rd.of_own{base:Nat}{e:TypeId}{c:Nat}(h:w.ownsRow base e k (.slice A n c) n xs):Rd w A n k xs:=by refine⟨h.1,fun hn=>?_⟩;rcases h.2 with⟨_,h0⟩|⟨g,cap,cur,hv,_⟩;{omega};{have hA:A=some ⟨g,0,none⟩:=by{injection hv};subst hA;refine⟨g,0,rfl,fun j u hu=>?_⟩;have:=h.cells (g:=g) rfl j u hu;rwa [Addr.add_lit]at this}
end
def mX (w:World) (E:TypeId) (k n:Nat) (xs:List Value) (e:Ending) (w':World):Prop:=
 ∃A c,e=.returned (.slice A n c)/\w'.ownsRow w.heap.size E k (.slice A n c) n xs/\Fr w w'
theorem tg{w:World}{base:Nat}{e:TypeId}{k n:Nat}{v:Value}{xs:List Value}(h:w.ownsRow base e k v n xs):∃A c,v=.slice A n c:=by rcases h.2 with⟨rfl,rfl⟩|⟨g,cap,cur,rfl,_⟩;{exact⟨none,0,rfl⟩};{exact⟨_,_,rfl⟩}
theorem yI(w:World)(cs:Array Value)(t:TypeId):∀j u,cs.toList[j]?=some u->(w.alloc (.cells cs t)).cell? ((⟨w.heap.size,0,none⟩:Addr).add j)=some u:=by intro j u h;rw[Addr.add_lit,Nat.zero_add,World.cell?_alloc_new];simpa using h
theorem rc{w:World}{b b':Nat}{e:TypeId}{k n:Nat}{v:Value}{xs:List Value}(h:w.ownsRow b e k v n xs)(hb:b'<=b):w.ownsRow b' e k v n xs:=by refine⟨h.1,?_⟩;rcases h.2 with h2|⟨g,a,cur,hv,hg,r⟩;{exact .inl h2};{exact .inr ⟨g,a,cur,hv,Nat.le_trans hb hg,r⟩}
theorem m8{x y:ByteArray}(h:x≠y):(x.toList == y.toList)=false:=by rw[beq_eq_false_iff_ne];intro e;apply h;have h1:∀z:ByteArray,z.toList=z.data.toList:=fun z=>by{simp[ByteArray.toList_eq]};rw[h1,h1]at e;cases x;cases y;simp_all
theorem dp {a b:Bool} (h:a=b):Ending.returned (.bool a)=.returned (.bool b):=by rw[h]
theorem cM {α:Type} {l:List α} {n k:Nat} (hl:l.length=n) (h:k<n):∃x,l[k]?=some x:=⟨l[k]'(by omega),List.getElem?_eq_getElem (by omega)⟩
theorem iw {α:Type} {f:α->List Value} {k:Nat} (hk:∀x,(f x).length=k):∀l:List α,(l.flatMap f).length=l.length*k
 | []=>by simp
 |y::l=>by rw[List.flatMap_cons,List.length_append,iw hk l,hk,List.length_cons,Nat.add_mul];omega
theorem oX {α:Type} {f:α->List Value} {k:Nat} (hk:∀x,(f x).length=k):∀{l:List α} {i j:Nat} {x:α} {u:Value},l[i]?=some x->(f x)[j]?=some u->(l.flatMap f)[i*k+j]?=some u
 | [],i,j,x,u,h,_=>by simp at h
 |y::l,0,j,x,u,h,hu=>by
   simp at h;subst h;rw[List.flatMap_cons,Nat.zero_mul,Nat.zero_add,List.getElem?_append_left (mE hu).1];exact hu
 |y::l,i+1,j,x,u,h,hu=>by
   rw[List.flatMap_cons,List.getElem?_append_right (by rw[hk,Nat.add_mul];omega),hk,show(i+1)*k+j-k=i*k+j from by rw[Nat.add_mul];omega];exact oX hk (by simpa using h) hu
theorem yJ {α:Type} {f:α->List Value} {k:Nat} (hk:∀x,(f x).length=k):∀{l:List α} {j:Nat} {u:Value},(l.flatMap f)[j]?=some u->∃i r x,j=i*k+r/\r<k/\l[i]?=some x/\(f x)[r]?=some u
 | [],j,u,h=>by simp at h
 |y::l,j,u,h=>by
   by_cases hj:j<k
   ·rw[List.flatMap_cons,List.getElem?_append_left (by rw[hk];exact hj)]at h
    exact⟨0,j,y,by omega,hj,rfl,h⟩
   ·rw[List.flatMap_cons,List.getElem?_append_right (by rw[hk];omega),hk]at h
    obtain⟨i,r,x,h1,h2,h3,h4⟩:=yJ hk h;exact⟨i+1,r,x,by rw[Nat.add_mul];omega,h2,by simpa using h3,h4⟩
theorem oY{w:World}{base:Nat}{e:TypeId}{k n c:Nat}{A:Option Addr}{xs:List Value}(h:w.ownsRow base e k (.slice A n c) n xs)(hn:0<n):∃g,A=some ⟨g,0,none⟩/\base<=g/\g<w.heap.size:=by rcases h.2 with⟨_,h0⟩|⟨g,cap,cur,hv,hb,hh,_⟩;{omega};{injection hv with hA;refine⟨g,hA,hb,?_⟩;exact(Array.getElem?_eq_some_iff.1 hh).1}
theorem Rd.elem{α:Type}{w:World}{A:Option Addr}{n k i:Nat}{f:α->List Value}{l:List α}{x:α}(hk:∀x,(f x).length=k)(h:Rd w A n k (l.flatMap f))(hx:l[i]?=some x)(c:0<k):∃b o,A=some ⟨b,o,none⟩/\∀j u,(f x)[j]?=some u->w.cell? ⟨b,o+i*k+j,none⟩=some u:=by obtain⟨b,o,hA,_⟩:=h.get (oX (j:=0) hk hx (List.getElem?_eq_getElem (by rw[hk];exact c)));refine⟨b,o,hA,fun j u hu=>?_⟩;obtain⟨b',o',a,hc⟩:=h.get (oX hk hx hu);rw[hA]at a;injection a with e;injection e with e1 e2;subst e1 e2;rw[Nat.add_assoc];exact hc
theorem Rd.lenk{α:Type}{w:World}{A:Option Addr}{n k:Nat}{f:α->List Value}{l:List α}(hk:∀x,(f x).length=k)(a:0<k)(h:Rd w A n k (l.flatMap f)):l.length=n:=by have:=h.1;rw[iw hk]at this;exact Nat.eq_of_mul_eq_mul_right a this
theorem yK (w:World) (b:Nat) (e:TypeId) (k:Nat):w.ownsRow b e k (.slice none 0 0) 0 []:=⟨by simp,.inl ⟨rfl,rfl⟩⟩
def Bk (w:World) (g:Nat) (t:TypeId) (cs:List Value):Prop:=w.heap[g]?=some (.cells cs.toArray t (0,0))
section
variable {w w' : World} {g : Nat} {t : TypeId} {cs : List Value}
theorem Bk.lt (h:Bk w g t cs):g<w.heap.size:=(Array.getElem?_eq_some_iff.1 h).1
theorem Bk.cell(h:Bk w g t cs)(j:Nat):w.cell? ⟨g,j,none⟩=cs[j]?:=by rw[cell_of_row w g j _ t (0,0) h];simp
theorem Bk.free(h:Bk w g t cs)(j:Nat):w.frozen? ⟨g,j,none⟩=false:=by unfold Bk at h;simp[World.frozen?,h]
theorem Bk.new (w:World) (t:TypeId) (cs:List Value):Bk (w.alloc (.cells cs.toArray t)) w.heap.size t cs:=heap_alloc_new w _
theorem Bk.at_ {j:Nat} {u:Value} (h:Bk w g t cs) (hu:cs[j]?=some u):w.cell? ⟨g,j,none⟩=some u:=by rw[h.cell,hu]
theorem Bk.fr (h:Bk w g t cs) (hf:Fr w w'):Bk w' g t cs:=(hf.block g h.lt).trans h
theorem Bk.al (h:Bk w g t cs) (o:Obj):Bk (w.alloc o) g t cs:=h.fr (Fr.al (Below.refl _ _) o)
theorem Bk.put(h:Bk w g t cs)(j:Nat)(u:Value):Bk (w.setCell ⟨g,j,none⟩ u) g t (cs.set j u):=by unfold Bk at h|-;simp[World.setCell,Array.getElem?_modify,h]
theorem Bk.grown {row:Option Nat} (h:Bk w g t cs) (hg:w.grownBy w' row) (a:some g≠row):Bk w' g t cs:=(hg.block g h.lt a).trans h
theorem Bk.far (h:Bk w g t cs) {b:Nat} (hb:g≠b) (j:Nat) (u:Value):Bk (w.setCell ⟨b,j,none⟩ u) g t cs:=(Below.heap_setCell w ⟨b,j,none⟩ u g hb).trans h
end
structure Gr (W:List Nat) (w w':World):Prop where
 os:w'.os=w.os
 tape:w'.tape=w.tape
 output:w'.output=w.output
 size:w.heap.size<=w'.heap.size
 block:∀k,k<w.heap.size->k∉W->w'.heap[k]?=w.heap[k]?
theorem Gr.of_fr {W:List Nat} {w w':World} (h:Fr w w'):Gr W w w':=⟨h.os,h.tape,h.output,h.size,fun k hk _=>h.block k hk⟩
theorem Gr.fr {w w':World} (h:Gr [] w w'):Fr w w':=⟨h.os,h.tape,h.output,h.size,fun k hk=>h.block k hk (by simp)⟩
theorem Gr.refl (W:List Nat) (w:World):Gr W w w:=.of_fr (Below.refl _ _)
theorem Gr.then {W:List Nat} {a b c:World} (h:Gr W a b) (k:Gr W b c):Gr W a c:=
 ⟨k.os.trans h.os,k.tape.trans h.tape,k.output.trans h.output,Nat.le_trans h.size k.size,fun i hi hn=>(k.block i (Nat.lt_of_lt_of_le hi h.size) hn).trans (h.block i hi hn)⟩
theorem Gr.thenV {W V:List Nat} {a b c:World} (h:Gr W a b) (k:Gr V b c) (hV:∀i∈V,a.heap.size<=i\/i∈W):Gr W a c:=
 ⟨k.os.trans h.os,k.tape.trans h.tape,k.output.trans h.output,Nat.le_trans h.size k.size,fun i hi hn=>(k.block i (Nat.lt_of_lt_of_le hi h.size) (fun hv=>by rcases hV i hv with h1|h1;omega;exact hn h1)).trans (h.block i hi hn)⟩
theorem Gr.of_grown {w w':World} {row:Option Nat} (h:w.grownBy w' row):Gr row.toList w w':=
 ⟨h.os,h.tape,h.output,h.size,fun k hk hn=>h.block k hk (by rintro rfl;simp at hn)⟩
theorem Gr.grown {w w':World} {row:Option Nat} (h:Gr row.toList w w'):w.grownBy w' row:=
 ⟨h.os,h.tape,h.output,h.size,fun k hk hn=>h.block k hk (by intro hm;simp at hm;exact hn hm.symm)⟩
theorem Gr.set (w:World) (g j:Nat) (u:Value):Gr [g] w (w.setCell ⟨g,j,none⟩ u):=
 ⟨rfl,rfl,rfl,by simp[World.setCell],fun k _ hn=>Below.heap_setCell w _ u k (by simpa using hn)⟩
theorem Gr.cell {W:List Nat} {w w':World} (h:Gr W w w') {p:Addr} (hp:p.block<w.heap.size) (hn:p.block∉W):w'.cell? p=w.cell? p:=World.cell?_of_block (w:=w) (h.block p.block hp hn)
structure iU where
 E:TypeId
 k:Nat
 v:Value
 n:Nat
 xs:List Value
def iU.ok (w:World) (r:iU):Prop:=w.ownsRow 0 r.E r.k r.v r.n r.xs
def iU.apart (a b:iU):Prop:=∀g,a.v.ownBlock=some g->b.v.ownBlock≠some g
theorem iU.apart_symm {a b:iU} (h:a.apart b):b.apart a:=fun g h1 h2=>h g h2 h1
inductive Ob where
 |row (E:TypeId) (k:Nat) (v:Value) (n:Nat) (xs:List Value)
 |blk (g:Nat) (t:TypeId) (cs:List Value)
 |many (rs:List iU)
def iU.ob (r:iU):Ob:=.row r.E r.k r.v r.n r.xs
def Ob.bid:Ob->Option Nat
 |.row _ _ v _ _=>v.ownBlock
 |.blk g _ _=>some g
 |.many _=>none
def Ob.has:Ob->Nat->Prop
 |.row _ _ v _ _,g=>v.ownBlock=some g
 |.blk g' _ _,g=>some g'=some g
 |.many rs,g=>∃r∈rs,r.v.ownBlock=some g
theorem Ob.has_bid{o:Ob}{g:Nat}(h:o.bid=some g):o.has g:=by cases o with|row=>{exact h}|blk=>{exact h}|many=>{simp[Ob.bid]at h}
def Ob.ok (w:World):Ob->Prop
 |.row E k v n xs=>w.ownsRow 0 E k v n xs
 |.blk g t cs=>Bk w g t cs
 |.many rs=>(∀r∈rs,r.ok w)/\rs.Pairwise iU.apart
def Ob.apart (a b:Ob):Prop:=∀g,a.has g->¬b.has g
theorem Ob.apart_symm {a b:Ob} (h:a.apart b):b.apart a:=fun g h1 h2=>h g h2 h1
theorem Ob.lt{w:World}{o:Ob}(h:o.ok w){g:Nat}(hg:o.has g):g<w.heap.size:=by cases o with|row E k v n xs=>{exact(World.ownsRow.lt h g hg).2}|blk g' t cs=>{simp only[Ob.has,Option.some.injEq]at hg;subst hg;exact Bk.lt h}|many rs=>{obtain⟨r,hr,hv⟩:=hg;exact(World.ownsRow.lt (h.1 r hr) g hv).2}
theorem re{W:List Nat}{w w':World}{E:TypeId}{k n:Nat}{v:Value}{xs:List Value}(h:w.ownsRow 0 E k v n xs)(g:Gr W w w')(hn:∀b,v.ownBlock=some b->b∉W):w'.ownsRow 0 E k v n xs:=by refine⟨h.1,?_⟩;rcases h.2 with h1|⟨b,a,cur,rfl,hb,hh,r⟩;{exact .inl h1};{exact .inr ⟨b,a,cur,rfl,hb,(g.block b (Array.getElem?_eq_some_iff.1 hh).1 (hn b rfl)).trans hh,r⟩}
theorem Ob.kept{W:List Nat}{w w':World}{o:Ob}(h:o.ok w)(g:Gr W w w')(hn:∀b,o.has b->b∉W):o.ok w':=by cases o with|row E k v n xs=>{exact re h g hn}|blk b t cs=>{exact(g.block b (Bk.lt h) (hn b rfl)).trans h}|many rs=>{exact⟨fun r hr=>re (h.1 r hr) g fun b hb=>hn b ⟨r,hr,hb⟩,h.2⟩}
theorem iV{α:Type}{R:α->α->Prop}(hs:∀{a b},R a b->R b a){l:List α}(h:l.Pairwise R){i j:Nat}{a b:α}(ha:l[i]?=some a)(hb:l[j]?=some b)(hij:i≠j):R a b:=by obtain⟨hi,rfl⟩:=mE ha;obtain⟨hj,rfl⟩:=mE hb;rw[List.pairwise_iff_getElem]at h;rcases Nat.lt_or_ge i j with h1|h1;{exact h i j hi hj h1};{exact hs (h j i hj hi (by omega))}
theorem g9 {α:Type} {R:α->α->Prop} (hs:∀{a b},R a b->R b a):∀{l:List α} {i:Nat} {a':α},l.Pairwise R->(∀j b,j≠i->l[j]?=some b->R a' b)->(l.set i a').Pairwise R
 | [],i,a',_,_=>by simp
 |x::t,0,a',h,k=>by
   rw[List.set_cons_zero,List.pairwise_cons];refine⟨fun b hb=>?_,(List.pairwise_cons.1 h).2⟩;obtain⟨j,hj⟩:=List.getElem?_of_mem hb;exact k (j+1) b (by omega) (by simpa using hj)
 |x::t,i+1,a',h,k=>by
   rw[List.set_cons_succ,List.pairwise_cons];refine⟨fun b hb=>?_,g9 hs (List.pairwise_cons.1 h).2 fun j b hj hb=>k (j+1) b (by omega) (by simpa using hb)⟩
   rcases List.mem_or_eq_of_mem_set hb with h1|rfl
   ·exact(List.pairwise_cons.1 h).1 b h1
   ·exact hs (k 0 x (by omega) (by simp))
structure Hp (W:List Nat) (w0 w:World) (l:List Ob):Prop where
 gr:Gr W w0 w
 ok:∀o∈l,o.ok w
 own:∀o∈l,∀g,o.has g->w0.heap.size<=g\/g∈W
 ap:l.Pairwise Ob.apart
section
variable {W : List Nat} {w0 w w' : World} {l : List Ob}
theorem Hp.start (w:World):Hp [] w w []:=⟨.refl _ _,by simp,by simp,by simp⟩
theorem Hp.start_row {b:Nat} {E:TypeId} {k n:Nat} {v:Value} {xs:List Value} (h:w.ownsRow b E k v n xs):Hp v.ownBlock.toList w w [.row E k v n xs]:=
 ⟨.refl _ _,by simp only[List.mem_singleton,forall_eq];exact rc h (Nat.zero_le _),by simp only[List.mem_singleton,forall_eq];intro g hg;right;simp only[Ob.has]at hg;simp[hg],by simp⟩
theorem Hp.start_blk {g:Nat} {t:TypeId} {cs:List Value} (h:Bk w g t cs):Hp [g] w w [.blk g t cs]:=
 ⟨.refl _ _,by simp only[List.mem_singleton,forall_eq];exact h,by simp only[List.mem_singleton,forall_eq];intro b hb;right;simp only[Ob.has,Option.some.injEq]at hb;simp[hb],by simp⟩
theorem Hp.fr (h:Hp [] w0 w l):Fr w0 w:=h.gr.fr
theorem Hp.size (h:Hp W w0 w l):w0.heap.size<=w.heap.size:=h.gr.size
theorem Hp.go (h:Hp W w0 w l) (f:Fr w w'):Hp W w0 w' l:=
 ⟨h.gr.then (.of_fr f),fun o ho=>Ob.kept (h.ok o ho) (Gr.of_fr (W:=[]) f) (by simp),h.own,h.ap⟩
theorem Hp.on (h:Hp W w0 w l) (n:Nat):Hp W w0 (w.drewN n) l:=h.go (Fr.drewN_ _ _)
theorem Hp.drew (h:Hp W w0 w l):Hp W w0 w.drew l:=h.go (Fr.drew_ _)
theorem Hp.al (h:Hp W w0 w l) (o:Obj):Hp W w0 (w.alloc o) l:=h.go (Fr.al (Below.refl _ _) o)
theorem Hp.join{l':List Ob}(h:Hp W w0 w l)(k:Hp [] w w' l'):Hp W w0 w' (l'++l):=by have h2:=h.go k.fr;refine⟨h2.gr,?_,?_,?_⟩;{intro o ho;rcases List.mem_append.1 ho with h1|h1;{exact k.ok o h1};{exact h2.ok o h1}};{intro o ho g hg;rcases List.mem_append.1 ho with h1|h1;{rcases k.own o h1 g hg with h3|h3;{exact .inl (Nat.le_trans h.size h3)};{simp at h3}};{exact h.own o h1 g hg}};{rw[List.pairwise_append];refine⟨k.ap,h.ap,fun a ha b hb g hg c=>?_⟩;have h3:=Ob.lt (h.ok b hb) c;rcases k.own a ha g hg with h4|h4;{omega};{simp at h4}}
theorem Hp.one {o:Ob} (f:Fr w w') (ho:o.ok w') (hb:∀g,o.has g->w.heap.size<=g):Hp [] w w' [o]:=
 ⟨.of_fr f,by simpa using ho,by simp only[List.mem_singleton,forall_eq];intro g hg;exact .inl (hb g hg),by simp⟩
theorem Hp.one_row {E:TypeId} {k n:Nat} {v:Value} {xs:List Value} (h:w'.ownsRow w.heap.size E k v n xs) (f:Fr w w'):Hp [] w w' [.row E k v n xs]:=
 Hp.one f (rc h (Nat.zero_le _)) fun g hg=>(h.lt g hg).1
theorem Hp.made {E:TypeId} {k n:Nat} {v:Value} {xs:List Value} (h:Hp W w0 w l) (k_:w'.ownsRow w.heap.size E k v n xs) (f:Fr w w'):Hp W w0 w' (.row E k v n xs::l):=h.join (.one_row k_ f)
theorem Hp.lay (h:Hp W w0 w l) (t:TypeId) (cs:List Value):Hp W w0 (w.alloc (.cells cs.toArray t)) (.blk w.heap.size t cs::l):=
 h.join (.one (o:=.blk w.heap.size t cs) (Fr.al (Below.refl _ _) (.cells cs.toArray t)) (Bk.new w t cs) fun g hg=>by simp only[Ob.has,Option.some.injEq]at hg;omega)
theorem Hp.lit (h:Hp W w0 w l) (E:TypeId) (k n:Nat) (cs:List Value) (hs:cs.length=n*k) (hn:n<=maxLen):Hp W w0 (w.alloc (.cells cs.toArray E)) (.row E k (.slice (some ⟨w.heap.size,0,none⟩) n n) n cs::l):=
 h.made (by simpa using World.ownsRow_lit w cs.toArray n (Nat.le_refl _) hn (by simpa using hs)) (Fr.al (Below.refl _ _) _)
theorem Hp.lit0 (h:Hp W w0 w l) (E:TypeId) (k:Nat):Hp W w0 (w.alloc (.cells #[] E)) (.row E k (.slice (some ⟨w.heap.size,0,none⟩) 0 0) 0 []::l):=h.lit E k 0 [] (by simp) (Nat.zero_le _)
theorem Hp.nil_ (h:Hp W w0 w l) (E:TypeId) (k:Nat):Hp W w0 w (.row E k (.slice none 0 0) 0 []::l):=h.made (yK _ _ _ _) (Below.refl _ _)
theorem Hp.recast {l':List Ob} (h:Hp W w0 w l) (e:l=l'):Hp W w0 w l':=e▸h
theorem Hp.sub {l':List Ob} (h:Hp W w0 w l) (hs:l'.Sublist l):Hp W w0 w l':=
 ⟨h.gr,fun o ho=>h.ok o (hs.subset ho),fun o ho=>h.own o (hs.subset ho),h.ap.sublist hs⟩
theorem Hp.tail {o:Ob} (h:Hp W w0 w (o::l)):Hp W w0 w l:=h.sub (List.sublist_cons_self _ _)
theorem Hp.tail2 {o p:Ob} (h:Hp W w0 w (o::p::l)):Hp W w0 w l:=h.tail.tail
theorem Hp.swap{o p:Ob}(h:Hp W w0 w (o::p::l)):Hp W w0 w (p::o::l):=by refine⟨h.gr,fun x hx=>h.ok x (by simp at hx|-;rcases hx with h1|h1|h1<;>simp[h1]),fun x hx=>h.own x (by simp at hx|-;rcases hx with h1|h1|h1<;>simp[h1]),?_⟩;have:=h.ap;simp only[List.pairwise_cons,List.mem_cons,forall_eq_or_imp]at this|-;exact⟨⟨Ob.apart_symm this.1.1,this.2.1⟩,this.1.2,this.2.2⟩
theorem Hp.drop1 {o p:Ob} (h:Hp W w0 w (o::p::l)):Hp W w0 w (o::l):=h.swap.tail
theorem Hp.perm {l':List Ob} (h:Hp W w0 w l) (hp:l.Perm l'):Hp W w0 w l':=
 ⟨h.gr,fun o ho=>h.ok o (hp.mem_iff.2 ho),fun o ho=>h.own o (hp.mem_iff.2 ho),(hp.pairwise_iff Ob.apart_symm).1 h.ap⟩
theorem Hp.turnG{o o':Ob}{V:List Nat}(h:Hp W w0 w l)(i:Nat)(hi:l[i]?=some o)(g:Gr V w w')(f:∀b∈V,o.has b)(ho:o'.ok w')(hb:∀b,o'.has b->o.has b\/w.heap.size<=b):Hp W w0 w' (l.set i o'):=by have a:=mD hi;have hV:∀b∈V,w0.heap.size<=b\/b∈W:=fun b hb=>h.own o a b (f b hb);refine⟨h.gr.thenV g hV,?_,?_,?_⟩;{intro x hx;obtain⟨j,hj⟩:=List.getElem?_of_mem hx;by_cases d:i=j;{subst d;rw[List.getElem?_set_self (mE hi).1]at hj;injection hj with hj;subst hj;exact ho};{rw[List.getElem?_set_ne d]at hj;refine Ob.kept (h.ok x (mD hj)) g fun b hb p=>?_;exact iV Ob.apart_symm h.ap hi hj d b (f b p) hb}};{intro x hx b n;rcases List.mem_or_eq_of_mem_set hx with h1|rfl;{exact h.own x h1 b n};{rcases hb b n with h2|h2;{exact h.own o a b h2};{exact .inl (Nat.le_trans h.size h2)}}};{refine g9 Ob.apart_symm h.ap fun j b hj m c hc k=>?_;rcases hb c hc with h2|h2;{exact iV Ob.apart_symm h.ap hi m (fun e=>hj e.symm) c h2 k};{have h3:=Ob.lt (h.ok b (mD m)) k;omega}}
theorem Hp.turn {o o':Ob} (h:Hp W w0 w l) (i:Nat) (hi:l[i]?=some o) (g:Gr o.bid.toList w w') (ho:o'.ok w') (hb:∀b,o'.has b->o.has b\/w.heap.size<=b):Hp W w0 w' (l.set i o'):=
 h.turnG i hi g (fun b hb=>Ob.has_bid (by simpa using hb)) ho hb
theorem Hp.turnRow {E E':TypeId} {k k' n n':Nat} {v v':Value} {xs a:List Value} (h:Hp W w0 w l) (i:Nat) (hi:l[i]?=some (.row E k v n xs)) (g:Gr v.ownBlock.toList w w') (ho:w'.ownsRow 0 E' k' v' n' a)
 (hb:v'.ownBlock=v.ownBlock\/∀b,v'.ownBlock=some b->w.heap.size<=b):Hp W w0 w' (l.set i (.row E' k' v' n' a)):=
 h.turn i hi g ho fun b hv=>hb.elim (fun e=>.inl (e.symm.trans hv)) fun e=>.inr (e b hv)
theorem Hp.unfold{rs:List iU}(h:Hp W w0 w (.many rs::l)):Hp W w0 w (rs.map iU.ob++l):=by have hm:=h.ok _ (List.mem_cons_self);have hp:=List.pairwise_cons.1 h.ap;refine⟨h.gr,?_,?_,?_⟩;{intro o ho;rcases List.mem_append.1 ho with h1|h1;{obtain⟨r,hr,rfl⟩:=List.mem_map.1 h1;exact hm.1 r hr};{exact h.ok o (List.mem_cons_of_mem _ h1)}};{intro o ho g hg;rcases List.mem_append.1 ho with h1|h1;{obtain⟨r,hr,rfl⟩:=List.mem_map.1 h1;exact h.own _ List.mem_cons_self g ⟨r,hr,hg⟩};{exact h.own o (List.mem_cons_of_mem _ h1) g hg}};{rw[List.pairwise_append];refine⟨List.pairwise_map.2 (hm.2.imp fun h=>h),hp.2,fun a ha b hb g hg=>?_⟩;obtain⟨r,hr,rfl⟩:=List.mem_map.1 ha;exact hp.1 b hb g ⟨r,hr,hg⟩}
theorem Hp.fold{rs:List iU}(h:Hp W w0 w (rs.map iU.ob++l)):Hp W w0 w (.many rs::l):=by have hp:=List.pairwise_append.1 h.ap;refine⟨h.gr,?_,?_,List.pairwise_cons.2 ⟨fun b hb g hg=>?_,hp.2.1⟩⟩;{intro o ho;rcases List.mem_cons.1 ho with rfl|h1;{exact⟨fun r hr=>h.ok r.ob (List.mem_append_left _ (List.mem_map_of_mem hr)),(List.pairwise_map.1 hp.1).imp fun h=>h⟩};{exact h.ok o (List.mem_append_right _ h1)}};{intro o ho g hg;rcases List.mem_cons.1 ho with rfl|h1;{obtain⟨r,hr,hv⟩:=hg;exact h.own r.ob (List.mem_append_left _ (List.mem_map_of_mem hr)) g hv};{exact h.own o (List.mem_append_right _ h1) g hg}};{obtain⟨r,hr,hv⟩:=hg;exact hp.2.2 r.ob (List.mem_map_of_mem hr) b hb g hv}
def iU.blocks (rs:List iU):List Nat:=rs.filterMap fun r=>r.v.ownBlock
theorem iU.mem_blocks {rs:List iU} {b:Nat}:b∈iU.blocks rs↔∃r∈rs,r.v.ownBlock=some b:=by simp[iU.blocks]
theorem Hp.start_many {rs:List iU} (h:Ob.ok w (.many rs)):Hp (iU.blocks rs) w w [.many rs]:=
 ⟨.refl _ _,by simpa using h,by simp only[List.mem_singleton,forall_eq];intro g hg;exact .inr (iU.mem_blocks.2 hg),by simp⟩
theorem Hp.turnMany {rs a:List iU} (h:Hp W w0 w l) (i:Nat) (hi:l[i]?=some (.many rs)) (k:Hp (iU.blocks rs) w w' [.many a]):Hp W w0 w' (l.set i (.many a)):=
 h.turnG i hi k.gr (fun _ hb=>iU.mem_blocks.1 hb) (k.ok _ List.mem_cons_self) fun b hb=>(k.own _ List.mem_cons_self b hb).elim .inr fun h1=>.inl (iU.mem_blocks.1 h1)
section
variable {E : TypeId} {k n c g : Nat} {A : Option Addr} {v : Value} {xs : List Value}
theorem Hp.row (h:Hp W w0 w l) (i:Nat) (hi:l[i]?=some (.row E k v n xs)):w.ownsRow 0 E k v n xs:=h.ok _ (mD hi)
theorem Hp.blk {t:TypeId} {cs:List Value} (h:Hp W w0 w l) (i:Nat) (hi:l[i]?=some (.blk g t cs)):Bk w g t cs:=h.ok _ (mD hi)
theorem Hp.len (h:Hp W w0 w l) (i:Nat) (hi:l[i]?=some (.row E k v n xs)):xs.length=n*k:=(h.row i hi).1
theorem Hp.shape (h:Hp W w0 w l) (i:Nat) (hi:l[i]?=some (.row E k v n xs)):∃A c,v=.slice A n c:=tg (h.row i hi)
theorem Hp.form(h:Hp W w0 w l)(i:Nat)(hi:l[i]?=some (.row E k v n xs))(hn:0<n):∃g c,v=.slice (some ⟨g,0,none⟩) n c/\g<w.heap.size:=by obtain⟨A,c,rfl⟩:=h.shape i hi;obtain⟨g,rfl,_,h2⟩:=oY (h.row i hi) hn;exact⟨g,c,rfl,h2⟩
theorem Hp.rd (h:Hp W w0 w l) (i:Nat) (hi:l[i]?=some (.row E k (.slice A n c) n xs)):Rd w A n k xs:=Rd.of_own (h.row i hi)
theorem Hp.at_(h:Hp W w0 w l)(i:Nat)(hi:l[i]?=some (.row E k (.slice (some ⟨g,0,none⟩) n c) n xs)){j:Nat}{u:Value}(hu:xs[j]?=some u):w.cell? ⟨g,j,none⟩=some u:=by have hj:=(mE hu).1;rw[(h.row i hi).cellAt j (by rw[<-h.len i hi];exact hj),hu]
theorem Hp.free (h:Hp W w0 w l) (i:Nat) (hi:l[i]?=some (.row E k (.slice (some ⟨g,0,none⟩) n c) n xs)) (j:Nat):w.frozen? ⟨g,j,none⟩=false:=(h.row i hi).frozenAt j
theorem Hp.lt (h:Hp W w0 w l) (i:Nat) {o:Ob} (hi:l[i]?=some o) (hg:o.has g):g<w.heap.size:=Ob.lt (h.ok _ (mD hi)) hg
theorem Hp.put(h:Hp W w0 w l)(i:Nat)(hi:l[i]?=some (.row E k (.slice (some ⟨g,0,none⟩) n c) n xs))(j:Nat)(u:Value):Hp W w0 (w.setCell ⟨g,j,none⟩ u) (l.set i (.row E k (.slice (some ⟨g,0,none⟩) n c) n (xs.set j u))):=by have hs:=(h.row i hi).stored j u;exact h.turnRow i hi (Gr.set w g j u) hs.1 (.inl rfl)
theorem Hp.bat {t:TypeId} {cs:List Value} (h:Hp W w0 w l) (i:Nat) (hi:l[i]?=some (.blk g t cs)) {j:Nat} {u:Value} (hu:cs[j]?=some u):w.cell? ⟨g,j,none⟩=some u:=(h.blk i hi).at_ hu
theorem Hp.fa {t:TypeId} {cs:List Value} (h:Hp W w0 w l) (i j:Nat) (hi:l[i]?=some (.blk g t cs)) {u:Value} (hu:cs[j]?=some u):w.cell? ⟨g,j,none⟩=some u:=h.bat i hi hu
theorem Hp.f2{t:TypeId}{v0 v1:Value}{cs:List Value}(h:Hp W w0 w l)(i:Nat)(hi:l[i]?=some (.blk g t (v0::v1::cs))):w.cell? ⟨g,0,none⟩=some v0/\w.cell? ⟨g,1,none⟩=some v1:=⟨h.fa i 0 hi rfl,h.fa i 1 hi rfl⟩
theorem Hp.f3{t:TypeId}{v0 v1 v2:Value}{cs:List Value}(h:Hp W w0 w l)(i:Nat)(hi:l[i]?=some (.blk g t (v0::v1::v2::cs))):w.cell? ⟨g,0,none⟩=some v0/\w.cell? ⟨g,1,none⟩=some v1/\w.cell? ⟨g,2,none⟩=some v2:=⟨h.fa i 0 hi rfl,h.fa i 1 hi rfl,h.fa i 2 hi rfl⟩
theorem Hp.f4{t:TypeId}{v0 v1 v2 v3:Value}{cs:List Value}(h:Hp W w0 w l)(i:Nat)(hi:l[i]?=some (.blk g t (v0::v1::v2::v3::cs))):w.cell? ⟨g,0,none⟩=some v0/\w.cell? ⟨g,1,none⟩=some v1/\w.cell? ⟨g,2,none⟩=some v2/\w.cell? ⟨g,3,none⟩=some v3:=⟨h.fa i 0 hi rfl,h.fa i 1 hi rfl,h.fa i 2 hi rfl,h.fa i 3 hi rfl⟩
theorem Hp.f5{t:TypeId}{v0 v1 v2 v3 v4:Value}{cs:List Value}(h:Hp W w0 w l)(i:Nat)(hi:l[i]?=some (.blk g t (v0::v1::v2::v3::v4::cs))):w.cell? ⟨g,0,none⟩=some v0/\w.cell? ⟨g,1,none⟩=some v1/\w.cell? ⟨g,2,none⟩=some v2/\w.cell? ⟨g,3,none⟩=some v3/\w.cell? ⟨g,4,none⟩=some v4:=⟨h.fa i 0 hi rfl,h.fa i 1 hi rfl,h.fa i 2 hi rfl,h.fa i 3 hi rfl,h.fa i 4 hi rfl⟩
theorem Hp.f6{t:TypeId}{v0 v1 v2 v3 v4 v5:Value}{cs:List Value}(h:Hp W w0 w l)(i:Nat)(hi:l[i]?=some (.blk g t (v0::v1::v2::v3::v4::v5::cs))):w.cell? ⟨g,0,none⟩=some v0/\w.cell? ⟨g,1,none⟩=some v1/\w.cell? ⟨g,2,none⟩=some v2/\w.cell? ⟨g,3,none⟩=some v3/\w.cell? ⟨g,4,none⟩=some v4/\w.cell? ⟨g,5,none⟩=some v5:=⟨h.fa i 0 hi rfl,h.fa i 1 hi rfl,h.fa i 2 hi rfl,h.fa i 3 hi rfl,h.fa i 4 hi rfl,h.fa i 5 hi rfl⟩
theorem Hp.f13{t:TypeId}{v0 v1 v2 v3 v4 v5 v6 v7 v8 v9 a b c:Value}{cs:List Value}(h:Hp W w0 w l)(i:Nat)(hi:l[i]?=some (.blk g t (v0::v1::v2::v3::v4::v5::v6::v7::v8::v9::a::b::c::cs))):w.cell? ⟨g,0,none⟩=some v0/\w.cell? ⟨g,1,none⟩=some v1/\w.cell? ⟨g,2,none⟩=some v2/\w.cell? ⟨g,3,none⟩=some v3/\w.cell? ⟨g,4,none⟩=some v4/\w.cell? ⟨g,5,none⟩=some v5/\w.cell? ⟨g,6,none⟩=some v6/\w.cell? ⟨g,7,none⟩=some v7/\w.cell? ⟨g,8,none⟩=some v8/\w.cell? ⟨g,9,none⟩=some v9/\w.cell? ⟨g,10,none⟩=some a/\w.cell? ⟨g,11,none⟩=some b/\w.cell? ⟨g,12,none⟩=some c:=⟨h.fa i 0 hi rfl,h.fa i 1 hi rfl,h.fa i 2 hi rfl,h.fa i 3 hi rfl,h.fa i 4 hi rfl,h.fa i 5 hi rfl,h.fa i 6 hi rfl,h.fa i 7 hi rfl,h.fa i 8 hi rfl,h.fa i 9 hi rfl,h.fa i 10 hi rfl,h.fa i 11 hi rfl,h.fa i 12 hi rfl⟩
theorem Hp.bfree {t:TypeId} {cs:List Value} (h:Hp W w0 w l) (i:Nat) (hi:l[i]?=some (.blk g t cs)) (j:Nat):w.frozen? ⟨g,j,none⟩=false:=(h.blk i hi).free j
theorem Hp.bput {t:TypeId} {cs:List Value} (h:Hp W w0 w l) (i:Nat) (hi:l[i]?=some (.blk g t cs)) (j:Nat) (u:Value):Hp W w0 (w.setCell ⟨g,j,none⟩ u) (l.set i (.blk g t (cs.set j u))):=
 h.turn i hi (Gr.set w g j u) ((h.blk i hi).put j u) (fun _ h=>.inl h)
theorem Hp.grow {v':Value} {n':Nat} {a:List Value} {b:Nat} (h:Hp W w0 w l) (i:Nat) (hi:l[i]?=some (.row E k v n xs)) (hg:w.grownBy w' v.ownBlock) (ho:w'.ownsRow b E k v' n' a)
 (ha:v'.ownBlock=v.ownBlock\/∀g,v'.ownBlock=some g->w.heap.size<=g):Hp W w0 w' (l.set i (.row E k v' n' a)):=
 h.turnRow i hi (Gr.of_grown hg) (rc ho (Nat.zero_le _)) ha
theorem Hp.out(h:Hp [] w0 w l)(i:Nat)(hi:l[i]?=some (.row E k v n xs)):w.ownsRow w0.heap.size E k v n xs:=by have h1:=h.row i hi;refine⟨h1.1,?_⟩;rcases h1.2 with h2|⟨g,a,cur,rfl,_,r⟩;{exact .inl h2};{refine .inr ⟨g,a,cur,rfl,?_,r⟩;rcases h.own _ (mD hi) g rfl with h3|h3;{exact h3};{simp at h3}}
theorem Hp.toMade (h:Hp [] w0 w l) (i:Nat) (hi:l[i]?=some (.row E k (.slice A n c) n xs)):mX w0 E k n xs (.returned (.slice A n c)) w:=⟨A,c,rfl,h.out i hi,h.fr⟩
theorem Hp.old (h:Hp [] w0 w l) (hr:Rd w0 A n k xs):Rd w A n k xs:=hr.fr h.fr
theorem Hp.oldW(h:Hp W w0 w l)(hr:Rd w0 A n k xs)(hA:∀ad,A=some ad->ad.block∉W):Rd w A n k xs:=by refine⟨hr.1,fun hn=>?_⟩;obtain⟨b,o,rfl,hc⟩:=hr.2 hn;refine⟨b,o,rfl,fun j u hu=>?_⟩;have a:=hc j u hu;rw[h.gr.cell (World.block_lt_of_cell? w0 _ a) (hA ⟨b,o,none⟩ rfl)];exact a
end
def At {α:Type} (l:List α) (k:Nat) (x:α):Prop:=l[k]?=some x
theorem dV {α:Type} {l:List α} {n k:Nat} (hl:l.length=n) (h:k<n):∃x,At l k x:=cM hl h
theorem At.lt {α:Type} {l:List α} {k:Nat} {x:α} (h:At l k x):k<l.length:=(mE h).1
theorem At.mem {α:Type} {l:List α} {k:Nat} {x:α} (h:At l k x):x∈l:=mD h
theorem At.take {α:Type} {l:List α} {k:Nat} {x:α} (h:At l k x):l.take (k+1)=l.take k++[x]:=by rw[List.take_add_one,h];rfl
theorem vj {α:Type} {f:α->List Value} {k:Nat} (hk:∀x,(f x).length=k):∀{l:List α} {i r:Nat} {x x':α} {u:Value},l[i]?=some x->r<k->f x'=(f x).set r u->(l.flatMap f).set (i*k+r) u=(l.set i x').flatMap f
 | [],i,r,x,x',u,h,_,_=>by simp at h
 |y::l,0,r,x,x',u,h,hr,hf=>by
   simp at h;subst h;rw[List.flatMap_cons,Nat.zero_mul,Nat.zero_add,List.set_append,if_pos (by rw[hk];exact hr),List.set_cons_zero,List.flatMap_cons,hf]
 |y::l,i+1,r,x,x',u,h,hr,hf=>by
   rw[List.flatMap_cons,List.set_append,if_neg (by rw[hk,Nat.add_mul];omega),hk,show(i+1)*k+r-k=i*k+r from by rw[Nat.add_mul];omega,vj hk (by simpa using h) hr hf,List.set_cons_succ,List.flatMap_cons]
section
variable {α : Type} {f : α → List Value} {f1 : α → Value} {E : TypeId} {k n c g : Nat} {L : List α}
theorem Hp.atL (h:Hp W w0 w l) (i:Nat) (hi:l[i]?=some (.row E k (.slice (some ⟨g,0,none⟩) n c) n (L.flatMap f))) (hk:∀x,(f x).length=k) {j r:Nat} {x:α} {u:Value} (hx:L[j]?=some x) (hu:(f x)[r]?=some u):w.cell? ⟨g,j*k+r,none⟩=some u:=
 h.at_ i hi (oX hk hx hu)
theorem Hp.atM (h:Hp W w0 w l) (i:Nat) (hi:l[i]?=some (.row E 1 (.slice (some ⟨g,0,none⟩) n c) n (L.map f1))) {j:Nat} {x:α} (hx:L[j]?=some x):w.cell? ⟨g,j,none⟩=some (f1 x):=
 h.at_ i hi (by simp[hx])
theorem Hp.putL(h:Hp W w0 w l)(i:Nat)(hi:l[i]?=some (.row E k (.slice (some ⟨g,0,none⟩) n c) n (L.flatMap f)))(hk:∀x,(f x).length=k)(j r:Nat){x:α}(x':α)(u:Value)(hx:L[j]?=some x)(hr:r<k)(hf:f x'=(f x).set r u):Hp W w0 (w.setCell ⟨g,j*k+r,none⟩ u) (l.set i (.row E k (.slice (some ⟨g,0,none⟩) n c) n ((L.set j x').flatMap f))):=by have h1:=h.put i hi (j*k+r) u;rwa [vj hk hx hr hf]at h1
theorem Hp.putM(h:Hp W w0 w l)(i:Nat)(hi:l[i]?=some (.row E 1 (.slice (some ⟨g,0,none⟩) n c) n (L.map f1)))(j:Nat)(x':α):Hp W w0 (w.setCell ⟨g,j,none⟩ (f1 x')) (l.set i (.row E 1 (.slice (some ⟨g,0,none⟩) n c) n ((L.set j x').map f1))):=by have h1:=h.put i hi j (f1 x');rwa [<-List.map_set]at h1
end
section
variable {P : Program} {ops : Array Oper} {rest : List Oper} {o : Oper} {a : Act} {Q : Exit → Act → World → Prop} {E : TypeId} {z : Value} {k bytes : Nat}
theorem Ba(H:Hp W w0 w l)(y:o.guard=none)(s x:Operand)(t:TypeId)(ho:o.op=.call {callee:=.builtin .append,args:=#[s,x],argTypes:=#[t,t]})(ht:P.underlying t=some (.slice E))(hI:(P.info? E).map (fun i=>(i.zero,i.size,i.bytes))=some (some z,k,bytes))(B:z.cells.size=k)(A:0<k)(i:Nat)(v:Value)(n:Nat)(xs:List Value)(d:l[i]?=some (.row E k v n xs))(hs:a.eval s=v)(ad:Addr)(m c:Nat)(ys:List Value)(hx:a.eval x=.slice (some ad) m c)(hl:ys.length=m*k)(f:∀j u,ys[j]?=some u->w.cell? (ad.add j)=some u)(h1:∀u∈ys,u.oneCell'=true)(q:n+m<=maxLen)(b:(n+m)*bytes<=140737488355328)(h:∀v' w',Hp W w0 w' (l.set i (.row E k v' (n+m) (xs++ys)))->wpList P ops Q rest (a.put o.dst v') w'):wpList P ops Q (o::rest) a w:=by obtain⟨C,hi,hz,p,r⟩:=info_parts hI;exact wpList_append_own_at w y s x t ho 0 E C z k bytes ht hi hz p r B A v n xs hs (H.row i d) ad m c ys hx hl f h1 q b (Nat.zero_le _) fun v' w' h2 h3 _ h5=>h v' w' (H.grow i d h3 h2 (h5.imp id fun e g hg=>by rw[e]at hg;injection hg with hg;omega))
theorem jV(H:Hp W w0 w l)(f:o.guard=none)(s x:Operand)(t:TypeId)(ho:o.op=.call {callee:=.builtin .append,args:=#[s,x],argTypes:=#[t,t]})(ht:P.underlying t=some (.slice E))(hI:(P.info? E).map (fun i=>(i.zero,i.size,i.bytes))=some (some z,k,bytes))(p:z.cells.size=k)(j:0<k)(i:Nat)(v:Value)(n:Nat)(xs:List Value)(d:l[i]?=some (.row E k v n xs))(hs:a.eval s=v)(g m c:Nat)(T:TypeId)(ys:List Value)(hx:a.eval x=.slice (some ⟨g,0,none⟩) m c)(hg:g=w.heap.size)(hl:ys.length=m*k)(h1:∀u∈ys,u.oneCell'=true)(e:n+m<=maxLen)(b:(n+m)*bytes<=140737488355328)(h:∀v' w',Hp W w0 w' (l.set i (.row E k v' (n+m) (xs++ys)))->wpList P ops Q rest (a.put o.dst v') w'):wpList P ops Q (o::rest) a (w.alloc (.cells ys.toArray T)):=by subst hg;exact Ba (H.al (.cells ys.toArray T)) f s x t ho ht hI p j i v n xs d hs ⟨w.heap.size,0,none⟩ m c ys hx hl (by simpa using yI w ys.toArray T) h1 e b h
theorem eR{α:Type}{f:α->List Value}(H:Hp W w0 w l)(e:o.guard=none)(s x:Operand)(t:TypeId)(ho:o.op=.call {callee:=.builtin .append,args:=#[s,x],argTypes:=#[t,t]})(ht:P.underlying t=some (.slice E))(hI:(P.info? E).map (fun i=>(i.zero,i.size,i.bytes))=some (some z,k,bytes))(m:z.cells.size=k)(j:0<k)(i:Nat)(v:Value)(L:List α)(c:l[i]?=some (.row E k v L.length (L.flatMap f)))(hs:a.eval s=v)(g:Nat)(T:TypeId)(y:α)(hx:a.eval x=.slice (some ⟨g,0,none⟩) 1 1)(hg:g=w.heap.size)(hl:(f y).length=k)(h1:∀u∈f y,u.oneCell'=true)(d:L.length+1<=maxLen)(b:(L.length+1)*bytes<=140737488355328)(h:∀v' w',Hp W w0 w' (l.set i (.row E k v' (L++[y]).length ((L++[y]).flatMap f)))->wpList P ops Q rest (a.put o.dst v') w'):wpList P ops Q (o::rest) a (w.alloc (.cells (f y).toArray T)):=by refine jV H e s x t ho ht hI m j i v _ _ c hs g 1 1 T (f y) hx hg (by omega) h1 d b fun v' w' h'=>h v' w' ?_;rwa [List.length_append,List.length_singleton,List.flatMap_append,List.flatMap_singleton]
theorem eF{α:Type}{f:α->Value}(H:Hp W w0 w l)(e:o.guard=none)(s x:Operand)(t:TypeId)(ho:o.op=.call {callee:=.builtin .append,args:=#[s,x],argTypes:=#[t,t]})(ht:P.underlying t=some (.slice E))(hI:(P.info? E).map (fun i=>(i.zero,i.size,i.bytes))=some (some z,1,bytes))(j:z.cells.size=1)(i:Nat)(v:Value)(L:List α)(c:l[i]?=some (.row E 1 v L.length (L.map f)))(hs:a.eval s=v)(g:Nat)(T:TypeId)(y:α)(hx:a.eval x=.slice (some ⟨g,0,none⟩) 1 1)(hg:g=w.heap.size)(h1:(f y).oneCell'=true)(d:L.length+1<=maxLen)(b:(L.length+1)*bytes<=140737488355328)(h:∀v' w',Hp W w0 w' (l.set i (.row E 1 v' (L++[y]).length ((L++[y]).map f)))->wpList P ops Q rest (a.put o.dst v') w'):wpList P ops Q (o::rest) a (w.alloc (.cells #[f y] T)):=by refine jV H e s x t ho ht hI j Nat.one_pos i v _ _ c hs g 1 1 T [f y] hx hg (by simp) (by simpa using h1) d b fun v' w' h'=>h v' w' ?_;rwa [List.length_append,List.length_singleton,List.map_append,List.map_singleton]
theorem gu(H:Hp W w0 w l)(q:o.guard=none)(s x:Operand)(t:TypeId)(ho:o.op=.call {callee:=.builtin .append,args:=#[s,x],argTypes:=#[t,t]})(ht:P.underlying t=some (.slice E))(hI:(P.info? E).map (fun i=>(i.zero,i.size,i.bytes))=some (some z,k,bytes))(D:z.cells.size=k)(B:0<k)(i:Nat)(v:Value)(n:Nat)(xs:List Value)(d:l[i]?=some (.row E k v n xs))(hs:a.eval s=v)(A:Option Addr)(m c:Nat)(ys:List Value)(hx:a.eval x=.slice A m c)(hc:A=none->c=0)(g:Rd w A m k ys)(h1:∀u∈ys,u.oneCell'=true)(r:n+m<=maxLen)(f:(n+m)*bytes<=140737488355328)(h:∀v' w',Hp W w0 w' (l.set i (.row E k v' (n+m) (xs++ys)))->wpList P ops Q rest (a.put o.dst v') w'):wpList P ops Q (o::rest) a w:=by cases A with|none=>{have hm:m=0:=by{rcases Nat.eq_zero_or_pos m with h0|h0;{exact h0};{obtain⟨b,o,e,_⟩:=g.2 h0;cases e}};subst hm;obtain rfl:=hc rfl;have C:ys=[]:=List.eq_nil_of_length_eq_zero (by simpa using g.1);subst C;obtain⟨F,hi,hz,y,hby⟩:=info_parts hI;refine wpList_append_own_none q s x t ho 0 E F k ht hi v n xs hs (H.row i d) hx (h v w ?_);have h2:=H.turnRow i d (Gr.refl _ w) (H.row i d) (.inl rfl);simpa using h2}|some ad=>{refine Ba H q s x t ho ht hI D B i v n xs d hs ad m c ys hx g.1 (fun j u hu=>?_) h1 r f h;obtain⟨b,o,e,p⟩:=g.get hu;injection e with e;subst e;rw[Addr.add_lit];exact p}
theorem Bb(H:Hp W w0 w l)(hg:o.guard=none)(x c:Operand)(t:TypeId)(f:o.op=Op.makeSlice t x c)(ht:P.underlying t=some (.slice E))(hI:(P.info? E).map (fun i=>(i.zero,i.size,i.bytes))=some (some z,k,bytes))(g:z.cells=#[z])(hk:k=1)(n:Nat)(kl kc:IntKind)(I C:Int)(hl:a.eval x=.int kl I)(hc:a.eval c=.int kc C)(d:I=(n:Int))(hC:C=(n:Int))(b2:bytes*n<=281474976710656)(b3:n<=maxLen)(h:∀w',Hp W w0 w' (.row E 1 (.slice (some ⟨w.heap.size,0,none⟩) n n) n (List.replicate n z)::l)->wpList P ops Q rest (a.put o.dst (.slice (some ⟨w.heap.size,0,none⟩) n n)) w'):wpList P ops Q (o::rest) a w:=by obtain⟨j,hi,hz,b,e⟩:=info_parts hI;subst hk;refine wpList_make_full w hg x c t f w.heap.size E j z 1 ht hi hz b kl kc I C n hl hc d hC (by rw[e];exact b2) b3 (Nat.le_refl _) fun w' h1 h2=>h w' ?_;rw[g,Nat.mul_one,toList_madeCells_one]at h1;exact H.made h1 (Fr.of_grown h2)
end
end
def Bc (w:World) (E0:TypeId) (k0 n0:Nat) (a:List Value) (E1:TypeId) (k1 n1:Nat) (b:List Value) (e:Ending) (w':World):Prop:=
 ∃A0 c0 A1 c1,e=.returned (.tuple #[.slice A0 n0 c0,.slice A1 n1 c1])/\Hp [] w w' [.row E0 k0 (.slice A0 n0 c0) n0 a,.row E1 k1 (.slice A1 n1 c1) n1 b]
def En (w:World) (E0:TypeId) (k0 n0:Nat) (a:List Value) (E1:TypeId) (k1 n1:Nat) (b:List Value) (e:Ending) (w':World):Prop:=
 ∃A0 c0 A1 c1,e=.returned (.tuple #[.slice A0 n0 c0,.slice A1 n1 c1])/\w'.ownsRow w.heap.size E0 k0 (.slice A0 n0 c0) n0 a/\w'.ownsRow w.heap.size E1 k1 (.slice A1 n1 c1) n1 b/\Fr w w'
theorem Bc.made{w w':World}{E0 E1:TypeId}{k0 n0 k1 n1:Nat}{a b:List Value}{e:Ending}(h:Bc w E0 k0 n0 a E1 k1 n1 b e w'):En w E0 k0 n0 a E1 k1 n1 b e w':=by obtain⟨A0,c0,A1,c1,rfl,H⟩:=h;exact⟨A0,c0,A1,c1,rfl,H.out 0 rfl,H.out 1 rfl,H.fr⟩
def kr (b:UInt8):Value:=.int .u8 b.toNat
theorem fh:(Tryz.prog.info? 3).map (fun i=>(i.zero,i.size,i.bytes))=some (some (.int .i64 0),1,8):=by kernel_rfl
theorem vl:(Tryz.prog.info? 4).map (fun i=>(i.zero,i.size,i.bytes))=some (some (.bool false),1,1):=by kernel_rfl
theorem eO:(Tryz.prog.info? 9).map (fun i=>(i.zero,i.size,i.bytes))=some (some (.string ⟨#[]⟩),1,16):=by kernel_rfl
theorem jH:(Tryz.prog.info? 5).map (fun i=>(i.zero,i.size,i.bytes))=some (some (.int .u8 0),1,1):=by kernel_rfl
def dx (l:List UInt8):ByteArray:=⟨l.toArray⟩
def cO (s:ByteArray):List UInt8:=s.data.toList
theorem dG (l:List UInt8):cO (dx l)=l:=by simp[cO,dx]
theorem fK (s:ByteArray):dx (cO s)=s:=by simp[cO,dx]
theorem df (s:ByteArray):(cO s).length=s.size:=by simp[cO]
theorem dy (l:List UInt8):(dx l).size=l.length:=by simp[dx,ByteArray.size]
theorem uw {l l':List UInt8} (h:dx l=dx l'):l=l':=by rw[<-dG l,<-dG l',h]
theorem j7 (s:ByteArray):s.toList=cO s:=by simp[ByteArray.toList_eq,cO]
theorem zx(s t:ByteArray):(s.toList == t.toList)=decide (cO s=cO t):=by rw[j7,j7,Bool.eq_iff_iff];simp
theorem j8(s:ByteArray)(k m:Nat):cO (s.extract k m)=((cO s).drop k).take (m-k):=by simp[cO,ByteArray.data_extract]
theorem xD (s t:ByteArray):cO (s++t)=cO s++cO t:=by simp[cO,ByteArray.data_append]
theorem dQ(a b:List UInt8):dx a++dx b=dx (a++b):=by have h:=xD (dx a) (dx b);rw[dG,dG]at h;rw[<-h,fK]
theorem mj{P:Program}{w:World}(f d e:TypeId){A:Option Addr}{n c:Nat}{l:List UInt8}(hs:P.underlying f=some (.slice e))(he:P.underlying e=some (.int .u8))(hd:P.underlying d=some .string)(hr:Rd w A n 1 (l.map kr)):(convert f d (.slice A n c)).run P w=.ok (.string (dx l)) w:=by have hl:=hr.len1;cases A with|none=>{have h0:n=0:=by{rcases Nat.eq_zero_or_pos n with h0|h0;{exact h0};{obtain⟨b,o,e,_⟩:=hr.2 h0;cases e}};subst h0;have:l=[]:=List.eq_nil_of_length_eq_zero hl;subst this;rw[run_convert_bytes_string w f d e none 0 c hs he hd];simp[Conv.bytesToString,Sem.run_pure,dx];rfl}|some a=>{subst hl;refine run_convert_bytes_back w f d e a c l hs he hd fun j hj=>?_;obtain⟨b,o,e,hc⟩:=hr.get1 (List.getElem?_eq_getElem hj);injection e with e;subst e;rw[Addr.add_lit];exact hc}
section
variable {W : List Nat} {w0 w w' : World} {l : List Ob}
theorem Hp.lay_ (h:Hp W w0 w l) (t:TypeId) (cs:List Value) {g:Nat} (hg:g=w.heap.size):Hp W w0 (w.alloc (.cells cs.toArray t)) (.blk g t cs::l):=by subst hg;exact h.lay t cs
variable {E E2 E3 : TypeId} {k n k2 n2 k3 n3 : Nat} {v v2 v3 : Value} {xs ys zs : List Value}
end
theorem cE {w w':World} {p:Addr} {u:Value} (f:Fr w w') (h:w.cell? p=some u):w'.cell? p=some u:=(f.cell (World.block_lt_of_cell? w _ h)).trans h
def cQ (r:Int×Int×ByteArray×Int):List Value:=[.int .i64 r.1,.int .i64 r.2.1,.string r.2.2.1,.int .i64 r.2.2.2]
theorem cH (r:Int×Int×ByteArray×Int):(cQ r).length=4:=rfl
theorem fi:(Tryz.prog.info? 78).map (fun i=>(i.zero,i.size,i.bytes))=some (some (.agg #[.int .i64 0,.int .i64 0,.string ⟨#[]⟩,.int .i64 0]),4,40):=by kernel_rfl
theorem Hp.into{W:List Nat}{w0 w:World}{l:List Ob}{rs:List iU}{r:iU}(h:Hp W w0 w (r.ob::l))(i:Nat)(hi:l[i]?=some (.many rs))(j:Nat):Hp W w0 w (l.set i (.many (rs.set j r))):=by have hm:Ob.many rs∈l:=mD hi;have d:=h.ok _ (List.mem_cons_of_mem _ hm);have n:=h.ok _ List.mem_cons_self;have c:=List.pairwise_cons.1 h.ap;have m:∀r'∈rs,r.apart r':=fun r' a g hg f=>c.1 _ hm g hg ⟨r',a,f⟩;refine⟨h.gr,fun o ho=>?_,fun o ho g hg=>?_,g9 Ob.apart_symm c.2 fun k b hk hb g hg=>?_⟩;{rcases List.mem_or_eq_of_mem_set ho with h1|rfl;{exact h.ok _ (List.mem_cons_of_mem _ h1)};{refine⟨fun r' a=>?_,g9 iU.apart_symm d.2 fun k b _ hb=>m b (mD hb)⟩;rcases List.mem_or_eq_of_mem_set a with h2|rfl;{exact d.1 r' h2};{exact n}}};{rcases List.mem_or_eq_of_mem_set ho with h1|rfl;{exact h.own _ (List.mem_cons_of_mem _ h1) g hg};{obtain⟨r',a,hv⟩:=hg;rcases List.mem_or_eq_of_mem_set a with h2|rfl;{exact h.own _ (List.mem_cons_of_mem _ hm) g ⟨r',h2,hv⟩};{exact h.own _ List.mem_cons_self g hv}}};{obtain⟨r',a,hv⟩:=hg;rcases List.mem_or_eq_of_mem_set a with h2|rfl;{exact iV Ob.apart_symm c.2 hi hb (fun e=>hk e.symm) g ⟨r',h2,hv⟩};{exact c.1 b (mD hb) g hv}}
theorem Hp.push{W:List Nat}{w0 w:World}{l:List Ob}{rs:List iU}{r:iU}(h:Hp W w0 w (r.ob::l))(i:Nat)(hi:l[i]?=some (.many rs)):Hp W w0 w (l.set i (.many (rs++[r]))):=by have hm:Ob.many rs∈l:=mD hi;have f:=h.ok _ (List.mem_cons_of_mem _ hm);have n:=h.ok _ List.mem_cons_self;have d:=List.pairwise_cons.1 h.ap;have m:∀r'∈rs,r.apart r':=fun r' c g hg j=>d.1 _ hm g hg ⟨r',c,j⟩;refine⟨h.gr,fun o ho=>?_,fun o ho g hg=>?_,g9 Ob.apart_symm d.2 fun k b hk hb g hg=>?_⟩;{rcases List.mem_or_eq_of_mem_set ho with h1|rfl;{exact h.ok _ (List.mem_cons_of_mem _ h1)};{refine⟨fun r' c=>?_,List.pairwise_append.2 ⟨f.2,List.pairwise_singleton _ _,fun a ha b hb=>?_⟩⟩;{rcases List.mem_append.1 c with h2|h2;{exact f.1 r' h2};{rw[List.mem_singleton.1 h2];exact n}};{rw[List.mem_singleton.1 hb];exact iU.apart_symm (m a ha)}}};{rcases List.mem_or_eq_of_mem_set ho with h1|rfl;{exact h.own _ (List.mem_cons_of_mem _ h1) g hg};{obtain⟨r',c,hv⟩:=hg;rcases List.mem_append.1 c with h2|h2;{exact h.own _ (List.mem_cons_of_mem _ hm) g ⟨r',h2,hv⟩};{rw[List.mem_singleton.1 h2]at hv;exact h.own _ List.mem_cons_self g hv}}};{obtain⟨r',c,hv⟩:=hg;rcases List.mem_append.1 c with h2|h2;{exact iV Ob.apart_symm d.2 hi hb (fun e=>hk e.symm) g ⟨r',h2,hv⟩};{rw[List.mem_singleton.1 h2]at hv;exact d.1 b (mD hb) g hv}}
theorem Hp.many0 {W:List Nat} {w0 w:World} {l:List Ob} (h:Hp W w0 w l):Hp W w0 w (.many []::l):=
 Hp.fold (rs:=[]) (by simpa using h)
theorem Hp.turnIn{W:List Nat}{w0 w w':World}{l:List Ob}{rs:List iU}{r r':iU}(h:Hp W w0 w l)(i:Nat)(hi:l[i]?=some (.many rs))(j:Nat)(hj:rs[j]?=some r)(g:Gr r.v.ownBlock.toList w w')(ho:r'.ok w')(hb:r'.v.ownBlock=r.v.ownBlock\/∀b,r'.v.ownBlock=some b->w.heap.size<=b):Hp W w0 w' (l.set i (.many (rs.set j r'))):=by have d:=h.ok _ (mD hi);refine h.turnG (o':=.many (rs.set j r')) i hi g (fun b hb=>⟨r,mD hj,by simpa using hb⟩) ⟨fun x hx=>?_,g9 iU.apart_symm d.2 fun k b hk a=>?_⟩ (fun b a=>?_);{obtain⟨k,hk⟩:=List.getElem?_of_mem hx;by_cases f:j=k;{subst f;rw[List.getElem?_set_self (mE hj).1]at hk;injection hk with hk;subst hk;exact ho};{rw[List.getElem?_set_ne f]at hk;exact re (d.1 x (mD hk)) g fun b a n=>iV iU.apart_symm d.2 hj hk f b (by simpa using n) a}};{intro c hc m;rcases hb with e|e;{exact iV iU.apart_symm d.2 hj a (fun e=>hk e.symm) c (e▸hc) m};{have h1:=e c hc;have h2:=(World.ownsRow.lt (d.1 b (mD a)) c m).2;omega}};{obtain⟨x,hx,hv⟩:=a;rcases List.mem_or_eq_of_mem_set hx with h2|rfl;{exact .inl ⟨x,h2,hv⟩};{rcases hb with e|e;{exact .inl ⟨r,mD hj,e▸hv⟩};{exact .inr (e b hv)}}}
abbrev cJ:=Int×Int×Int×ByteArray×List (Int×Int×ByteArray×Int)
instance EX:DecidableEq (ByteArray×List (Int×Int×ByteArray×Int)):=inferInstance
instance Eo:DecidableEq (Int×Int×ByteArray×List (Int×Int×ByteArray×Int)):=inferInstance
instance EZ:DecidableEq cJ:=inferInstance
def fJ (p:Value×cJ):List Value:=[.int .i64 p.2.1,.int .i64 p.2.2.1,.int .i64 p.2.2.2.1,.string p.2.2.2.2.1,p.1]
theorem eJ (p:Value×cJ):(fJ p).length=5:=rfl
def er (p:Value×cJ):iU:=⟨78,4,p.1,p.2.2.2.2.2.length,p.2.2.2.2.2.flatMap cQ⟩
theorem gw:(Tryz.prog.info? 56).map (fun i=>(i.zero,i.size,i.bytes))=some (some (.agg #[.int .i64 0,.int .i64 0,.int .i64 0,.string ⟨#[]⟩,.slice none 0 0]),5,64):=by kernel_rfl
structure kM (w:World) (A:Option Addr) (n:Nat) (L:List (Value×cJ)):Prop where
 out:Rd w A n 5 (L.flatMap fJ)
 inn:∀p∈L,∃(B:Option Addr) (m d:Nat),p.1=.slice B m d/\Rd w B m 4 (p.2.2.2.2.2.flatMap cQ)
theorem kM.fr {w w':World} {A:Option Addr} {n:Nat} {L:List (Value×cJ)} (h:kM w A n L) (f:Fr w w'):kM w' A n L:=
 ⟨h.out.fr f,fun p hp=>by
  obtain⟨B,m,d,e,hr⟩:=h.inn p hp;exact⟨B,m,d,e,hr.fr f⟩⟩
theorem kM.len {w:World} {A:Option Addr} {n:Nat} {L:List (Value×cJ)} (h:kM w A n L):L.length=n:=h.out.lenk eJ (by omega)
theorem iN{w:World}{p:Value×cJ}(h:(er p).ok w):∃(B:Option Addr) (d:Nat),p.1=.slice B p.2.2.2.2.2.length d/\Rd w B p.2.2.2.2.2.length 4 (p.2.2.2.2.2.flatMap cQ):=by have h1:w.ownsRow 0 78 4 p.1 p.2.2.2.2.2.length (p.2.2.2.2.2.flatMap cQ):=h;obtain⟨B,d,e⟩:=tg h1;rw[e]at h1;exact⟨B,d,e,Rd.of_own h1⟩
def nU (v:Value) (n:Nat) (L:List (Value×cJ)):iU:=⟨56,5,v,n,L.flatMap fJ⟩
def gL (v:Value) (n:Nat) (L:List (Value×cJ)):Ob:=.many (nU v n L::L.map er)
theorem Hp.join2 {W:List Nat} {w0 w:World} {l:List Ob} {r:iU} {rs:List iU} (h:Hp W w0 w (r.ob::.many rs::l)):Hp W w0 w (.many (r::rs)::l):=
 Hp.fold (rs:=r::rs) ((h.swap.unfold).perm (by
  rw[List.map_cons,List.cons_append];exact List.perm_middle))
theorem Hp.split2 {W:List Nat} {w0 w:World} {l:List Ob} {r:iU} {rs:List iU} (h:Hp W w0 w (.many (r::rs)::l)):Hp W w0 w (r.ob::.many rs::l):=
 (Hp.fold (rs:=rs) ((h.unfold).perm (by
  rw[List.map_cons,List.cons_append];exact List.perm_middle.symm))).swap
theorem xE{w:World}{A:Option Addr}{n m c:Nat}{L:List (Value×cJ)}(h:(gL (.slice A m c) n L).ok w)(hm:n=m):kM w A n L:=by subst hm;exact⟨Rd.of_own (show w.ownsRow 0 56 5 (.slice A n c) n (L.flatMap fJ)from h.1 _ List.mem_cons_self),fun p hp=>by{obtain⟨B,d,e,hr⟩:=iN (h.1 (er p) (List.mem_cons_of_mem _ (List.mem_map_of_mem hp)));exact⟨B,_,d,e,hr⟩}⟩
theorem Hp.rdN {W:List Nat} {w0 w:World} {l:List Ob} {A:Option Addr} {n c:Nat} {L:List (Value×cJ)} (h:Hp W w0 w l) (i:Nat) (hi:l[i]?=some (gL (.slice A n c) n L)):kM w A n L:=
 xE (h.ok _ (mD hi)) rfl
theorem kM.elem{w:World}{A:Option Addr}{n k:Nat}{L:List (Value×cJ)}{p:Value×cJ}(h:kM w A n L)(hp:L[k]?=some p):∃(b o:Nat) (B:Option Addr) (d:Nat),A=some ⟨b,o,none⟩/\p.1=.slice B p.2.2.2.2.2.length d/\Rd w B p.2.2.2.2.2.length 4 (p.2.2.2.2.2.flatMap cQ)/\∀j u,(fJ p)[j]?=some u->w.cell? ⟨b,o+k*5+j,none⟩=some u:=by obtain⟨b,o,hA,hc⟩:=h.out.elem eJ hp (by omega);obtain⟨B,m,d,e,hr⟩:=h.inn p (mD hp);have hm:=hr.lenk cH (by omega);rw[<-hm]at e hr;exact⟨b,o,B,d,hA,e,hr,fun j u hu=>hc j u hu⟩
def cY (x lo hi:Int):Bool:=decide (lo<=x) && decide (x<=hi)
theorem dh {x lo hi:Int}:cY x lo hi=true↔lo<=x/\x<=hi:=by simp[cY]
theorem cG(x lo hi:Int)(w:World):Calls Tryz.prog 17 #[.int .i64 x,.int .i64 lo,.int .i64 hi] w fun e w'=>e=.returned (.bool (cY x lo hi))/\w'=w:=by go_enter Tryz.func17,Tryz.ntmps17;go_wp2;(all_goals go_ret);{exact⟨by simp[cY, *],rfl⟩};{exact⟨by simp[cY];omega,rfl⟩}
theorem cK(x lo hi:Int)(w:World):Calls Tryz.prog 19 #[.int .i64 x,.int .i64 lo,.int .i64 hi] w fun e w'=>e=.returned (.bool (cY x lo hi))/\w'=w:=by go_enter Tryz.func19,Tryz.ntmps19;go_wp2;(all_goals go_ret);{exact⟨by simp[cY, *],rfl⟩};{exact⟨by simp[cY];omega,rfl⟩}
abbrev dY:=Int×Int×ByteArray×Int×ByteArray×ByteArray
def jA (k:Int):Bool:=k == 5 ||k == 6
def eh (c:dY):Bool:=cY c.1 1 8 && cY c.2.1 0 100000 && cY c.2.2.2.1 0 100000 && decide (c.2.2.1.size<=24) && decide (c.2.2.2.2.1.size<=24) && decide (c.2.2.2.2.2.size<=20) &&
 (jA c.1 ||(c.2.2.2.1 == 0 && decide (c.2.2.2.2.1.size=0))) && (c.1 == 7 ||decide (c.2.2.2.2.2.size=0))
