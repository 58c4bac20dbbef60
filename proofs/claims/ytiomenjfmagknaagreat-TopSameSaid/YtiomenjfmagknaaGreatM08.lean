/- A part of the proof of TopSame: lemmas on the walks of its calls. -/
import Derived.Test.YtiomenjfmagknaaGreatM07
set_option maxHeartbeats 12000000
set_option linter.all false
set_option maxRecDepth 100000
namespace Go.Proofs.YtiomenjfmagknaaGreat
open Go.RowKit Go.ChangeShapes Go.WideShapes Tryz
open Bool renaming true→Bt,false→Bf
open Decidable renaming decide→Dc
open Ending renaming returned→X
open Go renaming World→Wd,Value→Va,Calls→Ca,callsIn_wide→Cw,undef→Un,TypeId→Ti,Addr→Ad,callsIn_of_wp_marks→Cm,CallsIn→Ci
open Go.Proofs renaming enters_of→Eo
open Int renaming toNat_natCast→a4A
open IntKind renaming i64→M,u32→V,u16→U1,u8→U8
open IntWalk renaming i64_in→a37
open Lib renaming hid→a6
open List renaming getD_eq_getElem?_getD→a8,getElem?_eq_getElem→e9,length_append→a2e,replicate→a2A,range→q5,length_cons→a3W,getElem_mem→a30,length_map→a32,take_succ_eq_append_getElem→a4a,append_assoc→a4s,length_take→a4C
open Nat renaming le_refl→a7,le_trans→c8,reduceAdd→l9,zero_le→i5,add_zero→a4z,reduceSub→a4D,zero_add→a4E
open Obj renaming cells→U
open Option renaming none→J,some→So
open Value renaming int→I,slice→Z,pointer→K,bool→O,func→Fc,tuple→Tp,agg→Ag
structure m8 where
 fr:Int
 tp:Int
 way:Int
structure a0Q where
 leaf:Bool
 way:Int
 at_:Int
 less:Int
 more:Int
def rV:m8:=⟨0,0,0⟩
def IP:a0Q:=⟨Bf,0,0,0,0⟩
def gr:Nat→List m8→Nat→List a0Q
 |0,_,_=>[]
 |f+1,l,i=>if l.length/2=0 then [⟨Bt,(l.getD 0 rV).way,0,0,0⟩]else
   ⟨Bf,0,(l.getD (l.length/2) rV).fr,((i+1:Nat):Int),((i+1+(gr f (l.take (l.length/2)) (i+1)).length:Nat):Int)⟩::
    (gr f (l.take (l.length/2)) (i+1)++gr f (l.drop (l.length/2)) (i+1+(gr f (l.take (l.length/2)) (i+1)).length))
def oD:Nat→List m8→Int→Int
 |0,_,_=>0
 |f+1,l,a=>if l.length/2=0 then(l.getD 0 rV).way else if(l.getD (l.length/2) rV).fr≤a then oD f (l.drop (l.length/2)) a else oD f (l.take (l.length/2)) a
def EA(a:Nat)(p:Nat→Nat)(i:Nat)(x:a0Q):List It:=if x.leaf then []else [.here (a+i),.jmp 53 x.at_ (p x.more.toNat) (p x.less.toNat)]
def Z6(a:Nat)(p:Nat→Nat):Nat→List a0Q→List It
 |_,[]=>[]
 |i,x::r=>EA a p i x++Z6 a p (i+1) r
theorem nQ(b:Nat)(p:Nat→Nat):∀(a B:List a0Q)(i:Nat),Z6 b p i (a++B)=Z6 b p i a++Z6 b p (i+a.length) B
 |[],B,i=>rfl
 |x::a,B,i=>by
  show EA b p i x++Z6 b p (i+1) (a++B)=EA b p i x++Z6 b p (i+1) a++_;rw[nQ b p a B,a4s,a3W,show i+1+a.length=i+(a.length+1) by omega]
theorem pT(b:Nat)(p:Nat→Nat):∀(a:List a0Q)(i:Nat),jB (Z6 b p i a) (b+i) (b+(i+a.length))
 |[],i=>fun x d=>by cases d
 |x::a,i=>by
  refine jB.app ?_ ((pT b p a (i+1)).mono (by omega) (by simp;omega));unfold EA;split
  ·intro e c;cases c
  ·intro e c;rw[List.mem_singleton.1 c];simp
theorem kY:∀(f:Nat)(l:List m8)(i:Nat),0<f→1≤(gr f l i).length
 |f+1,l,i,_=>by unfold gr;split<;>simp
def nA(a i:Nat)(x:a0Q):Nat:=if x.leaf then 3+x.way.toNat else a+i
theorem XK(o:Int→Int)(b:Nat)(p:Nat→Nat):∀(f:Nat)(l:List m8)(i:Nat)(R:List It)(a:Int),0<l.length→l.length≤f→(∀s∈l,3+s.way.toNat<b)→
  (∀j(n:j<(gr f l i).length),p (i+j)=nA b (i+j) ((gr f l i)[j]))→ev o (after (p i) (Z6 b p i (gr f l i)++R)) a=ev o (after (3+(oD f l a).toNat) R) a
 |0,l,i,R,a,h0,hf,_,_=>by omega
 |f+1,l,i,R,a,h0,hf,hw,hp=>by
  unfold oD;generalize m:gr (f+1) l i=N at hp⊢;unfold gr at m;by_cases t:l.length/2=0
  ·rw[if_pos t]at m
   subst m;have:=hp 0 (by simp);rw[if_pos t];rw[show p i=3+(l.getD 0 rV).way.toNat from this];rfl
  ·rw[if_neg t]at m
   subst m;rw[if_neg t];have ae:(l.take (l.length/2)).length=l.length/2:=by rw[a4C];omega
   have af:(l.drop (l.length/2)).length=l.length-l.length/2:=List.length_drop;have ac:=kY f (l.take (l.length/2)) (i+1) (by omega);have Q:=XK o b p f (l.take (l.length/2)) (i+1);have S:=XK o b p f (l.drop (l.length/2)) (i+1+(gr f (l.take (l.length/2)) (i+1)).length);have ad:=kY f (l.drop (l.length/2)) (i+1+(gr f (l.take (l.length/2)) (i+1)).length) (by omega);have ag:oD f (l.take (l.length/2)) a∈(l.map (·.way))∨True:= .inr trivial;generalize ab:gr f (l.take (l.length/2)) (i+1)=c at*;generalize z:gr f (l.drop (l.length/2)) (i+1+c.length)=B at*;have T:p i=b+i:=hp 0 (by simp);have W:∀j(n:j<c.length),p (i+1+j)=nA b (i+1+j) c[j]:=fun j n=>by
    have:=hp (j+1) (by simp;omega);rw[show i+(j+1)=i+1+j by omega]at this;simpa[List.getElem_append_left n]using this
   have x:∀j(n:j<B.length),p (i+1+c.length+j)=nA b (i+1+c.length+j) B[j]:=fun j n=>by
    have:=hp (c.length+j+1) (by simp;omega);rw[show i+(c.length+j+1)=i+1+c.length+j by omega]at this;simpa[List.getElem_append_right]using this
   have D:=Q (Z6 b p (i+1+c.length) B++R) a (by omega) (by omega) (fun s d=>hw s (List.mem_of_mem_take d)) W;have E:=S R a (by omega) (by omega) (fun s d=>hw s (List.mem_of_mem_drop d)) x;have A:=pT b p c (i+1);have L:=pT b p B (i+1+c.length);rw[T];show ev o (after (b+i) (.here (b+i):: .jmp 53 _ (p _) (p _)::(Z6 b p (i+1) (c++B)++R))) a=_;rw[y0,ev,nQ,a4s,a4A,a4A];have H:∀k,r4 ⟨53,k,0,0⟩ a=Dc (k≤a):=fun k=>rfl
   rw[H];have aa:∀(g:Nat)(h:List m8),0<h.length→h.length≤g→(∀s∈h,s∈l)→3+(oD g h a).toNat<b:=by
    intro g
    induction g with
    |zero=>intro h v q;omega
    |succ g ih=>
     intro h v q w;unfold oD;split
     ·rw[a8,e9 v]
      exact hw _ (w _ (a30 v))
     ·split
      ·exact ih _ (by rw[List.length_drop];omega) (by rw[List.length_drop];omega) fun s d=>w s (List.mem_of_mem_drop d)
      ·exact ih _ (by rw[a4C];omega) (by rw[a4C];omega) fun s d=>w s (List.mem_of_mem_take d)
   by_cases r:(l.getD (l.length/2) rV).fr≤a
   ·rw[decide_eq_true r,if_pos rfl,if_pos r,←E]
    have P:p (i+1+c.length)∉J7 (Z6 b p (i+1) c):=by
     have e:=x 0 (by omega);rw[a4z]at e;rw[e];unfold nA;split
     ·rename_i u
      refine A.not (.inl ?_);have:=x 0 (by omega);have d:∃s∈l,(B[0]'(by omega)).way=s.way:=by
       have F:B[0]'(by omega)=(gr f (l.drop (l.length/2)) (i+1+c.length))[0]'(by rw[z];omega):=by simp only[z]
       have G:∃y,f=y+1:=⟨f-1,by omega⟩;obtain⟨y,rfl⟩:=G;rw[F]at u⊢;unfold gr at u⊢;by_cases q:(l.drop (l.length/2)).length/2=0
       ·simp only[q,if_true,List.getElem_cons_zero]
        exact⟨(l.drop (l.length/2)).getD 0 rV,by
         rw[a8,e9 (by omega)];exact List.mem_of_mem_drop (a30 _),rfl⟩
       ·simp only[q,if_false,List.getElem_cons_zero]at u
        cases u
      obtain⟨s,d,C⟩:=d;rw[C];have:=hw s d;omega
     ·exact A.not (.inr (by omega))
    rw[E5 _ _ _ P]
   ·rw[decide_eq_false r,if_neg (by decide),if_neg r,D,E5]
    exact L.not (.inl (by have:=aa f (l.take (l.length/2)) (by omega) (by omega) (fun s d=>List.mem_of_mem_take d);omega))
def uk(x:Int):Prop:=0≤x∧x<4294967296
def vN(t:j6):Prop:=(0≤t.arg∧t.arg<6)∧mT t.mask∧mT t.value∧uk t.act
structure wA(r:m1):Prop where
 nr:uk r.nr
 act:uk r.act
 ts:∀t∈r.tests,vN t
theorem KE{x:Int}(h:mT x):uk (lo x):=by unfold uk lo;omega
theorem a2y{x:Int}(h:mT x):uk (hi x):=by
 have e:(256:Int)^8=18446744073709551616:=by decide
 unfold mT at h;unfold uk hi;omega
theorem XG{n:Nat}{a g c:Int}{b:Nat}{R:List It}(f:0≤a∧a % 4=0∧a<64)(i:uk g)(k:uk c)(e:wf R)(h:b∈J7 R)(j:n∉J7 R):wf (mF n a g c b++R):=by
 have d:wf (.jmp 21 c n b:: .here n::R):=⟨⟨k,.inr (.inl rfl)⟩,List.mem_cons_self,.inr (List.mem_cons_of_mem _ h),j,e⟩;have k1:JR ⟨32,a,0,0⟩:=⟨rfl,rfl,⟨f.1,by show a<_;omega⟩,.inl ⟨rfl,f.2⟩⟩;unfold mF;split
 ·exact e
 ·split
  ·exact⟨k1,.inr d⟩
  ·exact⟨k1,.inr ⟨⟨rfl,rfl,i,.inr (.inl rfl)⟩,.inr d⟩⟩
theorem xE(n:Nat)(a c d:Int)(b:Nat):m0 (mF n a c d b)≤3:=by
 unfold mF;split
 ·decide
 ·split
  ·show 1+(1+(0+0))≤3;decide
  ·show 1+(1+(1+(0+0)))≤3;decide
theorem a0c{a z:Int}(b:0≤a∧a<6)(c:z=0∨z=4):0≤cD a z∧cD a z % 4=0∧cD a z<64:=by
 unfold cD;rw[if_pos (by omega)];omega
theorem a2c{n:Nat}{t:j6}{R:List It}(r:vN t)(q:wf R)(l:∀x,n≤x→x<sU n t→x∉J7 R):wf (DZ n t++R):=by
 obtain⟨d,f,g,p⟩:=r;have u:=bQ (n+1) (lo t.mask);have v:=bQ (gO (n+1) (lo t.mask)) (hi t.mask);have h:wf (.put ⟨6,t.act,0,0⟩:: .here n::R):=⟨⟨rfl,rfl,p,.inr (.inr rfl)⟩,.inr ⟨l n (a7 _) (oI n t),q⟩⟩;have i:n∈J7 (.put ⟨6,t.act,0,0⟩:: .here n::R):=List.mem_cons_self;have j:∀x,n<x→x<sU n t→x∉J7 (.put ⟨6,t.act,0,0⟩:: .here n::R):=fun x k1 k2 a=>by
  rcases List.mem_cons.1 a with e|a
  ·omega
  ·exact l x (by omega) k2 a
 have e:DZ n t++R=mF (n+1) (cD t.arg 0) (lo t.mask) (lo t.value) n++(mF (gO (n+1) (lo t.mask)) (cD t.arg 4) (hi t.mask) (hi t.value) n++(.put ⟨6,t.act,0,0⟩:: .here n::R)):=by simp[DZ]
 rw[e];by_cases k:hi t.mask=0
 ·have o:mF (gO (n+1) (lo t.mask)) (cD t.arg 4) (hi t.mask) (hi t.value) n=[]:=if_pos k
  rw[o];by_cases b:lo t.mask=0
  ·have c:mF (n+1) (cD t.arg 0) (lo t.mask) (lo t.value) n=[]:=if_pos b
   rw[c];exact h
  ·refine XG (a0c d (.inl rfl)) (KE f) (KE g) h i (j _ (by omega) ?_)
   unfold sU gO;rw[if_neg b];split<;>omega
 ·have k2:gO (n+1) (lo t.mask)<sU n t:=by unfold sU;rw[show gO (gO (n+1) (lo t.mask)) (hi t.mask)=gO (n+1) (lo t.mask)+1 from if_neg k];omega
  have m:=XG (a0c d (.inr rfl)) (a2y f) (a2y g) h i (j (gO (n+1) (lo t.mask)) (by omega) k2);by_cases b:lo t.mask=0
  ·have c:mF (n+1) (cD t.arg 0) (lo t.mask) (lo t.value) n=[]:=if_pos b
   rw[c];exact m
  ·have s:gO (n+1) (lo t.mask)=n+2:=if_neg b
   refine XG (a0c d (.inl rfl)) (KE f) (KE g) m ?_ fun a=> ?_
   ·rw[m4];exact List.mem_append_right _ i
   ·rw[m4]at a
    rcases List.mem_append.1 a with a|a
    ·have:=KO _ _ _ _ _ _ a;omega
    ·exact j (n+1) (by omega) (by omega) a
theorem SG(n:Nat)(t:j6):m0 (DZ n t)≤7:=by
 unfold DZ;rw[g2,g2];have a:=xE (n+1) (cD t.arg 0) (lo t.mask) (lo t.value) n;have b:=xE (gO (n+1) (lo t.mask)) (cD t.arg 4) (hi t.mask) (hi t.value) n;have c:m0 [It.put ⟨6,t.act,0,0⟩,.here n]=1:=rfl;omega
theorem a2j:∀(l:List j6)(n:Nat)(b:Int)(R:List It),(∀t∈l,vN t)→uk b→wf R→(∀x,n≤x→x<jW n l→x∉J7 R)→wf (sA n l b++R)
 |[],n,b,R,_,ha,hR,_=>⟨⟨rfl,rfl,ha,.inr (.inr rfl)⟩,.inr hR⟩
 |t::r,n,b,R,ht,ha,hR,hn=>by
  have d:=oI n t;have e:=gD r (sU n t);unfold jW at hn;unfold sA;by_cases c:t.mask=0
  ·rw[if_pos c]at hn⊢
   rw[List.append_nil];exact a2c (ht t List.mem_cons_self) hR hn
  ·rw[if_neg c]at hn⊢
   rw[a4s];refine a2c (ht t List.mem_cons_self) (a2j r _ b R (fun x a=>ht x (List.mem_cons_of_mem _ a)) ha hR fun x k1 k2=>hn x (by omega) k2) fun x k1 k2 a=> ?_
   rw[m4]at a;rcases List.mem_append.1 a with a|a
   ·have:=zU r _ b x a;omega
   ·exact hn x k1 (by omega) a
theorem FK:∀(l:List j6)(n:Nat)(a:Int),m0 (sA n l a)≤1+7*l.length
 |[],n,a=>a7 _
 |t::r,n,a=>by
  have b:=SG n t;have c:=FK r (sU n t) a;unfold sA;rw[g2,a3W];split
  ·show _+0≤_;omega
  ·omega
theorem a2h:∀(rs:List m1)(n l:Nat)(R:List It),(∀r∈rs,wA r)→l+rs.length≤n→wf R→(∀x,l≤x→x<l+rs.length→x∉J7 R)→(∀x,n≤x→x<rsN n rs→x∉J7 R)→wf (mZ n l rs++R)
 |[],n,l,R,_,_,hR,_,_=>hR
 |r::rs,n,l,R,hr,hl,hR,h1,h2=>by
  simp only[a3W]at hl h1;have d:=gD r.tests n;have e:=FJ rs (jW n r.tests);have c:=a2h rs (jW n r.tests) (l+1) R (fun x a=>hr x (List.mem_cons_of_mem _ a)) (by omega) hR (fun x k1 k2=>h1 x (by omega) (by omega)) fun x k1 k2=>h2 x (by omega) k2
  have b:=hr r List.mem_cons_self;show l∉J7 (sA n r.tests r.act++mZ (jW n r.tests) (l+1) rs++R)∧wf (sA n r.tests r.act++mZ (jW n r.tests) (l+1) rs++R);rw[a4s];refine⟨fun a=> ?_,a2j r.tests n r.act _ b.ts b.act c fun x k1 k2 a=> ?_⟩
  ·rw[m4,m4]at a
   rcases List.mem_append.1 a with a|a
   ·have:=zU r.tests n r.act l a;omega
   ·rcases List.mem_append.1 a with a|a
    ·rcases pD rs _ _ l a with a|a<;>omega
    ·exact h1 l (a7 _) (by omega) a
  ·rw[m4]at a
   rcases List.mem_append.1 a with a|a
   ·rcases pD rs _ _ x a with a|a<;>omega
   ·exact h2 x k1 (by show x<rsN (jW n r.tests) rs;omega) a
def rU(rs:List m1):Nat:=(rs.map fun r=>r.tests.length).sum
theorem TH:∀(rs:List m1)(n l:Nat),m0 (mZ n l rs)≤rs.length+7*rU rs
 |[],n,l=>a7 _
 |r::rs,n,l=>by
  have a:=FK r.tests n r.act;have b:=TH rs (jW n r.tests) (l+1);have e:rU (r::rs)=r.tests.length+rU rs:=by simp[rU]
  show 0+m0 (sA n r.tests r.act++mZ (jW n r.tests) (l+1) rs)≤_;rw[g2,e,a3W];omega
def gE(a:Int):List It:= .put ⟨32,4,0,0⟩:: .jmp 21 (B8 a) 1 0:: .here 1:: .put ⟨32,0,0,0⟩::((if a=0 then [.jmp 69 1073741824 0 2]else if a=2 then [.jmp 69 1073741824 2 0]else [])++[.here 2])
def a0T(b:Int→Int)(a:Int):Bool:=b 4==B8 a&&(if a=0 then bits .and V (b 0) 1073741824==0 else if a=2 then bits .and V (b 0) 1073741824 !=0 else Bt)
theorem a3C(b:Int→Int)(a:Int)(R:List It)(z:Int)(g:∀x,ev b (after 0 R) x=z)(x:Int):ev b (gE a++R) x=if a0T b a then ev b R (b 0)else z:=by
 have e:gE a++R= .put ⟨32,4,0,0⟩:: .jmp 21 (B8 a) 1 0:: .here 1:: .put ⟨32,0,0,0⟩::((if a=0 then [.jmp 69 1073741824 0 2]else if a=2 then [.jmp 69 1073741824 2 0]else [])++(.here 2::R)):=by simp[gE]
 have i:∀B:List It,after 0 (.here 1:: .put ⟨32,0,0,0⟩::B)=after 0 B:=fun B=>rfl
 have j:after 0 ((if a=0 then [.jmp 69 1073741824 0 2]else if a=2 then [.jmp 69 1073741824 2 0]else [])++(.here 2::R))=after 0 R:=by
  split
  ·rfl
  ·split<;>rfl
 rw[e,ev];show ev b _ (b 4)=_;rw[ev,i,j,g,y0];show(if(b 4==B8 a)=Bt then _ else _)=_;unfold a0T;by_cases c:(b 4==B8 a)=Bt
 ·rw[if_pos c,c,Bool.true_and,ev]
  show ev b _ (b 0)=_;by_cases d:a=0
  ·rw[if_pos d,if_pos d]
   show ev b (.jmp 69 1073741824 0 2:: .here 2::R) _=_;rw[ev,y0];show(if(bits .and V (b 0) 1073741824 !=0)=Bt then ev b (after 0 R) _ else _)=_;rw[g];cases h:bits .and V (b 0) 1073741824==0<;>simp[bne,h]
  ·rw[if_neg d,if_neg d]
   by_cases f:a=2
   ·rw[if_pos f,if_pos f]
    show ev b (.jmp 69 1073741824 2 0:: .here 2::R) _=_;rw[ev,y0];show(if(bits .and V (b 0) 1073741824 !=0)=Bt then _ else ev b (after 0 R) _)=_;rw[g]
   ·rw[if_neg f,if_neg f,List.nil_append,ev,if_pos rfl]
 ·rw[if_neg c]
  rw[Bool.not_eq_true]at c;rw[c];rfl
def uU(a:Nat)(N:List a0Q):List It:=(if(N.getD 0 IP).leaf then [.jmp 5 0 (nA a 0 (N.getD 0 IP)) 0]else [])++Z6 a (fun j=>nA a j (N.getD j IP)) 0 N
theorem a5H(c:Int→Int)(b:Nat)(f:Nat)(l:List m8)(R:List It)(a:Int)(e:0<l.length)(g:l.length≤f)(k:∀s∈l,3+s.way.toNat<b):
  ev c (uU b (gr f l 0)++R) a=ev c (after (3+(oD f l a).toNat) R) a:=by
 have d:=XK c b (fun j=>nA b j ((gr f l 0).getD j IP)) f l 0 R a e g k (fun j h=>by
  show nA b (0+j) ((gr f l 0).getD (0+j) IP)=_;rw[a4E,a8,e9 h];rfl)
 rw[←d];unfold uU;have i:=kY f l 0 (by omega);generalize gr f l 0=N at*;rcases N with _|⟨x,r⟩
 ·simp at i
 ·show ev c ((if x.leaf then _ else _)++_++R) a=ev c (after (nA b 0 x) _) a
  rcases m:x.leaf with _|_
  ·rw[if_neg (by decide),List.nil_append]
   show ev c (EA b _ 0 x++_++R) a=ev c (after _ (EA b _ 0 x++_++R)) a;unfold EA nA;rw[m,if_neg (by decide),if_neg (by decide)];show ev c (.here (b+0)::_) a=ev c (after (b+0) (.here (b+0)::_)) a;rw[y0,ev]
  ·rw[if_pos rfl]
   show ev c (.jmp 5 0 _ 0::_) a=_;rw[ev,xD rfl,if_pos rfl];rfl
def aT:Int→List Int→Int→List m8
 |next,[],_=>if next<4294967296 then [⟨next,4294967295,0⟩]else []
 |next,n::r,i=>(if next<n then [⟨next,n-1,0⟩]else [])++⟨n,n,i⟩::aT (n+1) r (i+1)
def N7:Int→List Int→Prop
 |_,[]=>True
 |lo,n::r=>lo≤n∧n<4294967296∧N7 (n+1) r
theorem wC:∀(l:List Int)(lo:Int),N7 lo l→∀n∈l,lo≤n
 |[],lo,h,n,a=>by cases a
 |m::r,lo,h,n,a=>by
  rcases List.mem_cons.1 a with rfl|a
  ·exact h.1
  ·have:=wC r _ h.2.2 n a;have:=h.1;omega
def CH:Int→Int→List m8→Prop
 |lo,hi,[]=>lo=hi
 |lo,hi,s::r=>s.fr=lo∧lo≤s.tp∧CH (s.tp+1) hi r
theorem tL:∀(l:List Int)(lo i:Int),N7 lo l→lo≤4294967296→CH lo 4294967296 (aT lo l i)
 |[],lo,i,h,hl=>by
  unfold aT;split
  ·exact⟨rfl,by show lo≤4294967295;omega,rfl⟩
  ·show lo=4294967296;omega
 |n::r,lo,i,h,hl=>by
  have ih:=tL r (n+1) (i+1) h.2.2 (by have:=h.2.1;omega);unfold aT;split
  ·exact⟨rfl,by show lo≤n-1;omega,by show n=n-1+1;omega,by show n-1+1≤n;omega,ih⟩
  ·exact⟨by show n=lo;have:=h.1;omega,by show lo≤n;exact h.1,ih⟩
theorem DI:∀(l:List m8)(lo hi:Int)(k:Nat),CH lo hi l→k<l.length→CH lo (l.getD k rV).fr (l.take k)∧CH (l.getD k rV).fr hi (l.drop k)
 |s::r,lo,hi,0,h,hk=>⟨h.1.symm,⟨rfl,by show s.fr≤s.tp;have:=h.1;have:=h.2.1;omega,h.2.2⟩⟩
 |s::r,lo,hi,k+1,h,hk=>by
  have ih:=DI r _ hi k h.2.2 (by simpa using hk);exact⟨⟨h.1,h.2.1,ih.1⟩,ih.2⟩
theorem HY(a:Int):∀(f:Nat)(l:List m8)(lo hi:Int),CH lo hi l→l.length≤f→lo≤a→a<hi→∃s∈l,s.fr≤a∧a≤s.tp∧oD f l a=s.way
 |_,[],lo,hi,h,_,h1,h2=>by have:lo=hi:=h;omega
 |0,s::r,lo,hi,h,hf,_,_=>by simp at hf
 |f+1,s::r,lo,hi,h,hf,h1,h2=>by
  unfold oD;by_cases c:(s::r).length/2=0
  ·rw[if_pos c]
   have m:r=[]:=by rcases r with _|⟨n,r⟩;rfl;simp at c;omega
   subst m;have:=h.2.2;have e:s.tp+1=hi:=this;exact⟨s,List.mem_cons_self,by have:=h.1;omega,by omega,rfl⟩
  ·rw[if_neg c]
   have k:(s::r).length/2<(s::r).length:=by simp;omega
   obtain⟨i,j⟩:=DI _ lo hi _ h k;by_cases b:((s::r).getD ((s::r).length/2) rV).fr≤a
   ·rw[if_pos b]
    obtain⟨t,d,g⟩:=HY a f _ _ _ j (by rw[List.length_drop];omega) b h2;exact⟨t,List.mem_of_mem_drop d,g⟩
   ·rw[if_neg b]
    obtain⟨t,d,g⟩:=HY a f _ _ _ i (by rw[a4C];omega) h1 (by omega);exact⟨t,List.mem_of_mem_take d,g⟩
theorem YS:∀(l:List m8)(lo hi:Int),CH lo hi l→∀s∈l,lo≤s.fr
 |[],lo,hi,h,s,a=>by cases a
 |t::r,lo,hi,h,s,a=>by
  rcases List.mem_cons.1 a with rfl|a
  ·have:=h.1;omega
  ·have:=YS r _ hi h.2.2 s a;have:=h.2.1;omega
def QZ:List Int→Int→Int→Int
 |[],_,_=>0
 |n::r,a,i=>if n=a then i else QZ r a (i+1)
theorem BO:∀(l:List Int)(a i:Int),(∀n∈l,n≠a)→QZ l a i=0
 |[],a,i,h=>rfl
 |n::r,a,i,h=>by
  unfold QZ;rw[if_neg (h n List.mem_cons_self)];exact BO r a _ fun m b=>h m (List.mem_cons_of_mem _ b)
theorem TT(a:Int):∀(l:List Int)(lo i:Int),N7 lo l→lo≤4294967296→∀s∈aT lo l i,s.fr≤a→a≤s.tp→s.way=QZ l a i
 |[],lo,i,h,hl,s,b,h1,h2=>by
  unfold aT at b;split at b
  ·rw[List.mem_singleton.1 b];rfl
  ·cases b
 |n::r,lo,i,h,hl,s,b,h1,h2=>by
  have d:n+1≤4294967296:=by have:=h.2.1;omega
  have base:s=⟨n,n,i⟩∨s∈aT (n+1) r (i+1)→s.way=QZ (n::r) a i:=fun q=>by
   unfold QZ;rcases q with rfl|q
   ·rw[if_pos (by simp only at h1 h2;omega)]
   ·have:=YS _ _ _ (tL r (n+1) (i+1) h.2.2 d) s q
    rw[if_neg (by omega)];exact TT a r _ _ h.2.2 d s q h1 h2
  unfold aT at b;split at b
  ·rcases List.mem_cons.1 b with rfl|b
   ·rw[BO]
    intro m c;simp only at h1 h2;rcases List.mem_cons.1 c with rfl|c
    ·omega
    ·have:=wC r _ h.2.2 m c;omega
   ·exact base (List.mem_cons.1 b)
  ·exact base (List.mem_cons.1 b)
def GE(c:Int→Int)(b:Int):List m1→Int→Int
 |[],_=>b
 |r::rs,a=>if r.nr=a then yI c r.tests r.act else GE c b rs a
theorem a2s(c:Int→Int)(b a:Int):∀(rs:List m1)(i:Int),0<i→(QZ (rs.map (·.nr)) a i=0∧GE c b rs a=b)∨∃k,∃e:k<rs.length,QZ (rs.map (·.nr)) a i=i+k∧GE c b rs a=yI c rs[k].tests rs[k].act
 |[],i,hi=> .inl ⟨rfl,rfl⟩
 |r::rs,i,hi=>by
  by_cases d:r.nr=a
  ·exact .inr ⟨0,by simp,by simp[QZ,d],by simp[GE,d]⟩
  ·have f:QZ ((r::rs).map (·.nr)) a i=QZ (rs.map (·.nr)) a (i+1):=by simp[QZ,d]
   have g:GE c b (r::rs) a=GE c b rs a:=by simp[GE,d]
   rw[f,g];rcases a2s c b a rs (i+1) (by omega)with q|⟨k,e,h,j⟩
   ·exact .inl q
   ·exact .inr ⟨k+1,by simpa using e,by rw[h];omega,by rw[j];rfl⟩
def DD(a:Int→Int)(f:C8):Int:=if a0T a f.arch then GE a f.dflt f.rules (a 0)else 2147418112
def tB(f:C8):List m8:=aT 0 (f.rules.map (·.nr)) 1
def hW(f:C8):List a0Q:=gr (tB f).length (tB f) 0
def aX(f:C8):List It:=gE f.arch++(uU (4+f.rules.length) (hW f)++(.here 3:: .put ⟨6,f.dflt,0,0⟩::(mZ (4+f.rules.length+(hW f).length) 4 f.rules++[.here 0,.put ⟨6,2147418112,0,0⟩])))
theorem nM:∀(l:List Int)(lo i:Int),0≤i→∀s∈aT lo l i,0≤s.way∧s.way<i+l.length∨s.way=0
 |[],lo,i,hi,s,a=>by
  unfold aT at a;split at a
  ·rw[List.mem_singleton.1 a];exact .inr rfl
  ·cases a
 |n::r,lo,i,hi,s,a=>by
  have base:s=⟨n,n,i⟩∨s∈aT (n+1) r (i+1)→0≤s.way∧s.way<i+(n::r).length∨s.way=0:=fun q=>by
   rw[a3W];rcases q with rfl|q
   ·exact .inl ⟨hi,by show i<_;omega⟩
   ·rcases nM r _ _ (by omega) s q with q|q
    ·exact .inl ⟨q.1,by have:=q.2;omega⟩
    ·exact .inr q
  unfold aT at a;split at a
  ·rcases List.mem_cons.1 a with rfl|a
   ·exact .inr rfl
   ·exact base (List.mem_cons.1 a)
  ·exact base (List.mem_cons.1 a)
theorem vX(f:C8)(c:N7 0 (f.rules.map (·.nr))):0<(tB f).length:=by
 have a:=tL _ 0 1 c (by decide);show 0<(aT 0 _ 1).length;rcases b:aT 0 (f.rules.map (·.nr)) 1 with _|⟨x,r⟩
 ·rw[b]at a;cases a
 ·first|exact Nat.succ_pos _|(rw[b];exact Nat.succ_pos _)
theorem SE(a:Int→Int)(f:C8)(c:N7 0 (f.rules.map (·.nr)))(d:uk (a 0)):ev a (aX f) 0=DD a f:=by
 have i:=vX f c;have p:∀s∈tB f,3+s.way.toNat<4+f.rules.length:=fun s o=>by
  rcases nM _ _ _ (by decide) s o with q|q
  ·rw[a32]at q;omega
  ·rw[q];show 3+0<_;omega
 have n:∀l,3<l→∀h:List It,0∉J7 (mZ l 4 f.rules):=fun l d h b=>by
  rcases pD _ _ _ _ b with q|q<;>omega
 unfold aX DD;have j:∀R,after 0 (uU (4+f.rules.length) (hW f)++R)=after 0 R:=fun R=>by
  refine E5 0 _ _ fun b=> ?_
  unfold uU at b;rw[m4]at b;rcases List.mem_append.1 b with b|b
  ·split at b<;>cases b
  ·have:=pT _ _ _ _ _ b;omega
 rw[a3C a f.arch _ 2147418112]
 ·split
  ·rw[show hW f=gr (tB f).length (tB f) 0 from rfl,a5H a _ _ _ _ _ i (a7 _) p]
   obtain⟨s,r,t,u,v⟩:=HY (a 0) _ _ _ _ (tL _ 0 1 c (by decide)) (a7 _) d.1 d.2;rw[show oD (tB f).length (tB f) (a 0)=s.way from v,TT (a 0) _ 0 1 c (by decide) s r t u];rcases a2s a f.dflt (a 0) f.rules 1 (by decide)with⟨e,g⟩|⟨k,m,e,g⟩
   ·rw[e,g]
    show ev a (after 3 (.here 3::_)) _=_;rw[y0,qT]
   ·rw[e,g,show 3+((1:Int)+k).toNat=4+k by omega]
    show ev a (if 3=4+k then _ else after (4+k) (mZ _ 4 f.rules++_)) _=_;rw[if_neg (by omega),a2i a f.rules _ 4 (by omega) k m]
  ·rfl
 ·intro x
  rw[j];show ev a (after 0 (mZ _ 4 f.rules++_)) x=_;rw[E5 _ _ _ (n _ (by omega) []),y0,qT]
theorem UV(a:Nat)(p:Nat→Nat):∀(f:Nat)(l:List m8)(i:Nat)(R:List It),0<l.length→l.length≤f→wf R→(∀s∈l,uk s.fr∧3+s.way.toNat∈J7 R)→
  (∀x,a+i≤x→x<a+(i+(gr f l i).length)→x∉J7 R)→(∀j(g:j<(gr f l i).length),p (i+j)=nA a (i+j) ((gr f l i)[j]))→
  wf (Z6 a p i (gr f l i)++R)∧p i∈J7 (Z6 a p i (gr f l i)++R)∧m0 (Z6 a p i (gr f l i))+1≤l.length
 |0,l,i,R,h0,hf,_,_,_,_=>by omega
 |f+1,l,i,R,h0,hf,hR,hw,hn,hp=>by
  generalize d:gr (f+1) l i=N at hp hn⊢;unfold gr at d;by_cases m:l.length/2=0
  ·rw[if_pos m]at d
   subst d;refine⟨hR,?_,h0⟩;have:=hp 0 (by simp);rw[show p i=3+(l.getD 0 rV).way.toNat from this];refine(hw _ ?_).2;rw[a8,e9 h0];exact a30 h0
  ·rw[if_neg m]at d
   subst d;have E:(l.take (l.length/2)).length=l.length/2:=by rw[a4C];omega
   have F:(l.drop (l.length/2)).length=l.length-l.length/2:=List.length_drop;have r:uk (l.getD (l.length/2) rV).fr:=by
    have n:l.length/2<l.length:=by omega
    rw[a8,e9 n];exact(hw _ (a30 n)).1
   have u:=UV a p f (l.take (l.length/2)) (i+1);have v:=UV a p f (l.drop (l.length/2)) (i+1+(gr f (l.take (l.length/2)) (i+1)).length);generalize C:gr f (l.take (l.length/2)) (i+1)=b at*;generalize D:gr f (l.drop (l.length/2)) (i+1+b.length)=B at*;simp only[a3W,a2e]at hn;have y:∀j(g:j<b.length),p (i+1+j)=nA a (i+1+j) b[j]:=fun j g=>by
    have:=hp (j+1) (by simp;omega);rw[show i+(j+1)=i+1+j by omega]at this;simpa[List.getElem_append_left g]using this
   have z:∀j(g:j<B.length),p (i+1+b.length+j)=nA a (i+1+b.length+j) B[j]:=fun j g=>by
    have:=hp (b.length+j+1) (by simp;omega);rw[show i+(b.length+j+1)=i+1+b.length+j by omega]at this;simpa[List.getElem_append_right]using this
   have w:p i=a+i:=hp 0 (by simp);have t:=pT a p b (i+1);have k:=pT a p B (i+1+b.length);obtain⟨b1,b2,b3⟩:=v R (by omega) (by omega) hR (fun s h=>hw s (List.mem_of_mem_drop h)) (fun x k1 k2=>hn x (by omega) (by omega)) z;obtain⟨o,q,A⟩:=u (Z6 a p (i+1+b.length) B++R) (by omega) (by omega) b1 (fun s h=>⟨(hw s (List.mem_of_mem_take h)).1,by rw[m4];exact List.mem_append_right _ (hw s (List.mem_of_mem_take h)).2⟩) (fun x k1 k2 c=>by
    rw[m4]at c;rcases List.mem_append.1 c with c|c
    ·have:=k x c;omega
    ·exact hn x (by omega) (by omega) c) y
   have e:Z6 a p i (⟨Bf,0,(l.getD (l.length/2) rV).fr,((i+1:Nat):Int),((i+1+b.length:Nat):Int)⟩::(b++B))= .here (a+i):: .jmp 53 (l.getD (l.length/2) rV).fr (p (i+1+b.length)) (p (i+1))::(Z6 a p (i+1) b++Z6 a p (i+1+b.length) B):=by
    show EA a p i _++Z6 a p (i+1) (b++B)=_;rw[nQ];rfl
   rw[e,w];refine⟨?_,List.mem_cons_self,?_⟩
   ·show _∉J7 (Z6 a p (i+1) b++Z6 a p (i+1+b.length) B++R)∧a2v 53 _∧p (i+1+b.length)∈J7 (Z6 a p (i+1) b++Z6 a p (i+1+b.length) B++R)∧(_∨p (i+1)∈J7 (Z6 a p (i+1) b++Z6 a p (i+1+b.length) B++R))∧wf (Z6 a p (i+1) b++Z6 a p (i+1+b.length) B++R)
    rw[a4s];refine⟨fun c=> ?_,⟨r,by omega⟩,by rw[m4];exact List.mem_append_right _ b2,.inr q,o⟩;rw[m4,m4]at c;rcases List.mem_append.1 c with c|c
    ·have:=t _ c;omega
    ·rcases List.mem_append.1 c with c|c
     ·have:=k _ c;omega
     ·exact hn _ (by omega) (by omega) c
   ·show 0+(1+m0 (Z6 a p (i+1) b++Z6 a p (i+1+b.length) B))+1≤_
    rw[g2];omega
theorem a5G(a:Nat)(f:Nat)(l:List m8)(R:List It)(c:0<l.length)(g:l.length≤f)(e:wf R)(k:∀s∈l,uk s.fr∧3+s.way.toNat∈J7 R)(i:∀x,a≤x→x<a+(gr f l 0).length→x∉J7 R):
  wf (uU a (gr f l 0)++R)∧m0 (uU a (gr f l 0))≤l.length:=by
 obtain⟨b,d,m⟩:=UV a (fun j=>nA a j ((gr f l 0).getD j IP)) f l 0 R c g e k (fun x k1 k2=>i x (by omega) (by omega)) (fun j h=>by
  show nA a (0+j) ((gr f l 0).getD (0+j) IP)=_;rw[a4E,a8,e9 h];rfl)
 unfold uU;split
 ·exact⟨⟨⟨⟨by decide,by decide⟩,.inl ⟨rfl,rfl⟩⟩,d,.inl rfl,b⟩,by rw[g2,show∀q,m0 [It.jmp 5 0 q 0]=1 from fun _=>rfl];omega⟩
 ·exact⟨b,by rw[List.nil_append];omega⟩
theorem TG:∀(rs:List m1)(n l j:Nat),j<rs.length→l+j∈J7 (mZ n l rs)
 |r::rs,n,l,0,h=>List.mem_cons_self
 |r::rs,n,l,j+1,h=>by
  have:=TG rs (jW n r.tests) (l+1) j (by simpa using h);refine List.mem_cons_of_mem _ ?_;rw[m4,show l+(j+1)=l+1+j by omega];exact List.mem_append_right _ this
theorem a3B{a:Int}{R:List It}(m:wf R)(i:0∈J7 R)(k:1∉J7 R)(l:2∉J7 R)(n:uk (B8 a)):wf (gE a++R)∧m0 (gE a)≤4:=by
 have k1:JR ⟨32,4,0,0⟩:=⟨rfl,rfl,⟨by decide,by decide⟩,.inl ⟨rfl,by decide,by decide⟩⟩;have k2:JR ⟨32,0,0,0⟩:=⟨rfl,rfl,⟨by decide,by decide⟩,.inl ⟨rfl,by decide,by decide⟩⟩;have b:wf (.here 2::R):=⟨l,m⟩;have d:0∈J7 (.here 2::R):=List.mem_cons_of_mem _ i;have f:1∉J7 (.here 2::R):=fun h=>(List.mem_cons.1 h).elim (by decide) k
 have j:∀t e,(t=0∨t=2)→(e=0∨e=2)→wf (.jmp 69 1073741824 t e:: .here 2::R):=fun t e p o=>by
  refine⟨⟨⟨by decide,by decide⟩,by decide⟩,?_,.inr ?_,b⟩
  ·rcases p with rfl|rfl;exact d;exact List.mem_cons_self
  ·rcases o with rfl|rfl;exact d;exact List.mem_cons_self
 have g:∀c:List It,wf c→0∈J7 c→1∉J7 c→wf (.put ⟨32,4,0,0⟩:: .jmp 21 (B8 a) 1 0:: .here 1:: .put ⟨32,0,0,0⟩::c):=fun c q r s=>
  ⟨k1,.inr ⟨⟨n,.inr (.inl rfl)⟩,List.mem_cons_self,.inr (List.mem_cons_of_mem _ r),s,k2,.inr q⟩⟩
 unfold gE;split
 ·exact⟨g _ (j 0 2 (.inl rfl) (.inr rfl)) d f,by show 1+(1+(0+(1+(1+(0+0)))))≤4;decide⟩
 ·split
  ·exact⟨g _ (j 2 0 (.inr rfl) (.inl rfl)) d f,by show 1+(1+(0+(1+(1+(0+0)))))≤4;decide⟩
  ·exact⟨g _ b d f,by show 1+(1+(0+(1+(0+0))))≤4;decide⟩
theorem TU:∀(l:List Int)(lo i:Int),(aT lo l i).length≤2*l.length+1
 |[],lo,i=>by unfold aT;split<;>simp
 |n::r,lo,i=>by
  have:=TU r (n+1) (i+1);unfold aT;split
  ·simp only[a2e,a3W,List.length_nil];omega
  ·simp only[a2e,a3W,List.length_nil];omega
theorem a2H:∀(l:List m8)(lo hi:Int),CH lo hi l→∀s∈l,s.fr<hi
 |t::r,lo,hi,a,s,b=>by
  have c:∀(r:List m8)(lo:Int),CH lo hi r→lo≤hi:=fun r=>by
   induction r with
   |nil=>intro lo a;exact Int.le_of_eq a
   |cons y r ih=>intro lo a;have:=ih _ a.2.2;have:=a.2.1;omega
  rcases List.mem_cons.1 b with rfl|b
  ·have:=c r _ a.2.2;have:=a.1;have:=a.2.1;omega
  ·exact a2H r _ hi a.2.2 s b
structure lC(f:C8):Prop where
 d:uk f.dflt
 rs:∀r∈f.rules,wA r
 ri:N7 0 (f.rules.map (·.nr))
 ar:uk (B8 f.arch)
theorem SD{f:C8}(b:lC f):wf (aX f)∧m0 (aX f)≤3*f.rules.length+7*rU f.rules+7:=by
 have o:=vX f b.ri;have k:=tL _ 0 1 b.ri (by decide);have n:wf [.here 0,.put ⟨6,2147418112,0,0⟩]:=⟨(by intro b;cases b),⟨rfl,rfl,⟨by decide,by decide⟩,.inr (.inr rfl)⟩,.inl ⟨rfl,rfl⟩⟩;have d:∀x,x∈J7 [It.here 0,.put ⟨6,2147418112,0,0⟩]→x=0:=fun x a=>List.mem_singleton.1 a
 have u:=a2h f.rules (4+f.rules.length+(hW f).length) 4 [.here 0,.put ⟨6,2147418112,0,0⟩] b.rs (by omega) n (fun x k1 k2 a=>by have:=d x a;omega) (fun x k1 k2 a=>by have:=d x a;omega);have m:∀x,x∈J7 (mZ (4+f.rules.length+(hW f).length) 4 f.rules++[.here 0,.put ⟨6,2147418112,0,0⟩])→x=0∨4≤x∧(x<4+f.rules.length∨4+f.rules.length+(hW f).length≤x):=fun x a=>by
  rw[m4]at a;rcases List.mem_append.1 a with a|a
  ·rcases pD _ _ _ _ a with q|q<;>omega
  ·exact .inl (d x a)
 have r:wf (.here 3:: .put ⟨6,f.dflt,0,0⟩::(mZ (4+f.rules.length+(hW f).length) 4 f.rules++[.here 0,.put ⟨6,2147418112,0,0⟩])):=
  ⟨fun a=>by have:=m 3 a;omega,⟨rfl,rfl,b.d,.inr (.inr rfl)⟩,.inr u⟩
 have l:∀x,x∈J7 (.here 3:: .put ⟨6,f.dflt,0,0⟩::(mZ (4+f.rules.length+(hW f).length) 4 f.rules++[.here 0,.put ⟨6,2147418112,0,0⟩]))→x=0∨3≤x∧(x<4+f.rules.length∨4+f.rules.length+(hW f).length≤x):=fun x a=>by
  rcases List.mem_cons.1 a with rfl|a
  ·right;omega
  ·have:=m x a;omega
 have v:∀h:List It,0∈J7 (h++[.here 0,.put ⟨6,2147418112,0,0⟩]):=fun h=>by rw[m4];exact List.mem_append_right _ List.mem_cons_self
 obtain⟨b1,b2⟩:=a5G (4+f.rules.length) (tB f).length (tB f) _ o (a7 _) r (fun s g=>⟨⟨YS _ _ _ k s g,a2H _ _ _ k s g⟩,by
  rcases nM _ _ _ (by decide) s g with q|q
  ·rw[a32]at q
   by_cases e:s.way=0
   ·rw[e];exact List.mem_cons_self
   ·refine List.mem_cons_of_mem _ ?_
    rw[show 3+s.way.toNat=4+(s.way.toNat-1) by omega];show _∈J7 (mZ _ 4 f.rules++_);rw[m4];exact List.mem_append_left _ (TG f.rules _ 4 _ (by omega))
  ·rw[q];exact List.mem_cons_self⟩) (fun x k1 k2 a=>by
  have:=l x a;have e:(hW f).length=(gr (tB f).length (tB f) 0).length:=rfl;omega)
 have p:∀x,x∈J7 (uU (4+f.rules.length) (hW f))→4≤x:=fun x a=>by
  unfold uU at a;rw[m4]at a;rcases List.mem_append.1 a with a|a
  ·split at a<;>cases a
  ·have:=pT _ _ _ _ _ a;omega
 have j:∀x,(x=1∨x=2)→x∉J7 (uU (4+f.rules.length) (hW f)++(.here 3:: .put ⟨6,f.dflt,0,0⟩::(mZ (4+f.rules.length+(hW f).length) 4 f.rules++[.here 0,.put ⟨6,2147418112,0,0⟩]))):=fun x a c=>by
  rw[m4]at c;rcases List.mem_append.1 c with c|c
  ·have:=p x c;omega
  ·have:=l x c;omega
 obtain⟨t,B⟩:=a3B b1 (by rw[m4];refine List.mem_append_right _ (List.mem_cons_of_mem _ ?_);exact v _) (j 1 (.inl rfl)) (j 2 (.inr rfl)) b.ar;refine⟨t,?_⟩;have w:=TH f.rules (4+f.rules.length+(hW f).length) 4;have i:=TU (f.rules.map (·.nr)) 0 1;rw[a32]at i;have y:(tB f).length≤2*f.rules.length+1:=i;have z:m0 (uU (4+f.rules.length) (hW f))≤(tB f).length:=b2;unfold aX;rw[g2,g2];show _+(_+(0+(1+m0 (mZ _ 4 f.rules++_))))≤_;rw[g2];have A:m0 [It.here 0,.put ⟨6,2147418112,0,0⟩]=1:=rfl;omega
def F5:List j6→Int→List j6×Int
 |[],act=>([],act)
 |t::r,act=>if t.mask=0 then([],t.act)else(t::(F5 r act).1,(F5 r act).2)
theorem DF(b:Int→Int):∀(l:List j6)(a:Int),yI b (F5 l a).1 (F5 l a).2=yI b l a
 |[],a=>rfl
 |t::r,a=>by
  unfold F5;by_cases c:t.mask=0
  ·rw[if_pos c]
   show t.act=if s2 b t then t.act else _
   rw[yU b t c,if_pos rfl]
  ·rw[if_neg c]
   show(if s2 b t then t.act else yI b (F5 r a).1 (F5 r a).2)=_;rw[DF b r a];rfl
def F8(l:List j6)(a:Int):Nat→Nat
 |0=>0
 |n+1=>if(l.getD n ⟨0,0,0,0⟩).act=a then F8 l a n else n+1
theorem sZ(l:List j6)(a:Int):∀n,F8 l a n≤n
 |0=>a7 _
 |n+1=>by unfold F8;split;exact Nat.le_succ_of_le (sZ l a n);exact a7 _
theorem JM(a:Int→Int)(t:j6):∀(l:List j6),yI a (l++[t]) t.act=yI a l t.act
 |[]=>by show(if s2 a t then t.act else t.act)=t.act;split<;>rfl
 |x::r=>by show(if s2 a x then x.act else yI a (r++[t]) t.act)=_;rw[JM a t r];rfl
theorem oS(b:Int→Int)(l:List j6)(a:Int):∀n,n≤l.length→yI b (l.take (F8 l a n)) a=yI b (l.take n) a
 |0,_=>rfl
 |n+1,h=>by
  unfold F8;split
  ·rename_i e
   rw[oS b l a n (by omega),a4a (by omega)];rw[a8,e9 (by omega)]at e;have c:l[n].act=a:=e;rw[←c];exact(JM b _ _).symm
  ·rfl
def s9(r:m1):m1:=⟨r.nr,(F5 r.tests r.act).1.take (F8 (F5 r.tests r.act).1 (F5 r.tests r.act).2 (F5 r.tests r.act).1.length),(F5 r.tests r.act).2⟩
theorem tP(a:Int→Int)(r:m1):yI a (s9 r).tests (s9 r).act=yI a r.tests r.act:=by
 unfold s9;rw[oS a _ _ _ (a7 _),List.take_length,DF]
def F3(d:Int)(r:m1):Bool:=Dc (0<r.tests.length)||r.act !=d
def I1(f:C8):C8:=⟨f.arch,f.dflt,(f.rules.map s9).filter (F3 f.dflt)⟩
theorem KG(b:Int→Int)(d a:Int):∀rs:List m1,(∀r∈rs,r.nr≠a)→GE b d rs a=d
 |[],_=>rfl
 |r::rs,h=>by
  unfold GE;rw[if_neg (h r List.mem_cons_self)];exact KG b d a rs fun x c=>h x (List.mem_cons_of_mem _ c)
theorem KF(b:Int→Int)(d a:Int):∀(rs:List m1)(lo:Int),N7 lo (rs.map (·.nr))→GE b d ((rs.map s9).filter (F3 d)) a=GE b d rs a
 |[],_,_=>rfl
 |r::rs,lo,h=>by
  have ih:=KF b d a rs _ h.2.2;rw[List.map_cons,List.filter_cons];cases c:F3 d (s9 r)
  ·rw[if_neg (by decide),ih]
   unfold F3 at c;simp only[Bool.or_eq_false_iff,decide_eq_false_iff_not,bne_eq_false_iff_eq]at c;have f:yI b r.tests r.act=d:=by
    rw[←tP,c.2];have:(s9 r).tests=[]:=by
     rcases g:(s9 r).tests with _|⟨x,k⟩
     ·rfl
     ·have:=c.1;rw[g]at this;simp at this
    rw[this];rfl
   conv=>rhs;unfold GE
   split
   ·rename_i e
    rw[f];exact KG b d a rs fun x i=>by have j:r.nr+1≤x.nr:=wC _ _ h.2.2 x.nr (List.mem_map_of_mem i);omega
   ·rfl
  ·rw[if_pos rfl]
   show(if(s9 r).nr=a then yI b (s9 r).tests (s9 r).act else GE b d _ a)=if r.nr=a then _ else _
   rw[tP,ih];rfl
theorem YC(a:Int→Int)(f:C8)(b:N7 0 (f.rules.map (·.nr))):DD a (I1 f)=DD a f:=by
 unfold DD;show(if a0T a f.arch then GE a f.dflt _ (a 0)else _)=_;rw[show(I1 f).rules=(f.rules.map s9).filter (F3 f.dflt)from rfl,KF a f.dflt (a 0) f.rules 0 b]
theorem MZ:∀(l:List Int)(lo a:Int),N7 lo l→a≤lo→N7 a l
 |[],_,_,_,_=>trivial
 |n::r,lo,a,h,hl=>⟨by have:=h.1;omega,h.2⟩
theorem kJ(d:Int):∀(rs:List m1)(lo:Int),N7 lo (rs.map (·.nr))→N7 lo (((rs.map s9).filter (F3 d)).map (·.nr))
 |[],_,_=>trivial
 |r::rs,lo,h=>by
  have ih:=kJ d rs _ h.2.2;rw[List.map_cons,List.filter_cons];split
  ·exact⟨h.1,h.2.1,ih⟩
  ·exact MZ _ _ _ ih (by have:=h.1;omega)
theorem xO:∀(l:List j6)(a:Int),(∀t∈(F5 l a).1,t∈l)∧((F5 l a).2=a∨∃t∈l,(F5 l a).2=t.act)
 |[],a=>⟨fun t c=>c,.inl rfl⟩
 |t::r,a=>by
  unfold F5;split
  ·exact⟨fun x c=>(by cases c),.inr ⟨t,List.mem_cons_self,rfl⟩⟩
  ·obtain⟨f,d⟩:=xO r a
   refine⟨fun x b=> ?_,?_⟩
   ·rcases List.mem_cons.1 b with rfl|b
    ·exact List.mem_cons_self
    ·exact List.mem_cons_of_mem _ (f x b)
   ·rcases d with d|⟨x,b,e⟩
    ·exact .inl d
    ·exact .inr ⟨x,List.mem_cons_of_mem _ b,e⟩
theorem xP:∀(l:List j6)(a:Int),(F5 l a).1.length≤l.length
 |[],a=>a7 _
 |t::r,a=>by
  have:=xP r a;unfold F5;split
  ·exact i5 _
  ·simp;omega
theorem AS(r:m1):(s9 r).tests.length≤r.tests.length:=c8 (List.length_take_le _ _) (by
 have a:=xP r.tests r.act;have b:=sZ (F5 r.tests r.act).1 (F5 r.tests r.act).2 (F5 r.tests r.act).1.length;omega)
theorem a01{r:m1}(a:wA r):wA (s9 r):=by
 obtain⟨c,d⟩:=xO r.tests r.act;refine⟨a.nr,?_,fun t b=>a.ts t (c t (List.mem_of_mem_take b))⟩;show uk (F5 r.tests r.act).2;rcases d with e|⟨t,b,e⟩
 ·rw[e];exact a.act
 ·rw[e];exact(a.ts t b).2.2.2
theorem oH(d:Int):∀rs:List m1,rU ((rs.map s9).filter (F3 d))≤rU rs∧((rs.map s9).filter (F3 d)).length≤rs.length
 |[]=>⟨a7 _,a7 _⟩
 |r::rs=>by
  obtain⟨a,b⟩:=oH d rs;have c:=AS r;have e:∀(r:m1)(rs:List m1),rU (r::rs)=r.tests.length+rU rs:=fun r rs=>by simp[rU]
  rw[List.map_cons,List.filter_cons];split
  ·rw[e,e,a3W,a3W];omega
  ·rw[e,a3W];omega
theorem UR{f:C8}(a:lC f):lC (I1 f):=⟨a.d,fun r b=>by
 obtain⟨x,c,rfl⟩:=List.mem_map.1 (List.mem_filter.1 b).1;exact a01 (a.rs x c),kJ _ _ _ a.ri,a.ar⟩
theorem XX{f:C8}(b:lC f)(j:3*f.rules.length+7*rU f.rules+7≤1365):
  (m9 (F6 (aX f))∧(∀s∈F6 (aX f),s.ok)∧(F6 (aX f)).length≤1365)∧(m9 (F6 (aX (I1 f)))∧(∀s∈F6 (aX (I1 f)),s.ok)∧(F6 (aX (I1 f))).length≤1365)∧
  ∀a:Int→Int,uk (a 0)→(N6 a (F6 (aX (I1 f)))).1=(N6 a (F6 (aX f))).1:=by
 have g:=UR b;obtain⟨c,h⟩:=SD b;obtain⟨d,i⟩:=SD g;have k:3*(I1 f).rules.length+7*rU (I1 f).rules≤3*f.rules.length+7*rU f.rules:=by
  have:=oH f.dflt f.rules;show 3*((f.rules.map s9).filter (F3 f.dflt)).length+7*rU ((f.rules.map s9).filter (F3 f.dflt))≤_;omega
 refine⟨⟨oB c (by omega),ZD c (by omega),by rw[Q7];omega⟩,⟨oB d (by omega),ZD d (by omega),by rw[Q7];omega⟩,fun a e=> ?_⟩;rw[rK d (by omega),rK c (by omega),SE a f b.ri e,SE a (I1 f) g.ri e,YC a f b.ri]
def C1(a:List Sy)(t:Int):Int:=if(a.getD t.toNat c6).code=5 then(a.getD t.toNat c6).th else t
def V4(f:Int→Int)(s:Sy):Sy:=
 if l0 s.code then(if f s.th=f s.el then⟨5,0,f s.th,0⟩else{s with th:=f s.th,el:=f s.el})
 else if s.code=5 then{s with th:=f s.th}else s
def eI(ps:List Sy)(a:List Sy)(i:Nat):List Sy:=a.set i (V4 (C1 a) (ps.getD i c6))
def p8(ps:List Sy)(a:List Nat):List Sy:=a.foldl (eI ps) ps
def D7(ps:List Sy):List Sy:=p8 ps (q5 ps.length).reverse
theorem fI(ps:List Sy)(a:List Nat)(i:Nat):p8 ps (a++[i])=eI ps (p8 ps a) i:=by simp[p8,List.foldl_append]
theorem vM(f:Int→Int)(s:Sy):V4 f s=if l0 s.code=Bt∧f s.th=f s.el then⟨5,0,f s.th,0⟩else mv f s:=by
 unfold V4 mv;by_cases a:l0 s.code=Bt
 ·by_cases e:f s.th=f s.el
  ·rw[if_pos a,if_pos e,if_pos ⟨a,e⟩]
  ·rw[if_pos a,if_neg e,if_neg (fun x=>e x.2),if_pos a]
 ·have b:¬(l0 s.code=Bt∧f s.th=f s.el):=fun x=>a x.1
  rw[if_neg a,if_neg b,if_neg a]
theorem ER{f g:Int→Int}{s:Sy}{a n:Int}(i:H5 s a n)(d:∀t:Int,a<t→t<n→f t=g t):V4 f s=V4 g s:=by
 rw[vM,vM,UX i d];by_cases b:l0 s.code=Bt
 ·rcases i with⟨c,_,_,_⟩|⟨c,_,_⟩|⟨c,_,_⟩|⟨c,_,_,e⟩|⟨c,e,h⟩
  ·rw[c]at b;cases b
  ·rw[c]at b;cases b
  ·rw[c]at b;cases b
  ·rw[c]at b;cases b
  ·rw[d _ e.1 e.2,d _ h.1 h.2]
 ·rw[if_neg (fun x=>b x.1),if_neg (fun x=>b x.1)]
theorem X8(l:List Sy)(i j:Nat)(v:Sy):(l.set i v).getD j c6=if i=j∧j<l.length then v else l.getD j c6:=by
 simp only[a8,List.getElem?_set];by_cases a:i=j
 ·subst a
  by_cases b:i<l.length
  ·simp[b]
  ·simp[b]
 ·simp[a]
structure Thr(ps out:List Sy):Prop where
 len:out.length=ps.length
 get:∀i,i<ps.length→out.getD i c6=V4 (C1 out) (ps.getD i c6)
theorem ID(n j:Nat)(h:j<n):(q5 n).reverse.take (n-j)=(q5 n).reverse.take (n-(j+1))++[j]:=by
 have e:n-j=n-(j+1)+1:=by omega
 rw[e,a4a (by simp;omega)];congr 2;rw[List.getElem_reverse];simp;omega
theorem lO{ps:List Sy}(g:m9 ps):∀k,k≤ps.length→(p8 ps ((q5 ps.length).reverse.take k)).length=ps.length∧
  (∀i,i<ps.length-k→(p8 ps ((q5 ps.length).reverse.take k)).getD i c6=ps.getD i c6)∧
  (∀i,ps.length-k≤i→i<ps.length→(p8 ps ((q5 ps.length).reverse.take k)).getD i c6=V4 (C1 (p8 ps ((q5 ps.length).reverse.take k))) (ps.getD i c6))
 |0,_=>⟨by simp[p8],fun i m=>by simp[p8],fun i m d=>by omega⟩
 |k+1,hk=>by
  obtain⟨n,d,o⟩:=lO g k (by omega);have h:=ID ps.length (ps.length-(k+1)) (by omega);rw[show ps.length-(ps.length-(k+1))=k+1 by omega,show ps.length-(ps.length-(k+1)+1)=k by omega]at h;rw[h,fI];generalize p8 ps ((q5 ps.length).reverse.take k)=c at*;generalize r:ps.length-(k+1)=j at*;unfold eI;generalize q:V4 (C1 c) (ps.getD j c6)=v;have p:∀t:Int,(j:Int)<t→C1 (c.set j v) t=C1 c t:=fun t s=>by
   have e:(c.set j v).getD t.toNat c6=c.getD t.toNat c6:=by rw[X8,if_neg (by omega)]
   unfold C1;rw[e]
  refine⟨by rw[List.length_set,n],fun i hi=> ?_,fun i hi f=> ?_⟩
  ·rw[X8,if_neg (by omega)]
   exact d i (by omega)
  ·have l:V4 (C1 (c.set j v)) (ps.getD i c6)=V4 (C1 c) (ps.getD i c6):=ER (a0P (g.one i f)) fun t a b=>p t (by omega)
   rw[l,X8];by_cases e:j=i
   ·subst e
    rw[if_pos ⟨rfl,by omega⟩,q]
   ·rw[if_neg (fun x=>e x.1)]
    exact o i (by omega) f
theorem aY{ps:List Sy}(d:m9 ps):Thr ps (D7 ps):=by
 obtain⟨a,c,b⟩:=lO d ps.length (a7 _);rw[List.take_of_length_le (by simp)]at a c b;exact⟨a,fun i hi=>b i (by omega) hi⟩
structure Tg(out:List Sy)(n i:Nat):Prop where
 kind:H5 (out.getD i c6) i n
 ja:∀t:Nat,cG (out.getD i c6)=Bt→(out.getD i c6).th=t→(out.getD t c6).code≠5
 es:∀t:Nat,l0 (out.getD i c6).code=Bt→(out.getD i c6).el=t→(out.getD t c6).code≠5
 ne:l0 (out.getD i c6).code=Bt→(out.getD i c6).th≠(out.getD i c6).el
theorem JC{a:List Sy}{n t:Nat}(d:Tg a n t)(g:t<n):∃u:Nat,C1 a t=u∧t≤u∧u<n∧(a.getD u c6).code≠5∧(u=t∨((a.getD t c6).code=5∧(a.getD t c6).th=u)):=by
 unfold C1;rw[a4A];by_cases e:(a.getD t c6).code=5
 ·rw[if_pos e]
  obtain⟨u,c⟩:∃u:Nat,(a.getD t c6).th=u∧t<u∧u<n:=by
   rcases d.kind with⟨b,_,_,_⟩|⟨b,_,_⟩|⟨b,_,_⟩|⟨b,_,_,f⟩|⟨b,f,h⟩
   ·omega
   ·omega
   ·omega
   ·exact⟨(a.getD t c6).th.toNat,by omega,by omega,by omega⟩
   ·omega
  exact⟨u,c.1,by omega,c.2.2,d.ja u (by unfold cG;rw[e];rfl) c.1,.inr ⟨e,c.1⟩⟩
 ·rw[if_neg e]
  exact⟨t,rfl,a7 _,g,e,.inl rfl⟩
theorem SJ{ps j:List Sy}(A:m9 ps)(z:Thr ps j):∀m i,ps.length-i≤m→i<ps.length→Tg j ps.length i
 |0,i,h,hi=>by omega
 |m+1,i,h,hi=>by
  have y:=a0P (A.one i hi);have o:=z.get i hi;have x:∀t:Int,(i:Int)<t→t<ps.length→∃u:Nat,C1 j t=u∧i<u∧u<ps.length∧(j.getD u c6).code≠5:=fun t P Q=>by
   obtain⟨n,rfl⟩:∃n:Nat,t=n:=⟨t.toNat,by omega⟩;obtain⟨u,a,b,c,d,_⟩:=JC (SJ A z m n (by omega) (by omega)) (by omega);exact⟨u,a,by omega,c,d⟩
  generalize ps.getD i c6=s at*;have w:s.code=32∨s.code=84∨s.code=6→Tg j ps.length i:=fun R=>by
   have k:l0 s.code≠Bt:=fun e=>by rw[a0h]at e;omega
   have e:j.getD i c6=s:=by
    rw[o];unfold V4;rw[if_neg k,if_neg (by omega)]
   refine⟨by rw[e];exact y,fun t f=> ?_,fun t f=> ?_,fun f=> ?_⟩
   ·rw[e]at f;unfold cG at f;simp at f;rcases f with f|f
    ·omega
    ·exact absurd f k
   ·rw[e]at f;exact absurd f k
   ·rw[e]at f;exact absurd f k
  rcases y with⟨q,_,_,_⟩|⟨q,_,_⟩|⟨q,_,_⟩|⟨q,F,G,l⟩|⟨q,l,D⟩
  ·exact w (by omega)
  ·exact w (by omega)
  ·exact w (by omega)
  ·obtain⟨u,p,H,L,r⟩:=x s.th l.1 l.2
   have k:l0 s.code≠Bt:=fun e=>by rw[a0h]at e;omega
   have e:j.getD i c6= {s with th:=(u:Int)}:=by
    rw[o];unfold V4;rw[if_neg k,if_pos q,p]
   refine⟨by rw[e];exact .ja q F G ⟨by show(i:Int)<(u:Int);omega,by show(u:Int)<_;omega⟩,fun t f g=> ?_,fun t f=> ?_,fun f=> ?_⟩
   ·rw[e]at g
    have:u=t:=Int.ofNat.inj g;subst this;exact r
   ·rw[e]at f;exact absurd f k
   ·rw[e]at f;exact absurd f k
  ·have E:=a0h.2 q
   obtain⟨u,p,H,L,r⟩:=x s.th l.1 l.2;obtain⟨v,C,S,T,N⟩:=x s.el D.1 D.2;by_cases B:u=v
   ·have e:j.getD i c6=⟨5,0,(u:Int),0⟩:=by
     rw[o];unfold V4;rw[if_pos E,p,C,B,if_pos rfl]
    refine⟨by rw[e];exact .ja rfl rfl rfl ⟨by show(i:Int)<(u:Int);omega,by show(u:Int)<_;omega⟩,fun t f g=> ?_,fun t f=> ?_,fun f=> ?_⟩
    ·rw[e]at g
     have:u=t:=Int.ofNat.inj g;subst this;exact r
    ·rw[e]at f;exact absurd (show l0 5=Bt from f) (by decide)
    ·rw[e]at f;exact absurd (show l0 5=Bt from f) (by decide)
   ·have e:j.getD i c6= {s with th:=(u:Int),el:=(v:Int)}:=by
     rw[o];unfold V4;rw[if_pos E,p,C,if_neg (by omega)]
    refine⟨by rw[e];exact .as q ⟨by show(i:Int)<(u:Int);omega,by show(u:Int)<_;omega⟩ ⟨by show(i:Int)<(v:Int);omega,by show(v:Int)<_;omega⟩,fun t f g=> ?_,fun t f g=> ?_,fun f g=> ?_⟩
    ·rw[e]at g
     have:u=t:=Int.ofNat.inj g;subst this;exact r
    ·rw[e]at g
     have:v=t:=Int.ofNat.inj g;subst this;exact N
    ·rw[e]at g
     exact B (Int.ofNat.inj g)
theorem EQ{ps a:List Sy}(c:m9 ps)(b:Thr ps a)(i:Nat)(hi:i<ps.length):Tg a ps.length i:=SJ c b _ i (a7 _) hi
theorem oO{f:Int→Int}{s:Sy}(b:s.code=6∨s.code=32∨s.code=84):V4 f s=s:=by
 unfold V4;have a:l0 s.code≠Bt:=fun e=>by rw[a0h]at e;omega
 rw[if_neg a,if_neg (by omega)]
theorem JA{ps d:List Sy}(b:m9 ps)(a:Thr ps d):m9 d:=by
 refine⟨by rw[a.len];exact b.l1,by rw[a.len];exact b.l2,?_,fun i hi=> ?_⟩
 ·have:=b.l1
  have c:=b.last;rw[a.len,a.get _ (by omega),oO (.inl c)];exact c
 ·rw[a.len]at hi⊢
  exact nR (EQ b a i hi).kind
theorem a28{ps a:List Sy}(l:m9 ps)(e:Thr ps a)(p:∀i∈ps,i.ok):∀i∈a,i.ok:=fun i hi=>by
 have u:=l.l2;obtain⟨j,k,rfl⟩:=List.getElem_of_mem hi;have d:j<ps.length:=by rw[←e.len];exact k
 have h:=e.get j d;have n:a.getD j c6=a[j]:=by simp[a8,k]
 have o:ps.getD j c6=ps[j]:=by simp[a8,d]
 have f:=(EQ l e j d).kind;rw[n]at f h;have m:=p _ (a30 d);rw[←o]at m;obtain⟨⟨q,r⟩,⟨s,t⟩,_,_⟩:=m;have g:(0≤a[j].code∧a[j].code<65536)∧(0≤a[j].k∧a[j].k<4294967296):=by
  rw[h];unfold V4
  (repeat' split)<;>exact⟨by first|exact⟨q,r⟩|exact(⟨by decide,by decide⟩:(0:Int)≤5∧(5:Int)<65536),by first|exact⟨s,t⟩|exact(⟨by decide,by decide⟩:(0:Int)≤0∧(0:Int)<4294967296)⟩
 refine⟨g.1,g.2,?_⟩;unfold LJ;rcases f with⟨_,b,c,_⟩|⟨_,b,c⟩|⟨_,b,c⟩|⟨_,_,c,b⟩|⟨_,b,c⟩<;>omega
theorem oN{ps d:List Sy}(i:m9 ps)(j:Thr ps d)(c:Int→Int):∀(m k:Nat)(a:Int),ps.length-k≤m→k<ps.length→
  (r7 c d k a).1=(r7 c ps k a).1∧(r7 c d k a).2≤(r7 c ps k a).2
 |0,k,a,h,hk=>by omega
 |m+1,k,a,h,hk=>by
  have l:=JA i j;have r:k<d.length:=by rw[j.len];exact hk
  have g:=j.get k hk;have S:=a0P (i.one k hk);by_cases f:(ps.getD k c6).code=6
  ·rw[oO (.inl f)]at g
   rw[B9 l c k a r (by rw[g];exact f),B9 i c k a hk f,g];exact⟨rfl,a7 _⟩
  ·obtain⟨ab,ac,R⟩:=gH i c k a hk f
   have D:∀(t:Int)(b:Int),(k:Int)<t→t<ps.length→∃u:Nat,C1 d t=u∧u<ps.length∧(r7 c d u b).1=(r7 c ps t.toNat b).1∧(r7 c d u b).2≤(r7 c ps t.toNat b).2:=fun t b ad ae=>by
    obtain⟨t,rfl⟩:∃n:Nat,t=n:=⟨t.toNat,by omega⟩;obtain⟨u,e,N,p,A,C⟩:=JC (EQ i j t (by omega)) (by omega);obtain⟨o,y⟩:=oN i j c m t b (by omega) (by omega);rw[a4A];refine⟨u,e,p,?_⟩;rcases C with rfl|⟨C,aa⟩
    ·exact⟨o,y⟩
    ·have w:J4 c (d.getD t c6) t b=(u,b):=by
      rw[bJ C,aa,a4A]
     rw[q0 l c t b (by rw[j.len];omega) (by rw[C];decide),w]at o y;dsimp only at o y;exact⟨o,by have:(DN (r7 c d u b)).2=(r7 c d u b).2+1:=rfl;omega⟩
   rw[q0 i c k a hk f];generalize af:ps.getD k c6=s at*;have G:s.code=32∨s.code=84→(r7 c d k a).1=(DN (r7 c ps (J4 c s k a).1 (J4 c s k a).2)).1∧(r7 c d k a).2≤(DN (r7 c ps (J4 c s k a).1 (J4 c s k a).2)).2:=fun q=>by
    rw[oO (by omega)]at g;rw[q0 l c k a r (by rw[g];exact f),g];obtain⟨o,y⟩:=oN i j c m _ (J4 c s k a).2 (by omega) R;exact⟨o,Nat.succ_le_succ y⟩
   rcases S with⟨q,_,_,_⟩|⟨q,_,_⟩|⟨q,_,_⟩|⟨q,ag,ah,z⟩|⟨q,z,H⟩
   ·exact G (.inl q)
   ·exact G (.inr q)
   ·exact absurd q f
   ·obtain⟨u,B,N,p,A⟩:=D s.th a z.1 z.2
    have T:l0 s.code≠Bt:=fun e=>by rw[a0h]at e;omega
    have e:d.getD k c6= {s with th:=(u:Int)}:=by
     rw[g];unfold V4;rw[if_neg T,if_pos q,B]
    have w:J4 c s k a=(s.th.toNat,a):=bJ q c k a;have x:J4 c {s with th:=(u:Int)} k a=(u,a):=by rw[bJ (s:= {s with th:=(u:Int)}) q,a4A]
    rw[q0 l c k a r (by rw[e];exact f),e,w,x];exact⟨p,Nat.succ_le_succ A⟩
   ·have L:=a0h.2 q
    obtain⟨u,B,N,p,A⟩:=D s.th a z.1 z.2;obtain⟨v,F,ai,P,Q⟩:=D s.el a H.1 H.2;have w:J4 c s k a=if r4 s a then(s.th.toNat,a)else(s.el.toNat,a):=bK (by omega) c k a
    rw[w];by_cases E:u=v
    ·have e:d.getD k c6=⟨5,0,(u:Int),0⟩:=by
      rw[g];unfold V4;rw[if_pos L,B,F,E,if_pos rfl]
     have x:J4 c ⟨5,0,(u:Int),0⟩ k a=(u,a):=rfl;rw[q0 l c k a r (by rw[e];show(5:Int)≠6;decide),e,x];subst E;cases r4 s a
     ·rw[if_neg (by decide)]
      exact⟨P,Nat.succ_le_succ Q⟩
     ·rw[if_pos rfl]
      exact⟨p,Nat.succ_le_succ A⟩
    ·have e:d.getD k c6= {s with th:=(u:Int),el:=(v:Int)}:=by
      rw[g];unfold V4;rw[if_pos L,B,F,if_neg (by omega)]
     have W:r4 {s with th:=(u:Int),el:=(v:Int)} a=r4 s a:=T8 rfl rfl a;have x:J4 c {s with th:=(u:Int),el:=(v:Int)} k a=if r4 s a then(u,a)else(v,a):=by
      rw[bK (s:= {s with th:=(u:Int),el:=(v:Int)}) (by dsimp only;omega),W,a4A,a4A]
     rw[q0 l c k a r (by rw[e];exact f),e,x];cases r4 s a
     ·rw[if_neg (by decide),if_neg (by decide)]
      exact⟨P,Nat.succ_le_succ Q⟩
     ·rw[if_pos rfl,if_pos rfl]
      exact⟨p,Nat.succ_le_succ A⟩
theorem oM{ps:List Sy}(a:m9 ps):(D7 ps).length=ps.length:=(aY a).len
theorem aZ{ps:List Sy}(a:m9 ps):m9 (D7 ps):=JA a (aY a)
def r2(s:Sy)(t:Int):Prop:=(cG s=Bt∧s.th=t)∨(l0 s.code=Bt∧s.el=t)
theorem SK{s:Sy}{k i:Nat}(h:r2 s i):dO s k i=Bt:=by
 unfold dO;rcases h with⟨a,b⟩|⟨a,b⟩
 ·rw[a,b];simp
 ·rw[a,b];simp
theorem WV{s:Sy}(h:s.code=5):r2 s s.th:= .inl ⟨by unfold cG;rw[h];rfl,rfl⟩
theorem yA{s:Sy}(h:l0 s.code=Bt):r2 s s.th∧r2 s s.el:=⟨.inl ⟨by unfold cG;rw[h];simp,rfl⟩,.inr ⟨h,rfl⟩⟩
theorem ES{s:Sy}{a n t:Int}(c:H5 s a n)(b:r2 s t):a<t∧t<n:=by
 unfold r2 cG at b;rcases c with⟨q,_,_,_⟩|⟨q,_,_⟩|⟨q,_,_⟩|⟨q,_,_,d⟩|⟨q,d,e⟩
 ·rw[q]at b;exact absurd b (by simp[l0])
 ·rw[q]at b;exact absurd b (by simp[l0])
 ·rw[q]at b;exact absurd b (by simp[l0])
 ·rcases b with⟨_,b⟩|⟨b,_⟩
  ·omega
  ·rw[q]at b;exact absurd b (by decide)
 ·rcases b with⟨_,b⟩|⟨_,b⟩<;>omega
theorem UW{f:Int→Int}{s:Sy}{a n b m:Int}(j:H5 s a n)(g:∀t:Int,a<t→t<n→r2 s t→b<f t∧f t<m):H5 (mv f s) b m:=by
 rcases j with⟨c,d,e,h⟩|⟨c,d,e⟩|⟨c,d,e⟩|⟨c,h,e,d⟩|⟨c,d,e⟩
 ·rw[r8 f (.inl c)];exact .ld c d e h
 ·rw[r8 f (.inr (.inl c))];exact .an c d e
 ·rw[r8 f (.inr (.inr c))];exact .re c d e
 ·rw[lZ f c];exact .ja c h e (g _ d.1 d.2 (WV c))
 ·have i:=a0h.2 c
  rw[Q1 f i];exact .as c (g _ d.1 d.2 (yA i).1) (g _ e.1 e.2 (yA i).2)
theorem rO{ps:List Sy}(a:m9 ps):m2 ps 0=Bt:=by
 have:=a.l1;have b:=lI a 0 (by omega) 0 (by omega);unfold m2;rw[b];simp
theorem hO{ps:List Sy}(b:m9 ps){k i:Nat}(e:k<ps.length)(hi:i<ps.length)(d:m2 ps k=Bt)(a:dO (ps.getD k c6) k i=Bt):m2 ps i=Bt:=by
 have f:=qD b k i e a;have c:=lI b i hi i (by omega);show(B7 ps i).getD i Bf=Bt;rw[c];simp only[Bool.or_eq_true,List.any_eq_true,List.mem_range]
 right
 exact⟨k,f,by rw[d,a];rfl⟩
def j2(ps:List Sy)(i:Nat):Nat:=((q5 i).filter (m2 ps)).length
def a2k(ps:List Sy)(t:Int):Int:=(j2 ps t.toNat:Nat)
def N0(ps:List Sy):List Sy:=((q5 ps.length).filter (m2 ps)).map fun i=>mv (a2k ps) (ps.getD i c6)
theorem G7(ps:List Sy)(i:Nat):j2 ps (i+1)=j2 ps i+if m2 ps i=Bt then 1 else 0:=by
 unfold j2;rw[List.range_succ,List.filter_append,a2e];congr 1;by_cases h:m2 ps i=Bt
 ·simp[h]
 ·simp[h]
theorem lV(ps:List Sy)(i:Nat):∀d,j2 ps i≤j2 ps (i+d)
 |0=>a7 _
 |d+1=>by
  have:=lV ps i d;rw[←Nat.add_assoc,G7];omega
theorem K8{ps:List Sy}{k i:Nat}(c:m2 ps k=Bt)(d:k<i):j2 ps k<j2 ps i:=by
 have a:=G7 ps k;rw[if_pos c]at a;have b:=lV ps (k+1) (i-(k+1));rw[show k+1+(i-(k+1))=i by omega]at b;omega
theorem aI(ps:List Sy)(i:Nat):j2 ps i≤i:=by
 unfold j2;have:=List.length_filter_le (m2 ps) (q5 i);rwa[List.length_range]at this
theorem AE(ps:List Sy):j2 ps 0=0:=rfl
theorem U5(ps:List Sy):(N0 ps).length=j2 ps ps.length:=by unfold N0 j2;rw[a32]
theorem CO(ps:List Sy)(k:Nat)(a:m2 ps k=Bt):∀m,k<m→((q5 m).filter (m2 ps))[j2 ps k]? =So k
 |0,h=>by omega
 |m+1,h=>by
  rw[List.range_succ,List.filter_append];by_cases e:k=m
  ·subst e
   unfold j2;rw[List.getElem?_append_right (a7 _),Nat.sub_self];simp[a]
  ·have b:k<m:=by omega
   rw[List.getElem?_append_left (K8 a b)];exact CO ps k a m b
theorem qZ(ps:List Sy)(k:Nat)(a:m2 ps k=Bt)(b:k<ps.length):(N0 ps).getD (j2 ps k) c6=mv (a2k ps) (ps.getD k c6):=by
 unfold N0;rw[a8,List.getElem?_map,CO ps k a _ b];rfl
theorem eY(ps:List Sy):∀m j,j<j2 ps m→∃k,k<m∧m2 ps k=Bt∧j2 ps k=j
 |0,j,h=>by rw[AE]at h;omega
 |m+1,j,h=>by
  rw[G7]at h;by_cases d:m2 ps m=Bt
  ·rw[if_pos d]at h
   by_cases e:j=j2 ps m
   ·exact⟨m,by omega,d,e.symm⟩
   ·obtain⟨k,a,b,c⟩:=eY ps m j (by omega)
    exact⟨k,by omega,b,c⟩
  ·rw[if_neg d]at h
   obtain⟨k,a,b,c⟩:=eY ps m j (by omega);exact⟨k,by omega,b,c⟩
theorem uK{ps:List Sy}(c:m9 ps)(k:Nat)(b:k<ps.length)(a:m2 ps k=Bt):H5 (mv (a2k ps) (ps.getD k c6)) (j2 ps k) (j2 ps ps.length):=by
 refine UW (a0P (c.one k b)) fun t f g d=> ?_
 obtain⟨n,rfl⟩:∃n:Nat,t=n:=⟨t.toNat,by omega⟩;have e:=hO c b (i:=n) (by omega) a (SK d);unfold a2k;rw[a4A];have h:=K8 a (show k<n by omega);have j:=K8 e (show n<ps.length by omega);omega
theorem qY{ps:List Sy}(c:m9 ps):m9 (N0 ps):=by
 have m:=c.l1;have n:=c.l2;have l:=K8 (rO c) (show 0<ps.length by omega);have o:=aI ps ps.length;refine⟨by rw[U5];omega,by rw[U5];omega,?_,fun i hi=> ?_⟩
 ·rw[U5]
  obtain⟨k,b,a,e⟩:=eY ps ps.length (j2 ps ps.length-1) (by omega);rw[←e,qZ ps k a b,I2];refine Classical.byContradiction fun j=> ?_
  obtain⟨f,g,d⟩:=gH c id k 0 b j;have h:=hO c b d a f;have p:=K8 a g;have q:=K8 h d;omega
 ·rw[U5]at hi⊢
  obtain⟨k,b,a,e⟩:=eY ps ps.length i hi;rw[←e,qZ ps k a b];exact nR (uK c k b a)
theorem a1R{ps:List Sy}(d:m9 ps)(m:∀i∈ps,i.ok):∀i∈N0 ps,i.ok:=fun i hi=>by
 unfold N0 at hi;obtain⟨k,j,rfl⟩:=List.mem_map.1 hi;obtain⟨l,g⟩:=List.mem_filter.1 j;have c:k<ps.length:=List.mem_range.1 l;have h:ps.getD k c6=ps[k]:=by simp[a8,c]
 have e:=m _ (a30 c);rw[←h]at e;obtain⟨n,o,_,_⟩:=e;have f:=uK d k c g;have p:=aI ps ps.length;have q:=d.l2;refine⟨by rw[I2];exact n,by rw[NU];exact o,?_⟩;unfold LJ;rcases f with⟨_,a,b,_⟩|⟨_,a,b⟩|⟨_,a,b⟩|⟨_,_,b,a⟩|⟨_,a,b⟩<;>omega
theorem YE{ps:List Sy}(i:m9 ps)(c:Int→Int)(k:Nat)(a:Int)(h:k<ps.length)(e:m2 ps k=Bt)(f:(ps.getD k c6).code≠6):
  J4 c (mv (a2k ps) (ps.getD k c6)) (j2 ps k) a=(j2 ps (J4 c (ps.getD k c6) k a).1,(J4 c (ps.getD k c6) k a).2):=by
 have d:=a0P (i.one k h);have b:=G7 ps k;rw[if_pos e]at b;generalize ps.getD k c6=s at*;rcases d with⟨q,_,_,_⟩|⟨q,_,_⟩|⟨q,_,_⟩|⟨q,m,o,j⟩|⟨q,j,n⟩
 ·rw[r8 _ (.inl q)]
  unfold J4;rw[if_pos q,if_pos q];show _=(j2 ps (k+1),_);rw[b]
 ·rw[r8 _ (.inr (.inl q))]
  unfold J4;rw[if_neg (by omega),if_pos q,if_neg (by omega),if_pos q];show _=(j2 ps (k+1),_);rw[b]
 ·exact absurd q f
 ·rw[lZ _ q,bJ q,bJ (s:= {s with th:=a2k ps s.th}) q]
  show((a2k ps s.th).toNat,a)=(j2 ps s.th.toNat,a);unfold a2k;rw[a4A]
 ·have l:=a0h.2 q
  have g:r4 {s with th:=a2k ps s.th,el:=a2k ps s.el} a=r4 s a:=T8 rfl rfl a;rw[Q1 _ l,bK (s:=s) (by omega),bK (s:= {s with th:=a2k ps s.th,el:=a2k ps s.el}) (by dsimp only;omega),g];unfold a2k;rw[a4A,a4A];cases r4 s a
  ·rw[if_neg (by decide),if_neg (by decide)]
  ·rw[if_pos rfl,if_pos rfl]
theorem uJ{ps:List Sy}(c:m9 ps)(b:Int→Int):∀(m k:Nat)(a:Int),ps.length-k≤m→k<ps.length→m2 ps k=Bt→r7 b (N0 ps) (j2 ps k) a=r7 b ps k a
 |0,k,a,h,hk,_=>by omega
 |m+1,k,a,h,hk,ha=>by
  have i:=qY c;have g:j2 ps k<(N0 ps).length:=by rw[U5];exact K8 ha hk
  have e:=qZ ps k ha hk;by_cases d:(ps.getD k c6).code=6
  ·rw[B9 i b _ a g (by rw[e,I2];exact d),B9 c b k a hk d,e,NU]
  ·obtain⟨j,l,f⟩:=gH c b k a hk d
   rw[q0 i b _ a g (by rw[e,I2];exact d),q0 c b k a hk d,e,YE c b k a hk ha d,uJ c b m _ _ (by omega) f (hO c hk f ha j)]
def Q0(ps:List Sy):List Sy:=N0 (D7 (A7 ps))
theorem a0W{ps:List Sy}(a:m9 ps):m9 (Q0 ps):=qY (aZ (G4 a))
theorem MS{ps:List Sy}(b:m9 ps)(a:Int→Int):N6 a (A7 ps)=N6 a ps:=bD b a _ 0 0 (a7 _) (by have:=b.l1;omega)
theorem EP{ps:List Sy}(b:m9 ps)(a:Int→Int):(N6 a (D7 ps)).1=(N6 a ps).1∧(N6 a (D7 ps)).2≤(N6 a ps).2:=oN b (aY b) a _ 0 0 (a7 _) (by have:=b.l1;omega)
theorem YD{ps:List Sy}(a:m9 ps)(b:Int→Int):N6 b (N0 ps)=N6 b ps:=uJ a b _ 0 0 (a7 _) (by have:=a.l1;omega) (rO a)
theorem a0U{ps:List Sy}(c:m9 ps)(a:Int→Int):(N6 a (Q0 ps)).1=(N6 a ps).1∧(N6 a (Q0 ps)).2≤(N6 a ps).2:=by
 have b:=G4 c;unfold Q0;rw[YD (aZ b),←MS c a];exact EP b a
theorem a1S(ps:List Sy):(N0 ps).length≤ps.length:=by rw[U5];exact aI ps _
theorem a3E{ps:List Sy}(b:m9 ps):(Q0 ps).length≤ps.length:=by
 have a:=a1S (D7 (A7 ps));rw[oM (G4 b),G5]at a;exact a
section
attribute [local go_sem] Oper.semAt_some
structure RF where
 bk:List i2
 pl:List Int
 far:Int
def fP(ps:List Sy)(a:RF)(i:Nat):RF:=
 ⟨a.bk++(V6 a.bk.length a.pl (ps.getD i c6)).1.reverse,a.pl.set i ((a.bk++(V6 a.bk.length a.pl (ps.getD i c6)).1.reverse).length:Int),a.far+(V6 a.bk.length a.pl (ps.getD i c6)).2⟩
def eS(ps:List Sy)(a:List Nat):RF:=a.foldl (fP ps) ⟨[],a2A ps.length 0,0⟩
theorem iW(ps:List Sy)(a:List Nat)(i:Nat):eS ps (a++[i])=fP ps (eS ps a) i:=by simp[eS,List.foldl_append]
theorem UH(nb:Nat)(a:List Int)(s:Sy):(V6 nb a s).1.length≤3∧0≤(V6 nb a s).2∧(V6 nb a s).2≤1∧1≤(V6 nb a s).1.length:=by
 unfold V6
 (repeat' split)<;>simp
structure LBd(n k:Nat)(st:RF):Prop where
 h1:st.bk.length≤3*k
 h2:st.pl.length=n
 h3:∀x∈st.pl,0≤x∧x≤st.bk.length
 h4:0≤st.far
 h5:st.far≤k
 h6:k≤st.bk.length
theorem VM(ps:List Sy)(n k:Nat)(a:RF)(b:LBd n k a)(i:Nat):LBd n (k+1) (fP ps a i):=by
 obtain⟨f,d,e,g,h,j⟩:=b;unfold fP;obtain⟨k1,k2,k3,k4⟩:=UH a.bk.length a.pl (ps.getD i c6);generalize V6 a.bk.length a.pl (ps.getD i c6)=l at*;refine⟨?_,?_,fun x c=> ?_,?_,?_,?_⟩
 ·dsimp only;rw[a2e,List.length_reverse];omega
 ·dsimp only;rw[List.length_set];exact d
 ·dsimp only at c⊢
  rw[a2e,List.length_reverse]at*;rcases List.mem_or_eq_of_mem_set c with b|b
  ·have:=e x b
   omega
  ·rw[b]
   omega
 ·dsimp only;omega
 ·dsimp only;omega
 ·dsimp only;rw[a2e,List.length_reverse];omega
theorem BI(ps:List Sy)(n:Nat):∀(a:List Nat)(k:Nat)(b:RF),LBd n k b→LBd n (k+a.length) (a.foldl (fP ps) b)
 |[],k,b,h=>h
 |i::a,k,b,h=>by
  have:=BI ps n a (k+1) _ (VM ps n k b h i);rw[a3W,show k+(a.length+1)=k+1+a.length by omega];exact this
theorem FZ(ps:List Sy)(a:List Nat):LBd ps.length a.length (eS ps a):=by
 have:=BI ps ps.length a 0 ⟨[],a2A ps.length 0,0⟩ ⟨by simp,by simp,fun x b=>by have:=List.eq_of_mem_replicate b;simp[this],by simp,by simp,by simp⟩;rw[a4E]at this;exact this
theorem PA:(prog.info? 3).map (fun i=>(i.zero,i.size,i.bytes))=So (So (I M 0),1,8):=by kernel_rfl
theorem OH(n:Nat):madeCells #[I M 0] n=(i3 M (a2A n 0)).toArray:=by
 apply Array.toList_inj.1;rw[toList_madeCells_one];simp[i3]
def a2t(b:Option Ad)(n c a g d:Nat)(co kk th el:Int):Act:=
 {tmps:= #[Z b n c,Un,K J,O Bf,K (a+1+1:Nat),I M d,K g,Z b n c,O Bt,O Bf,Z b n c,I M n,Z a n n,Ag #[Z J 0 0,Z a n n,I M 0],K (a+1:Nat),Z b n c,Fc (.func 337) #[] #[K (a+1+1+1:Nat)],I M d,Ag #[I U1 co,I V kk,I M th,I M el],Un,Un,Un,Un,Un,Un,Un,Un,Un,Un,Un,Un,Un,Un,Un],defers:=[]}
def a5V(a:Option Ad)(n c e:Nat)(ps:List Sy)(x d:Nat)(b:Act)(W:Wd):Prop:=
 ∃g co kk th el,d≤g∧ps.getD x c6=⟨co,kk,th,el⟩∧b=a2t a n c e g x co kk th el∧b9 W g 374 #[I U1 co,I V kk,I M th,I M el]
structure a2P(w1:Wd)(A:Option Ad)(n c z1:Nat)(ps:List Sy)(pre:List Nat)(W:Wd):Prop where
 ex:∃v,LK (z1+1) z1 n z1 (eS ps pre).bk (eS ps pre).pl (eS ps pre).far v W
 b4:b9 W (z1+1+1) 297 #[K (z1+1:Nat)]
 b5:b9 W (z1+1+1+1) 159 #[Z A n c]
 h:a9 w1 W
 z:z1+4≤W
theorem QV(j:Wd)(k:Option Ad)(n c g:Nat)(l:j=g)(ps:List Sy):OwnFrom (g+4) (a2P j k n c g ps):=fun m W W' row b a h=>by
 have d:∀r,row=So r→∃i:Obj,W.heap[r]? =So i∧i.isCells=Bf:=fun r e=>(h r e).2
 obtain⟨v,f⟩:=b.ex;exact⟨⟨v,e8 f.k a d,P9 f.r a d,e8 f.q a d⟩,e8 b.b4 a d,e8 b.b5 a d,b.h.grown a (fun r e=>by have:=(h r e).1;omega),c8 b.z a.size⟩
theorem a9.pu{a W W':Wd}{g:Nat}{h:Option Nat}(c:a9 a W)(d:PU g h W W')(j:a≤g)(i:∀b,h=So b→a.heap.size≤b):a9 a W':=
 ⟨d.os.trans c.os,d.tape.trans c.tape,d.output.trans c.output,c8 c.size d.size,fun k f=>(d.keep k (Nat.lt_of_lt_of_le f c.size) (by omega) (fun e=>by have:=i k e;omega)).trans (c.block f)⟩
theorem PU.keeps{g B:Nat}{v:Va}{base n:Nat}{e t:Ti}{xs:List Va}{cs:Array Va}{W W':Wd}(b:PU g v.ownBlock W W')(d:b9 W g t cs)(h:W.ownsRow base e 4 v n xs):KeepsFrom B W W':=
 KeepsOthers.from ⟨b.size,fun k j a c=>(b.keep k (Array.getElem?_eq_some_iff.1 a).1 (fun q=>by
  subst q;unfold b9 at d;rw[d]at a;injection a with a
  subst a;cases c) (fun q=>by
  rcases h.2 with⟨rfl,_⟩|⟨i,cap,cur,rfl,_,f,_⟩
  ·cases q
  ·cases q
   rw[f]at a;injection a with a
   subst a;cases c)).trans a⟩ _
theorem OJ(h:Option Ad)(n c:Nat)(ps:List Sy)(w:Wd)(ak:ps.length=n)(bq:∀i∈ps,i.ok)(aj:fE ps=Bt)(ah:h9 w h (sc ps)):
  Ci .wide 3 prog 194 #[Z h n c] w fun e am=>∃bg ca base v,e=X (Tp #[K (So ⟨bg,0,J⟩),O Bt])∧
   LK bg ca n base (eS ps (q5 n).reverse).bk (eS ps (q5 n).reverse).pl (eS ps (q5 n).reverse).far v am∧a9 w am∧w.heap.size≤base:=by
 have bl:=iU aj;have cq:n≤131072:=by have:=bl.l2;omega
 obtain⟨L,ap⟩:=i6 ak (LA h n c ps w ak bq (by unfold maxLen;omega) ah);rw[aj]at ap;have dn:∀w:Wd,(Instr.makeSlice 33 (I M (n:Int)) (I M (n:Int))).run prog w= .ok (Z w n n) (w.alloc (U (i3 M (a2A n 0)).toArray 3)):=fun w=>by
  rw[←OH];exact G9 33 3 (I M 0) 8 underlying33 PA rfl M M n n (a7 _) (by omega) (by omega) w
 have ao:=a6 ah;clear ak ah aj;refine Cm func194 rfl trivial ?_ rfl;simp only[ntmps194,uE,l9,a4D];gi_wp2_with(first
  |(refine⟨trivial,?_⟩;gi_at_call 256;apply((Cw (n:=2)).2 ap.out).mono;rintro e o⟨rfl,ab⟩)
  |(refine⟨trivial,?_⟩;gi_at_call 257;apply(DQ h n c _).mono;rintro e am⟨rfl,rfl⟩))
 generalize G:o.heap.size=a at*;have ch:b9 ((((o.alloc (U (Array.replicate n (I M 0)) 3)).alloc (U #[Z J 0 0,Z a n n,I M 0] 301)).alloc (U #[K (a+1:Nat)] 297)).alloc (U #[Z h n c] 159)) a 3 (Array.replicate n (I M 0)):=(((b9.b G.symm).alloc _).alloc _).alloc _;have cg:b9 ((((o.alloc (U (Array.replicate n (I M 0)) 3)).alloc (U #[Z J 0 0,Z a n n,I M 0] 301)).alloc (U #[K (a+1:Nat)] 297)).alloc (U #[Z h n c] 159)) (a+1) 301 #[Z J 0 0,Z a n n,I M 0]:=((b9.b (by simp[G])).alloc _).alloc _;have cf:b9 ((((o.alloc (U (Array.replicate n (I M 0)) 3)).alloc (U #[Z J 0 0,Z a n n,I M 0] 301)).alloc (U #[K (a+1:Nat)] 297)).alloc (U #[Z h n c] 159)) (a+1+1) 297 #[K (a+1:Nat)]:=(b9.b (by simp[G])).alloc _;have ag:b9 ((((o.alloc (U (Array.replicate n (I M 0)) 3)).alloc (U #[Z J 0 0,Z a n n,I M 0] 301)).alloc (U #[K (a+1:Nat)] 297)).alloc (U #[Z h n c] 159)) (a+1+1+1) 159 #[Z h n c]:=b9.b (by simp[G]);have bh:a9 o ((((o.alloc (U (Array.replicate n (I M 0)) 3)).alloc (U #[Z J 0 0,Z a n n,I M 0] 301)).alloc (U #[K (a+1:Nat)] 297)).alloc (U #[Z h n c] 159)):=((((a9.refl o).alloc _).alloc _).alloc _).alloc _;have cw:((((o.alloc (U (Array.replicate n (I M 0)) 3)).alloc (U #[Z J 0 0,Z a n n,I M 0] 301)).alloc (U #[K (a+1:Nat)] 297)).alloc (U #[Z h n c] 159)).heap.size=a+4:=by simp[G]
 generalize(((o.alloc (U (Array.replicate n (I M 0)) 3)).alloc (U #[Z J 0 0,Z a n n,I M 0] 301)).alloc (U #[K (a+1:Nat)] 297)).alloc (U #[Z h n c] 159)=w0 at*;have cj:h9 w0 h (sc ps):=(ao.h ab).h bh;have cr:(Array.replicate n (I M 0))=(i3 M (a2A n 0)).toArray:=by simp[i3]
 have cp:eS ps []=⟨[],a2A n 0,0⟩:=by unfold eS;rw[L.out];rfl
 refine s5 rfl (by decide) (gf:=337) (lb:= #[K (a+1+1+1:Nat)]) rfl trivial (Eo func337 (by kernel_rfl) rfl)
  (mP (a+1+1+1) n c h ps L (by omega) w0 ag.lt (by rw[ag.cell];rfl) cj) (fun C k=>C.trans k)
  (fun W l y P _ T S _=>⟨fun al=>cell_kept al (grownBy_putObj' W l P) (fun r e=>by cases e;exact⟨y,T,S⟩),fun al j u ct=>by
   obtain⟨b,cz,e,cm⟩:=al j u ct;exact⟨b,cz,e,cell_kept cm (grownBy_putObj' W l P) (fun r e=>by cases e;exact⟨y,T,S⟩)⟩⟩) (Below.refl _ _) (fun _=>rfl)
  (fun x W l y P bj _ _=>bj)
  (a2P o h n c a ps) (by rw[cw];exact QV o h n c a G ps)
  ⟨⟨Z J 0 0,by rw[cp];exact⟨cg,World.ownsRow_nil _ _ _ _,by rw[←cr];exact ch⟩⟩,cf,ag,bh,by omega⟩
  (a5V h n c a ps)
  (fun x de bx W l y P⟨g,co,cy,cx,kk,cb,cc,cd,ce⟩ T S=>⟨g,co,cy,cx,kk,cb,cc,cd,e8 ce (grownBy_putObj' W l P) (fun r e=>by cases e;exact⟨y,T,S⟩)⟩)
  (fun _ _ _ C _=>C) (fun W W' e=>⟨fun C=>e.cell C,fun C=>C.h e⟩) ?Aa ?Ab ?Ac
 case Aa=>
  intro l x W df bj N;obtain⟨⟨co,kk,th,el⟩,F⟩:∃E,ps.getD x c6=E:=⟨_,rfl⟩;simp only[F,Sy.val,Sy.cells]
  gi_wp2
  exact N _ _ ((a9.refl W).alloc _) ⟨W,co,kk,th,el,a7 _,F,rfl,b9.new _ _ _⟩
 case Ab=>
  rintro l m f dg W bx _ q cu⟨g,co,kk,th,el,ds,F,rfl,ck⟩ _ dm;obtain⟨v,s⟩:=q.ex;have ai:f<ps.length:=by rw[L.out];exact cu
  have bk:=a0P (bl.one f ai);have br:(ps.getD f c6).ok:=by rw[nV ai];exact bq _ (a30 ai)
  rw[F,L.out]at bk;rw[F]at br;have D:=FZ ps m;rw[L.out]at D;have aa:=iW ps m f;unfold fP at aa;rw[F]at aa;have ac:=a6 ((Cw (n:=0)).2 (a6i (a+1) a n a (eS ps m).bk (eS ps m).pl (eS ps m).far v W ⟨co,kk,th,el⟩ f (by omega) br bk D.h2 cq (by have:=D.h1;omega) D.h3 ⟨D.h4,by have:=D.h5;omega⟩ (by omega) (by have:=q.z;omega) s));simp only[Sy.val,Sy.cells]at ac;have bt:=q.b4.cell 0;obtain⟨da,db,dc,dd⟩:=(ck).c4;have dt:(0:Int)≤f:=by omega
  have du:(f:Int)<n:=by omega
  unfold a2t;gi_wp2_with(refine⟨trivial,?_⟩;gi_at_call 258;apply(CallsIn.inRound l ac.out).mono;rintro e an⟨⟨dv,rfl⟩,af⟩)
  obtain⟨dw,R,_⟩:=af.ex;have H:=af.pu;obtain⟨bu,bv,rfl⟩:=R.val;have dq:=H.size;have dr:=q.z;have cs:∀b,v.ownBlock=So b→a≤b:=fun b e=>(s.r.lt b e).1
  have ar:b9 an (a+1+1) 297 #[K (a+1:Nat)]:=(H.keep (a+1+1) (by omega) (by omega) (A9 s.r q.b4 (by decide))).trans q.b4;have bz:b9 an (a+1+1+1) 159 #[Z h n c]:=(H.keep (a+1+1+1) (by omega) (by omega) (A9 s.r q.b5 (by decide))).trans q.b5;have ci:a9 o an:=q.h.pu H (by omega) (fun b e=>by have:=cs b e;omega);have cn:=H.keeps (B:=w0) s.k s.r;obtain⟨A,bm⟩:∃b,(eS ps m).bk++(V6 (eS ps m).bk.length (eS ps m).pl ⟨co,kk,th,el⟩).1.reverse=b:=⟨_,rfl⟩;obtain⟨dj,bn⟩:∃b,(eS ps m).far+(V6 (eS ps m).bk.length (eS ps m).pl ⟨co,kk,th,el⟩).2=b:=⟨_,rfl⟩;rw[bm,bn]at aa;rw[bm,bn]at R;have dp:=D.h2;have ae:((i3 M (eS ps m).pl).toArray)[f]? =So (I M ((eS ps m).pl[f]'(by omega))):=by rw[List.getElem?_toArray,M2 (by omega)]
  generalize(eS ps m).pl[f]'(by omega)=p at ae;obtain⟨bw,aq⟩:=i6 ae R;clear bt da db dc dd ae af H ac R;gi_wp2_with fail
  refine g4 (fun _=>trivial) rfl [.is (K (a+1:Nat)),.is ?Aq,.is ?Ar,.is (Z a n n),.is ?As,.is (K (a+1:Nat)),.is ?At,.is ?Au,.is (Z bu A.length bv),.is ?Av,.is ?Aw] (by kernel_rfl) ?Ax ?Ad ⟨?Ae,?Af,?Ag,?Ah,?Ai,?Aj,?Ak,?Al,?Am,?An,?Ao,trivial⟩ _ rfl rfl ?Ap
  case Ad=>intro x;simp only[e6,Act.put,uL,l9]<;>rfl
  case Ae|Af|Ag|Ah|Ai|Aj|Ak|Al|Am|An|Ao=>
   intro x ad t;simp only[e5,g1,uV];repeat(intro d;try simp only[d])
   have dh:=(ar.h t).cell 0;obtain⟨de,a⟩:=(aq.k.h t).d2 1 0;gi_wp2_with fail
   refine a0e ?_ rfl (a9.refl _);rfl
  case Ap=>
   intro x ad t;simp only[l8,e5,j8,uV];intro av aw ay az ba bb bc bd be bf ax;simp only[av,aw,ay,az,ba,bb,bc,bd,be,bf,ax];clear av aw ay az ba bb bc bd be bf ax;have z:=aq.h t;have di:=(z.q.cell f).trans bw.out;have dk:=z.q.frozen f;gi_wp2_with fail
   have bi:a9 o (ad.setCell ⟨a,f,J⟩ (I M (A.length:Int))):=(ci.trans t).set (p:=⟨a,f,J⟩) (by show o≤a;omega) _;have au:=(bz.h t).far (p:=⟨a,f,J⟩) (by show a+1+1+1≠a;omega) (I M (A.length:Int));refine⟨KeepsFrom.trans cn (KeepsFrom.trans (KeepsOthers.from ⟨t.size,fun k y bo _=>(t.block (Array.getElem?_eq_some_iff.1 bo).1).trans bo⟩ _) ((KeepsOthers.setCell _ _ _).from _)),⟨fun _=>by rw[au.cell];rfl,fun _=>(ao.h ab).h bi⟩,
    ⟨⟨Z bu A.length bv,?_⟩,(ar.h t).far (by show a+1+1≠a;omega) _,au,bi,by have:=t.size;simp;omega⟩⟩
   rw[aa];dsimp only;refine⟨z.k.far (by show a+1≠a;omega) _,z.r.kept (x4 ad a f _) (.inr (A9 z.r z.q (by decide))),?_⟩;have bs:=z.q.f f (I M (A.length:Int));have e:(i3 M (eS ps m).pl).toArray.setIfInBounds f (I M (A.length:Int))=(i3 M ((eS ps m).pl.set f (A.length:Int))).toArray:=by simp[i3,List.map_set]
   rw[e]at bs;exact bs
 case Ac=>
  rintro Q ys W dl cv q N;obtain⟨v,s⟩:=q.ex;have bt:=q.b4.cell 0;have bp:∀r,So Q=So r→∃y:Obj,W.heap[r]? =So y∧y.isCells=Bf:=fun r e=>by cases e;exact⟨_,N,rfl⟩
  rw[cv]at s
  gi_wp2
  refine⟨by simp,.inl ⟨_,_,rfl,run_takeDeferred N,?_⟩⟩;exact⟨_,results_tmp2 rfl _ _ _,a+1,a,a,v,rfl,⟨e8 s.k (grownBy_putObj' W Q _) bp,ownsRow_putObj s.r _ N rfl,e8 s.q (grownBy_putObj' W Q _) bp⟩,ab.trans (q.h.grown (grownBy_putObj' W Q _) (fun r e=>by cases e;omega)),by have:=ab.size;omega⟩
attribute [local go_sem] Oper.semAt_some
def H4(ps:List Sy):RF:=eS ps (q5 ps.length).reverse
theorem OK(a:Option Ad)(n c:Nat)(ps:List Sy)(w:Wd)(d:ps.length=n)(l:∀i∈ps,i.ok)(k:fE ps=Bt)(j:h9 w a (sc ps)):
  Ca prog 194 #[Z a n c] w fun e f=>∃b g base v,e=X (Tp #[K (So ⟨b,0,J⟩),O Bt])∧LK b g n base (H4 ps).bk (H4 ps).pl (H4 ps).far v f∧a9 w f∧w.heap.size≤base:=by
 have h:=callsIn_wide.1 (OJ a n c ps w d l k j);unfold H4;rw[d];exact h
theorem set4:∀(l:List i2)(k:Nat)(aa:i2),k<l.length→((((pc l).set (k*4) (I U1 aa.code)).set (k*4+1) (I U8 aa.jt)).set (k*4+2) (I U8 aa.jf)).set (k*4+3) (I V aa.k)=pc (l.set k aa)
 |[],_,_,h=>by simp at h
 |i::ps,0,aa,_=>by
  rw[bI,List.set_cons_zero,bI];rfl
 |i::ps,k+1,aa,h=>by
  have ih:=set4 ps k aa (by simpa using h);rw[bI,List.set_cons_succ,bI,←ih];rw[show(k+1)*4=k*4+1+1+1+1 by omega,show k*4+1+1+1+1+1=(k*4+1)+1+1+1+1 by omega,show k*4+1+1+1+1+2=(k*4+2)+1+1+1+1 by omega,show k*4+1+1+1+1+3=(k*4+3)+1+1+1+1 by omega];simp only[i2.cells,List.cons_append,List.nil_append,List.set_cons_succ]
theorem tF(l:List i2)(b:List Va)(k:Nat)(a:i2)(c:k<l.length):
  (((((pc l++b).toArray.setIfInBounds (k*4) (I U1 a.code)).setIfInBounds (k*4+1) (I U8 a.jt)).setIfInBounds (k*4+2) (I U8 a.jf)).setIfInBounds (k*4+3) (I V a.k))=(pc (l.set k a)++b).toArray:=by
 have d:=K9 l;apply Array.toList_inj.1;simp only[Array.toList_setIfInBounds,List.toList_toArray];rw[List.set_append_left _ _ (by omega),List.set_append_left _ _ (by rw[List.length_set];omega),List.set_append_left _ _ (by rw[List.length_set,List.length_set];omega),List.set_append_left _ _ (by rw[List.length_set,List.length_set,List.length_set];omega),set4 l k a c]
theorem tV(l:List i2)(i k:Nat)(a:i2)(h:k<l.length):(l.set i a).getD k j5=if i=k then a else l.getD k j5:=by
 simp only[a8,List.getElem?_set];by_cases e:i=k
 ·subst e;simp[h]
 ·simp[e]
theorem TJ(g m c:Nat)(bw:m≤400000)(t:Ti)(cur:List Va)(f:List i2)(ag:f.length=m)(bk:∃h,cur=pc f++h)(W:Wd)(d:b9 W g t cur.toArray):
  Ca prog 195 #[Z g m c] W fun e ar=>(∃u,e=X u)∧W.grownBy ar (So g)∧∃h,b9 ar g t (pc f.reverse++h).toArray:=by
 obtain⟨h,rfl⟩:=bk;have N:=a6 ag;clear ag;have bp:IntKind.i64.wrap ((m:Int)-1)=(m:Int)-1:=a37 _ (by omega);go_in;go_wp2_with fail
 go_loopw [2,3] (fun a b wr=>∃(i:Nat)(n:Int)(l:List i2),n=(m:Int)-1-i∧2*i≤m+1∧a=I M i∧b=I M n∧l.length=m∧(∀k,k<m→l.getD k j5=if k<i∨m-1-k<i then f.getD (m-1-k) j5 else f.getD k j5)∧W.grownBy wr (So g)∧b9 wr g t (pc l++h).toArray) (fun a b _=>(intOf b-intOf a).toNat)
 case atStart=>exact⟨0,_,f,by omega,by omega,rfl,rfl,N.out,fun k _=>by simp,⟨rfl,rfl,rfl,a7 _,fun _ _ _=>rfl⟩,d⟩
 case round=>
  clear d bp;obtain⟨i,n,l,ai,hi,rfl,rfl,C,B,A,d⟩:=hrel;obtain⟨ay,Q⟩:=i6 C B;by_cases bv:(i:Int)<n
  ·obtain⟨j,rfl⟩:∃j:Nat,n=j:=⟨n.toNat,by omega⟩
   have bs:i<j:=by omega
   have bt:j<m:=by omega
   have S:i<l.length:=by omega
   have T:j<l.length:=by omega
   have CI:∀r,r<4→((pc l++h).toArray)[i*4+r]? =l[i].cells.toList[r]? :=fun r aa=>by
    rw[List.getElem?_toArray,List.getElem?_append_left (by rw[K9];omega),pN l i r S aa]
   have o:∀r,r<4→((pc l++h).toArray)[j*4+r]? =l[j].cells.toList[r]? :=fun r aa=>by
    rw[List.getElem?_toArray,List.getElem?_append_left (by rw[K9];omega),pN l j r T aa]
   have aj:=(d.cell (i*4)).trans (CI 0 (by omega));have ak:=(d.cell (i*4+1)).trans (CI 1 (by omega));have al:=(d.cell (i*4+2)).trans (CI 2 (by omega));have am:=(d.cell (i*4+3)).trans (CI 3 (by omega));have an:=(d.cell (j*4)).trans (o 0 (by omega));have ao:=(d.cell (j*4+1)).trans (o 1 (by omega));have ap:=(d.cell (j*4+2)).trans (o 2 (by omega));have aq:=(d.cell (j*4+3)).trans (o 3 (by omega));have ba:=d.frozen (i*4);have bb:=d.frozen (i*4+1);have bc:=d.frozen (i*4+2);have bd:=d.frozen (i*4+3);have be:=d.frozen (j*4);have bf:=d.frozen (j*4+1);have bg:=d.frozen (j*4+2);have bh:=d.frozen (j*4+3);have bx:(0:Int)≤i:=by omega
   have bz:(i:Int)<m:=by omega
   have ca:(0:Int)≤j:=by omega
   have cb:(j:Int)<m:=by omega
   have cc:(j:Int)≤400000:=by omega
   have cd:(i:Int)<j:=by omega
   have az:=a6 ai;clear CI o C B ai;have ab:l.getD i j5=l[i]:=by rw[a8,e9 S];rfl
   have ac:l.getD j j5=l[j]:=by rw[a8,e9 T];rfl
   obtain⟨aw,ax,L,H⟩:=J5 ab ac A d;clear ab ac A d;generalize l[i]=P at*;generalize l[j]=R at*;obtain⟨D,F,E,G⟩:=P;obtain⟨v,x,w,y⟩:=R;simp only[i2.cells,List.getElem?_cons_zero,List.getElem?_cons_succ]at aj ak al am an ao ap aq;go_wp2_with fail
   go_region
   have b1:=(((H.f (i*4) (I U1 v)).f (i*4+1) (I U8 x)).f (i*4+2) (I U8 w)).f (i*4+3) (I V y);rw[tF l h i ⟨v,x,w,y⟩ S]at b1;have b2:=(((b1.f (j*4) (I U1 D)).f (j*4+1) (I U8 F)).f (j*4+2) (I U8 E)).f (j*4+3) (I V G);rw[tF (l.set i ⟨v,x,w,y⟩) h j ⟨D,F,E,G⟩ (by rw[List.length_set];exact T)]at b2;have ad:=((((((((L.trans (x4 wr g (i*4) (I U1 v))).trans (x4 _ g (i*4+1) (I U8 x))).trans (x4 _ g (i*4+2) (I U8 w))).trans (x4 _ g (i*4+3) (I V y))).trans (x4 _ g (j*4) (I U1 D))).trans (x4 _ g (j*4+1) (I U8 F))).trans (x4 _ g (j*4+2) (I U8 E))).trans (x4 _ g (j*4+3) (I V G)));obtain⟨au,av⟩:=i6 (b2.drew) (ad.trans (s6 (B1 _) (So g)));have ce:IntKind.i64.wrap ((j:Int)-1)=(j:Int)-1:=a37 _ (by omega);clear b1 b2 ad aj ak al am an ao ap aq ba bb bc bd be bf bg bh;go_wp2_with fail
   go_roundw
   case rel=>
    have br:=az.out;have bn:=ay.out;refine⟨i+1,(j:Int)-1,(l.set i ⟨v,x,w,y⟩).set j ⟨D,F,E,G⟩,by omega,by omega,by go_num,rfl,by rw[List.length_set,List.length_set];exact bn,fun k bl=> ?_,av.out,au.out⟩;have ae:=Q i (by omega);have af:=Q j (by omega);rw[aw.out,if_neg (by omega)]at ae;rw[ax.out,if_neg (by omega)]at af;rw[tV _ _ _ _ (by rw[List.length_set];omega),tV _ _ _ _ (by omega)];by_cases z:j=k
    ·subst z
     rw[if_pos rfl,if_pos (by omega),ae,show m-1-j=i by omega]
    ·rw[if_neg z]
     by_cases p:i=k
     ·subst p
      rw[if_pos rfl,if_pos (by omega),af,show m-1-i=j by omega]
     ·rw[if_neg p,Q k bl]
      by_cases s:k<i∨m-1-k<i
      ·rw[if_pos s,if_pos (by omega)]
      ·rw[if_neg s,if_neg (by omega)]
   case measure=>simp[intOf];omega
  ·have bo:l=f.reverse:=by
    refine List.ext_getElem (by rw[C,List.length_reverse,N.out]) fun k bj bq=> ?_
    have bi:=B k (by omega);have bm:k<l.length:=bj;have z:l.getD k j5=l[k]:=by rw[a8,e9 bm];rfl
    have bu:=N.out;rw[List.getElem_reverse,←z,bi];have p:∀q,(ah:q<f.length)→f.getD q j5=f[q]:=fun q ah=>by rw[a8,e9 ah];rfl
    by_cases s:k<i∨m-1-k<i
    ·rw[if_pos s,p _ (by omega)]
     congr 1;omega
    ·rw[if_neg s,p _ (by omega)]
     congr 1;omega
   subst bo;obtain⟨L,H⟩:=i6 A d;clear A d B C;go_wp2_with fail
   go_end0
   exact⟨⟨_,rfl⟩,L.out,h,H.out⟩
theorem VW(h:Option Ad)(n c:Nat)(ps:List Sy)(w:Wd)(s:ps.length=n)(r:∀i∈ps,i.ok)(o:h9 w h (sc ps))(j:fE ps=Bt)(W:(H4 ps).bk.length≤4096):
  Ca prog 128 #[Z h n c] w fun e x=>∃g C d,e=X (Tp #[Z (So ⟨g,0,J⟩) (H4 ps).bk.length C,I M 0])∧b9 x g 116 (pc (H4 ps).bk.reverse++d).toArray∧w.heap.size≤g∧a9 w x:=by
 have H:=a6 (OK h n c ps w s r j o);have S:1≤(H4 ps).bk.length:=by
  have:=(FZ ps (q5 ps.length).reverse).h6;have T:=(iU j).l1;rw[List.length_reverse,List.length_range]at this;unfold H4;omega
 generalize H4 ps=f at*;have ag:Dc ((4096:Int)<f.bk.length)=Bf:=by simp;omega
 clear s r o j;go_in;go_wp2_with fail
 apply H.mono;rintro e y⟨D,Q,base,v,rfl,b,N,ab⟩;have B:=b.k.cell 0;obtain⟨F,⟨ae,R⟩|⟨g,cap,cur,rfl,aa,l,ad,ac,L,t⟩⟩:=b.r
 ·omega
 have m:b9 y g 116 (cur.toList).toArray:=by unfold b9;simpa using l
 have G:D≠g:=fun e=>by
  subst e;have a:=b.k;unfold b9 at a;rw[l]at a;injection a with a
  injection a with _ a
  exact absurd a (by decide)
 have p:∃d,cur.toList=pc f.bk++d:=⟨cur.toList.drop (f.bk.length*4),by rw[←t,List.take_append_drop]⟩;obtain⟨A,z⟩:=i6 (TJ g f.bk.length cap (by omega) _ cur.toList f.bk rfl p y m) b.k;clear F l L t m p b;go_wp2_with fail
 apply A.mono;rintro e af⟨⟨u,rfl⟩,q,d,E⟩;have P:=(z.grown q (fun e=>by injection e with e;exact G e)).cell 0;clear B;go_wp2_with fail
 go_ret2
 exact⟨g,cap,d,rfl,E,by omega,N.grown q (fun k e=>by cases e;omega)⟩
end
end Go.Proofs.YtiomenjfmagknaaGreat
