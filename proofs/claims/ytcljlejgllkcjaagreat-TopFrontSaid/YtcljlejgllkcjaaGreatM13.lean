/- A part of the proof of TopFront: lemmas on the walks of its calls. -/
import Derived.Test.YtcljlejgllkcjaaGreatM12
set_option maxHeartbeats 12000000
set_option linter.all false
set_option maxRecDepth 100000
namespace Go.Proofs.YtcljlejgllkcjaaGreat
open Go.RowKit Go.ChangeShapes Go.WideShapes Tryz
open Bool renaming and_eq_true→j3,true→Bt,false→Bf
open Decidable renaming decide→Dc
open Ending renaming returned→X
open Go renaming World→Wd,Value→Va,Calls→Ca,callsIn_wide→Cw,undef→Un,bodyPost_ret→Bp,TypeId→Ti,results_none→Rz,callsIn_of_wp_marks→Cm,callsIn_of_wp→Co,CallsIn→Ci
open Go.Proofs renaming enters_of→Eo
open IntKind renaming i64→M,u32→V,u64→U6
open IntWalk renaming i64_in→h7
open List renaming getD_eq_getElem?_getD→b9,getElem?_eq_getElem→e9,length_append→g1,getElem_mem→g3,take_succ_eq_append_getElem→g2,length_cons→i4,range→m9,length_take→m4,replicate→p4,append_assoc→p6,length→D
open Nat renaming le_refl→a7,le_trans→b6,zero_le→c6,add_zero→j8
open Obj renaming cells→U
open Operand renaming tmp→Tm
open Option renaming none→J,some→So
open Value renaming int→I,slice→Z,pointer→K,bool→O,func→Fc,tuple→Tp,agg→Ag
theorem B1{a:Type}{l:List a}{b:a}{k:Nat}(c:k<D l):l.getD k b=l[k]:=by simp[b9,c]
theorem a4Q{w:Wd}{g base:Nat}{b:Nat->Nat}(E:St w g base [] b 1)(a:Nat)(N:a<6){fa:Nat}(u:b 0=fa):
 Ca prog 252 #[K g,I M a,K fa] w (Rn w g base [] b 1 (mN a) 3):=by
 have L:r2[a].2=J5 a:=by unfold J5;rw[Int.toNat_natCast,B1 (show a<D r2 from N)];exact rfl
 have C:=a6 (jD a N);rw[L]at C;obtain⟨R,o⟩:∃R,R=mN a:=⟨_,rfl⟩;rw[<-o];unfold mN at o;generalize J5 a=aa at*;have s:=a6 o;have c:=((J9.refl E).label ((a9.refl w).alloc (U #[I M 0] 327)) (e7.new w _ _) (a7 _)).label ((a9.refl _).alloc (U #[I M 0] 327)) (e7.new (w.alloc (U #[I M 0] 327)) _ _) (a7 _);rw[(i3:(w.alloc (U #[I M 0] 327)).heap.size=w.heap.size+1)]at c;clear L E o;go_in;go_wp2_with fail;refine l4 (C _) λaf ac=>?_;replace c:=c.h ac;have y:=a6 (jM c.st 4 (by show(0:Nat)+1<=1000000;decide));go_wp2_with fail;apply y.mono;rintro e ag⟨rfl,f,P⟩;have p:=c.step f P;have z:=a6 (I5 p.st 21 aa 1 0 e6 e6 (by simp[r0,It.n]) (show aP (aP b 1 w) 2 (w+1) 1=w.heap.size from rfl) ((T7 e6 _).trans (by rw[show aP (aP b 1 w) 2 (w+1) 0=b 0 from rfl,u])));go_wp2_with fail;apply z.mono;rintro e ah⟨rfl,F,Q⟩;have q:=p.step F Q;have A:=a6 (C8 q.st 1 e6 (show aP (aP b 1 w) 2 (w+1) 1=w.heap.size from rfl));go_wp2_with fail;apply A.mono;rintro e ai⟨rfl,G,S⟩;have r:=q.step G S;have B:=a6 (jM r.st 0 (by simp[r0,It.n]));go_wp2_with fail;apply B.mono;rintro e aj⟨rfl,H,T⟩;have d:=r.step H T;clear y z A B f F G H P Q S T c p q r;by_cases n:a=0;·subst n;have m:=a6 (I5 d.st 69 1073741824 0 2 e6 e6 (by simp[r0,It.n]) (show aP (aP b 1 w) 2 (w+1) 0=fa from u) (T7 e6 _));rw[s9]at m;go_wp2_with fail;apply m.mono;rintro e ab⟨rfl,t,v⟩;have h:=d.step t v;have j:=a6 (C8 h.st 2 a8 (s9 _ 2 _));go_wp2_with fail;apply j.mono;rintro e W⟨rfl,k,l⟩;have i:=h.step k l;go_wp2;go_end0;exact⟨rfl,_,by rw[s.O];simpa using i⟩
 by_cases f:a=2;·subst f;have m:=a6 (I5 d.st 69 1073741824 2 0 e6 e6 (by simp[r0,It.n]) (s9 _ 2 _) ((T7 e6 _).trans (by rw[show aP (aP b 1 w) 2 (w+1) 0=b 0 from rfl,u])));go_wp2_with fail;apply m.mono;rintro e ab⟨rfl,t,v⟩;have h:=d.step t v;have j:=a6 (C8 h.st 2 a8 (s9 _ 2 _));go_wp2_with fail;apply j.mono;rintro e W⟨rfl,k,l⟩;have i:=h.step k l;go_wp2;go_end0;exact⟨rfl,_,by rw[s.O];simpa using i⟩
 have ad:((a:Int)==0)=Bf:=by simp[n]
 have ae:((a:Int)==2)=Bf:=by simp;omega
 have x:=a6 (And.intro n f);clear n f;have j:=a6 (C8 d.st 2 a8 (s9 _ 2 _));go_wp2_with fail;apply j.mono;rintro e W⟨rfl,k,l⟩;have i:=d.step k l;go_wp2;go_end0;exact⟨rfl,_,by rw[s.O,if_neg (by have:=x.O;omega),if_neg (by have:=x.O;omega)];simpa using i⟩
section
attribute [local go_sem] Oper.semAt_some
def cS(s:v8):Va:=Ag #[I V s.fr,I V s.tp,I M s.way]
def T3:s7 v8:=⟨3,λs=>[I V s.fr,I V s.tp,I M s.way],λ_=>rfl,nA⟩
def Q1(n:Nat):o5:=(m9 n).map λk=>((k:Nat):Int)+1
theorem TO{a:o5}{k:Nat}(b:k<D a)(lo:Int):cJ lo (a.drop k) ((k:Int)+1)=(if lo<a[k]then [⟨lo,a[k]-1,0⟩]else [])++⟨a[k],a[k],(k:Int)+1⟩::cJ (a[k]+1) (a.drop (k+1)) (((k+1:Nat):Int)+1):=by rw[List.drop_eq_getElem_cons b];rfl
theorem MA{a:o5}{k:Nat}(c:k<D a){lo:Int}(b:Y8 lo (a.drop k)):lo<=a[k]/\a[k]<4294967296/\Y8 (a[k]+1) (a.drop (k+1)):=by rw[List.drop_eq_getElem_cons c]at b;exact b
theorem sR{n k:Nat}(h:k<D (Q1 n)):(Q1 n)[k]=(k:Int)+1:=by simp[Q1]
theorem EW(l b1 b2 b3 B c ad:Nat)(T aa:p1)(a:o5)(bf:D a<=900000)(aj:Y8 0 a)(Jq:List v8->Wd->Prop)(u:Wd)
 (C:∀pre x W,Jq pre W->a9 u W->D pre<D (cJ 0 a 1)->YieldAt .wide 1 prog l #[cS x] W λe W'=>e=X (O Bt)/\Jq (pre++[x]) W'/\(a9 u W->a9 u W'))
 (ax:u.cell? ⟨b1,0,J⟩=So (Z T (D a) c)) (ay:u.cell? ⟨b2,0,J⟩=So (I M 0)) (af:u.cell? ⟨b3,0,J⟩=So (Z aa (D a) ad)) (ag:i5 u T (l8 V a)) (ah:i5 u aa (l8 M (Q1 (D a))))
 (W:Wd) (A:a9 u W) (ae:Jq [] W):
 Ci .wide 2 prog 410 #[Fc (.yield l) #[] #[],K b1,K b2,K b3] W λe W'=>(∃v,e=X v)/\∃ys,ys=cJ 0 a 1/\Jq ys W':=by
 obtain⟨s,w⟩:∃s,s=cJ 0 a 1:=⟨_,rfl⟩;rw[<-w]at C⊢;obtain⟨n,ak,ab⟩:=r6 C ag ah;have ap:=A.cell ax;clear C ag ah;refine Co func410 rfl trivial ?_ rfl;simp only[ntmps410,uE,Nat.reduceAdd,Nat.reduceSub];gi_wp2;gi_loopw [5,10] (λbb ba wr=>∃(pre:List v8)(k:Nat)(lo:Int),k<=D a/\bb=I U6 lo/\0<=lo/\lo<=4294967296/\ba=I M k/\s=pre++cJ lo (a.drop k) ((k:Int)+1)/\Y8 lo (a.drop k)/\Jq pre wr/\a9 u wr) (λ_ i _=>D a-(intOf i).toNat);exact⟨[],0,0,c6 _,rfl,e6,e6,rfl,w,aj,ae,A⟩;clear ae A ap aj w;obtain⟨pre,k,lo,bg,rfl,bh,bi,rfl,b,F,p,f⟩:=hrel;have ad:=f.cell ay;by_cases E:k<D a
 ·obtain⟨o,be,rfl,_,az⟩:=(ak.h f).at_ (k:=k) (by simpa using E);rw[List.getElem_map]at az;rw[TO E]at b;have ai:=MA E F;generalize a[k]=x at*;have ac:=a6 ai;obtain⟨bj,bk,_⟩:=ai;have bl:IntKind.u64.wrap x=x:=IntWalk.u64_in _ a8;have q:IntKind.u32.wrap lo=lo\/x<=lo:=by by_cases t:x<=lo;exact .inr t;exact .inl (IntWalk.u32_in _ a8)
  have Q:IntKind.u32.wrap (x-1)=x-1\/x<=lo:=by by_cases t:x<=lo;exact .inr t;exact .inl (IntWalk.u32_in _ a8)
  have bm:IntKind.u64.wrap (x+1)=x+1:=IntWalk.u64_in _ a8;clear F;by_cases g:lo<x
  ·have o:Dc (lo<x)=Bt:=by simpa using g
   rw[if_pos g]at b;have d:=a6 b;have q:=q.resolve_right a8;have Q:=Q.resolve_right a8;clear b;gi_wp2_with fail;obtain⟨av,bc,al,an,h,y⟩:=n pre ⟨lo,x-1,0⟩ wr p f (by rw[d.O];simp only[g1,i4];omega);simp only[cS]at h;rw[h];gi_wp2;apply y.mono;rintro e r⟨rfl,H,N⟩;have m:a9 u r:=N f;have aq:=m.cell af;obtain⟨ar,au,rfl,_,G⟩:=(ab.h m).at_ (k:=k) (by simp[Q1];omega);rw[List.getElem_map,sR]at G;gi_wp2_with fail;obtain⟨aw,bd,am,ao,j,z⟩:=n (pre++[⟨lo,x-1,0⟩]) ⟨x,x,(k:Int)+1⟩ r H m (by rw[d.O];simp only[g1,i4];omega);simp only[cS]at j;rw[j];gi_wp2;apply z.mono;rintro e R⟨rfl,L,P⟩;have S:a9 u R:=P m;gi_wp2;go_roundw;exact⟨(pre++[⟨lo,x-1,0⟩])++[⟨x,x,(k:Int)+1⟩],k+1,x+1,a8,rfl,a8,a8,o3,by rw[d.O];simp,ac.2.2,L,S⟩;simp[intOf];omega
  have o:Dc (lo<x)=Bf:=by simpa using g
  rw[if_neg g]at b;have d:=a6 b;clear b q Q;gi_wp2_with fail;refine⟨aL,?_⟩;have aq:=f.cell af;obtain⟨ar,au,rfl,_,G⟩:=(ab.h f).at_ (k:=k) (by simp[Q1];omega);rw[List.getElem_map,sR]at G;gi_wp2_with fail;obtain⟨aw,bd,am,ao,j,z⟩:=n pre ⟨x,x,(k:Int)+1⟩ wr p f (by rw[d.O];simp only[g1,i4];omega);simp only[cS]at j;rw[j];gi_wp2;apply z.mono;rintro e R⟨rfl,L,P⟩;have S:a9 u R:=P f;gi_wp2;go_roundw;exact⟨pre++[⟨x,x,(k:Int)+1⟩],k+1,x+1,a8,rfl,a8,a8,o3,by rw[d.O];simp,ac.2.2,L,S⟩;simp[intOf];omega
 obtain rfl:k=D a:=a8;rw[List.drop_length]at b F;unfold cJ at b;by_cases g:lo<4294967296
 ·have o:Dc (lo<4294967296)=Bt:=by simpa using g
  have q:IntKind.u32.wrap lo=lo:=IntWalk.u32_in _ a8;rw[if_pos g]at b;have d:=a6 b;clear b;gi_wp2_with fail;obtain⟨av,bc,al,an,h,y⟩:=n pre ⟨lo,4294967295,0⟩ wr p f (by rw[d.O];simp only[g1,i4];omega);simp only[cS]at h;rw[h];gi_wp2;apply y.mono;rintro e r⟨rfl,H,N⟩;have m:a9 u r:=N f;gi_wp2;go_end0;rw[d.O];exact⟨⟨_,rfl⟩,_,rfl,H⟩
 have o:Dc (lo<4294967296)=Bf:=by simpa using g
 rw[if_neg g,List.append_nil]at b;have d:=a6 b;clear b;gi_wp2_with fail;go_end0;rw[d.O];exact⟨⟨_,rfl⟩,p⟩
theorem MI(a b:p1)(n m c d:Nat)(w:Wd):
 Ci .wide 2 prog 325 #[Z a n c,Z b m d,I M 0] w λe f=>e=X (Fc (.func 410) #[] #[K w,K (w+2:Nat),K (w+1:Nat)])/\f=((w.alloc (U #[Z a n c] 33)).alloc (U #[Z b m d] 28)).alloc (U #[I M 0] 3):=by
 refine Co func325 rfl trivial ?_ rfl;simp only[ntmps325,uE,Nat.reduceAdd,Nat.reduceSub];gi_wp2;go_ret;exact⟨rfl,rfl⟩
theorem wD(b1 b2 b3 c e:Nat)(b d:p1)(a:o5)(p:D a<=900000)(t:Y8 0 a)(u:Wd)(h:u.cell? ⟨b1,0,J⟩=So (Z b (D a) c))(i:u.cell? ⟨b2,0,J⟩=So (I M 0))(j:u.cell? ⟨b3,0,J⟩=So (Z d (D a) e))(k:i5 u b (l8 V a))(m:i5 u d (l8 M (Q1 (D a)))):
  aH .wide 2 prog 410 #[K b1,K b2,K b3] (λs:v8=> #[cS s]) (λ_ _=>True) (λW W'=>a9 u W->a9 u W') (λys=>ys=cJ 0 a 1) (D (cJ 0 a 1)) u:=λl Jq W n v o g=>
 EW l b1 b2 b3 0 c e b d a p t Jq u (λpre x f q _ r=>o pre x f q trivial r) h i j k m W n g
end
section
attribute [local go_sem] Oper.semAt_some
def Z6:s7 v9:=⟨5,λn=>[O n.leaf,I M n.way,I V n.at_,I M n.less,I M n.more],λ_=>rfl,nA⟩
theorem a2q:kZ prog 351 433 (Ag #[O Bf,I M 0,I V 0,I M 0,I M 0]) 5 40:=⟨underlying351,g6,rfl,e6,e6⟩
def S6:List Ti:=[433,351]
def uC(b a:Nat):Va:=Fc (.func 327) #[] #[K b,K a]
theorem B4.sub{g:Type}{w:Wd}{e:Ti}{E:s7 g}{b d n c:Nat}{xs:List g}(h:B4 w e E (Z (So ⟨b,d,J⟩) n c) xs)(k f:Nat)(m:k<=D xs):B4 w e E (Z (So ⟨b,d+k*E.k,J⟩) (n-k) f) (xs.drop k):=by obtain⟨p,q,o,j,i⟩:=h;cases o;refine⟨_,f,by rw[List.length_drop],?_,λa l=>by cases l;have:=i ⟨b,d,J⟩ rfl;exact this⟩;have e:=E.row_take xs k;have:=j.drop (k*E.k);rwa[<-e,List.drop_left' (by rw[E.row_length,m4,Nat.min_eq_left m])]at this
structure Gw(w:Wd)(bt bg base:Nat)(v:Va)(xs:List v9):Prop where
 g:e7 w bg 429 #[uC bt bg]
 t:e7 w bt 351 #[v]
 o:c7 w base 433 Z6 v xs
 hb:base<=w
 ht:base<=bt
theorem Gw.more{w:Wd}{i h base n c:Nat}{f:p1}{xs ys:List v9}{a:v9}(b:Gw w i h base (Z f n c) (xs++a::ys)):∃gb,f=So ⟨gb,0,J⟩/\n=D (xs++a::ys)/\w.frozen? ⟨gb,D xs*5+4,J⟩=Bf/\w.cell? ⟨gb,D xs*5+4,J⟩=So (I M a.more)/\
 ∀m:Int,Gw (w.setCell ⟨gb,D xs*5+4,J⟩ (I M m)) i h base (Z f n c) (xs++⟨a.leaf,a.way,a.at_,a.less,m⟩::ys)/\Tv base S6 w (w.setCell ⟨gb,D xs*5+4,J⟩ (I M m)):=by
 have d:=b.o;obtain⟨gb,cs,Jq,rfl,o,_⟩:=d.blk G6;have l:D xs<D (xs++a::ys):=i3;have e:(xs++a::ys)[D xs]=a:=i3;refine⟨gb,rfl,o,?_,d.i.1.elt0 l (r:=4) (by rw[e];rfl),λm=> ?_⟩;obtain⟨_,_,q,k⟩:=d;cases q;exact k.frozenAt _;subst o;obtain⟨p,j⟩:=d.setF (D xs) 4 l e6 (I M m) ⟨a.leaf,a.way,a.at_,a.less,m⟩ (by rw[e];rfl);have g:Tv base S6 w _:= .ofOwn d j (a7 _) e6;rw[List.set_append_right _ _ (a7 _),Nat.sub_self,List.set_cons_zero]at p;exact⟨⟨g.blk b.g (.inr e6),b.t.grown j (λe=>d.ne b.t e6 e.symm),p,b6 b.hb g.size,b.ht⟩,g⟩
theorem yP:∀(f:Nat)(l:List v8),D l<=f->0<D l->∀(b i c g A base:Nat)(v:Va)(xs:List v9)(w:Wd),Gw w g A base v xs->B4 w 431 T3 (Z (So ⟨b,i,J⟩) (D l) c) l->D l<=c->D l<=1000000->D xs+D (gr f l (D xs))<=1000000->
 Ca prog 327 #[Z (So ⟨b,i,J⟩) (D l) c,K g,K A] w λe bs=>e=X (Tp #[])/\∃v',Gw bs g A base v' (xs++gr f l (D xs))/\Tv base S6 w bs
 |0,l,hf,h0,b,i,c,g,A,base,v,xs,w,h,hs,hc,hc2,hl=>absurd h0 a8
 |f+1,l,hf,h0,b,i,c,g,A,base,v,xs,w,h,hs,hc,hc2,hl=>by
  have ih:=a6 (yP f);refine(Cw (n:=1)).1 ?_;obtain⟨ao,z,u,bg⟩:=F6 h.hb h.o h hs;have ce:IntKind.i64.wrap ((D l:Int).tdiv 2)=((D l/2:Nat):Int):=by rw[IntWalk.i64_quo _ 2 ⟨a8,a8,e6⟩];omega
  unfold gr at hl⊢;clear h hs;by_cases aa:D l/2=0
  ·have cb:(((D l/2:Nat):Int)==0)=Bt:=by simp[aa]
   rw[if_pos aa]at hl⊢;have ai:l.getD 0 KL=l[0]:=B1 h0;rw[ai];have ad:=λ(d:Wd)(a:B4 d 431 T3 (Z (So ⟨b,i,J⟩) (D l) c) l)=>show d.cell? ⟨b,i+2,J⟩=So (I M l[0].way) by rw[(i3:i+2=i+0*T3.k+2)];exact a.mem.l h0 (r:=2) rfl
   have av:=a6 ad;clear ad aa ai;generalize l[0]=j at*;refine Co func327 rfl trivial ?_ rfl;simp only[ntmps327,uE,Nat.reduceAdd,Nat.reduceSub];gi_wp2_with fail;obtain⟨ae,ap⟩:=j0 (λ(d:Wd)(a:GA 433 Z6 (v).ownBlock base (v) xs [(⟨Bt,j.way,0,0,0⟩:v9)] w d)=>show e7 d g 351 #[v]from u.t.grown a.g (λe=>z.ne u.t e6 e.symm)) (λ(d:Wd)(a:GA 433 Z6 (v).ownBlock base (v) xs [(⟨Bt,j.way,0,0,0⟩:v9)] w d)=>show B4 d 431 T3 (Z (So ⟨b,i,J⟩) (D l) c) l from bg.kept λb2 cs k=>k.grown a.g (λe=>z.ne k e6 e.symm));refine cB (R:=(GA 433 Z6 v.ownBlock base v xs [(⟨Bt,j.way,0,0,0⟩:v9)])) ?_;repeat
    first
     |(apply D7;focus (intro x d a;simp only[g0,g5,uV];(repeat intro p;try simp only[p]);gi_wp2_with fail;exact dn rfl rfl (L6.refl _)))
     |(refine r7 (.is v) ?_ ?_
       ·intro x d a
        simp only[g0,g5,uV,q8,q7]
        have ax:d.cell? ⟨g,0,J⟩=So v:=(ae d a).cell 0
        gi_wp2_with fail
        refine e8 ?_ rfl (L6.refl _)
        rfl)
     |(refine r7 (.is (I M j.way)) ?_ ?_
       ·intro x d a
        simp only[g0,g5,uV,q8,q7]
        intro H
        simp only[H]
        have bb:=av d (ap d a)
        gi_wp2_with fail
        refine e8 ?_ rfl (L6.refl _)
        rfl)
     |(refine r7 ((q8 #[O Bt,I M j.way,I V 0,I M 0,I M 0])) ?_ ?_
       ·intro x d a
        simp only[g0,g5,uV,q8,q7]
        intro W
        simp only[W]
        gi_wp2_with fail
        refine e8 ?_ rfl (GA.f ((a9.refl d).alloc _))
        exact⟨d,rfl,e7.new _ _ _,λe=>by have:=((a.old z.O).lt e).2;omega⟩)
     |(refine r7 ((q7 w)) ?_ ?_
       ·intro x d a
        simp only[g0,g5,uV,q8,q7]
        rintro E⟨ah,N,aj,cg⟩
        simp only[E,N]
        gi_wp2_with(gi_at_builtin;go_loud (refine a2F rfl _ _ 351 433 rfl a2q base v xs rfl (a.old z.O) ah 1 1 [(⟨Bt,j.way,0,0,0⟩:v9)] rfl rfl (i5.f aj rfl) hl (b6 ao a.g.size) ?_;intro cj cn bc ad al bd be))
        refine e8 ?_ rfl (⟨ad,λ_=>al,bd⟩)
        exact⟨bc,be.imp id (λq b ay=>by have:=q b ay;have:=a.g.size;omega)⟩)
   intro x d a;simp only[n9,g0,g5,uV,q8,q7];rintro E F G H L W⟨ah,N,aj,cg⟩⟨C,au⟩;simp only[E,F,G,H,L,W,N];clear E F G H L W N;obtain⟨m,t,o,af⟩:=C.f;rw[af]at C au;have s:=ae d a;have bk:=s.frozen 0;have bi:=s.cell 0;have P:Tv base S6 w d:= .ofOwn z a.g (a7 _) e6;have Q:=Tv.r s u.ht (S:=S6) e6 0 (Z m t o);have b2:=s.f 0 (Z m t o);have ak:=C.kept (c8 _ g 0 (Z m t o)) (.inr (C.ne s e6));obtain⟨aw,T⟩:=j0 (P.trans Q) (⟨(P.trans Q).blk u.g (.inr e6),b2,ak,b6 ao (P.trans Q).size,u.ht⟩:Gw (d.setCell ⟨g,0,J⟩ (Z m t o)) g A base (Z m t o) (xs++[(⟨Bt,j.way,0,0,0⟩:v9)]));clear P Q b2 ak;simp only[af];gi_wp2_with fail;refine Bp (Rz rfl _ _ _) rfl ⟨rfl,_,T.O,aw.O⟩
  obtain⟨k,az⟩:∃k,k=D l/2:=⟨_,rfl⟩;rw[if_neg aa]at hl⊢;rw[<-az]at ce aa hl⊢;have cb:((k:Int)==0)=Bf:=by simp[aa]
  have cv:(D l:Int)/2=(k:Int):=a8;have ct:0<k:=a8;have bm:k<D l:=a8;have cu:(k:Int)<(D l:Int):=a8;have ai:l.getD k KL=l[k]:=B1 bm;rw[ai]at hl⊢;have av:=a6 (λ(d:Wd)(a:B4 d 431 T3 (Z (So ⟨b,i,J⟩) (D l) c) l)=>show d.cell? ⟨b,i+k*3,J⟩=So (I V l[k].fr) by rw[show i+k*3=i+k*T3.k+0 from rfl];exact a.mem.l bm (r:=0) rfl);obtain⟨y,B,cf⟩:=z.b;subst cf;have cx:IntKind.i64.wrap ((D xs:Int)+1)=((D xs+1:Nat):Int):=by rw[h7 _ (by simp only[i4]at hl;omega)];omega
  have ax:w.cell? ⟨g,0,J⟩=So (Z y (D xs) B):=u.t.cell 0;have bt:=a6 hl;have cc:D xs+1<=1000000:=by simp only[i4]at hl;omega
  have cp:=a6 az;clear aa ai hl az;generalize br:l[k]=j at*;have cq:=a6 br;clear br;refine Co func327 rfl trivial ?_ rfl;simp only[ntmps327,uE,Nat.reduceAdd,Nat.reduceSub];gi_wp2_with fail;obtain⟨ae,ap⟩:=j0 (λ(d:Wd)(a:GA 433 Z6 ((Z y (D xs) B)).ownBlock base ((Z y (D xs) B)) xs [(⟨Bf,0,j.fr,((D xs+1:Nat):Int),0⟩:v9)] w d)=>show e7 d g 351 #[(Z y (D xs) B)]from u.t.grown a.g (λe=>z.ne u.t e6 e.symm)) (λ(d:Wd)(a:GA 433 Z6 ((Z y (D xs) B)).ownBlock base ((Z y (D xs) B)) xs [(⟨Bf,0,j.fr,((D xs+1:Nat):Int),0⟩:v9)] w d)=>show B4 d 431 T3 (Z (So ⟨b,i,J⟩) (D l) c) l from bg.kept λb2 cs k=>k.grown a.g (λe=>z.ne k e6 e.symm));refine cB (R:=(GA 433 Z6 (Z y (D xs) B).ownBlock base (Z y (D xs) B) xs [(⟨Bf,0,j.fr,((D xs+1:Nat):Int),0⟩:v9)])) ?_;repeat
   first
    |(apply D7;focus (intro x d a;simp only[g0,g5,uV];(repeat intro p;try simp only[p]);gi_wp2_with fail;exact dn rfl rfl (L6.refl _)))
    |(refine r7 (.is (Z y (D xs) B)) ?_ ?_
      ·intro x d a
       simp only[g0,g5,uV,q8,q7]
       have ax:d.cell? ⟨g,0,J⟩=So (Z y (D xs) B):=(ae d a).cell 0
       gi_wp2_with fail
       refine e8 ?_ rfl (L6.refl _)
       rfl)
    |(refine r7 (.is (I V j.fr)) ?_ ?_
      ·intro x d a
       simp only[g0,g5,uV,q8,q7]
       intro L
       simp only[L]
       have bb:=av d (ap d a)
       gi_wp2_with fail
       refine e8 ?_ rfl (L6.refl _)
       rfl)
    |(refine r7 ((q8 #[O Bf,I M 0,I V j.fr,I M ((D xs+1:Nat):Int),I M 0])) ?_ ?_
      ·intro x d a
       simp only[g0,g5,uV,q8,q7]
       intro aq
       simp only[aq]
       gi_wp2_with fail
       refine e8 ?_ rfl (GA.f ((a9.refl d).alloc _))
       exact⟨d,rfl,e7.new _ _ _,λe=>by have:=((a.old z.O).lt e).2;omega⟩)
    |(refine r7 ((q7 w)) ?_ ?_
      ·intro x d a
       simp only[g0,g5,uV,q8,q7]
       rintro E⟨ah,ar,aj,ch⟩
       simp only[E,ar]
       gi_wp2_with(gi_at_builtin;go_loud (refine a2F rfl _ _ 351 433 rfl a2q base (Z y (D xs) B) xs rfl (a.old z.O) ah 1 1 [(⟨Bf,0,j.fr,((D xs+1:Nat):Int),0⟩:v9)] rfl rfl (i5.f aj rfl) cc (b6 ao a.g.size) ?_;intro cj cn bc ad al bd be))
       refine e8 ?_ rfl (⟨ad,λ_=>al,bd⟩)
       exact⟨bc,be.imp id (λq b ay=>by have:=q b ay;have:=a.g.size;omega)⟩)
  intro x d a;simp only[n9,g0,g5,uV,q8,q7];rintro E F G H L W N bj aq⟨ah,ar,aj,ch⟩⟨C,au⟩;simp only[E,F,G,H,L,W,N,bj,aq,ar];clear E F G H L W N bj aq ar;obtain⟨m,t,o,af⟩:=C.f;rw[af]at C au;have s:=ae d a;have bk:=s.frozen 0;have bi:=s.cell 0;have P:Tv base S6 w d:= .ofOwn z a.g (a7 _) e6;have Q:=Tv.r s u.ht (S:=S6) e6 0 (Z m t o);have b2:=s.f 0 (Z m t o);have ak:=C.kept (c8 _ g 0 (Z m t o)) (.inr (C.ne s e6));obtain⟨aw,T⟩:=j0 (P.trans Q) (⟨(P.trans Q).blk u.g (.inr e6),b2,ak,b6 ao (P.trans Q).size,u.ht⟩:Gw (d.setCell ⟨g,0,J⟩ (Z m t o)) g A base (Z m t o) (xs++[(⟨Bf,0,j.fr,((D xs+1:Nat):Int),0⟩:v9)]));clear P Q b2 ak;simp only[af];have bh:=a6 ((ap d a).tv (.r s u.ht (S:=S6) e6 0 (Z m t o)) e6);gi_wp2_with fail;generalize d.setCell ⟨g,0,J⟩ (Z m t o)=cy at*;clear a s bk bi C au ax;refine aO ?_;refine r7 (.is (uC g A)) ?_ ?_;·intro x d a;simp only[g0,g5,uV];have bb:=(T.g.h a).cell 0;gi_wp2_with fail;refine e8 ?_ rfl (a9.refl _);rfl
  iterate 3 (apply D7;focus (intro x d a;simp only[g0,g5,uV];(repeat intro p;try simp only[p]);gi_wp2_with fail;exact dn rfl rfl (a9.refl _)))
  refine r7 (.is (Z (So ⟨b,i,J⟩) k k)) ?_ ?_;·intro x d a;simp only[g0,g5,uV];intro F G H;simp only[F,G,H];gi_wp2_with fail;refine e8 ?_ rfl (a9.refl _);rfl
  intro x d a;simp only[n9,g0,o7,uV];repeat(intro p;try simp only[p];clear p)
  have bp:D (l.take k)=k:=by rw[m4];omega
  have bn:D (l.drop k)=D l-k:=List.length_drop;have bz:=bt.O;simp only[i4,g1]at bz;have bq:D (xs++[(⟨Bf,0,j.fr,((D xs+1:Nat):Int),0⟩:v9)])=D xs+1:=i3;have am:=ih (l.take k) a8 a8 b i k g A base _ _ d ⟨T.g.h a,T.t.h a,T.o.h a,b6 T.hb a.size,T.ht⟩ (by rw[bp];exact(bh.h a).take k k a8) a8 a8 (by rw[bq];omega);rw[bp,bq]at am;have am:=a6 am;unfold uC;gi_wp2_with(refine⟨trivial,?_⟩;gi_at_call 327;apply((Cw (n:=0)).2 am.O).mono;rintro e cm⟨rfl,cw,ag,bf⟩;rw[p6,List.singleton_append]at ag;obtain⟨co,ab,cr,rfl⟩:=ag.o.f;obtain⟨gb,rfl,ba,bx,bw,S4⟩:=ag.more;have al:=ag.t.cell 0;have ca:(D xs:Int)<ab:=(by rw[ba];simp;omega);have bu:=a6 ba;clear ba);have ac:=a6 (S4 ab).1;obtain⟨bv,S5⟩:=j0 ((((aw.h a).trans bf).trans (S4 ab).2)) (((bh.h a).tv bf e6).tv (S4 ab).2 e6);generalize cm.setCell ⟨gb,D xs*5+4,J⟩ (I M ab)=cz at*;clear S4 bx bw al ca ag bf a;refine aO ?_;refine r7 (.is (uC g A)) ?_ ?_;·intro x d a;simp only[g0,g5,uV];have bb:=(ac.g.h a).cell 0;gi_wp2_with fail;refine e8 ?_ rfl (a9.refl _);rfl
  iterate 6 (apply D7;focus (intro x d a;simp only[g0,g5,uV];(repeat intro p;try simp only[p]);gi_wp2_with fail;exact dn rfl rfl (a9.refl _)))
  refine r7 (.is (Z (So ⟨b,i+k*3,J⟩) (D l-k) (D l-k))) ?_ ?_;·intro x d a;simp only[g0,g5,uV];intro F G L N;simp only[F,G,L,N];gi_wp2_with fail;refine e8 ?_ rfl (a9.refl _);rfl
  intro x d a;simp only[n9,g0,o7,uV];repeat(intro p;try simp only[p];clear p)
  have bo:D (xs++(⟨Bf,0,j.fr,((D xs+1:Nat):Int),(ab:Int)⟩:v9)::gr f (l.take k) (D xs+1))=D xs+1+D (gr f (l.take k) (D xs+1)):=by simp;omega
  have an:=ih (l.drop k) a8 a8 b (i+k*3) (D l-k) g A base _ _ d ⟨ac.g.h a,ac.t.h a,ac.o.h a,b6 ac.hb a.size,ac.ht⟩ (by rw[bn];exact(S5.h a).sub k _ a8) a8 a8 (by rw[bo];omega);rw[bn,bo]at an;have an:=a6 an;unfold uC;gi_wp2_with(refine⟨trivial,?_⟩;gi_at_call 327;apply((Cw (n:=0)).2 an.O).mono;rintro e da⟨rfl,ck,bl,ci⟩);have cd:ab=D xs+1+D (gr f (l.take k) (D xs+1)):=by rw[bu.O];simp;omega
  go_end0;refine⟨rfl,ck,?_,(bv.h a).trans ci⟩;rw[p6,List.cons_append,cd]at bl;exact bl
end
def fZ(c:Nat->Nat)(N:Nat)(b:R8)(a:Nat):Nat:=if a<N then c a else b.getD (a-N) 0
theorem NT(d:Nat->Nat)(N:Nat)(a:R8)(b:Nat):fZ d N (a++[b])=aP (fZ d N a) (N+D a) b:=by
 funext y;show(if y<N then d y else(a++[b]).getD (y-N) 0)=if y=N+D a then b else if y<N then d y else a.getD (y-N) 0
 by_cases c:y<N;rw[if_pos c,if_neg a8,if_pos c];rw[if_neg c,if_neg c];obtain⟨j,rfl⟩:∃j,y=N+j:=⟨y-N,a8⟩;rw[Nat.add_sub_cancel_left];by_cases e:j<D a;rw[if_neg a8,b9,List.getElem?_append_left e,b9];by_cases f:j=D a;rw[if_pos a8,f,b9,List.getElem?_append_right (a7 _)];simp;rw[if_neg a8,b9,b9,List.getElem?_eq_none G6,List.getElem?_eq_none a8]
theorem St.labels{w:Wd}{g base N:Nat}{l:List It}{h:Nat->Nat}(m:St w g base l h N)(f:R8)(A:∀b∈f,e7 w b 327 #[I M 0]/\base<=b/\∀d,d<N->h d≠b)(E:f.Nodup):St w g base l (fZ h N f) (N+D f):=by
 have key:∀k,k<=D f->St w g base l (fZ h N (f.take k)) (N+k):=λk=>by
  induction k with
  |zero=>
   intro _
   obtain⟨p,r,q⟩:=m.ex
   have e:∀d,d<N->fZ h N (f.take 0) d=h d:=λd j=>if_pos j
   obtain⟨zs,a,bo,c⟩:=q.zs
   refine⟨⟨p,r,q.wri,⟨zs,a,bo,λz t=> ?_⟩,λx i=>by rw[e x i];exact q.labs x i,λx d i j F=>q.inj x d i j (by rw[<-e x i,<-e d j];exact F)⟩,m.ok⟩
   have C:z.num∈N4 l 0:=by rw[<-a];exact List.mem_map.2 ⟨z,t,rfl⟩
   obtain⟨n,y⟩:=m.ok.2 _ C
   have q:=c z t
   exact⟨by rw[e z.t n];exact q.bt,q.bw,q.ba,q.bc,by rw[e z.e y];exact q.be⟩
  |succ k ih=>
   intro H
   have s:=ih a8
   obtain⟨p,r,q⟩:=s.ex
   have B:D (f.take k)=k:=by rw[m4];omega
   have o:k<D f:=a8
   obtain⟨u,v,n⟩:=A _ (g3 o)
   rw[g2 o,NT,B]
   refine⟨⟨p,r,q.add s.ok u v λd j=> ?_⟩,s.ok.more (Nat.le_succ _)⟩
   unfold fZ
   split
   ·rename_i G;exact n d G
   ·rw[b9,List.getElem?_take_of_lt a8,e9 a8]
    exact List.pairwise_iff_getElem.1 E _ _ a8 o a8
 have:=key (D f) (a7 _);rwa[List.take_length]at this
def MG:s7 Nat:=⟨1,λb=>[K (So ⟨b,0,J⟩)],λ_=>rfl,nA⟩
def a0E:s7 (Option Nat):=⟨1,λb=>[K (b.map λb=>⟨b,0,J⟩)],λ_=>rfl,nA⟩
def m1(a:R8)(x:v9)(b:Nat):Nat:=if x.leaf then a.getD x.way.toNat 0 else b
def TM(a:R8):List v9->R8->List (Option Nat)
 |x::nd,b::bs=>So (m1 a x b)::TM a nd bs
 |_,_=>[]
theorem zX(e:R8):∀(a:List v9)(d:R8)(b:Nat)(f:D d<D a),TM e a (d++[b])=TM e a d++[So (m1 e a[D d] b)]
 |x::a,[],b,f=>by cases a<;>rfl
 |x::a,c::d,b,f=>congrArg (So (m1 e x c)::·) (zX e a d b (by simpa using f))
theorem wC(d:R8):∀(c:List v9)(a:R8),D a<=D c->D (TM d c a)=D a
 |[],[],_=>rfl
 |x::c,[],_=>rfl
 |x::c,b::a,h=>by show(TM d c a).length+1=D a+1;rw[wC d c a (by simpa using h)]
theorem IP(d:R8):∀(c:List v9)(a:R8)(j:Nat)(e:j<D a)(f:j<D c),(TM d c a)[j]? =So (So (m1 d c[j] a[j]))
 |x::c,b::a,0,_,_=>rfl
 |x::c,b::a,j+1,e,f=>IP d c a j (by simpa using e) (by simpa using f)
theorem pR(z:Va)(n:Nat):(madeCells #[z] n).toList=p4 n z:=toList_madeCells_one _ _
theorem a0C(n:Nat):(madeCells #[K J] n).toList=a0E.row (p4 n J):=by
 rw[pR];induction n with
 |zero=>rfl
 |succ n ih=>rw[List.replicate_succ,List.replicate_succ,ih];rfl
section
attribute [local go_sem] Oper.semAt_some
structure a6f(nd:List v9)(m:Nat)(x:v9):Prop where
 lf:x.leaf=Bt->0<=x.way/\x.way<m
 br:x.leaf=Bf->(0<=x.less/\x.less<D nd)/\0<=x.more/\x.more<D nd
theorem c7.setN{f:Type}{w:Wd}{base g n cap:Nat}{e:Ti}{E:s7 f}{xs:List f}(b:c7 w base e E (Z g n cap) xs)(j:Nat)(i:j<D xs)(h:E.k=1)(u:Va)(d:f)(o:[u]=E.c d):
 c7 (w.setCell ⟨g,j,J⟩ u) base e E (Z g n cap) (xs.set j d)/\w.grownBy (w.setCell ⟨g,j,J⟩ u) (So g)/\w.frozen? ⟨g,j,J⟩=Bf/\w.cell? ⟨g,j,J⟩=(E.c xs[j])[0]? :=by
 obtain⟨l,rfl⟩:=b.i;obtain⟨a,c⟩:=List.length_eq_one_iff.1 ((E.len xs[j]).trans h);have:=b.setF j 0 i a8 u d (by rw[c,<-o];rfl);have q:=l.elt0 i (r:=0) (u:=a) (by rw[c];rfl);rw[h,Nat.mul_one,j8]at this q;refine⟨this.1,this.2,?_,q.trans (by rw[c];rfl)⟩;obtain⟨_,_,m,k⟩:=b;cases m;exact k.frozenAt _
theorem MF:(prog.info? 325).map (λi=>(i.zero,i.size,i.bytes))=So (So (K J),1,8):=g6
theorem nF{c:Type}(a R:List c)(x b:c)(k:Nat)(d:D a=k):(a++x::R).set k b=a++[b]++R:=by subst d;rw[List.set_append_right _ _ (a7 _),Nat.sub_self,List.set_cons_zero,p6];rfl
structure Fld(w:Wd)(nd:List v9)(wl:R8)(n:Nat)(bs:R8)(wr:Wd):Prop where
 o:c7 wr w 325 a0E (Z w n n) (TM wl nd bs++p4 (n-D bs) J)
 b:∀b∈bs,e7 wr b 327 #[I M 0]/\w<=b
 nd:bs.Nodup
 x:a9 w wr
theorem AO(b:Nat)(p:Nat->Nat)(a:List v9){k:Nat}(c:k<D a):bW b p 0 (a.take (k+1))=bW b p 0 (a.take k)++MX b p k a[k]:=by rw[g2 c,wO,m4,Nat.min_eq_left a8,Nat.zero_add];simp[bW]
theorem wP(a:Nat)(p:Nat->Nat)(i:Nat)(x:v9):r0 (MX a p i x)<=1:=by unfold MX;split<;>simp[r0,It.n]
theorem QN{w:Wd}{g base N:Nat}{aw:List It}{L:Nat->Nat}(dl:St w g base aw L N)(cu cv:p1)(dj dk:Nat)(c:List v9)(l:R8)(dv:B4 w 433 Z6 (Z cu (D c) dj) c)(ec:B4 w 325 MG (Z cv (D l) dk) l)(fo:N=3+D l)(du:∀i(hi:i<D l),L (3+i)=l[i])
 (dy:∀x∈c,a6f c (D l) x) (ax:0<D c) (fr:D c<=10000) (fq:r0 aw+D c+2<=100000) (ew:base<=w):
 Ca prog 255 #[K g,Z cu (D c) dj,Z cv (D l) dk] w (Rn w g base aw L N (DD N c) (N+D c)):=by
 refine(Cw (n:=1)).1 ?_;have fa:∀W:Wd,(Instr.makeSlice 347 (I M (D c:Int)) (I M (D c:Int))).run prog W= .ok (Z W (D c) (D c)) (W.alloc (U (madeCells #[K J] (D c)) 325)):=λW=>
  J3 347 325 (K J) 8 underlying347 MF rfl M M (D c) (D c) (a7 _) a8 e6 W
 obtain⟨aj,df,db,be,ej⟩:=Y2 dv ec dl dy du;have cy:Fld w c l (D c) [] (w.alloc (U (madeCells #[K J] (D c)) 325)):=⟨by
  have e:TM l c []++p4 (D c-D ([]:R8)) J=p4 (D c) J:=by cases c<;>rfl
  rw[e];exact c7.new (a7 _) (a0C _) i3 a8,λb h=>(by cases h),.nil,(a9.refl w).alloc _⟩
 clear dv ec dl dy du;refine Co func255 rfl trivial ?_ rfl;simp only[ntmps255,uE,Nat.reduceAdd,Nat.reduceSub];gi_wp2_with fail;generalize w.alloc (U (madeCells #[K J] (D c)) 325)=w0 at*;clear fa;gi_loopw [16] (λs wr=>∃d:R8,D d<=D c/\s=I M (D d)/\Fld w c l (D c) d wr) (λi _=>D c-(intOf i).toNat);exact⟨[],c6 _,rfl,cy⟩;clear cy;obtain⟨d,bv,rfl,v⟩:=hrel;by_cases f:D d<D c
 ·have ag:=v.x;have dw:(D d:Int)<(D c:Int):=a8;obtain⟨dh,bz,rfl,_⟩:=(aj.h ag).mem.rows e6 ax;have F:=(aj.h ag).mem.l f (r:=0) rfl;have ac:=(aj.h ag).mem.l f (r:=1) rfl;have ad:=(aj.h ag).mem.l f (r:=2) rfl;have ae:=(aj.h ag).mem.l f (r:=3) rfl;have af:=(aj.h ag).mem.l f (r:=4) rfl;simp only[Z6,j8]at F ac ad ae af;have aq:=be _ (g3 f);have ea:∀b,TM l c (d++[b])=TM l c d++[So (m1 l c[D d] b)]:=λb=>zX l c d b f
  have au:=wC l c d bv;generalize c[D d]=x at*;obtain⟨E,G,z,m,o⟩:=x;dsimp only at F ac ad ae af;have cc:a9 wr ((wr.alloc (U #[O E,I M G,I V z,I M m,I M o] 433)).alloc (U #[I M 0] 327)):=((a9.refl wr).alloc _).alloc _;have cx:e7 ((wr.alloc (U #[O E,I M G,I V z,I M m,I M o] 433)).alloc (U #[I M 0] 327)) wr.heap.size 433 #[O E,I M G,I V z,I M m,I M o]:=(e7.new wr _ _).alloc _;have cw:e7 ((wr.alloc (U #[O E,I M G,I V z,I M m,I M o] 433)).alloc (U #[I M 0] 327)) (wr+1) 327 #[I M 0]:=e7.b i3;have eb:p4 (D c-D d) (J:Option Nat)=J::p4 (D c-(D d+1)) J:=by rw[(a8:D c-D d=(D c-(D d+1))+1),List.replicate_succ]
  have bn:=v.o.h cc;rw[eb]at bn;obtain⟨bo,bf,fm,di⟩:=bn.setN (D d) G6 rfl (K (wr+1:Nat)) (So (wr.heap.size+1)) rfl;rw[nF _ _ _ _ _ au]at bo;have fd:w<wr.heap.size:=(v.o.lt rfl).2;rw[World.setCell_alloc_past _ _ _ _ G6,World.setCell_alloc_past _ _ _ _ fd]at bo bf;have di:(((wr.alloc (U #[O E,I M G,I V z,I M m,I M o] 433)).alloc (U #[I M 0] 327))).cell? ⟨w,D d,J⟩=So (K J):=by rw[di];simp only[List.getElem_append_right (Nat.le_of_eq au),au,Nat.sub_self,List.getElem_cons_zero];rfl
  have eh:=cx.grown bf (λe=>by injection e with e;omega);have eg:=cw.grown bf (λe=>by injection e with e;omega);have eo:a9 w _:=(ag.trans cc).grown bf (λk e=>by cases e;exact a7 _);have dr:∀b∈d,e7 _ b 327 #[I M 0]/\w.heap.size<=b:=λb h=>⟨((v.b b h).1.h cc).grown bf (λe=>bn.ne ((v.b b h).1.h cc) e6 e.symm),(v.b b h).2⟩
  have dx:(d++[wr.heap.size+1]).Nodup:=by refine List.nodup_append.2 ⟨v.nd,List.nodup_cons.2 ⟨List.not_mem_nil,.nil⟩,λa ev b h e=> ?_⟩;have:=(v.b a ev).1.lt;rw[List.mem_singleton.1 h]at e;omega
  obtain⟨ca,fu⟩:=eh.c2;obtain⟨dd,dc,cg,bm,da⟩:=Y2 (ea (wr+1)) bo dr eo eg;have bw:D (d++[wr.heap.size+1])=D d+1:=i3;clear ea bn bo dr eb cx cw ag;cases E
  ·gi_wp2_with fail;go_roundw;refine⟨d++[wr.heap.size+1],a8,by rw[bw];go_num,⟨?_,λb h=> ?_,dx,bm.O⟩⟩;rw[bw,dd.O];exact dc.O;rcases List.mem_append.1 h with h|h
   exact cg b h;rw[List.mem_singleton.1 h];exact⟨da.O,a8⟩;simp[intOf];omega
  obtain⟨fc,ed⟩:=aq.lf rfl;obtain⟨ba,rfl⟩:=Int.eq_ofNat_of_zero_le fc;have fs:(ba:Int)<(D l:Int):=ed;have ee:ba<D l:=a8;obtain⟨b1,ft,rfl,_⟩:=(df.h bm.O).mem.rows e6 a8;have fe:=(df.h bm.O).mem.l ee (r:=0) rfl;simp only[MG,j8,Nat.mul_one]at fe;have bt:=dc.O;rw[p6,List.singleton_append]at bt;obtain⟨bp,bq,fn,cn⟩:=bt.setN (D d) G6 rfl (K (l[ba]:Nat)) (So l[ba]) rfl;rw[nF _ _ _ _ _ au]at bp;rw[World.setCell_alloc_past _ _ _ _ G6,World.setCell_alloc_past _ _ _ _ G6]at bp bq;simp only[List.getElem_append_right (Nat.le_of_eq au),au,Nat.sub_self,List.getElem_cons_zero]at cn;replace cn:=cn.trans (show(a0E.c (So (wr+1)))[0]? =So (K (wr+1:Nat))from rfl);have dq:=λ(b:Nat)(k:e7 _ b 327 #[I M 0])=>k.grown bq (λe=>bt.ne k e6 e.symm)
  obtain⟨cz,ek⟩:=j0 dq bp;have dg:a9 w _:=bm.grown bq (λk e=>by cases e;exact a7 _);have en:=a6 dg;have dz:m1 l ⟨Bt,(ba:Int),z,m,o⟩ (wr.heap.size+1)=l[ba]:=by unfold m1;rw[if_pos rfl,Int.toNat_natCast,B1 ee]
  have el:=a6 dz;clear dq bp dg dz bt ed bq;gi_wp2_with fail;go_roundw;refine⟨d++[wr.heap.size+1],a8,by rw[bw];go_num,⟨?_,λb h=> ?_,dx,en.O⟩⟩;rw[bw,dd.O,el.O];exact ek.O;rcases List.mem_append.1 h with h|h
  exact⟨cz _ (cg b h).1,(cg b h).2⟩;rw[List.mem_singleton.1 h];exact⟨cz _ da.O,a8⟩;simp[intOf];omega
 have cq:D d=D c:=a8;have dp:=St.labels (db.h v.x) d (λb h=>⟨(v.b b h).1,b6 ew (v.b b h).2,λef ct e=>by obtain⟨fv,fw,q⟩:=db.ex;have:=(q.labs ef ct).1.lt;have:=(v.b b h).2;omega⟩) v.nd
 rw[cq]at dp;have au:=wC l c d bv;have bs:=v.o;rw[cq,Nat.sub_self,List.replicate_zero,List.append_nil]at bs;obtain⟨p,bi⟩:∃p:Nat->Nat,p=λj=>AN N j (c.getD j QF):=⟨_,rfl⟩
 have ar:∀j,j<D c->p j<N+D c:=λj C=>by rw[bi];show AN N j (c.getD j QF)<_;rw[B1 C];unfold AN;split;rename_i ap;have:=(be _ (g3 C)).lf ap;omega;omega
 have bu:∀j,j<D c->wr.cell? ⟨w,j,J⟩=So (K (fZ L N d (p j):Nat)):=λj C=>by have bx:=IP l c d j a8 C;have ds:j<D (TM l c d):=a8;have:=bs.i.1.elt0 ds (r:=0) (u:=K (m1 l c[j] d[j]:Nat)) (by rw[e9 ds]at bx;injection bx with bx;rw[bx];rfl);rw[show a0E.k=1 from rfl,Nat.mul_one,j8]at this;rw[this,bi];show _=So (K (So ⟨fZ L N d (AN N j (c.getD j QF)),0,J⟩));rw[B1 C];unfold fZ AN m1;by_cases ap:c[j].leaf=Bt;obtain⟨ay,az⟩:=(be _ (g3 C)).lf ap;have A:c[j].way.toNat<D l:=a8;rw[if_pos ap,if_pos ap,if_pos a8,ej _ A,B1 A];rw[if_neg ap,if_neg ap,if_neg a8,Nat.add_sub_cancel_left,B1 a8]
 have br:J9 w g base aw L N [] (N+D c) (fZ L N d) wr:=⟨by rw[List.append_nil];exact dp,λef ct=>if_pos ct,Tv.f v.x,Nat.le_add_right _ _⟩;have bh:=aj.h v.x;have cp:∃cs,e7 wr w 325 cs:=let⟨g',cs,_,e,_,_,h,_⟩:=bs.blk a8;by cases e;exact⟨cs,h⟩
 have ao:DD N c=(if(c.getD 0 QF).leaf then [.jmp 5 0 (p 0) 0]else [])++bW N p 0 c:=by rw[bi];rfl
 rw[B1 ax]at ao;obtain⟨dh,bz,rfl,_⟩:=bh.mem.rows e6 ax;have F:wr.cell? ⟨dh,bz,J⟩=So (O c[0].leaf):=by rw[(i3:bz=bz+0*Z6.k+0)];exact bh.mem.l ax (r:=0) rfl
 have de:=a6 bi;clear bs bi cq v;generalize fZ L N d=E at*;have ep:=bu 0 ax;have fp:(0:Int)<D c:=a8;cases dt:c[0].leaf
 ·rw[dt]at F ao;have ch:=a6 ao;clear ao;obtain⟨ak,ci,bd⟩:=r6 (λ(H:Wd)(t:Tv base W4 wr H)(j:Nat)(C:j<D c)=>show H.cell? ⟨w,j,J⟩=So (K (E (p j):Nat))from let⟨cs,hB⟩:=cp;by rw[(t.blk hB (.inr e6)).cell,<-hB.cell];exact bu j C) (bh) (br);gi_wp2_with fail;gi_loopw [48] (λs H=>∃k,k<=D c/\s=I M k/\J9 w g base aw L N ([]++bW N p 0 (c.take k)) (N+D c) E H/\Tv base W4 wr H/\r0 (bW N p 0 (c.take k))<=k) (λi _=>D c-(intOf i).toNat);exact⟨0,c6 _,rfl,by simpa[bW]using bd.O,.refl _ _ _,a7 _⟩;clear bd;obtain⟨k,bv,rfl,an,R,ex⟩:=hrel;by_cases f:k<D c
  ·have dw:(k:Int)<(D c:Int):=a8;have B:=ci.tv R e6;have F:=B.mem.l f (r:=0) rfl;have ac:=B.mem.l f (r:=1) rfl;have ad:=B.mem.l f (r:=2) rfl;have ae:=B.mem.l f (r:=3) rfl;have af:=B.mem.l f (r:=4) rfl;simp only[Z6,j8]at F ac ad ae af;have aq:=be _ (g3 f);have bj:=AO N p c f;have S:c[k].leaf=Bf->p k=N+k:=λcr=>by rw[de.O];show AN N k (c.getD k QF)=_;rw[B1 f];unfold AN;rw[cr];rfl
   have ey:=wP N p k c[k];generalize c[k]=x at*;obtain⟨av,G,z,m,o⟩:=x;dsimp only at F ac ad ae af;have bb:=e7.new wr 433 #[O av,I M G,I V z,I M m,I M o];have aa:=(a9.refl wr).alloc (U #[O av,I M G,I V z,I M m,I M o] 433);have ai:=an.h aa;have ca:=bb.cell 0;have P:=a6 bj;clear bj B;cases av
   ·obtain⟨⟨ay,az⟩,A,bg⟩:=aq.br rfl;obtain⟨m,rfl⟩:=Int.eq_ofNat_of_zero_le ay;obtain⟨o,rfl⟩:=Int.eq_ofNat_of_zero_le A;have cj:=a6 (S rfl);clear S;have ez:(m:Int)<(D c:Int):=az;have fb:(o:Int)<(D c:Int):=bg;have cm:=(ak _ (R.h aa) k f);have ab:=a6 (C8 ai.st (p k) (ar k f) rfl);clear ay A az bg aq;gi_wp2_with(refine⟨trivial,?_⟩;gi_at_call 244;apply((Cw (n:=0)).2 ab.O).mono;rintro e ff⟨rfl,A,T⟩);obtain⟨cd,al,ah⟩:=r6 (ai.step A T) ((R.h aa).trans T) (T.blk bb (.inr e6));clear A T ca cm ab;refine aO ?_;repeat(apply D7;focus (intro x am y;simp only[g0,g5,uV];(repeat intro Q;try simp only[Q]);have fh:=(ah.h y).cell 2;have fi:=(ah.h y).cell 4;have fj:=ak am (al.h y) o a8;have fk:=(ah.h y).cell 3;have fl:=ak am (al.h y) m a8;gi_wp2_with fail;exact dn rfl rfl (a9.refl _)))
    intro x am y;simp only[n9,g0,o7,uV];repeat(intro Q;try simp only[Q];clear Q)
    have bc:=cd.h y;have cf:=a6 (I5 bc.st 53 z (p o) (p m) (ar o a8) (ar m a8) (by simp only[l7,r0,It.n]at*;omega) rfl (T7 e6 _));gi_wp2_with(refine⟨trivial,?_⟩;gi_at_call 243;apply((Cw (n:=0)).2 cf.O).mono;rintro e fg⟨rfl,co,bk⟩);have ce:=bc.step co bk;have ck:=(al.h y).trans bk;gi_wp2_with fail;go_roundw;exact⟨k+1,a8,o3,by have S:=cj.O;rw[P.O];simpa[MX,S]using ce,ck,by rw[P.O,l7];omega⟩;simp[intOf];omega
   gi_wp2_with fail;go_roundw;exact⟨k+1,a8,o3,by rw[P.O];simpa[MX]using ai,R.h aa,by rw[P.O,l7];omega⟩;simp[intOf];omega
  obtain rfl:k=D c:=a8;rw[List.take_length]at an;gi_wp2_with fail;go_end0;exact⟨rfl,_,by rw[ch.O];exact an⟩
 rw[dt]at F ao;obtain⟨ch,ab,em,ei⟩:=F6 ao (I5 br.st 5 0 (p 0) 0 (ar 0 ax) a8 (by rw[List.append_nil];omega) rfl (show m2 5 _=J from if_pos rfl)) bu br;clear ao bu br;gi_wp2_with(refine⟨trivial,?_⟩;gi_at_call 243;apply((Cw (n:=0)).2 ab.O).mono;rintro e cb⟨rfl,dm,bl⟩);have es:=ei.step dm bl;have er:∃cs,e7 cb w 325 cs:=let⟨cs,k⟩:=cp;⟨cs,bl.blk k (.inr e6)⟩;have eu:∀j,j<D c->cb.cell? ⟨w,j,J⟩=So (K (E (p j):Nat)):=λj C=>let⟨cs,k⟩:=cp;by rw[(bl.blk k (.inr e6)).cell,<-k.cell];exact em j C
 have et:=bh.tv bl e6;clear dm bl ab ep F bh;obtain⟨ak,ci,bd⟩:=r6 (λ(H:Wd)(t:Tv base W4 cb H)(j:Nat)(C:j<D c)=>show H.cell? ⟨w,j,J⟩=So (K (E (p j):Nat))from let⟨cs,hB⟩:=er;by rw[(t.blk hB (.inr e6)).cell,<-hB.cell];exact eu j C) (et) (es);gi_wp2_with fail;gi_loopw [48] (λs H=>∃k,k<=D c/\s=I M k/\J9 w g base aw L N ([.jmp 5 0 (p 0) 0]++bW N p 0 (c.take k)) (N+D c) E H/\Tv base W4 cb H/\r0 (bW N p 0 (c.take k))<=k) (λi _=>D c-(intOf i).toNat);exact⟨0,c6 _,rfl,by simpa[bW]using bd.O,.refl _ _ _,a7 _⟩;clear bd;obtain⟨k,bv,rfl,an,R,ex⟩:=hrel;by_cases f:k<D c
 ·have dw:(k:Int)<(D c:Int):=a8;have B:=ci.tv R e6;have F:=B.mem.l f (r:=0) rfl;have ac:=B.mem.l f (r:=1) rfl;have ad:=B.mem.l f (r:=2) rfl;have ae:=B.mem.l f (r:=3) rfl;have af:=B.mem.l f (r:=4) rfl;simp only[Z6,j8]at F ac ad ae af;have aq:=be _ (g3 f);have bj:=AO N p c f;have S:c[k].leaf=Bf->p k=N+k:=λcr=>by rw[de.O];show AN N k (c.getD k QF)=_;rw[B1 f];unfold AN;rw[cr];rfl
  have ey:=wP N p k c[k];generalize c[k]=x at*;obtain⟨av,G,z,m,o⟩:=x;dsimp only at F ac ad ae af;have bb:=e7.new wr 433 #[O av,I M G,I V z,I M m,I M o];have aa:=(a9.refl wr).alloc (U #[O av,I M G,I V z,I M m,I M o] 433);have ai:=an.h aa;have ca:=bb.cell 0;have P:=a6 bj;clear bj B;cases av
  ·obtain⟨⟨ay,az⟩,A,bg⟩:=aq.br rfl;obtain⟨m,rfl⟩:=Int.eq_ofNat_of_zero_le ay;obtain⟨o,rfl⟩:=Int.eq_ofNat_of_zero_le A;have cj:=a6 (S rfl);clear S;have ez:(m:Int)<(D c:Int):=az;have fb:(o:Int)<(D c:Int):=bg;have cm:=(ak _ (R.h aa) k f);have ab:=a6 (C8 ai.st (p k) (ar k f) rfl);clear ay A az bg aq;gi_wp2_with(refine⟨trivial,?_⟩;gi_at_call 244;apply((Cw (n:=0)).2 ab.O).mono;rintro e ff⟨rfl,A,T⟩);obtain⟨cd,al,ah⟩:=r6 (ai.step A T) ((R.h aa).trans T) (T.blk bb (.inr e6));clear A T ca cm ab;refine aO ?_;repeat(apply D7;focus (intro x am y;simp only[g0,g5,uV];(repeat intro Q;try simp only[Q]);have fh:=(ah.h y).cell 2;have fi:=(ah.h y).cell 4;have fj:=ak am (al.h y) o a8;have fk:=(ah.h y).cell 3;have fl:=ak am (al.h y) m a8;gi_wp2_with fail;exact dn rfl rfl (a9.refl _)))
   intro x am y;simp only[n9,g0,o7,uV];repeat(intro Q;try simp only[Q];clear Q)
   have bc:=cd.h y;have cf:=a6 (I5 bc.st 53 z (p o) (p m) (ar o a8) (ar m a8) (by simp only[l7,r0,It.n]at*;omega) rfl (T7 e6 _));gi_wp2_with(refine⟨trivial,?_⟩;gi_at_call 243;apply((Cw (n:=0)).2 cf.O).mono;rintro e fg⟨rfl,co,bk⟩);have ce:=bc.step co bk;have ck:=(al.h y).trans bk;gi_wp2_with fail;go_roundw;exact⟨k+1,a8,o3,by have S:=cj.O;rw[P.O];simpa[MX,S]using ce,ck,by rw[P.O,l7];omega⟩;simp[intOf];omega
  gi_wp2_with fail;go_roundw;exact⟨k+1,a8,o3,by rw[P.O];simpa[MX]using ai,R.h aa,by rw[P.O,l7];omega⟩;simp[intOf];omega
 obtain rfl:k=D c:=a8;rw[List.take_length]at an;gi_wp2_with fail;go_end0;exact⟨rfl,_,by rw[ch.O];exact an⟩
end
theorem a2H:∀(l:List v8)(lo hi:Int),CH lo hi l->lo<=hi
 |[],lo,hi,h=>Int.le_of_eq h
 |s::r,lo,hi,h=>by have:=a2H r _ hi h.2.2;have:=h.2.1;omega
theorem LN(n:p1)(c:Nat)(l:List v8)(w:Wd)(L:D l<=1000000)(p:CH 0 4294967296 l)(o:i5 w n (T3.row l)):
 Ca prog 326 #[Z n (D l) c] w λe C=>e=X (O Bt)/\a9 w C:=by
 have f:=a6 o;clear o;go_wp2;go_loopw [3,8] (λA B wr=>∃(k:Nat)(lo:Int),k<=D l/\A=I U6 lo/\B=I M k/\0<=lo/\CH lo 4294967296 (l.drop k)/\a9 w wr) (λ_ i _=>D l-(intOf i).toNat);exact⟨0,0,c6 _,rfl,rfl,Int.le_refl 0,p,a9.refl w⟩;clear p;obtain⟨k,lo,P,rfl,rfl,G,h,d⟩:=hrel;by_cases j:k<D l
 ·obtain⟨b,Q,rfl,N⟩:=(f.h d).rows e6 a8;have x:=(f.h d).l j (r:=0) rfl;have y:=(f.h d).l j (r:=1) rfl;have z:=(f.h d).l j (r:=2) rfl;simp only[T3,j8]at x y z;rw[List.drop_eq_getElem_cons j]at h;generalize l[k]=s at*;obtain⟨g,a,E⟩:=s;obtain⟨t,H,m⟩:=h;dsimp only at*;subst t;have u:=a2H _ _ _ m;have R:IntKind.u64.wrap g=g:=IntWalk.u64_in _ a8;have S:IntKind.u64.wrap a=a:=IntWalk.u64_in _ a8;have T:IntKind.u64.wrap (a+1)=a+1:=IntWalk.u64_in _ a8;have F:Dc (a<g)=Bf:=by simp;omega
  have v:=d.alloc (U #[I V g,I V a,I M E] 431);have q:=a6 m;clear m u;go_wp2;go_roundw;exact⟨k+1,a+1,a8,rfl,o3,a8,q.O,v⟩;simp[intOf];omega
 obtain rfl:k=D l:=a8;rw[List.drop_length]at h;obtain rfl:lo=4294967296:=h;go_wp2;go_ret;exact⟨rfl,d⟩
theorem KV(base c:Nat)(v:Va)(l:List v8)(w:Wd)(E:D l<=10000)(k:0<D l)(n:CH 0 4294967296 l)(b:c7 w base 431 T3 v l)(F:D (gr (D l) l 0)<=100000):
 Ca prog 254 #[v] w λe o=>∃v,e=X (Tp #[v,I M 0])/\c7 o w 433 Z6 v (gr (D l) l 0)/\a9 w o:=by
 obtain⟨z,j,rfl,t,_,m⟩:=b.inM;obtain⟨gb,cs,Jq,rfl,_⟩:=b.blk k;obtain⟨q,p⟩:=j0 (λi(s:a9 w i)=>LN gb j l i a8 n (m.h s)) b;clear b m n;go_in;go_wp2_with fail;refine l4 (q _ (a9.refl w)) λa d=>?_;have f:a9 a ((a.alloc (U #[Z J 0 0] 351)).alloc (U #[uC a (a+1)] 429)):=((a9.refl a).alloc _).alloc _;have g:=yP (D l) l (a7 _) k gb 0 j a (a+1) a _ [] _ ⟨e7.b i3,(e7.new a _ _).alloc _,c7.nil _ _ _ _,f.size,a7 _⟩ ((p.h (d.trans f)).ty) t a8 G6;obtain⟨g,r⟩:=j0 g (d.trans f);clear f;go_wp2_with fail;apply g.mono;rintro e L⟨rfl,H,h,y⟩;have B:=h.t.cell 0;obtain⟨A,G,C,rfl⟩:=h.o.f;have u:=y.b r d.size;have x:=h.o.mono d.size;go_wp2;go_ret2;exact⟨_,rfl,x,u⟩
section
attribute [local go_sem] Oper.semAt_some
theorem a2l:kZ prog 348 431 (Ag #[I V 0,I V 0,I M 0]) 3 16:=⟨underlying348,g6,rfl,e6,e6⟩
def S5:List Ti:=[431,348]
def mgB(xs:List v8)(s:v8):Bool:=Dc (0<D xs)&&(xs.getD (D xs-1) KL).way==s.way
def sC(xs:List v8)(s:v8):List v8:=if mgB xs s then xs.set (D xs-1) ⟨(xs.getD (D xs-1) KL).fr,s.tp,(xs.getD (D xs-1) KL).way⟩else xs++[s]
theorem a0W(xs:List v8)(s:v8):D (sC xs s)<=D xs+1:=by unfold sC;split<;>simp
theorem Tv.from{B c:Nat}{S:List Ti}{w b:Wd}(a:Tv B S w b):KeepsFrom c w b:=⟨a.size,λk o _ e d=>a.keep k o e (.inr (by cases o<;>first|rfl|cases d))⟩
theorem NF(gb base B:Nat)(v:Va)(xs:List v8)(s:v8)(w:Wd)(T:e7 w gb 348 #[v])(E:c7 w base 431 T3 v xs)(Q:B<=base)(al:B<=gb)(aj:base<=w)(am:D xs+1<=1000000):
 Ca prog 409 #[cS s,K gb] w λe ac=>e=X (Tp #[])/\∃v',e7 ac gb 348 #[v']/\c7 ac base 431 T3 v' (sC xs s)/\Tv B S5 w ac:=by
 have n:=(a9.refl w).alloc (U #[I V s.fr,I V s.tp,I M s.way] 431);have q:=e7.new w 431 #[I V s.fr,I V s.tp,I M s.way];obtain⟨L,c,rfl,_⟩:=E.inM;have A:=(T.h n).cell 0;obtain⟨l,u⟩:=j0 T E;obtain⟨R,f⟩:∃R,sC xs s=R:=⟨_,rfl⟩;rw[f];unfold sC mgB at f;clear T E;unfold cS;by_cases F:D xs=0
 ·have ba:Dc (0<D xs)=Bf:=by simp[F]
  rw[if_neg (by simp[F])]at f;have y:=a6 f.symm;clear f F;go_in;go_wp2_with fail;refine gP ?_;repeat(apply D7;focus (intro x a b;simp only[g0,o7,uV];(repeat intro d;try simp only[d]);first|(refine a2B ?_ ?_;(first|decide|(intro ay;cases ay)|simp[I1]);first|rfl|trivial)|(go_wp2_with fail;exact dn rfl rfl (a9.refl _))))
  intro x a b;simp only[n9,g0,o7,uV];repeat(intro d;try simp only[d];clear d)
  have h:=a6 (n.trans b);clear A;have ah:(a).cell? ⟨gb,0,J⟩=So (Z L (D xs) c):=(l.h h.O).cell 0;obtain⟨bf,aq,bg⟩:=(q.h b).c3;obtain⟨t,o⟩:=j0 ((l.h h.O).alloc (U #[I V s.fr,I V s.tp,I M s.way] 431)) ((u.h h.O).h ((a9.refl a).alloc (U #[I V s.fr,I V s.tp,I M s.way] 431)));go_wp2_with(at_builtin;go_loud (refine h8 rfl (Tm 26) (Tm 28) 348 431 rfl a2l base _ xs rfl o _ 1 1 [s] rfl rfl (cF i3 rfl) am (b6 aj (h.alloc _).size) ?_;intro bh ad p be C az;have i:=t.grown C (λe=>o.ne t e6 e.symm);have ax:=i.frozen 0;have aw:=i.cell 0;have aa:Tv B S5 _ ad:= .ofOwn o C Q e6;obtain⟨N,W,P,rfl⟩:=p.f));go_end0;have ab:=Tv.r i al (S:=S5) e6 0 (Z N W P);exact⟨rfl,_,i.f 0 _,by rw[y.O];exact p.kept (c8 _ gb 0 _) (.inr (p.ne i e6)),((Tv.f (h.alloc _)).trans aa).trans ab⟩
 obtain⟨m,bb⟩:∃m,D xs=m+1:=⟨D xs-1,a8⟩;obtain⟨j,rfl⟩:∃j,L=So ⟨j,0,J⟩:=by obtain⟨g,cs,Jq,e,_⟩:=u.blk a8;exact⟨g,e⟩
 have G:m<D xs:=a8;have ba:Dc (0<D xs)=Bt:=by simp;omega
 have bl:IntKind.i64.wrap ((D xs:Int)-1)=(m:Int):=by rw[h7 _ a8];omega
 have bk:(m:Int)<(D xs:Int):=a8;have ar:=a6 (u.i.1);have k2:∀a,a9 w a->a.cell? ⟨j,m*3+2,J⟩=So (I M xs[m].way):=λa b=>(ar.h b).elt0 G (r:=2) rfl
 have ak:xs.getD (D xs-1) KL=xs[m]:=by rw[(a8:D xs-1=m)];exact B1 G
 rw[ak,show Dc (0<D xs)=Bt by simp;omega,Bool.true_and,(a8:D xs-1=m)]at f;have af:=a6 k2;clear k2 ak F bb;generalize ao:xs[m]=H at*;have ag:=a6 ao;clear ao;cases an:H.way==s.way
 ·rw[an,if_neg e6]at f;have y:=a6 f.symm;clear f;go_in;go_wp2_with fail;refine gP ?_;repeat(apply D7;focus (intro x a b;simp only[g0,o7,uV];(repeat intro d;try simp only[d]);have A:a.cell? ⟨gb,0,J⟩=So (Z (So ⟨j,0,J⟩) (D xs) c):=(l.h (n.trans b)).cell 0;have k:=af a (n.trans b);have bi:=(q.h b).cell 2;(try refine a2E eX ?_);go_wp2_with fail;exact dn rfl rfl (a9.refl _)))
  intro x a b;simp only[n9,g0,o7,uV];repeat(intro d;try simp only[d];clear d)
  have h:=a6 (n.trans b);clear A;have ah:(a).cell? ⟨gb,0,J⟩=So (Z (So ⟨j,0,J⟩) (D xs) c):=(l.h h.O).cell 0;obtain⟨bf,aq,bg⟩:=(q.h b).c3;obtain⟨t,o⟩:=j0 ((l.h h.O).alloc (U #[I V s.fr,I V s.tp,I M s.way] 431)) ((u.h h.O).h ((a9.refl a).alloc (U #[I V s.fr,I V s.tp,I M s.way] 431)));go_wp2_with(at_builtin;go_loud (refine h8 rfl (Tm 26) (Tm 28) 348 431 rfl a2l base _ xs rfl o _ 1 1 [s] rfl rfl (cF i3 rfl) am (b6 aj (h.alloc _).size) ?_;intro bh ad p be C az;have i:=t.grown C (λe=>o.ne t e6 e.symm);have ax:=i.frozen 0;have aw:=i.cell 0;have aa:Tv B S5 _ ad:= .ofOwn o C Q e6;obtain⟨N,W,P,rfl⟩:=p.f));go_end0;have ab:=Tv.r i al (S:=S5) e6 0 (Z N W P);exact⟨rfl,_,i.f 0 _,by rw[y.O];exact p.kept (c8 _ gb 0 _) (.inr (p.ne i e6)),((Tv.f (h.alloc _)).trans aa).trans ab⟩
 rw[an,if_pos rfl]at f;have y:=a6 f.symm;clear f;go_in;go_wp2_with fail;refine gP ?_;repeat(apply D7;focus (intro x a b;simp only[g0,o7,uV];(repeat intro d;try simp only[d]);have A:a.cell? ⟨gb,0,J⟩=So (Z (So ⟨j,0,J⟩) (D xs) c):=(l.h (n.trans b)).cell 0;have k:=af a (n.trans b);have bi:=(q.h b).cell 2;(try refine a2E eX ?_);go_wp2_with fail;exact dn rfl rfl (a9.refl _)))
 intro x a b;simp only[n9,g0,o7,uV];repeat(intro d;try simp only[d];clear d)
 have z:=a6 (n.trans b);clear A;have ah:a.cell? ⟨gb,0,J⟩=So (Z (So ⟨j,0,J⟩) (D xs) c):=(l.h z.O).cell 0;have aq:=(q.h b).cell 1;have Oq:=u.h z.O;have bj:a.frozen? ⟨j,m*3+1,J⟩=Bf:=by obtain⟨L,c,bd,E⟩:=Oq;cases bd;exact E.frozenAt (m*3+1)
 have k1:a.cell? ⟨j,m*3+1,J⟩=So (I V H.tp):=(Oq.i.1).elt0 G (r:=1) (by rw[ag.O];rfl);obtain⟨ap,ai⟩:=Oq.setF m 1 G e6 (I V s.tp) ⟨H.fr,s.tp,H.way⟩ (by rw[ag.O];rfl);have bc:So gb≠So j:=λe=>Oq.ne (l.h z.O) e6 e.symm
 obtain⟨av,ae,au⟩:=r6 ap ai Oq;clear Oq ap ai;go_wp2_with fail;refine Bp (Rz rfl _ _ _) rfl ⟨rfl,_,(l.h z.O).grown ae bc,by rw[y.O];exact av.O,(Tv.f z.O).trans (.ofOwn au ae Q e6)⟩
end
section
attribute [local go_sem] Oper.semAt_some
structure MgI(u:Wd)(z:Nat)(pre:List v8)(W:Wd):Prop where
 ou:∃v,e7 W u 348 #[v]/\c7 W (u+2) 431 T3 v (pre.foldl sC [])
 fn:e7 W (u+1) 497 #[Fc (.func 409) #[] #[K u]]
 x:a9 u W
 z:z<=W
theorem a14(u:Wd)(z:Nat)(i:u<=z):OwnFrom z (MgI u z):=λpre W W' row⟨⟨v,d,f⟩,g,c,h⟩ a b=>
 ⟨⟨v,i2 d a λr e=>(b r e).2,f.r a λr e=>(b r e).2⟩,i2 g a λr e=>(b r e).2,Below.grown c a c.size (λr e=>b6 i (b r e).1),b6 h a.size⟩
theorem JC:∀(l xs:List v8),D (l.foldl sC xs)<=D xs+D l
 |[],xs=>a7 _
 |s::l,xs=>by have a:=JC l (sC xs s);have b:=a0W xs s;rw[List.foldl_cons,i4];omega
theorem wH:∀(a:o5)(lo i:Int),D (cJ lo a i)<=2*D a+1
 |[],lo,i=>by unfold cJ;split<;>simp
 |n::r,lo,i=>by have:=wH r (n+1) (i+1);unfold cJ;split<;>simp<;>omega
def mgF(u:Nat)(l:Va)(g:Nat)(s:v8):Act:=
 {tmps:= #[l,Un,Z J 0 0,K u,K (u+1:Nat),K g,Fc (.func 409) #[] #[K u],l,cS s,Un,Un,Un,Un],defers:=[]}
def mgA(u:Nat)(l:Va)(x:v8)(b:Nat)(a:Act)(W:Wd):Prop:=∃g,b<=g/\a=mgF u l g x/\e7 W g 431 #[I V x.fr,I V x.tp,I M x.way]
theorem NE(b1 b2 b3 c N:Nat)(B C:p1)(d:o5)(ax:D d<=900)(aa:Y8 0 d)(u:Wd)(j:u.cell? ⟨b1,0,J⟩=So (Z B (D d) c))(m:u.cell? ⟨b2,0,J⟩=So (I M 0))(p:u.cell? ⟨b3,0,J⟩=So (Z C (D d) N))(R:i5 u B (l8 V d))(S:i5 u C (l8 M (Q1 (D d)))):
 Ci .wide 3 prog 324 #[Fc (.func 410) #[] #[K b1,K b2,K b3]] u λe ad=>
 ∃v,e=X v/\c7 ad u 431 T3 v ((cJ 0 d 1).foldl sC [])/\a9 u ad:=by
 have ai:=a6 (wD b1 b2 b3 c N B C d a8 aa u j m p R S);have az:=wH d 0 1;generalize cJ 0 d 1=ap at*;clear j m p R S aa;refine Cm func324 rfl trivial ?_ rfl;simp only[ntmps324,uE,Nat.reduceAdd,Nat.reduceSub];have L:e7 ((u.alloc (U #[Z J 0 0] 348)).alloc (U #[Fc (.func 409) #[] #[K u]] 497)) u 348 #[Z J 0 0]:=(e7.new u _ _).alloc _;have H:e7 ((u.alloc (U #[Z J 0 0] 348)).alloc (U #[Fc (.func 409) #[] #[K u]] 497)) (u+1) 497 #[Fc (.func 409) #[] #[K u]]:=e7.b i3;have ab:a9 u ((u.alloc (U #[Z J 0 0] 348)).alloc (U #[Fc (.func 409) #[] #[K u]] 497)):=((a9.refl u).alloc _).alloc _;have ba:((u.alloc (U #[Z J 0 0] 348)).alloc (U #[Fc (.func 409) #[] #[K u]] 497)).heap.size=u.heap.size+2:=i3;gi_wp2_with fail;generalize(u.alloc (U #[Z J 0 0] 348)).alloc (U #[Fc (.func 409) #[] #[K u]] 497)=w0 at*;refine A4 rfl e6 (gf:=410) (lb:= #[K b1,K b2,K b3]) rfl trivial (Eo func410 g6 rfl)
  ai.O
  (λi k q=>k (i q))
  (λW l o z f i s al q=>Below.trans q (belowK_b (w:=w0) a8 W l o z f i s al)) (show Below _ u w0 from ab) (λ_=>rfl)
  (λx W l o z Q f s=>trivial)
  (MgI u w0) (a14 u w0 a8)
  ⟨⟨_,L,c7.nil _ _ _ _⟩,H,ab,a7 _⟩
  (mgA u (Fc (.func 410) #[] #[K b1,K b2,K b3]))
  (λx bg af W l o z⟨g,j,m,p⟩ f s=>⟨g,j,m,i2 p (grownBy_putObj' W l z) (λr e=>by cases e;exact⟨o,f,s⟩)⟩)
  (λ_ _ _ i _=>trivial) (λW W' e q=>q.trans e) ?Aa ?Ab ?Ac
 case Aa=>rintro l⟨a,b,c⟩ W aq Q h;unfold cS;gi_wp2;exact h _ _ ((a9.refl W).alloc _) ⟨W,a7 _,rfl,e7.new _ _ _⟩
 case Ab=>rintro l pre x ar W af-⟨⟨v,y,t⟩,E,F,T⟩ Q⟨g,bb,rfl,aj⟩ av ay;have f:=JC pre [];have ak:(pre++[x]).foldl sC []=sC (pre.foldl sC []) x:=i3;have G:=a6 (NF u (u+2) u v (pre.foldl sC []) x W y t a8 (a7 _) a8 (by simp at f;omega));have ah:=E.cell 0;obtain⟨bc,bd,be⟩:=aj.c3;clear L H y;unfold mgF;unfold cS at G;gi_wp2_with(refine⟨trivial,?_⟩;gi_at_call 409;refine(CallsIn.inRound l ((Cw (n:=0)).2 G.O)).mono ?_;rintro e bf⟨rfl,ao,ag,an,A⟩);have ac:=A.b F (a7 _);exact⟨A.from,λ_=>ac,⟨ao,ag,by rw[ak];exact an⟩,A.blk E (.inr e6),ac,b6 T A.size⟩
 rintro ae xs W aw am⟨⟨v,y,t⟩,E,F,T⟩ h;have ah:=y.cell 0;obtain⟨P,au,rfl⟩:=t.b;subst am;gi_wp2;refine⟨i3,.inl ⟨_,_,rfl,run_takeDeferred h,?_⟩⟩;exact⟨_,results_tmp rfl _ _ _,_,rfl,(t.mono a8).putObj _ h rfl,Below.trans F (belowK_b (w:=u) (a7 _) W ae _ _ a8 h rfl rfl)⟩
theorem iG(xs:List v8)(s:v8)(b:∀a,xs.getLast? =So a->a.way≠s.way):sC xs s=xs++[s]:=by
 unfold sC mgB;by_cases c:D xs=0;rw[if_neg (by simp[c])];have e:xs.getLast? =So (xs.getD (D xs-1) KL):=by rw[List.getLast?_eq_getElem?,b9,e9 a8];rfl
 rw[if_neg];simp only[j3,beq_iff_eq,not_and];exact λ_=>b _ e
theorem a2s:∀(c:o5)(lo i:Int)(xs:List v8),0<i->(∀b,xs.getLast? =So b->b.way=i-1/\0<b.way)->(cJ lo c i).foldl sC xs=xs++cJ lo c i
 |[],lo,i,xs,hi,h=>by
  unfold cJ;split;exact iG _ _ λb a e=>by have:=(h b a).2;rw[e]at this;exact(Int.lt_irrefl 0 this).elim
  simp
 |n::r,lo,i,xs,hi,h=>by
  have ih:=λzs:List v8=>a2s r (n+1) (i+1) (zs++[⟨n,n,i⟩]) a8 λb a=>by rw[List.getLast?_append]at a;simp at a;rw[<-a];exact⟨by show i=i+1-1;omega,hi⟩
  unfold cJ;split;show(cJ (n+1) r (i+1)).foldl sC (sC (sC xs ⟨lo,n-1,0⟩) ⟨n,n,i⟩)=_;rw[iG xs _ λb a e=>by have:=(h b a).2;rw[e]at this;exact(Int.lt_irrefl 0 this).elim,iG _ _ λb a=>by rw[List.getLast?_append]at a;simp at a;rw[<-a];show(0:Int)≠i;omega,ih]
  simp;show(cJ (n+1) r (i+1)).foldl sC (sC xs ⟨n,n,i⟩)=_;rw[iG xs _ λb a e=>by have:=(h b a).1;rw[e]at this;simp only at this;omega,ih];simp
theorem HY:∀(a:o5)(lo:Int)(k:Nat)(b:k+1<D a),Y8 lo a->a[k]<a[k+1]
 |n::m::r,lo,0,_,h=>by have:=h.2.2.1;show n<m;omega
 |n::r,lo,k+1,b,h=>HY r (n+1) k (by simpa using b) h.2.2
theorem a3d(j l:p1)(c h:Nat)(a:o5)(F:D a<=900)(p:Y8 0 a)(w:Wd)(o:i5 w j (l8 V a))(s:i5 w l (l8 M (Q1 (D a)))):
 Ca prog 253 #[Z j (D a) c,Z l (D a) h,I M 0] w λe A=>∃v,e=X (Tp #[v,I M 0])/\c7 A w 431 T3 v (cJ 0 a 1)/\a9 w A:=by
 have N:∀d:Wd,(((d.alloc (U #[Z j (D a) c] 33)).alloc (U #[Z l (D a) h] 28)).alloc (U #[I M 0] 3)).heap.size=d.heap.size+3:=λd=>i3
 have q:=a6 (λ(d:Wd)(g:a9 w d)=>by have B:a9 w (((d.alloc (U #[Z j (D a) c] 33)).alloc (U #[Z l (D a) h] 28)).alloc (U #[I M 0] 3)):=((g.alloc _).alloc _).alloc _;exact callsIn_wide.1 (NE d (d+2) (d+1) c h j l a F p _ ((((e7.new d _ _).alloc _).alloc _).cell 0) ((e7.b i3).cell 0) (((e7.b i3).alloc _).cell 0) (o.h B) (s.h B)))
 rw[a2s a 0 1 [] e6 aL,List.nil_append]at q;obtain⟨r,C⟩:=j0 o (λk u=>HY a 0 k u p);have W:((D a:Int) !=(D a:Int))=Bf:=i3;clear o s p;go_wp2;go_loopw [16] (λi wr=>∃k:Nat,k<=D a/\i=I M k/\a9 w wr) (λi _=>D a-(intOf i).toNat);exact⟨0,c6 _,rfl,a9.refl w⟩;obtain⟨k,u,rfl,n⟩:=hrel;by_cases y:k<D a
 ·obtain⟨b,ab,rfl,S,t⟩:=(r.h n).at_ (k:=k) (by simpa using y);rw[List.getElem_map]at t;rcases k with _|m
  ·go_wp2_with fail;refine gP ?_;repeat(apply D7;focus (intro x d g;simp only[g0,o7,uV];(repeat intro f;try simp only[f]);first|(refine a2B ?_ ?_;(first|decide|(intro E;cases E)|simp[I1]);first|rfl|trivial)|(go_wp2_with fail;exact dn rfl rfl (a9.refl _))))
   intro x d g;simp only[n9,g0,o7,uV];repeat(intro f;try simp only[f];clear f)
   go_wp2;go_roundw;exact⟨1,a8,o3,n.trans g⟩;simp[intOf];omega
  have aa:=C m y;have T:Dc (a[m+1]<=a[m])=Bf:=by simp;omega
  have h:=(r.h n).cell (k:=m) (Q9 (a8:m<D a));have P:IntKind.i64.wrap (((m+1:Nat):Int)-1)=(m:Int):=by rw[h7 _ a8];omega
  generalize a[m+1]=x at*;generalize a[m]=ae at*;go_wp2_with fail;refine gP ?_;repeat(apply D7;focus (intro x d g;simp only[g0,o7,uV];(repeat intro f;try simp only[f]);have ac:=g.cell t;have af:=g.cell h;(try refine a2E eX ?_);go_wp2_with fail;exact dn rfl rfl (a9.refl _)))
  intro x d g;simp only[n9,g0,o7,uV];repeat(intro f;try simp only[f];clear f)
  go_wp2;go_roundw;exact⟨m+1+1,a8,o3,n.trans g⟩;simp[intOf];omega
 obtain rfl:k=D a:=a8;go_wp2_with fail;apply(callsIn_wide.1 (MI j l (D a) (D a) c h _)).mono;rintro e P⟨rfl,rfl⟩;go_wp2_with fail;apply(q _ n).mono;rintro e ad⟨v,rfl,z,H⟩;obtain⟨Q,R,rfl⟩:=z.b;have L:=((((n.alloc (U #[Z j (D a) c] 33)).alloc (U #[Z l (D a) h] 28)).alloc (U #[I M 0] 3))).trans H;have G:=z.mono (b2:=w) (by rw[N];have:=n.size;omega);go_wp2;go_ret2;exact⟨_,rfl,G,L⟩
end
end Go.Proofs.YtcljlejgllkcjaaGreat
