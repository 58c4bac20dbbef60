/- A part of the proof of TopFront: lemmas on the walks of its calls. -/
import Derived.Test.YtcljlejgllkcjaaGreatM09
set_option maxHeartbeats 12000000
set_option linter.all false
set_option maxRecDepth 100000
namespace Go.Proofs.YtcljlejgllkcjaaGreat
open Go.RowKit Go.ChangeShapes Go.WideShapes Tryz
open Bool renaming and_eq_true→j3,true→Bt,false→Bf
open Decidable renaming decide→Dc
open Ending renaming returned→X
open Go renaming World→Wd,Value→Va,Calls→Ca,callsIn_wide→Cw,undef→Un,TypeId→Ti,Addr→Ad,Program→Pg,callsIn_of_wp→Co,CallsIn→Ci
open IntKind renaming i64→M,u32→V,u8→U8
open IntWalk renaming i64_in→h7
open List renaming getElem?_eq_getElem→e9,length_append→g1,getElem_mem→g3,take_succ_eq_append_getElem→g2,length_map→i1,length_take→m4,append_assoc→p6,length→D
open Nat renaming le_refl→a7,le_trans→b6,zero_le→c6,add_zero→j8
open Obj renaming cells→U
open Operand renaming tmp→Tm
open Option renaming none→J,some→So
open Value renaming int→I,slice→Z,string→Y,pointer→K,bool→O,func→Fc,tuple→Tp,agg→Ag
def p2(s:g4):Option (C2):=(y1.find? λg=>g.1.toList==s.toList).map (·.2)
def ZD(B:Nat)(w:Wd)(v:Va):Option (C2)->Prop
 |none=>v=Z J 0 0
 |some l=>∃G,v=Z (So ⟨G,0,J⟩) (D l) (D l)/\B<=G/\i5 w (So ⟨G,0,J⟩) (x4.row l)
theorem gD(s:g4)(W:Wd):Ca prog 445 #[Y s] W λe B=>∃v,e=X v/\ZD W B v (p2 s)/\a9 W B:=by
 obtain⟨L,E⟩:=j0 FZ (show D y1=18 from rfl);obtain⟨R,a⟩:∃R,R=p2 s:=⟨_,rfl⟩;rw[<-a];unfold p2 at a;generalize y1=P at*;go_in;go_wp2_with fail;apply(L _).mono;rintro e N⟨g,b,rfl,f,q,z,A⟩;have j:D b=18:=by rw[<-E.O,<-f,i1]
 have t:R=(b.find? λx=>x.name.toList==s.toList).map (·.has):=by rw[a,<-f,List.find?_map,Option.map_map];rfl
 clear a;obtain⟨n,C,F,H⟩:=F6 q z j (λk y=>aB b (λx=>x.name.toList==s.toList) k y);clear q z f j;go_wp2;go_loopw [7] (λi wr=>∃k:Nat,k<=18/\i=I M k/\R=((b.drop k).find? λx=>x.name.toList==s.toList).map (·.has)/\a9 N wr) (λi _=>18-(intOf i).toNat);exact⟨0,e6,rfl,t,a9.refl _⟩;clear t;obtain⟨k,y,rfl,a,d⟩:=hrel;have j:=F.O;by_cases Q:k<18
 ·have c:k<D b:=a8;have o:=(n.h d).elt0 c (r:=0) rfl;have p:=(n.h d).elt0 c (r:=1) rfl;have h:=C _ (g3 c);rw[H k c]at a;dsimp only[OL,j8]at o p;generalize b[k]=x at*;obtain⟨nm,G,u⟩:=x;dsimp only at o p h a;have m:=a6 h;clear h;have l:=d.alloc (U #[Y nm,Z G (D u) (D u)] 536);have S:(k:Int)<18:=a8;rcases w:nm.toList==s.toList with _|_
  ·rw[w]at a;go_wp2;go_roundw;exact⟨k+1,a8,o3,a,l⟩;simp[intOf];omega
  rw[w]at a;simp only[if_true,Option.map_some]at a;subst a;go_wp2;go_ret;exact⟨_,rfl,⟨G,rfl,m.1,m.2.h l⟩,A.trans l⟩
 obtain rfl:k=18:=a8;rw[List.drop_of_length_le a8]at a;subst a;go_wp2;go_ret;exact⟨_,rfl,rfl,A.trans d⟩
theorem BH(s:g4)(W:Wd):Ca prog 442 #[Y s] W λe d=>e=X (O (p2 s).isSome)/\a9 W d:=by
 have c:=a6 (gD s);generalize p2 s=m at*;rcases m with _|l
 all_goals
  go_in;go_wp2_with fail;apply(c _).mono;rintro e f⟨v,rfl,a,b⟩;first
   |(obtain rfl:=a;go_wp2;go_ret;exact⟨rfl,b⟩)
   |(obtain⟨G,rfl,_,_⟩:=a;go_wp2;go_ret;exact⟨rfl,b⟩)
def y6:Nat->g4->Int
 |0,_=>0
 |f+1,s=>match p2 s with
  |none=>0
  |some l=>(l.foldl (λn m=>max n (y6 f m)) 0)+1
def Y3:Nat->g4->Bool
 |0,_=>Bf
 |f+1,s=>match p2 s with
  |none=>Bt
  |some l=>l.all (Y3 f)
theorem P1{s:g4}{l:C2}(a:p2 s=So l):∃g∈y1,g.2=l:=by obtain⟨g,b,rfl⟩:=Option.map_eq_some_iff.1 a;exact⟨g,List.mem_of_find?_eq_some b,rfl⟩
theorem gK(s:g4):Y3 8 s=Bt:=by
 have a:(y1.all λg=>g.2.all (Y3 7))=Bt:=yA;unfold Y3;rcases c:p2 s with _|l
 rfl;obtain⟨g,b,rfl⟩:=P1 c;exact List.all_eq_true.1 a g b
theorem a4k{s:g4}{l:C2}(a:p2 s=So l):D l<=8:=by have b:(y1.all λg=>Dc (D g.2<=8))=Bt:=yA;obtain⟨g,c,rfl⟩:=P1 a;exact of_decide_eq_true (List.all_eq_true.1 b g c)
theorem BK{c:Type}(g:c->Int)(b:Int)(a:∀m,0<=g m/\g m<=b):∀(l:List c)(x:Int),0<=x->x<=b->0<=l.foldl (λn m=>max n (g m)) x/\l.foldl (λn m=>max n (g m)) x<=b
 |[],x,h0,h1=>⟨h0,h1⟩
 |m::r,x,h0,h1=>BK g b a r (max x (g m)) (by have:=a m;omega) (by have:=a m;omega)
theorem qS:∀(f:Nat)(s:g4),0<=y6 f s/\y6 f s<=f
 |0,s=>⟨Int.le_refl _,Int.le_refl _⟩
 |f+1,s=>by
  unfold y6;rcases p2 s with _|l
  dsimp only;omega;have:=BK (y6 f) f (qS f) l 0 (Int.le_refl _) a8;dsimp only;omega
theorem JR:∀(f:Nat)(L:f<=100)(s:g4),Y3 f s=Bt->∀W,Ca prog 443 #[Y s] W λe P=>e=X (I M (y6 f s))/\a9 W P
 |0,_,s,h,W=>by cases h
 |f+1,L,s,h,W=>by
  obtain⟨o,c⟩:=j0 (gD s) (BH s);have ih:=JR f a8;have q:=qS f;unfold Y3 at h;unfold y6;rcases d:p2 s with _|l
  ·rw[d]at c;go_in;go_wp2_with fail;refine l4 (c _) λQ b=>?_;go_wp2;go_ret;exact⟨rfl,b⟩
  rw[d]at c o h;have ad:=a4k d;obtain⟨y,z,w,C⟩:=F6 (List.all_eq_true.1 h) ih q (λk(t:k<D l)(x:Int)=>show(l.drop k).foldl (λn m=>max n (y6 f m)) x=(l.drop (k+1)).foldl (λn m=>max n (y6 f m)) (max x (y6 f l[k])) by rw[List.drop_eq_getElem_cons t];rfl);obtain⟨R,a⟩:∃R,R=l.foldl (λn m=>max n (y6 f m)) 0:=⟨_,rfl⟩;dsimp only;rw[<-a];clear h ih q d;go_in;go_wp2_with fail;refine l4 (c _) λQ b=>?_;go_wp2_with fail;apply(o _).mono;rintro e S⟨v,rfl,N,g⟩;obtain⟨G,rfl,_,p⟩:=N;have A:=a6 p;clear p;replace b:=b.trans g;go_wp2;go_loopw [3,12] (λn i wr=>∃(k:Nat)(x:Int),k<=D l/\i=I M k/\n=I M x/\0<=x/\x<=f/\R=(l.drop k).foldl (λn m=>max n (y6 f m)) x/\a9 W wr/\a9 S wr) (λ_ i _=>D l-(intOf i).toNat);exact⟨0,0,a8,rfl,rfl,a8,a8,a,b,a9.refl _⟩;clear a b;obtain⟨k,x,t,rfl,rfl,aa,ab,a,b,g⟩:=hrel;by_cases j:k<D l;·have E:=(A.h g).elt0 j (r:=0) rfl;simp only[x4,j8,Nat.mul_one]at E;rw[C k j]at a;have F:=z _ (y _ (g3 j));have ac:=w l[k];generalize l[k]=m at*;generalize y6 f m=T at*;have B:=a6 a;clear a;go_wp2_with fail;refine l4 (F _) λaf u=>?_;go_wp2;go_roundw;exact⟨k+1,_,a8,o3,rfl,a8,a8,B.O,b.trans u,g.trans u⟩;simp[intOf];omega
  obtain rfl:k=D l:=a8;rw[List.drop_of_length_le a8]at a;have H:R=x:=a;clear a;subst H;have ae:IntKind.i64.wrap (R+1)=R+1:=h7 _ a8;go_wp2;go_ret;exact⟨rfl,b⟩
def M0:Nat->g4->C2
 |0,_=>[]
 |f+1,s=>match p2 s with
  |none=>[]
  |some l=>l.flatMap λm=>if Lib.hasPrefix m.data.toList [64]then M0 f m else if w7 m then [m]else []
def gM:g4:=⟨#[64]⟩
def Q2(f:Nat)(m:g4):C2:=if Lib.hasPrefix m.data.toList [64]then M0 f m else if w7 m then [m]else []
theorem JQ:∀(f:Nat)(bb:f<=8)(s:g4),Y3 f s=Bt->∀(n bo base:Nat)(v:Va)(xs:C2)(g:D xs+D (M0 f s)<=1000000)(w:Wd),e7 w n 313 #[Fc (.func 444) #[] #[K n,K bo]]->e7 w bo 186 #[v]->c7 w base 9 x4 v xs->base<=w->
 Ca prog 444 #[Y s,K n,K bo] w λe E=>e=X (Tp #[])/\∃v',e7 E bo 186 #[v']/\c7 E base 9 x4 v' (xs++M0 f s)/\MV (jI bo v) w (jI bo v') E
 |0,_,s,b,n,bo,base,v,xs,g,w,hbi,hbo,ho,hbase=>by cases b
 |f+1,bb,s,b,n,bo,base,v,xs,g,w,hbi,hbo,ho,hbase=>by
  have u:=a6 (gD s);have ih:=JQ f a8;unfold Y3 at b;unfold M0 at g⊢;rcases z:p2 s with _|l
  ·rw[z]at u;go_in;go_wp2_with fail;apply(u _).mono;rintro e F⟨_,rfl,rfl,d⟩;go_wp2;go_loopw [9] (λi wr=>i=I M 0/\wr=F) (λ_ _=>0);exact⟨rfl,rfl⟩;obtain⟨rfl,rfl⟩:=hrel;go_wp2;go_end0;exact⟨rfl,v,hbo.h d,by rw[List.append_nil];exact ho.h d,.f d⟩
  rw[z]at u b g;dsimp only at g⊢;change (D xs)+D (l.flatMap (Q2 f))<=1000000 at g;have ao:=a6 g;have bu:=a4k z;obtain⟨ah,ai,aj,al⟩:=F6 (List.all_eq_true.1 b) ih gL (λs W=>aS s gM W);have bt:(⟨#[64]⟩:g4)=gM:=rfl;have ad:∀k(q:k<D l),D ((l.take k).flatMap (Q2 f))+D (Q2 f l[k])<=D (l.flatMap (Q2 f)):=λk q=>by
   have e:l.flatMap (Q2 f)=(l.take (k+1)).flatMap (Q2 f)++(l.drop (k+1)).flatMap (Q2 f):=by rw[<-List.flatMap_append,List.take_append_drop]
   rw[e,g2 q,List.flatMap_append,g1,g1];simp
  obtain⟨an,am⟩:=j0 ad (λk(q:k<D l)=>show(l.take (k+1)).flatMap (Q2 f)=(l.take k).flatMap (Q2 f)++Q2 f l[k] by rw[g2 q,List.flatMap_append];simp);clear b ih z g ad;generalize ay:gM=S at*;go_in;go_wp2_with fail;apply(u _).mono;rintro e F⟨_,rfl,⟨G,rfl,bs,L⟩,d⟩;have ak:=a6 L;clear L;have az:=hbo.h d;have bd:=hbi.h d;have bg:=ho.h d;have bf:¬jI bo v G:=λb=>by
   rcases b with rfl|b
   exact absurd hbo.lt a8;have:=(ho.lt b).2;omega
  go_wp2;go_loopw [9] (λi wr=>∃(k:Nat)(v':Va),k<=D l/\i=I M k/\e7 wr bo 186 #[v']/\c7 wr base 9 x4 v' (xs++(l.take k).flatMap (Q2 f))/\MV (jI bo v) F (jI bo v') wr) (λi _=>D l-(intOf i).toNat);exact⟨0,v,a8,rfl,az,by simpa using bg,.refl _ _⟩;obtain⟨k,v',q,rfl,p,t,j⟩:=hrel;by_cases x:k<D l
  ·have aq:=(j.inM ak (λa aw=>by cases aw;exact bf)).elt0 x (r:=0) rfl;simp only[x4,j8,Nat.mul_one]at aq;have Q:=j.blk bd (λb=>by
    rcases b with b|b
    exact hbi.ne hbo e6 b;exact ho.ne hbi e6 b)
   have N:=am k x;have av:=an k x;have au:=ai _ (ah _ (g3 x));generalize l[k]=m at*;have y:D (xs++(l.take k).flatMap (Q2 f))+D (Q2 f m)<=1000000:=by have:=ao.O;rw[g1];omega
   generalize(l.take k).flatMap (Q2 f)=ys at*;have A:=a6 N;clear N av;have c:Q2 f m=if Lib.hasPrefix m.data.toList S.data.toList then M0 f m else if w7 m then [m]else []:=by rw[<-ay];rfl
   have bn:=Q.cell 0;have ar:=p.cell 0;go_wp2_with fail;apply(al m _).mono;rintro e H⟨rfl,rfl⟩;rcases ab:Lib.hasPrefix m.data.toList S.data.toList with _|_
   ·rw[ab]at c;go_wp2_with fail;refine l4 (aj m _) λH o=>?_;rcases R:w7 m with _|_
    ·rw[R]at c;have h:=a6 c;clear c;go_wp2;go_roundw;exact⟨k+1,v',a8,o3,p.h o,by rw[A.O,h.O];simpa using t.h o,j.h o⟩;simp[intOf];omega
    rw[R]at c;simp only[Bool.false_eq_true,if_false,if_true]at c;have h:=a6 c;clear c;have P:=p.h o;have ac:=t.h o;have T:=j.h o;have bp:=P.cell 0;have C:D (xs++ys)+1<=1000000:=by have:=h.O;rw[this]at y;simpa using y
    have B:base<=H.heap.size:=b6 hbase (b6 d.size T.size);generalize ae:xs++ys=zs at*;have ap:=a6 ae;clear ae;go_wp2_with(at_builtin;refine h8 rfl (Tm 20) (Tm 22) 186 9 rfl cO base _ zs rfl (ac.h ((a9.refl _).alloc _)) _ 1 1 [m] rfl rfl (cF i3 rfl) C (b6 B i3) ?_;intro ag bl aa bv bc ax;obtain⟨af,bi,bj,bk⟩:=xT e6 (P.h ((a9.refl _).alloc _)) (ac.h ((a9.refl _).alloc _)) (MV.f ((a9.refl H).alloc _)) aa bc ax;have bq:=af.cell 0;have br:=af.frozen 0;obtain⟨bm,bw,ar,rfl⟩:=aa.f);go_roundw;exact⟨k+1,_,a8,o3,bi,by rw[A.O,h.O,<-p6,ap.O];exact bj,T.trans bk⟩;simp[intOf];omega
   rw[ab]at c;have h:=a6 c;clear c;have C:D (xs++ys)+D (M0 f m)<=1000000:=by have:=h.O;simp only[if_true]at this;rw[this]at y;exact y
   have B:base<=wr.heap.size:=b6 hbase (b6 d.size j.size);go_wp2_with fail;apply(au n bo base v' _ C _ Q p t B).mono;rintro e bl⟨rfl,ag,ba,bh,be⟩;go_wp2;go_roundw;exact⟨k+1,ag,a8,o3,ba,by rw[A.O,h.O,<-p6];exact bh,j.trans be⟩;simp[intOf];omega
  obtain rfl:k=D l:=a8;rw[List.take_of_length_le a8]at t;go_wp2;go_end0;exact⟨rfl,v',p,t,(MV.f d).trans j⟩
def D0(s:g4):C2×Int:=match p2 s with
 |none=>([],110)
 |some _=>if 4<y6 8 s then([],111)else(iX (cT (M0 8 s)),0)
theorem BD(s:g4):D (M0 8 s)<=1000:=by
 have a:(y1.all λg=>Dc (D (g.2.flatMap (Q2 7))<=1000))=Bt:=yA;unfold M0;rcases c:p2 s with _|l
 exact c6 _;obtain⟨g,b,rfl⟩:=P1 c;exact of_decide_eq_true (List.all_eq_true.1 a g b)
theorem OK(s:g4)(W:Wd):Ca prog 416 #[Y s] W λe t=>∃v,e=X (Tp #[v,I M (D0 s).2])/\c7 t W 9 x4 v (D0 s).1/\a9 W t:=by
 obtain⟨d,j,y,z,x⟩:=Y2 (BH s) (JR 8 a8 s (gK s)) (JQ 8 a8 s (gK s)) (λv xs base w=>a3f v xs base w) (λv xs base w=>LQ v xs base w);have N:=BD s;obtain⟨R,b⟩:∃R,R=D0 s:=⟨_,rfl⟩;rw[<-b];unfold D0 at b;generalize M0 8 s=L at*;generalize y6 8 s=A at*;rcases p:p2 s with _|l
 ·rw[p]at b d;subst b;go_in;go_wp2_with fail;refine l4 (d _) λu c=>?_;go_wp2;go_ret2;exact⟨_,rfl,c7.nil _ _ _ _,c⟩
 rw[p]at b d;dsimp only at b;by_cases n:4<A;·rw[if_pos n]at b;subst b;go_in;go_wp2_with fail;refine l4 (d _) λu c=>?_;go_wp2_with fail;refine l4 (j _) λa i=>?_;go_wp2;go_ret2;exact⟨_,rfl,c7.nil _ _ _ _,c.trans i⟩
 rw[if_neg n]at b;have m:=a6 b;clear b;go_in;go_wp2_with fail;refine l4 (d _) λu c=>?_;go_wp2_with fail;refine l4 (j _) λa i=>?_;replace c:=c.trans i;go_wp2_with fail;have r:=(c.alloc (U #[Z J 0 0] 186)).alloc (U #[Fc (.func 444) #[] #[K (a+1:Nat),K a]] 313);have F:=(e7.new a 186 #[Z J 0 0]).alloc (U #[Fc (.func 444) #[] #[K (a+1:Nat),K a]] 313);have E:e7 ((a.alloc (U #[Z J 0 0] 186)).alloc (U #[Fc (.func 444) #[] #[K (a+1:Nat),K a]] 313)) (a+1) 313 #[Fc (.func 444) #[] #[K (a+1:Nat),K a]]:=by have:=e7.new (a.alloc (U #[Z J 0 0] 186)) 313 #[Fc (.func 444) #[] #[K (a+1:Nat),K a]];simpa using this
 apply(y _ _ W _ [] (by simpa using b6 N e6) _ E F (c7.nil _ _ _ _) r.size).mono;rintro e ab⟨rfl,v,g,f,P⟩;rw[List.nil_append]at f;have H:=jI.ge (W:=W) (c7.nil ab W 9 x4) (bo:=a) c.size (a7 _);have S:=P.b r H;have ac:=g.cell 0;go_wp2_with fail;apply(z v L W _ a8 f).mono;rintro e af⟨rfl,q,o⟩;have C:=g.grown o (λB=>f.ne g e6 B.symm);have T:=S.grown o (λk h=>(f.lt h).1);have ad:=C.cell 0;go_wp2_with fail;apply(x v (cT L) W _ (by rw[Y7];omega) q).mono;rintro e ag⟨ae,rfl,Q,G⟩;have aa:=T.grown G (λk h=>(q.lt h).1);go_wp2;go_ret2;exact⟨_,by rw[m.O];rfl,by rw[m.O];exact Q,aa⟩
def y3(e:Int):Bool:=[90,110,100,161].any λy=>e==y
theorem uG(x:Int)(W:Wd):Ca prog 11 #[I M x] W λe a=>e=X (O (y3 x))/\a9 W a:=by have b:=a6 (λw G(c:i5 w (So ⟨G,0,J⟩) ([90,110,100,161].map (I M)))=>show Ca prog 23 #[Z (So ⟨G,0,J⟩) 4 4,I M x] w λe a=>e=X (O (y3 x))/\w=a from ctE a31 (I M) (λx f=>x==f) (EqlAt.int _ _ _) (So ⟨G,0,J⟩) 4 4 [90,110,100,161] x w rfl e6 c);have d:=(a9.refl W).alloc (U #[I M 90,I M 110,I M 100,I M 161] 47);generalize y3 x=R at*;go_in;go_wp2_with fail;apply(b _ _ (cF rfl rfl)).mono;rintro e g⟨rfl,rfl⟩;go_wp2;go_ret;exact⟨rfl,d⟩
def x2(a:Int):Bool:=a==0||a==2147483648||(Dc (327680<=a)&&Dc (a<=331775))
theorem GI(a:Int)(W:Wd):Ca prog 154 #[I V a] W λe h=>e=X (O (x2 a))/\W=h:=by have b:x2 a=(a==0||a==2147483648||(Dc (327680<=a)&&Dc (a<=331775))):=rfl;generalize x2 a=R at*;go_in;cases c:a==0<;>cases d:a==2147483648<;>cases f:Dc (327680<=a)<;>cases g:Dc (a<=331775);all_goals rw[c,d,f,g]at b;go_wp2;go_ret;exact⟨by rw[b];rfl,rfl⟩
def J2(s:g4):C2×Int:=if Lib.hasPrefix s.data.toList [64]then D0 s else if w7 s then([s],0)else([],90)
theorem a4H(s:g4)(W:Wd):Ca prog 368 #[Y s] W λe g=>∃v,e=X (Tp #[v,I M (J2 s).2])/\c7 g W 9 x4 v (J2 s).1/\a9 W g:=by
 obtain⟨c,k,d⟩:=r6 (λW=>show Ca prog 211 #[Y s,Y gM] W λe g=>e=X (O (Lib.hasPrefix s.data.toList [64]))/\W=g from aS s gM W) (OK s) (gL s);have o:(⟨#[64]⟩:g4)=gM:=rfl;obtain⟨R,f⟩:∃R,R=J2 s:=⟨_,rfl⟩;rw[<-f];unfold J2 at f;generalize gM=S at*;generalize D0 s=n at*;have a:=a6 f;clear f;rcases j:Lib.hasPrefix s.data.toList [64]with _|_
 ·rw[j]at c a;rcases i:w7 s with _|_
  ·rw[i]at d a;go_in;go_wp2_with fail;apply(c _).mono;rintro e h⟨rfl,rfl⟩;go_wp2_with fail;refine l4 (d _) λh b=>?_;go_wp2;go_ret2;exact⟨_,by rw[a.O];rfl,by rw[a.O];exact c7.nil _ _ _ _,b⟩
  rw[i]at d a;go_in;go_wp2_with fail;apply(c _).mono;rintro e h⟨rfl,rfl⟩;go_wp2_with fail;refine l4 (d _) λm b=>?_;go_wp2;go_ret2;refine⟨_,by rw[a.O];rfl,?_,b.alloc _⟩;rw[a.O];exact c7.new b.size rfl rfl e6
 rw[j]at c a;go_in;go_wp2_with fail;apply(c _).mono;rintro e h⟨rfl,rfl⟩;go_wp2_with fail;apply(k _).mono;rintro e m⟨v,rfl,l,b⟩;go_wp2;go_ret2;exact⟨_,by rw[a.O];rfl,by rw[a.O];exact l,b⟩
abbrev n0:=g4×Int
def a2J:s7 n0:=⟨2,λx=>[Y x.1,I V x.2],λ_=>rfl,nA⟩
theorem PY:kZ prog 29 94 (Ag #[Y ⟨#[]⟩,I V 0]) 2 24:=⟨underlying29,g6,rfl,e6,e6⟩
def VP.ownR{a:Type}(base:Nat)(e:Ti)(E:s7 a)(xs:List a):VP:=⟨λv b=>c7 b base e E v xs,λ_ _ _ c x=>c.h x⟩
def VP.list{b:Type}(m:Int)(base:Nat)(e:Ti)(E:s7 b)(xs:List b):VP:=⟨λv d=>∃a c,v=Ag #[I U8 m,Z a (D xs) c]/\c7 d base e E (Z a (D xs) c) xs,λ_ _ _⟨a,c,f,k⟩ x=>⟨a,c,f,k.h x⟩⟩
theorem sH(m:Int)(b:p1)(c:Nat)(xs:List n0)(w:Wd)(ai:D xs<=1000000)(F:i5 w b (a2J.row xs))(ah:∀a,b=So a->a.spot=J):
 Ci .wide 1 prog 365 #[Ag #[I U8 m,Z b (D xs) c]] w λe Q=>∃v,e=X (Ag #[I U8 m,v])/\c7 Q w 94 a2J v xs/\a9 w Q:=by
 have y:e7 ((w.alloc (U #[I U8 m,Z b (D xs) c] 31)).alloc (U #[I U8 0,Z J 0 0] 31)) w 31 #[I U8 m,Z b (D xs) c]:=(e7.new w _ _).alloc _;have z:e7 ((w.alloc (U #[I U8 m,Z b (D xs) c] 31)).alloc (U #[I U8 0,Z J 0 0] 31)) (w+1) 31 #[I U8 0,Z J 0 0]:=e7.b i3;have G:a9 w ((w.alloc (U #[I U8 m,Z b (D xs) c] 31)).alloc (U #[I U8 0,Z J 0 0] 31)):=((a9.refl w).alloc _).alloc _;have L:((w.alloc (U #[I U8 m,Z b (D xs) c] 31)).alloc (U #[I U8 0,Z J 0 0] 31)).heap.size=w.heap.size+2:=i3;obtain⟨T,s,aa,t,ad⟩:=Y2 (λf(d:a9 w f)=>show Ca prog 219 #[Z b (D xs) c] f _ from clE wW a2J PY sizeOf94 b c xs f ai (F.h d)) y z G L;clear F ah y z G L;refine Co func365 rfl trivial ?_ rfl;simp only[ntmps365,uE,Nat.reduceAdd,Nat.reduceSub];gi_wp2_with fail;generalize(w.alloc (U #[I U8 m,Z b (D xs) c] 31)).alloc (U #[I U8 0,Z J 0 0] 31)=w0 at*;refine aO ?_;iterate 4 (apply D7;focus (intro x f d;simp only[g0,g5,uV];(repeat intro af;try simp only[af]);have ap:=(s.h d).cell 0;have au:=(s.h d).cell 1;gi_wp2_with fail;exact dn rfl rfl (a9.refl _)))
 refine r7 ((VP.ownR w0 94 a2J xs)) ?_ ?_;·intro x f d;simp only[g0,g5,uV,VP.list,VP.ownR];intro l;simp only[l];gi_wp2_with(refine⟨trivial,?_⟩;gi_at_call 219;apply((Cw (n:=0)).2 (T f (t.trans d))).mono;rintro e ar⟨v,rfl,aj,ak⟩);refine e8 ?_ rfl (ak);exact aj.mono d.size
 refine r7 ((VP.list m w0 94 a2J xs)) ?_ ?_;·intro x f d;simp only[g0,g5,uV,VP.list,VP.ownR];rintro j q;simp only[j];obtain⟨R,ae,ag⟩:=q.b;gi_wp2_with fail;refine e8 ?_ rfl (a9.refl _);exact⟨R,ae,rfl,by rw[<-ag];exact q⟩
 intro x f d;simp only[n9,g0,o7,uV];rintro A j C l q⟨g,h,E,N⟩;simp only[A,j,C,l,E];clear A j C l E;have B:=aa.h d;have al:=B.frozen 0;have am:=B.frozen 1;obtain⟨an,ao⟩:=B.c2;have aq:w+2<=w0.heap.size:=Nat.le_of_eq ad.symm;have o:∀{W:Wd}(i:Nat)(u:Va),c7 W w0 94 a2J (Z g (D xs) h) xs->c7 (W.setCell ⟨w+1,i,J⟩ u) w0 94 a2J (Z g (D xs) h) xs:=λi u k=>k.kept (c8 _ _ _ u) (.inr λe=>by have:=(k.lt e).1;omega)
 have r:=(B.f 0 (I U8 m)).f 1 (Z g (D xs) h);have P:=o 1 (Z g (D xs) h) (o 0 (I U8 m) N);have H:a9 w ((f.setCell ⟨w+1,0,J⟩ (I U8 m)).setCell ⟨w+1,1,J⟩ (Z g (D xs) h)):=((t.trans d).set (p:=⟨w+1,0,J⟩) (Nat.le_succ _) _).set (p:=⟨w+1,1,J⟩) (Nat.le_succ _) _;obtain⟨ab,ac,S⟩:=r6 P H r;clear o P H r N;gi_wp2_with fail;exact F9 S underlying31 ⟨_,rfl,ab.mono a8,ac.O⟩
theorem gF(m:Int)(b:p1)(c:Nat)(xs:List n0)(w:Wd)(h:D xs<=1000000)(g:i5 w b (a2J.row xs))(f:∀a,b=So a->a.spot=J):
  Ca prog 365 #[Ag #[I U8 m,Z b (D xs) c]] w λe d=>∃v,e=X (Ag #[I U8 m,v])/\c7 d w 94 a2J v xs/\a9 w d:=
 callsIn_wide.1 (sH m b c xs w h g f)
theorem BM(x:n0)(s:g4)(W:Wd):Ca prog 418 #[Ag (a2J.c x).toArray,Y s] W λe d=>e=X (I M (Lib.compareBytes x.1.data.toList s.data.toList))/\a9 W d:=by obtain⟨n,a⟩:=x;have c:=(a9.refl W).alloc (U #[Y n,I V a] 94);have b:=a6 (DS n s);show Ca prog 418 #[Ag #[Y n,I V a],Y s] W _;dsimp only;generalize Lib.compareBytes n.data.toList s.data.toList=R at*;go_in;go_wp2_with fail;apply(b _).mono;rintro e f⟨rfl,rfl⟩;go_wp2;go_ret;exact⟨rfl,c⟩
theorem OQ(x:n0)(s:g4)(g:Nat)(W:Wd)(b:W.cell? ⟨g,0,J⟩=So (Y s)):Ca prog 422 (#[Ag (a2J.c x).toArray]++ #[K g]) W λe d=>e=X (O (x.1.toList==s.toList))/\a9 W d:=by obtain⟨n,a⟩:=x;have c:=(a9.refl W).alloc (U #[Y n,I V a] 94);have f:=c.cell b;have h:g≠W.heap.size:=Nat.ne_of_lt (block_lt_of_cell b);show Ca prog 422 #[Ag #[Y n,I V a],K g] W _;go_in;go_wp2;go_ret;exact⟨rfl,c⟩
theorem a1w(W:Wd):Ca prog 369 #[] W λe c=>e=X (Ag #[O Bt,O Bf,O Bf,O Bt])/\a9 W c:=by
 have a:e7 (W.alloc (U #[O Bf,O Bf,O Bf,O Bf] 464)) W 464 #[O Bf,O Bf,O Bf,O Bf]:=e7.new W _ _;have b:=(a9.refl W).alloc (U #[O Bf,O Bf,O Bf,O Bf] 464);go_in;go_wp2;first
  |exact F9 (e7.new _ _ _) underlying464 ⟨rfl,(a9.refl W).alloc _⟩
  |exact F9 ((((a.f 0 (O Bt)).f 1 (O Bf)).f 2 (O Bf)).f 3 (O Bt)) underlying464 ⟨rfl,(((b.set (p:=⟨W,0,J⟩) (a7 _) _).set (p:=⟨W,1,J⟩) (a7 _) _).set (p:=⟨W,2,J⟩) (a7 _) _).set (p:=⟨W,3,J⟩) (a7 _) _⟩
def rM(p:Option g4)(s:g4):Bool:=match p with
 |none=>Bt
 |some q=>Op.bytesLess q.toList s.toList
def MS:Option g4->List n0->Bool
 |_,[]=>Bt
 |p,x::r=>w7 x.1&&x2 x.2&&rM p x.1&&MS (So x.1) r
def iB(xs:List n0):Nat->Option g4
 |0=>J
 |k+1=>(xs[k]?).map (·.1)
def A6(m:Int)(xs:List n0):Bool:=if 2<m then Bf else if m=0/\0<D xs then Bf else MS J xs
theorem UD(xs:List n0)(k:Nat)(a:k<D xs):MS (iB xs k) (xs.drop k)=(w7 xs[k].1&&x2 xs[k].2&&rM (iB xs k) xs[k].1&&MS (iB xs (k+1)) (xs.drop (k+1))):=by rw[List.drop_eq_getElem_cons a];show(_&&MS (So xs[k].1) _)=_;unfold iB;simp[e9 a]
theorem iM(m:Int)(v:0<=m)(A:p1)(n c:Nat)(xs:List n0)(w:Wd)(cb:D xs=n)(ck:n<=1000000)(F:i5 w A (a2J.row xs)):
 Ca prog 99 #[.agg #[I U8 m,Z A n c]] w λe ce=>e=X (O (A6 m xs))/\a9 w ce:=by
 subst cb;obtain⟨R,g⟩:∃R,R=A6 m xs:=⟨_,rfl⟩;rw[<-g];unfold A6 at g;have ae:=(a9.refl w).alloc (U #[I U8 m,Z A (D xs) c] 31);by_cases y:2<m;·rw[if_pos y]at g;have t:=a6 g;have P:Dc (2<m)=Bt:=decide_eq_true y;clear g y F v;go_wp2;go_ret;exact⟨by rw[t.O];rfl,ae⟩
 rw[if_neg y]at g;have P:Dc (2<m)=Bf:=decide_eq_false y;by_cases z:m=0
 ·have W:(m==0)=Bt:=by simp[z]
  by_cases C:0<D xs;·rw[if_pos ⟨z,C⟩]at g;have t:=a6 g;have ak:Dc (0<D xs)=Bt:=decide_eq_true C;clear g y z F v C;go_wp2;go_ret;exact⟨by rw[t.O];rfl,ae⟩
  rw[if_neg (λu=>C u.2)]at g;obtain rfl:xs=[]:=by rcases xs with _|⟨x,r⟩;rfl;simp at C
  have t:=a6 g;clear g y z F v C;go_wp2;go_loopw [22] (λi wr=>i=I M 0/\wr=w.alloc (U #[I U8 m,Z A 0 c] 31)) (λ_ _=>0);exact⟨rfl,rfl⟩;obtain⟨rfl,rfl⟩:=hrel;go_wp2;go_ret;exact⟨by rw[t.O];rfl,ae⟩
 rw[if_neg (λu=>z u.1)]at g;have W:(m==0)=Bf:=by simp[z]
 obtain⟨bt,bv,ap⟩:=r6 F (UD xs) g;obtain⟨ag,l⟩:∃ag,ag=MS J xs:=⟨_,rfl⟩;have ah:=a6 l;have ao:=e7.new w 31 #[I U8 m,Z A (D xs) c];have bq:=a6 ao;clear g y z F v l ao;go_wp2;go_loopw [22] (λi wr=>∃k:Nat,k<=D xs/\i=I M k/\ag=MS (iB xs k) (xs.drop k)/\a9 (w.alloc (U #[I U8 m,Z A (D xs) c] 31)) wr) (λi _=>D xs-(intOf i).toNat);exact⟨0,c6 _,rfl,ah.O,a9.refl _⟩;obtain⟨k,cn,rfl,l,al⟩:=hrel;have am:=ae.trans al;by_cases ad:k<D xs
 ·have G:=bt.h am;obtain⟨b,o,rfl,cm⟩:=G.rows e6 a8;have bx:=G.l ad (r:=0) rfl;have bz:=G.l ad (r:=1) rfl;have aq:=λ(H:k-1<D xs)=>G.l H (r:=0) rfl
  have H:k-1<D xs:=a8;rw[bv k ad]at l;have co:iB xs (k+1)=So xs[k].1:=by simp[iB,e9 ad]
  have bl:rM (iB xs k) xs[k].1= !(Dc (0<k)&& !Op.bytesLess (xs[k-1]'H).1.toList xs[k].1.toList):=by
   rcases k with _|j
   rfl;have:Dc (0<j+1)=Bt:=i3;rw[this,iB,e9 a8];simp[rM]
  rw[bl]at l;have bk:Dc (0<k)=Bt->IntKind.i64.wrap ((k:Int)-1)=((k-1:Nat):Int):=λu=>by have:0<k:=of_decide_eq_true u;rw[(a8:(k:Int)-1=((k-1:Nat):Int))];exact h7 _ a8
  have aj:=aq H;clear aq bl;generalize xs[k]=x at*;generalize xs[k-1]'H=cg at*;obtain⟨s,a⟩:=x;obtain⟨q,ch⟩:=cg;simp only[a2J,j8]at bx bz aj;dsimp only at l;obtain⟨bo,bp,bn,af,bw,bu⟩:=dK (gL s) (GI a) (bq.h al) (e7.new wr 94 #[Y s,I V a]) (am.alloc (U #[Y s,I V a] 94)) (λ(p:Wd)(h:a9 (wr.alloc (U #[Y s,I V a] 94)) p)=>(((a9.refl wr).alloc (U #[Y s,I V a] 94)).trans h).cell aj);obtain⟨ai,bs⟩:=j0 l bk;have k1:((k-1:Nat):Int)<D xs:=a8;have k2:(0:Int)<=((k-1:Nat):Int):=a8;clear l G aj bk;generalize w7 s=d at*;generalize x2 a=E at*;generalize cj:Dc (0<k)=f at*;generalize ci:Op.bytesLess q.toList s.toList=L at*;generalize k-1=an at*;go_wp2_with fail;refine y2 rfl ((.is ?Bb:VP)::(.is (Y s):VP)::(.is (O d):VP)::(.is ?Bc:VP)::(.is ?Bd:VP)::(.is (cond d (K (So ⟨wr,1,J⟩)) Un):VP)::(.is (cond d (I V a) Un):VP)::(.is (cond d (O E) Un):VP)::(.is (cond d (O (!E)) Un):VP)::(.is (O (!d|| !E)):VP)::(.is ?Be:VP)::(.is (cond (d&&E) (I M k) Un):VP)::(.is (cond (d&&E) (O f) Un):VP)::(.is (cond (d&&E) (O f) Un):VP)::(.is (cond (d&&E&&f) (K (So ⟨w,1,J⟩)) Un):VP)::(.is (cond (d&&E&&f) (Z (So ⟨b,o,J⟩) (D xs) c) Un):VP)::(.is (cond (d&&E&&f) (I M k) Un):VP)::(.is (cond (d&&E&&f) (I M an) Un):VP)::(.is (cond (d&&E&&f) (K (So ⟨b,o+an*2,J⟩)) Un):VP)::(.is (cond (d&&E&&f) (K (So ⟨b,o+an*2,J⟩)) Un):VP)::(.is (cond (d&&E&&f) (Y q) Un):VP)::(.is (cond (d&&E&&f) (K wr) Un):VP)::(.is (cond (d&&E&&f) (Y s) Un):VP)::(.is (cond (d&&E&&f) (O (!L)) Un):VP)::(.is (cond (d&&E) (O (f&& !L)) Un):VP)::(.is (O (!d|| !E||(f&& !L))):VP)::[]) g6 ?Bf ?Aa ⟨?Ab,?Ac,?Ad,?Ae,?Af,?Ag,?Ah,?Ai,?Aj,?Ak,?Al,?Am,?An,?Ao,?Ap,?Aq,?Ar,?As,?At,?Au,?Av,?Aw,?Ax,?Ay,?Az,?Ba,trivial⟩ ?Bg
  case Aa=>intro x;simp only[m0,Act.put,uL,Nat.reduceAdd]<;>rfl
  case Ab|Ac|Ad|Ae|Af|Al=>
   intro x p h;simp only[g0,o7,uV];repeat(intro N;try simp only[N])
   have v:=(af.h h).cell 0;go_wp2_with(go_at_call 153;refine l4 (bo p) λcf cc=>?_);refine e8 ?_ rfl (by first|exact cc|exact a9.refl _);rfl
  case Ag|Ah|Ai|Aj|Am|An|Ao|Ap|Aq|Ar|At|Au|Av|Aw|Ax|Ay|Az=>
   intro x p h;simp only[g0,o7,uV];repeat(intro N;try simp only[N];clear N)
   have v:=(af.h h).cell 1;have v:=(bn.h (((a9.refl wr).alloc _).trans h)).cell 1;have v:=bu p h;have v:=(af.h h).cell 0;cases d<;>cases E<;>cases f;all_goals(try simp only[uB])
   all_goals first|exact a2B (by first|decide|(intro u;cases u)) mZ|(refine a2E eX ?_;(go_wp2_with(first|(go_at_call 154;apply(bp p).mono;rintro e cf⟨rfl,rfl⟩));refine e8 ?_ rfl (a9.refl _);exact rfl))
  case Ak=>
   intro x p h;simp only[g0,o7,uV];intro ab ac;simp only[ab,ac];cases d;all_goals(try simp only[uB])
   all_goals(go_wp2_with(fail);refine e8 ?_ rfl (a9.refl _);exact rfl)
  case As=>
   intro x p h;simp only[g0,o7,uV];intro T S;simp only[T,S];have bm:=bs.O;cases d<;>cases E<;>cases f;all_goals(try simp only[uB])
   all_goals(try replace bm:=bm rfl)
   all_goals first|exact a2B (by first|decide|(intro u;cases u)) mZ|(refine a2E eX ?_;(go_wp2_with(fail);refine e8 ?_ rfl (a9.refl _);exact rfl))
  case Ba=>
   intro x p h;simp only[g0,o7,uV];intro Q aa;simp only[Q,aa];cases d<;>cases E;all_goals(try simp only[uB])
   all_goals(go_wp2_with(fail);refine e8 ?_ rfl (a9.refl _);exact rfl)
  intro x p h;simp only[n9,g0,o7,uV];intro ar P W ak ab bg bh bi ac bj Q au av S aw ax T ay az ba bb bc bd be aa bf;simp only[ar,P,W,ak,ab,bg,bh,bi,ac,bj,Q,au,av,S,aw,ax,T,ay,az,ba,bb,bc,bd,be,aa,bf];clear ar P W ak ab bg bh bi ac bj Q au av S aw ax T ay az ba bb bc bd be aa bf;have ca:(d&&E&& !(f&& !L))= !(!d|| !E||(f&& !L)):=by cases d<;>cases E<;>cases f<;>cases L<;>rfl
  rw[ca]at ai;generalize(!d|| !E||(f&& !L))=B at*;have cd:=bw.trans h;cases B;·have br:=a6 (ai.O);go_wp2;go_roundw;exact⟨k+1,a8,o3,br.O,(al.alloc _).trans h⟩;simp[intOf];omega
  have t:=a6 (ap.trans (ah.symm.trans ai.O));go_wp2;go_ret;exact⟨by rw[t.O];rfl,cd⟩
 obtain rfl:k=D xs:=a8;rw[List.drop_eq_nil_of_le (a7 _)]at l;have t:=a6 (ap.trans (ah.symm.trans l));clear l;go_wp2;go_ret;exact⟨by rw[t.O];rfl,am⟩
section
open Go.Shelf
def P4{α:Type}(xs:List α)(i:Nat)(x:α):List α:=xs.take i++x::xs.drop i
structure a15(P:Pg)(ρ:Ren)(k:Nat):Prop where
 mixed:P.follows .mixedOrders=Bt
 f22:Bears P (ρ.f 22) (Body2.n22 ρ)
 ov:∀args w,(callFunc (ρ.f 29) args).run P w=((Extern.SlicesOverlaps.overlaps #[ρ.t 24,ρ.t 24] #[ρ.t 4] args).run P w).andThen λv w'=> .ok (.value v) w'
 t0:P.underlying (ρ.t 0)=So (TypeDesc.tuple #[])
 a0:∀w,(isAgg (ρ.t 0)).run P w= .ok Bf w
 z0:∀w,(Go.sizeOf (ρ.t 0)).run P w= .ok 1 w
 v0:∀w,(zeroValue (ρ.t 0)).run P w= .ok (Tp #[]) w
 t3:P.underlying (ρ.t 3)=So (TypeDesc.int M)
 a3:∀w,(isAgg (ρ.t 3)).run P w= .ok Bf w
 z3:∀w,(Go.sizeOf (ρ.t 3)).run P w= .ok 1 w
 v3:∀w,(zeroValue (ρ.t 3)).run P w= .ok (I M 0) w
 t4:P.underlying (ρ.t 4)=So (TypeDesc.bool)
 a4:∀w,(isAgg (ρ.t 4)).run P w= .ok Bf w
 z4:∀w,(Go.sizeOf (ρ.t 4)).run P w= .ok 1 w
 v4:∀w,(zeroValue (ρ.t 4)).run P w= .ok (O Bf) w
 z9:∀w,(Go.sizeOf (ρ.t 9)).run P w= .ok k w
 a24:∀w,(isAgg (ρ.t 24)).run P w= .ok Bf w
 z24:∀w,(Go.sizeOf (ρ.t 24)).run P w= .ok 1 w
 v24:∀w,(zeroValue (ρ.t 24)).run P w= .ok (Z J 0 0) w
section
variable {P:Pg} {ρ:Ren} {α:Type} {E:s7 α}
theorem RZ(L:a15 P ρ E.k){z:Va}{bo:Nat}(f:kZ P (ρ.t 24) (ρ.t 9) z E.k bo)(x:α)(v:Va)(xs:List (α))(base i n:Nat)(w:Wd)(fb:D xs<=900000)(hi:i<=D xs)(B:c7 w base (ρ.t 9) E v xs)(r:e7 w n (ρ.t 9) (E.c x).toArray)(am:v.ownBlock≠So n)(ca:base<=w):
 Ca P (ρ.f 22) #[v,I M i,Z n 1 1] w λe cx=>∃v',e=X v'/\c7 cx base (ρ.t 9) E v' (P4 xs i x)/\w.grownBy cx v.ownBlock/\(v'.ownBlock=v.ownBlock\/v'.ownBlock=So w.heap.size):=by
 have ac:i5 w n (E.row [x]):=i5.f r (by simp[s7.row]);have bb:=B;obtain⟨bg,c,rfl,cb,cc,ar⟩:=B.inM;have ey:c<=9223372036854775807:=by unfold maxLen at cc;omega
 have df:=a6 B;have dz:=f.k0;have fh:=L.mixed;have fi:=L.t0;have er:=L.a0;have fw:=L.z0;have fp:=L.v0;have fk:=L.t3;have et:=L.a3;have fy:=L.z3;have fs:=L.v3;have fl:=L.t4;have eu:=L.a4;have fz:=L.z4;have ft:=L.v4;have fj:=f.u;have es:=L.a24;have fx:=L.z24;have fr:=L.v24;have ga:=L.z9;have fn:=run_underlying L.t3;have fo:=run_underlying L.t4;have fm:=run_underlying f.u;have al:(P.info? (ρ.t 9)).map (·.size)=So E.k:=by obtain⟨ag,ba,af⟩:=Option.map_eq_some_iff.1 f.i;simp only[Prod.mk.injEq]at af;rw[ba,Option.map_some,af.2.1]
 have di:=a6 ac;by_cases dw:i=D xs
 ·subst dw;have cj:P4 xs (D xs) x=xs++[x]:=by unfold P4;simp
  rw[cj];obtain⟨cw,bc⟩:∃cw,(Z bg (D xs) c).ownBlock=cw:=⟨_,rfl⟩;have dg:=a6 bc;rw[bc];clear bc am B ac ar r cj hi bb;obtain⟨_,_,W⟩:=L.f22;go_enter W,Body2.n22_ntmps ρ;go_wp2_with(at_builtin;refine h8 rfl (Tm 23) (Tm 24) (ρ.t 24) (ρ.t 9) rfl f base (Z bg (D xs) c) xs rfl df _ 1 1 [x] rfl rfl di a8 ca ?_;intro fq fv eb _ cf bz;rw[dg.O]at cf bz);all_goals go_ret;exact⟨_,rfl,eb,cf,bz⟩
 obtain⟨g,cs,Jq,rfl,-,dt,p,-,-,ad,q⟩:=B.blk a8;have fa:i<D xs:=a8;have cn:n≠g:=λe=>am (by rw[e];rfl)
 have ct:(i+1)*E.k=i*E.k+E.k:=Nat.succ_mul _ _;have cu:(D xs+1)*E.k=i*E.k+E.k+(D xs-i)*E.k:=by rw[<-Nat.succ_mul,<-Nat.add_mul];congr 1;omega
 have cv:1*E.k=E.k:=Nat.one_mul _;have T:D (xs.take i)=i:=by rw[m4];omega
 have ak:D (xs.drop i)=D xs-i:=List.length_drop;have h:=E.row_length (xs.take i);have t:=E.row_length (xs.drop i);have ae:=E.len x;have be:=E.row_take xs i;rw[<-be]at q;have ai:i5 w (So ⟨g,i*E.k,J⟩) (E.row (xs.drop i)):=λj u C=>⟨g,i*E.k,rfl,by have R:=(List.getElem?_eq_some_iff.1 C).1;rw[p.cell,<-Array.getElem?_toList,q,p6,List.getElem?_append_right (by rw[h,T];exact Nat.le_add_right _ _),h,T,show i*E.k+j-i*E.k=j from Nat.add_sub_cancel_left _ _,List.getElem?_append_left R];exact C⟩
 have an:=E.row_oneCell (xs.drop i);have ao:=E.row_oneCell [x];have ew:(((i:Nat):Int)==((D xs:Nat):Int))=Bf:=by simp;omega
 have w0:IntKind.i64.wrap ((D xs:Int)+1)=((D xs+1:Nat):Int):=h7 _ a8;have fu:IntKind.i64.wrap ((i:Int)+1)=((i+1:Nat):Int):=h7 _ a8;have du:=p.lt;have ab:P4 xs i x=xs.take i++x::xs.drop i:=rfl;have aj:D (P4 xs i x)=D xs+1:=by rw[ab];simp;omega
 by_cases ck:D xs+1<=c
 ·have br:E.row (xs.drop i)++Jq=(E.row (xs.drop i)++Jq).take E.k++(((E.row (xs.drop i)++Jq).drop E.k).take (D (E.row (xs.drop i)))++((E.row (xs.drop i)++Jq).drop E.k).drop (D (E.row (xs.drop i)))):=by rw[List.take_append_drop,List.take_append_drop]
  have R:D cs.toList=c*E.k:=by rw[Array.length_toList];exact ad
  have ee:cs.size=c*E.k:=ad;have dv:(D xs+1)*E.k<=c*E.k:=Nat.mul_le_mul_right _ ck;have ef:D (E.row (xs.take i))+(D (E.row (xs.drop i))+D Jq)=c*E.k:=by rw[<-R,q];simp
  change(E.row (xs.take i)).length=D (xs.take i)*E.k at h;change(E.row (xs.drop i)).length=D (xs.drop i)*E.k at t;rw[T]at h;rw[ak]at t;have N:D ((E.row (xs.drop i)++Jq).take E.k)=E.k:=by rw[m4,g1];omega
  have bt:D (((E.row (xs.drop i)++Jq).drop E.k).take (D (E.row (xs.drop i))))=D (E.row (xs.drop i)):=by rw[m4,List.length_drop,g1];omega
  rw[p6,br]at q;generalize(E.row (xs.drop i)++Jq).take E.k=B0 at*;generalize((E.row (xs.drop i)++Jq).drop E.k).take (D (E.row (xs.drop i)))=R0 at*;generalize((E.row (xs.drop i)++Jq).drop E.k).drop (D (E.row (xs.drop i)))=R1 at*;have ah:splice cs.toList ((i+1)*E.k) (E.row (xs.drop i))=E.row (xs.take i)++B0++E.row (xs.drop i)++R1:=by have:=M5 (E.row (xs.take i)++B0) R0 R1 (E.row (xs.drop i)) bt.symm;rw[g1,h,N,(a8:i*E.k+E.k=(i+1)*E.k)]at this;rw[q,<-this];simp
  have F:splice (E.row (xs.take i)++B0++E.row (xs.drop i)++R1) (i*E.k) (E.c x)=E.row (P4 xs i x)++R1:=by have:=M5 (E.row (xs.take i)) B0 (E.row (xs.drop i)++R1) (E.c x) (by rw[N];exact ae);rw[h]at this;rw[ab,E.row_append,E.row_cons];simp only[p6]at this⊢;exact this
  have ec:∀lb aq,(callFunc (ρ.f 29) #[Z n 1 1,Z (So ⟨g,(i+1)*E.k,J⟩) lb aq]).run P w= .ok (.value (O Bf)) w:=λlb aq=>by rw[L.ov,Lib.run_overlaps_apart w (ρ.t 24) (ρ.t 4) (ρ.t 9) f.u E.k L.z9 ⟨n,0,J⟩ ⟨g,(i+1)*E.k,J⟩ 1 1 lb aq cn (ρ.t 9) (ρ.t 9) E.k cs.size (by unfold e7 at r;simp[World.shape?,r,E.len]) (by unfold e7 at p;simp[World.shape?,p]) (by rw[ee];exact Nat.ne_of_gt (Nat.mul_pos a8 f.k0)) (r.frozen 0) (r.frozen E.k)];rfl
  have ay:∀ty y sc,(Builtin.copy_ #[(ρ.t 24),(ρ.t 24)] ty #[Z (So ⟨g,(i+1)*E.k,J⟩) (D xs-i) y,Z (So ⟨g,i*E.k,J⟩) (D xs+1-i) sc]).run P w.drew= .ok (goInt ((D xs-i:Nat):Nat)) (w.drew.setRow g (splice cs.toList ((i+1)*E.k) (E.row (xs.drop i))).toArray):=λty y sc=>
   jP (ρ.t 9) f.u E.k al g ((i+1)*E.k) _ y _ sc (D xs-i) ⟨g,i*E.k,J⟩ cs (ρ.t 9) p.drew a8 _ t (by rw[ad];show _<=c*E.k;omega) (ai.h ((a9.refl w).drew)) an
  rw[ah]at ay;have bj:e7 (w.drew.setRow g (E.row (xs.take i)++B0++E.row (xs.drop i)++R1).toArray) g (ρ.t 9) (E.row (xs.take i)++B0++E.row (xs.drop i)++R1).toArray:=setRow_heap _ g cs _ _ (0,0) p.drew;have bx:i5 (w.drew.setRow g (E.row (xs.take i)++B0++E.row (xs.drop i)++R1).toArray) n (E.row [x]):=i5.f (r.drew.grown (H0 w.drew g _) (by simpa using cn)) (by simp[s7.row]);have Q:w.grownBy (w.drew.setRow g (E.row (xs.take i)++B0++E.row (xs.drop i)++R1).toArray) (So g):=⟨rfl,rfl,rfl,i3,λk _ S=>setRow_other w.drew g k _ (λe=>S (by rw[e]))⟩;have bv:(w.drew.setRow g (E.row (xs.take i)++B0++E.row (xs.drop i)++R1).toArray).heap.size=w.heap.size:=i3;have ce:i*E.k+1*E.k<=(E.row (xs.take i)++B0++E.row (xs.drop i)++R1).toArray.size:=by simp;omega
  have s:D (E.row (xs.take i)++B0++E.row (xs.drop i)++R1)=c*E.k:=by have:=congrArg List.length q;simp only[g1]at this⊢;omega
  generalize w.drew.setRow g (E.row (xs.take i)++B0++E.row (xs.drop i)++R1).toArray=l at*;generalize E.row (xs.take i)++B0++E.row (xs.drop i)++R1=bn at*;have cd:∀W2,e7 W2 g (ρ.t 9) (splice bn (i*E.k) (E.row [x])).toArray->c7 W2 base (ρ.t 9) E (Z g (D xs+1) c) (P4 xs i x):=λW2 bi=>by rw[E.row_one,F]at bi;refine c7.mk2 dt bi aj ck cc ?_ rfl;rw[<-F,List.size_toArray,M4 _ _ _ (by rw[ae,s];show i*E.k+E.k<=_;omega),s]
  have ev:Dc ((c:Int)<((D xs+1:Nat):Int))=Bf:=by simp;omega
  skip
  have ag:(0:Int)<=(i:Int)+1:=a8;have ej:¬c=i+1:=a8;have ek:¬c=i:=a8;have el:(i:Int)+1<=(D xs:Int)+1:=a8;have en:(i:Int)<=(D xs:Int)+1:=a8;have em:((i:Int)+1).toNat=i+1:=a8;have da:=a6 cd;have az:=ay (ρ.t 3) (c-(i+1)) (c-i);obtain⟨cz,dk,dc,bl,db,ap⟩:=dK bj bx Q bv ce ao;have dl:=a6 (show(E.row [x]).length=1*E.k by rw[E.row_one,Nat.one_mul];exact ae);clear cd ay bj bx Q bv ce an ao ai s ah F bt N B bb ar br r ac p q ad be h t T ak am ef R dv ab aj ct cu cv;obtain⟨_,_,W⟩:=L.f22;go_enter W,Body2.n22_ntmps ρ;go_wp2_with(simp only[ec]);go_region_law_o (refine step_copy_runI rfl _ _ (ρ.t 24) (ρ.t 24) rfl (Z (So ⟨g,(i+1)*E.k,J⟩) (D xs-i) (c-(i+1))) (Z (So ⟨g,i*E.k,J⟩) (D xs+1-i) (c-i)) (by simp[Act.eval,Act.put]) (by simp[Act.eval,Act.put]) az ?_)
  go_wp2_with(refine gT rfl (Tm 80) (Tm 81) (ρ.t 24) (ρ.t 24) rfl (ρ.t 9) f.u E.k al g (i*E.k) _ _ 1 1 1 ⟨n,0,J⟩ rfl rfl bn.toArray (ρ.t 9) cz a8 _ dl db dk ap.O ?_;intro W2 dp dy fd);go_ret;exact⟨_,rfl,da _ dp,dc.trans dy,.inl rfl⟩
 obtain⟨ag,ba,af⟩:=Option.map_eq_some_iff.1 (f).i;simp only[Prod.mk.injEq]at af;obtain⟨eh,co,cp⟩:=af;change(E.row (xs.take i)).length=D (xs.take i)*E.k at h;change(E.row (xs.drop i)).length=D (xs.drop i)*E.k at t;rw[T]at h;rw[ak]at t;have ei:=(f).zs;have ax:∀m,m<=1000000->m*bo<=10000000000:=λm ea=>Nat.mul_le_mul ea f.b0
 have ch:c<i+(D xs+1-i):=a8;have ed:i+(D xs+1-i)=D xs+1:=a8;have bs:i5 w g (E.row (xs.take i)):=λj u C=>⟨g,0,rfl,by have R:=(List.getElem?_eq_some_iff.1 C).1;rw[p.cell,<-Array.getElem?_toList,q,Nat.zero_add,p6,List.getElem?_append_left R];exact C⟩
 have ci:(Builtin.firstCells ag.size i (Z g i c)).run P w.drew= .ok (E.row (xs.take i)).toArray w.drew:=by rw[co];exact run_firstCells_some w.drew _ i ⟨g,0,J⟩ i c _ h (λj v eg=>(bs.h ((a9.refl w).drew)).add eg)
 have aw:=Lib.run_append_grow_zeros (P:=P) w (ρ.t 24) (ρ.t 3) (ρ.t 24) (ρ.t 9) ag _ M M (f).u L.t3 ba eh g i c _ ci (D xs+1-i) a8 (by rw[co];exact dz) ch a8 (by rw[cp];exact b6 (ax _ a8) e6) (growslice_fits ch (by rw[cp];exact b6 (ax _ a8) e6));have Q:=grownCap_ge w (i+(D xs+1-i)) c (ρ.t 9);have bq:=grownCap_le_maxLen w (i+(D xs+1-i)) c (ρ.t 9) (by unfold maxLen;omega);rw[ed]at aw Q bq;generalize grownCap w (D xs+1) c (ρ.t 9)=G at*;obtain⟨d,au⟩:∃d:List Va,d=(Builtin.zeroCells (z:Va).cells (D xs+1-i)++Builtin.zeroCells (z:Va).cells (G-(D xs+1))).toList:=⟨_,rfl⟩;have ds:D d=(G-i)*E.k:=by rw[au,Array.length_toList,Array.size_append,size_zeroCells,size_zeroCells,ei,<-Nat.add_mul];congr 1;omega
 have cm:(E.row (xs.take i)).toArray++Builtin.zeroCells (z:Va).cells (D xs+1-i)++Builtin.zeroCells (z:Va).cells (G-(D xs+1))=(E.row (xs.take i)++d).toArray:=by rw[au];apply Array.ext';simp
 rw[cm]at aw;have N:e7 (w.drew.alloc (U (E.row (xs.take i)++d).toArray (ρ.t 9))) w (ρ.t 9) (E.row (xs.take i)++d).toArray:=e7.new w.drew _ _;have bw:i5 (w.drew.alloc (U (E.row (xs.take i)++d).toArray (ρ.t 9))) n (E.row [x]):=ac.h ((a9.refl w).drew.alloc _);have A:a9 w (w.drew.alloc (U (E.row (xs.take i)++d).toArray (ρ.t 9))):=(a9.refl w).drew.alloc _;have eo:(G-i)*E.k+i*E.k=G*E.k:=by rw[<-Nat.add_mul,Nat.sub_add_cancel a8]
 have dq:(D xs+1)*E.k<=G*E.k:=Nat.mul_le_mul_right _ Q;have av:d=d.take E.k++((d.drop E.k).take (D (E.row (xs.drop i)))++(d.drop E.k).drop (D (E.row (xs.drop i)))):=by rw[List.take_append_drop,List.take_append_drop]
 have cq:D (d.take E.k)=E.k:=by rw[m4];omega
 have cr:D ((d.drop E.k).take (D (E.row (xs.drop i))))=D (E.row (xs.drop i)):=by rw[m4,List.length_drop];omega
 generalize d.take E.k=dn at*;generalize(d.drop E.k).take (D (E.row (xs.drop i)))=Z1 at*;generalize(d.drop E.k).drop (D (E.row (xs.drop i)))=Z2 at*;have ah:splice (E.row (xs.take i)++d) (i*E.k) (E.row [x])=E.row (xs.take i)++E.row [x]++Z1++Z2:=by have:=M5 (E.row (xs.take i)) dn (Z1++Z2) (E.row [x]) (by rw[E.row_one,cq];exact ae);rw[h]at this;rw[av,<-p6,this];simp
 have bf:D (E.row [x])=E.k:=by rw[E.row_one];exact ae
 have F:splice (E.row (xs.take i)++E.row [x]++Z1++Z2) ((i+1)*E.k) (E.row (xs.drop i))=E.row (P4 xs i x)++Z2:=by have:=M5 (E.row (xs.take i)++E.row [x]) Z1 Z2 (E.row (xs.drop i)) cr.symm;rw[g1,h,bf,(a8:i*E.k+E.k=(i+1)*E.k)]at this;rw[this,ab,E.row_append,E.row_one,show E.row (x::xs.drop i)=E.c x++E.row (xs.drop i)from rfl];simp
 have s:D (E.row (xs.take i)++E.row [x]++Z1++Z2)=G*E.k:=by have:=congrArg List.length av;simp only[g1]at this⊢;omega
 have bu:(E.row (xs.take i)++d).toArray.size=G*E.k:=by simp;omega
 have key:∀l,e7 l w (ρ.t 9) (E.row (xs.take i)++E.row [x]++Z1++Z2).toArray->(w.drew.alloc (U (E.row (xs.take i)++d).toArray (ρ.t 9))).grownBy l (So w)->
   (∀ty y sc,(Builtin.copy_ #[(ρ.t 24),(ρ.t 24)] ty #[Z (So ⟨w,(i+1)*E.k,J⟩) (D xs-i) y,Z (So ⟨g,i*E.k,J⟩) (D xs-i) sc]).run P l.drew= .ok (goInt ((D xs-i:Nat):Nat)) (l.drew.setRow w (E.row (P4 xs i x)++Z2).toArray))/\
   c7 (l.drew.setRow w (E.row (P4 xs i x)++Z2).toArray) base (ρ.t 9) E (Z w (D xs+1) G) (P4 xs i x)/\w.grownBy (l.drew.setRow w (E.row (P4 xs i x)++Z2).toArray) (So g):=λl bh aa=>by
  have H:w.grownBy l.drew J:=⟨aa.os.trans A.os,aa.tape.trans A.tape,aa.output.trans A.output,b6 A.size aa.size,λk S _=>(aa.block k (Nat.lt_of_lt_of_le S A.size) G6).trans (A.block S)⟩
  refine⟨λty y sc=> ?_,c7.mk2 ca (setRow_heap _ _ _ _ _ (0,0) bh.drew) aj Q bq ?_ rfl,?_⟩
  ·rw[<-F]
   exact jP (ρ.t 9) (f).u E.k al w ((i+1)*E.k) _ y _ sc (D xs-i) ⟨g,i*E.k,J⟩ _ (ρ.t 9) bh.drew a8 _ t (by rw[List.size_toArray,s];omega) (λj u C=>by
    obtain⟨b,o,e,cb⟩:=ai j u C
    exact⟨b,o,e,by cases e;exact World.cell?_of_block (w:=w) (a:=⟨g,i*E.k+j,J⟩) (H.block g du i3)▸cb⟩) an
  ·rw[<-F,List.size_toArray,M4 _ _ _ (by rw[s];omega),s]
  ·exact⟨H.os,H.tape,H.output,by simpa using H.size,λk S _=>(setRow_other _ _ k _ a8).trans (H.block k S i3)⟩
 skip
 have ex:g≠w.heap.size:=a8;obtain⟨dd,cy,dj,ap,dm,bl⟩:=dK key N bw ao (show(E.row [x]).length=1*E.k by rw[Nat.one_mul];exact bf) ah;have dh:=a6 (show i*E.k+1*E.k<=(E.row (xs.take i)++d).toArray.size by rw[bu];omega);have ez:(D xs:Int)+1-(i:Int)=((D xs+1-i:Nat):Int):=a8;have ag:(0:Int)<=(i:Int)+1:=a8;have ej:¬G=i+1:=a8;have ek:¬c=i:=a8;have fe:¬G=i:=a8;have el:(i:Int)+1<=(D xs:Int)+1:=a8;have em:((i:Int)+1).toNat=i+1:=a8;have en:(i:Int)<=(D xs:Int)+1:=a8;have ff:((D xs:Int)+1-(i:Int)).toNat=D xs+1-i:=a8;have fg:(c:Int)<(D xs:Int)+1:=a8;have cg:min 1 (D xs+1-i)=1:=a8;have de:=a6 cg;generalize E.row (xs.take i)++d=bm at*;generalize dr:w.drew.alloc (U bm.toArray (ρ.t 9))=ep at*;clear key N bw A an ao ai bs s ah F cq cr B bb ar r ac p q ad be h t T ak am ab aj av ds bu cm ci au dq cg dr bf ct cu cv eo ax;obtain⟨_,_,W⟩:=L.f22;go_enter W,Body2.n22_ntmps ρ;go_wp2_with(first|(at_builtin;refine Lib.wpList_append_run _ rfl _ _ _ _ rfl _ _ rfl rfl _ _ aw ?_)|(refine gT rfl (Tm 43) (Tm 44) (ρ.t 24) (ρ.t 24) rfl (ρ.t 9) (f).u E.k al w (i*E.k) _ _ 1 1 1 ⟨n,0,J⟩ rfl rfl bm.toArray (ρ.t 9) cy de _ dm dh dj ap.O ?_;intro l bp dx fc;have bd:=dd l (by have:=bl.O;rw[List.toList_toArray,this]at bp;exact bp) dx;have az:=bd.1 (ρ.t 3) (G-(i+1)) (c-i);have bk:=a6 bd.2;clear bd));go_region_law_o (refine step_copy_runI rfl _ _ (ρ.t 24) (ρ.t 24) rfl (Z (So ⟨w,(i+1)*E.k,J⟩) (D xs-i) (G-(i+1))) (Z (So ⟨g,i*E.k,J⟩) (D xs-i) (c-i)) (by simp[Act.eval,Act.put]) (by simp[Act.eval,Act.put]) az ?_)
 go_wp2;go_ret;exact⟨_,rfl,bk.1,bk.2,.inr rfl⟩
end
theorem VT:a15 prog ⟨λ|22=>420|29=>449|30=>450|n=>n,λ|24=>29|9=>94|0=>0|3=>3|4=>4|n=>n,λn=>n⟩ 2:=by
 constructor
 case f22=>exact⟨f420.name,e6,func420.trans (congrArg So g6)⟩
 case ov=>exact λargs w=>run_callFunc_extern func449 g6 g6 g6 (e:=Extern.SlicesOverlaps.overlaps #[29,29] #[4]) g6 args w
 all_goals first|(intro w;kernel_rfl)|kernel_rfl
theorem a1g:a15 prog ⟨λ|22=>381|29=>426|30=>427|n=>n,λ|24=>28|9=>3|0=>0|3=>3|4=>4|n=>n,λn=>n⟩ 1:=by
 constructor
 case f22=>exact⟨f381.name,e6,func381.trans (congrArg So g6)⟩
 case ov=>exact λargs w=>run_callFunc_extern func426 g6 g6 g6 (e:=Extern.SlicesOverlaps.overlaps #[28,28] #[4]) g6 args w
 all_goals first|(intro w;kernel_rfl)|kernel_rfl
theorem a1f:a15 prog ⟨λ|22=>385|29=>431|30=>432|n=>n,λ|24=>33|9=>32|0=>0|3=>3|4=>4|n=>n,λn=>n⟩ 1:=by
 constructor
 case f22=>exact⟨f385.name,e6,func385.trans (congrArg So g6)⟩
 case ov=>exact λargs w=>run_callFunc_extern func431 g6 g6 g6 (e:=Extern.SlicesOverlaps.overlaps #[33,33] #[4]) g6 args w
 all_goals first|(intro w;kernel_rfl)|kernel_rfl
end
def CQ(p:Nat->Bool):Nat->Nat->Nat->Nat
 |0,i,_=>i
 |f+1,i,j=>if i<j then(if p ((i+j)/2)then CQ p f ((i+j)/2+1) j else CQ p f i ((i+j)/2))else i
theorem qZ(p:Nat->Bool):∀f i j,i<=j->CQ p f i j<=j
 |0,i,j,h=>h
 |f+1,i,j,h=>by unfold CQ;split;split;exact qZ p f _ _ a8;exact b6 (qZ p f _ _ a8) a8;exact h
theorem iZ(p:Nat->Bool)(f i:Nat):CQ p f i i=i:=by cases f;rfl;unfold CQ;rw[if_neg a8]
def xQ(xs:List n0)(s:g4)(h:Nat):Int:=match xs[h]? with
 |some x=>Lib.compareBytes x.1.data.toList s.data.toList
 |none=>0
def QJ(xs:List n0)(s:g4):Nat:=CQ (λh=>Dc (xQ xs s h<0)) (D xs) 0 (D xs)
def dN(xs:List n0)(s:g4):Bool:=Dc (QJ xs s<D xs)&&xQ xs s (QJ xs s)==0
theorem a6t(F:p1)(c:Nat)(xs:List n0)(s:g4)(w:Wd)(ah:D xs<=1000000)(N:i5 w F (a2J.row xs)):
 Ca prog 417 #[Z F (D xs) c,Y s,Fc (.func 418) #[] #[]] w λe v=>e=X (Tp #[I M (QJ xs s:Nat),O (dN xs s)])/\a9 w v:=by
 obtain⟨R,h⟩:∃R,R=QJ xs s:=⟨_,rfl⟩;obtain⟨B,j⟩:∃B,B=dN xs s:=⟨_,rfl⟩;have L:B=(Dc (R<D xs)&&xQ xs s R==0):=by rw[j,h];rfl
 rw[<-h,<-j];unfold QJ at h;obtain⟨T,H⟩:=j0 L N;have P:∀(m:Nat)(Q:m<D xs),xQ xs s m=Lib.compareBytes xs[m].1.data.toList s.data.toList:=λm Q=>by unfold xQ;rw[e9 Q]
 have G:=a6 P;have ad:=λi=>iZ (λm=>Dc (xQ xs s m<0)) 0 i
 clear j L N P ad;go_wp2;go_loopg [9,10] (D xs) (λae ag af wr=>∃g d f:Nat,ag=I M g/\af=I M d/\g<=d/\d<=D xs/\d-g<=ae/\d-g<=f/\R=CQ (λm=>Dc (xQ xs s m<0)) f g d/\a9 w wr);exact⟨0,D xs,D xs,rfl,rfl,c6 _,a7 _,a8,a8,h,a9.refl _⟩;clear h;obtain⟨g,d,f,rfl,rfl,ak,ab,aj,ai,h,n⟩:=hrel;by_cases ac:g<d
 ·have E:(g+d)/2<D xs:=a8;have k:=H.h n;obtain⟨b,o,rfl,aa⟩:=k.rows e6 a8;have A:=k.l E (r:=0) rfl;have C:=k.l E (r:=1) rfl;obtain⟨f,rfl⟩:∃W,f=W+1:=⟨f-1,a8⟩;unfold CQ at h;rw[if_pos ac,G _ E]at h;generalize xs[(g+d)/2]=x at*;have l:=BM x s wr;obtain⟨q,a⟩:=x;simp only[a2J,j8]at A C l;dsimp only at h l;generalize Lib.compareBytes q.data.toList s.data.toList=r at*;have u:=a6 l;clear l k;by_cases S:r<0;·rw[if_pos (decide_eq_true S)]at h;have z:=a6 h;clear h;go_wp2_with fail;apply u.mono;rintro e v⟨rfl,t⟩;go_wp2;go_roundg (d-((g+d)/2+1));exact⟨(g+d)/2+1,d,f,by rw[(a8:((g:Int)+(d:Int))/2+1=(((g+d)/2+1:Nat):Int))],rfl,a8,ab,a7 _,a8,z.O,n.trans t⟩;omega
  rw[decide_eq_false S,if_neg e6]at h;have z:=a6 h;clear h;go_wp2_with fail;apply u.mono;rintro e v⟨rfl,t⟩;go_wp2;go_roundg ((g+d)/2-g);exact⟨g,(g+d)/2,f,rfl,by rw[(a8:((g:Int)+(d:Int))/2=(((g+d)/2:Nat):Int))],a8,a8,a7 _,a8,z.O,n.trans t⟩;omega
 obtain rfl:g=d:=a8;rw[iZ]at h;have j:=T.O;rw[h]at j;subst h;by_cases p:R<D xs;·have k:=H.h n;obtain⟨b,o,rfl,aa⟩:=k.rows e6 a8;have A:=k.l p (r:=0) rfl;have C:=k.l p (r:=1) rfl;rw[G _ p]at j;generalize xs[R]=x at*;have l:=BM x s wr;obtain⟨q,a⟩:=x;simp only[a2J,j8]at A C l;dsimp only at j l;generalize Lib.compareBytes q.data.toList s.data.toList=r at*;obtain⟨u,y⟩:=j0 l j;clear l k j;go_wp2_with fail;apply u.mono;rintro e v⟨rfl,t⟩;go_wp2;go_ret2;exact⟨by rw[y.O];simp[p],n.trans t⟩
 have y:=a6 j;clear j;go_wp2;go_ret2;exact⟨by rw[y.O];simp[p],n⟩
section
def fU(m:Int)(xs:List n0)(s:g4)(a:Int):List n0:=if A6 m xs then(if dN xs s then xs.set (QJ xs s) (s,a)else P4 xs (QJ xs s) (s,a))else xs
structure I3(w:Wd)(g base:Nat)(m:Int)(v:Va)(xs:List n0):Prop where
 b:e7 w g 31 #[I U8 m,v]
 o:c7 w base 94 a2J v xs
section
variable {w w':Wd} {g base:Nat} {m:Int} {v:Va} {xs:List n0}
theorem I3.h(h:I3 w g base m v xs)(x:a9 w w'):I3 w' g base m v xs:=⟨h.b.h x,h.o.h x⟩
theorem I3.put{u d:Va}(a:e7 w g 31 #[u,d])(o:c7 w base 94 a2J v xs):I3 ((w.setCell ⟨g,0,J⟩ (I U8 m)).setCell ⟨g,1,J⟩ v) g base m v xs:=
 have n:=o.ne a e6;have b:=a.f 0 (I U8 m);have c:=o.kept (c8 _ g 0 (I U8 m)) (.inr n)
 ⟨b.f 1 v,c.kept (c8 _ g 1 v) (.inr n)⟩
end
theorem a9.f{W w w':Wd}{row:Option Nat}(e:a9 W w)(c:w.grownBy w' row)(d:∀k,row=So k->W.heap.size<=k):a9 W w':=
 (MV.l (Xa:=λb=>row=So b) (O1:=λb=>row=So b) c (λk a=>a) (λb a=> .inl a)).b e d
theorem OP{xs:List n0}{s:g4}(h:dN xs s=Bt):QJ xs s<D xs:=by unfold dN at h;simp only[j3,decide_eq_true_eq]at h;exact h.1
theorem a1v(m:Int)(cw:0<=m)(f:p1)(c:Nat)(xs:List n0)(s:g4)(a:Int)(w:Wd)(dt:D xs<=100000)(bs:i5 w f (a2J.row xs))(bp:∀a,f=So a->a.spot=J):
 Ca prog 370 #[Ag #[I U8 m,Z f (D xs) c],Y s,I V a] w λe w'=>∃v,e=X (Ag #[I U8 m,v])/\c7 w' w 94 a2J v (fU m xs s a)/\a9 w w':=by
 have ba:a9 w ((w.alloc (U #[I U8 m,Z f (D xs) c] 31)).alloc (U #[I U8 0,Z J 0 0] 31)):=((a9.refl w).alloc _).alloc _;have bj:e7 ((w.alloc (U #[I U8 m,Z f (D xs) c] 31)).alloc (U #[I U8 0,Z J 0 0] 31)) w 31 #[I U8 m,Z f (D xs) c]:=(e7.new w _ _).alloc _;have bm:e7 ((w.alloc (U #[I U8 m,Z f (D xs) c] 31)).alloc (U #[I U8 0,Z J 0 0] 31)) (w+1) 31 #[I U8 0,Z J 0 0]:=e7.b i3;have bb:((w.alloc (U #[I U8 m,Z f (D xs) c] 31)).alloc (U #[I U8 0,Z J 0 0] 31)).heap.size=w.heap.size+2:=i3;have bf:=a6 (gF m f c xs _ a8 (bs.h ba) bp);have key:∀b v,c7 b (w+2) 94 a2J v xs->a9 ((w.alloc (U #[I U8 m,Z f (D xs) c] 31)).alloc (U #[I U8 0,Z J 0 0] 31)) b->
   I3 ((b.setCell ⟨w,0,J⟩ (I U8 m)).setCell ⟨w,1,J⟩ v) w (w+2) m v xs/\e7 ((b.setCell ⟨w,0,J⟩ (I U8 m)).setCell ⟨w,1,J⟩ v) (w+1) 31 #[I U8 0,Z J 0 0]/\a9 w ((b.setCell ⟨w,0,J⟩ (I U8 m)).setCell ⟨w,1,J⟩ v)/\((b.setCell ⟨w,0,J⟩ (I U8 m)).setCell ⟨w,1,J⟩ v).heap.size=b.heap.size/\e7 b w 31 #[I U8 m,Z f (D xs) c]:=λb v C az=>by
  have bk:=bj.h az
  exact⟨I3.put bk C,((bm.h az).far i3 _).far i3 _,((ba.trans az).set (p:=⟨w,0,J⟩) (a7 _) _).set (p:=⟨w,1,J⟩) (a7 _) _,i3,bk⟩
 have bg:=a6 key;obtain⟨R,ah⟩:∃R,R=fU m xs s a:=⟨_,rfl⟩;rw[<-ah];unfold fU at ah;obtain⟨cr,bh⟩:=j0 bb ah;rw[bb]at bf;clear bs ba bj bm bb key bp ah;go_in;go_wp2_with fail;apply bf.mono;rintro e b⟨v,rfl,C,ca⟩;obtain⟨ae,bt,bu,du,ad⟩:=bg b v C ca;have av:=C;obtain⟨t,h,rfl⟩:=C.b;obtain⟨dy,dz⟩:=ad.c2;have dq:=ad.frozen 0;have dr:=ad.frozen 1;obtain⟨ea,eb⟩:=ae.b.c2;obtain⟨n,al,am,G⟩:=F6 ae bt bu (λW(ap:a9 ((b.setCell ⟨w,0,J⟩ (I U8 m)).setCell ⟨w,1,J⟩ (Z t (D xs) h)) W)=>iM m cw t (D xs) h xs W rfl a8 (by obtain⟨ci,ct,e,_,_,an⟩:=(ae.o.h ap).inM;cases e;exact an));clear C ae bt bu ad av bg;have dv:w+2<=b.heap.size:=by rw[<-cr.O];exact ca.size
 have o:=bh.O;clear bh;rcases ai:A6 m xs with _|_
 ·rw[ai]at o G;have H:=a6 (show R=xs from o);clear o ai;go_wp2_with fail;refine l4 (G _ (a9.refl _)) λaj q=>?_;have bq:=n.h q;have ag:=al.h q;have cx:=am.trans q;have aa:=(bq).b;obtain⟨cc,cd⟩:=aa.c2;obtain⟨ce,cf⟩:=(ag).c2;have cg:=(ag).frozen 0;have ch:=(ag).frozen 1;have L:=I3.put (m:=m) ag (bq).o;have N:=((cx).set (p:=⟨w+1,0,J⟩) (by show w<=w.heap.size+1;omega) (I U8 m)).set (p:=⟨w+1,1,J⟩) (by show w<=w.heap.size+1;omega) (Z t (D xs) h);obtain⟨u,F⟩:=j0 L N;clear L N aa;go_wp2_with fail;exact F9 u.b underlying31 ⟨_,rfl,by rw[H.O];exact u.o.mono a8,F.O⟩
 rw[ai]at o G;rw[if_pos rfl]at o;have be:=a6 (λW(ap:a9 ((b.setCell ⟨w,0,J⟩ (I U8 m)).setCell ⟨w,1,J⟩ (Z t (D xs) h)) W)=>a6t t h xs s W a8 (by obtain⟨ci,ct,e,_,_,an⟩:=(n.o.h ap).inM;cases e;exact an));have de:QJ xs s<=D xs:=qZ _ _ _ _ (c6 _);have aq:=OP (xs:=xs) (s:=s);generalize dN xs s=cv at*;generalize QJ xs s=i at*;clear ai;rcases cv with _|_
 ·have H:=a6 (show R=P4 xs i (s,a)from o);clear o aq;go_wp2_with fail;refine l4 (G _ (a9.refl _)) λaj q=>?_;obtain⟨di,dj⟩:=(n.h q).b.c2;have T:=q.alloc (U #[Y s,I V a] 94);have b4:=e7.new aj 94 #[Y s,I V a];obtain⟨ak,d⟩:=j0 b4 T;clear b4 T;have dh:=((n.h d.O).b).cell 1;go_wp2_with fail;refine l4 (be _ d.O) λr l=>?_;have j:=n.h (d.trans l);have dk:=j.b.cell 1;obtain⟨dl,dm⟩:=(ak.h l).c2;have dw:b<=r.heap.size:=by have:=(d.trans l).size;omega
  obtain⟨co,ab,cp,cq⟩:=F6 (RZ (E:=a2J) VT PY (s,a) (Z t (D xs) h) xs (w+2) i r (r.alloc (U #[Y s,I V a] 94)) a8 de ((j.o).h ((a9.refl r).alloc _)) (e7.new r _ _) (λe=>by have:=(j.o.lt e).2;omega) G6) (j.h ((a9.refl r).alloc (U #[Y s,I V a] 94))) ((al.h (d.trans l)).alloc (U #[Y s,I V a] 94)) ((am.trans (d.trans l)).alloc (U #[Y s,I V a] 94));clear j;go_wp2_with fail;apply co.mono;rintro e dn⟨v',rfl,aw,ar,ds⟩;have df:So w.heap.size≠(Z t (D xs) h).ownBlock:=λe=>by have:=(ab.o.lt e.symm).1;omega
  have dg:So (w.heap.size+1)≠(Z t (D xs) h).ownBlock:=λe=>by have:=(ab.o.lt e.symm).1;omega
  have P:=ab.b.grown ar df;have bn:=cp.grown ar dg;have bw:=cq.f ar (λk au=>by have:=(ab.o.lt au).1;omega);obtain⟨x,z,y,rfl⟩:=aw.f;have ec:=P.cell 1;have ed:=P.frozen 1;have bl:=P.f 1 (Z x z y);have cb:=aw.ne P e6;have br:I3 (dn.setCell ⟨w,1,J⟩ (Z x z y)) w (w+2) m (Z x z y) (P4 xs i (s,a)):=⟨bl,aw.kept (c8 _ w 1 (Z x z y)) (.inr cb)⟩;have ac:=bn.far (p:=⟨w,1,J⟩) i3 (Z x z y);have cy:=bw.set (p:=⟨w,1,J⟩) (a7 _) (Z x z y);clear bl cb P bn bw;have aa:=(br).b;obtain⟨cc,cd⟩:=aa.c2;obtain⟨ce,cf⟩:=(ac).c2;have cg:=(ac).frozen 0;have ch:=(ac).frozen 1;have L:=I3.put (m:=m) ac (br).o;have N:=((cy).set (p:=⟨w+1,0,J⟩) (by show w<=w.heap.size+1;omega) (I U8 m)).set (p:=⟨w+1,1,J⟩) (by show w<=w.heap.size+1;omega) (Z x z y);obtain⟨u,F⟩:=j0 L N;clear L N aa;go_wp2_with fail;exact F9 u.b underlying31 ⟨_,rfl,by rw[H.O];exact u.o.mono a8,F.O⟩
 have H:=a6 (show R=xs.set i (s,a)from o);have av:=aq rfl;clear o aq;obtain⟨g,cs,Jq,rfl,-,cz,-,-,db,-,-⟩:=n.o.blk a8;go_wp2_with fail;refine l4 (G _ (a9.refl _)) λaj q=>?_;obtain⟨di,dj⟩:=(n.h q).b.c2;have T:=q.alloc (U #[Y s,I V a] 94);have b4:=e7.new aj 94 #[Y s,I V a];obtain⟨ak,d⟩:=j0 b4 T;clear b4 T;have dh:=((n.h d.O).b).cell 1;go_wp2_with fail;refine l4 (be _ d.O) λr l=>?_;have j:=n.h (d.trans l);have dk:=j.b.cell 1;obtain⟨dl,dm⟩:=(ak.h l).c2;obtain⟨dp,Q,bi,cu,-,-,bc,da,-,ax,bz⟩:=j.o.blk a8;cases cu;have ay:Q.size=h*2:=ax;have bd:e7 r g 94 Q.toList.toArray:=by rw[Array.toArray_toList];exact bc
 have P5:=row_set (E:=a2J) xs i (s,a) bi av;have dc:So w.heap.size≠So g:=by simp;omega
 have dd:So (w.heap.size+1)≠So g:=by simp;omega
 have cm:=a6 (λA(ao:e7 A g 94 (splice Q.toList (i*2) [Y s,I V a]).toArray)(S:r.grownBy A (So g))=>
  show I3 A w (w+2) m (Z (So ⟨g,0,J⟩) (D xs) h) (xs.set i (s,a))/\e7 A (w+1) 31 #[I U8 0,Z J 0 0]/\a9 w A from
  ⟨⟨j.b.grown S dc,c7.mk2 (Jq:=bi) cz ao i3 da db (by rw[List.size_toArray,M4 _ _ _ (by simp[ay];omega)];exact ax) (by rw[bz];exact P5)⟩,(al.h (d.trans l)).grown S dd,(am.trans (d.trans l)).f S (λk au=>by cases au;omega)⟩)
 have ck:=a6 bd;have bx:i*2+(#[Y s,I V a]:Array Va).size<=D Q.toList:=by simp[ay];omega
 have bo:∀v∈(#[Y s,I V a]:Array Va).toList,v.oneCell'=Bt:=nA;obtain⟨cn,cj⟩:=j0 bx bo;have dx:(i:Int)<D xs:=a8;clear j bc bd ax bz ay P5 bx bo;go_wp2_with(refine D2 rfl 94 (Tm 31) (Tm 30) rfl g (i*2) 94 Q.toList #[Y s,I V a] rfl rfl ck cn g6 cj.O ?_;intro A ao S;obtain⟨af,B,bv⟩:=cm A ao S;have cc:=af.b.cell 0;have cd:=af.b.cell 1;have ce:=B.cell 0;have cf:=B.cell 1;have cg:=B.frozen 0;have ch:=B.frozen 1;have u:=a6 (I3.put (m:=m) B af.o);have F:=a6 ((bv.set (p:=⟨w+1,0,J⟩) (Nat.le_succ _) (I U8 m)).set (p:=⟨w+1,1,J⟩) (Nat.le_succ _) (Z (So ⟨g,0,J⟩) (D xs) h));clear af B bv);exact F9 u.b underlying31 ⟨_,rfl,by rw[H.O];exact u.o.mono a8,F.O⟩
end
end Go.Proofs.YtcljlejgllkcjaaGreat
