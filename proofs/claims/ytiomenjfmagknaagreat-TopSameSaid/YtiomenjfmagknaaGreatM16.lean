/- A part of the proof of TopSame: lemmas on the walks of its calls. -/
import Derived.Shelf.SlicesE.DeleteFunc
import Derived.Test.YtiomenjfmagknaaGreatM15
set_option maxHeartbeats 12000000
set_option linter.all false
set_option maxRecDepth 100000
namespace Go.Proofs.YtiomenjfmagknaaGreat
open Go.RowKit Go.ChangeShapes Go.WideShapes Tryz
open Bool renaming true→Bt,false→Bf
open Decidable renaming decide→Dc
open Ending renaming returned→X
open Go renaming World→Wd,Value→Va,Calls→Ca,callsIn_wide→Cw,undef→Un,bodyPost_ret→Bp,TypeId→Ti,Addr→Ad,results_none→Rz,callsIn_of_wp_marks→Cm,callsIn_of_wp→Co,CallsIn→Ci
open Go.Proofs renaming enters_of→Eo
open Int renaming toNat_natCast→a4A
open IntKind renaming i64→M,u32→V,u64→U6,u8→U8
open IntWalk renaming i64_in→a37
open Lib renaming hid→a6
open List renaming getD_eq_getElem?_getD→a8,getElem?_eq_getElem→e9,replicate→a2A,length_cons→a3W
open Nat renaming le_refl→a7,le_trans→c8,reduceAdd→l9,zero_le→i5,add_zero→a4z,reduceSub→a4D
open Obj renaming cells→U
open Operand renaming tmp→Tm
open Option renaming none→J,some→So
open Value renaming int→I,slice→Z,string→Y,pointer→K,bool→O,func→Fc,tuple→Tp,agg→Ag
theorem a2I:∀(l:List m8)(lo hi:Int),CH lo hi l→lo≤hi
 |[],lo,hi,h=>Int.le_of_eq h
 |s::r,lo,hi,h=>by have:=a2I r _ hi h.2.2;have:=h.2.1;omega
theorem MM(n:Option Ad)(c:Nat)(l:List m8)(w:Wd)(H:l.length≤1000000)(p:CH 0 4294967296 l)(o:h9 w n (S2.row l)):
  Ca prog 266 #[Z n l.length c] w fun e C=>e=X (O Bt)∧a9 w C:=by
 have f:=a6 o;clear o;go_in;go_wp2_with fail
 go_loopw [3,8] (fun A B wr=>∃(k:Nat)(lo:Int),k≤l.length∧A=I U6 lo∧B=I M k∧0≤lo∧CH lo 4294967296 (l.drop k)∧a9 w wr) (fun _ i _=>l.length-(intOf i).toNat)
 case atStart=>exact⟨0,0,i5 _,rfl,rfl,Int.le_refl 0,p,a9.refl w⟩
 case round=>
  clear p;obtain⟨k,lo,N,rfl,rfl,F,h,d⟩:=hrel;by_cases j:k<l.length
  ·obtain⟨b,P,rfl,L⟩:=(f.h d).rows (by decide) (by omega)
   have x:=(f.h d).b j (r:=0) rfl;have y:=(f.h d).b j (r:=1) rfl;have z:=(f.h d).b j (r:=2) rfl;simp only[S2,a4z]at x y z;rw[List.drop_eq_getElem_cons j]at h;generalize l[k]=s at*;obtain⟨g,a,D⟩:=s;obtain⟨t,G,m⟩:=h;dsimp only at*;subst t;have u:=a2I _ _ _ m;have Q:IntKind.u64.wrap g=g:=IntWalk.u64_in _ (by omega);have R:IntKind.u64.wrap a=a:=IntWalk.u64_in _ (by omega);have S:IntKind.u64.wrap (a+1)=a+1:=IntWalk.u64_in _ (by omega);have E:Dc (a<g)=Bf:=by simp;omega
   have v:=d.alloc (U #[I V g,I V a,I M D] 388);have q:=a6 m;clear m u;go_wp2_with fail
   go_roundw
   case rel=>exact⟨k+1,a+1,by omega,rfl,by go_num,by omega,q.out,v⟩
   case measure=>simp[intOf];omega
  ·obtain rfl:k=l.length:=by omega
   rw[List.drop_length]at h;obtain rfl:lo=4294967296:=h;go_wp2_with fail
   go_ret;exact⟨rfl,d⟩
theorem LV(base c:Nat)(v:Va)(l:List m8)(w:Wd)(D:l.length≤10000)(k:0<l.length)(n:CH 0 4294967296 l)(b:e4 w base 388 S2 v l)(E:(gr l.length l 0).length≤100000):
  Ca prog 201 #[v] w fun e o=>∃v,e=X (Tp #[v,I M 0])∧e4 o w 390 aK v (gr l.length l 0)∧a9 w o:=by
 obtain⟨z,j,rfl,t,_,m⟩:=b.inM;obtain⟨gb,cs,Jq,rfl,_⟩:=b.blk k;obtain⟨q,p⟩:=i6 (fun i(s:a9 w i)=>MM gb j l i (by omega) n (m.h s)) b;clear b m n;go_in;go_wp2_with fail
 apply(q _ (a9.refl w)).mono;rintro e a⟨rfl,d⟩;have f:a9 a ((a.alloc (U #[Z J 0 0] 315)).alloc (U #[tS a (a+1)] 386)):=((a9.refl a).alloc _).alloc _;have g:=yX l.length l (a7 _) k gb 0 j a (a+1) a _ [] _ ⟨b9.b (by simp),(b9.new a _ _).alloc _,e4.nil _ _ _ _,f.size,a7 _⟩ ((p.h (d.trans f)).ty) t (by omega) (by simp;omega);obtain⟨g,r⟩:=i6 g (d.trans f);clear f;go_wp2_with fail
 apply g.mono;rintro e H⟨rfl,G,h,y⟩;have B:=h.t.cell 0;obtain⟨A,F,C,rfl⟩:=h.o.f;have u:=y.b r d.size;have x:=h.o.mono d.size;go_wp2_with fail
 go_ret2
 exact⟨_,rfl,x,u⟩
section
attribute [local go_sem] Oper.semAt_some
theorem a2g:mU prog 312 388 (Ag #[I V 0,I V 0,I M 0]) 3 16:=⟨underlying312,by kernel_rfl,rfl,by decide,by decide⟩
def S5:List Ti:=[388,312]
def mgB(xs:List m8)(s:m8):Bool:=Dc (0<xs.length)&&(xs.getD (xs.length-1) rV).way==s.way
def sF(xs:List m8)(s:m8):List m8:=if mgB xs s then xs.set (xs.length-1) ⟨(xs.getD (xs.length-1) rV).fr,s.tp,(xs.getD (xs.length-1) rV).way⟩else xs++[s]
theorem a06(xs:List m8)(s:m8):(sF xs s).length≤xs.length+1:=by unfold sF;split<;>simp
theorem Tv.from{B d:Nat}{S:List Ti}{w c:Wd}(a:Tv B S w c):KeepsFrom d w c:=⟨a.size,fun k b _ f e=>a.keep k b f (.inr (by cases b<;>first|rfl|cases e))⟩
theorem OB(gb base B:Nat)(v:Va)(xs:List m8)(s:m8)(w:Wd)(ak:b9 w gb 312 #[v])(ac:e4 w base 388 S2 v xs)(aj:B≤base)(az:B≤gb)(ax:base≤w)(ba:xs.length+1≤1000000):
  Ca prog 351 #[dA s,K gb] w fun e ao=>e=X (Tp #[])∧∃v',b9 ao gb 312 #[v']∧e4 ao base 388 S2 v' (sF xs s)∧Tv B S5 w ao:=by
 have G:=(a9.refl w).alloc (U #[I V s.fr,I V s.tp,I M s.way] 388);have N:=b9.new w 388 #[I V s.fr,I V s.tp,I M s.way];obtain⟨ag,c,rfl,_⟩:=ac.inM;have aa:=(ak.h G).cell 0;obtain⟨l,Q⟩:=i6 ak ac;obtain⟨R,f⟩:∃R,sF xs s=R:=⟨_,rfl⟩;rw[f];unfold sF mgB at f;clear ak ac;unfold dA;by_cases ad:xs.length=0
 ·have bl:Dc (0<xs.length)=Bf:=by simp[ad]
  rw[if_neg (by simp[ad])]at f;have T:=a6 f.symm;clear f ad;go_in;go_wp2_with fail
  refine e7 rfl [.is ?Bt,.is ?Bu,.is ?Bv,.is Un,.is Un,.is Un,.is Un,.is Un,.is Un,.is Un,.is Un,.is Un,.is ?Bw] (by kernel_rfl) ?Bx ?Aa ⟨?Ab,?Ac,?Ad,?Ae,?Af,?Ag,?Ah,?Ai,?Aj,?Ak,?Al,?Am,?An,trivial⟩ ?Ao
  case Aa=>intro x;simp only[e6,Act.put,uL,l9]<;>rfl
  case Ab|Ac|Ad|An=>
   intro x a b;simp only[e5,j8,uV];repeat(intro d;try simp only[d])
   go_wp2_with fail
   refine a0e ?_ rfl (a9.refl _);rfl
  case Ae|Af|Ag|Ah|Ai|Aj|Ak|Al|Am=>
   intro x a b;simp only[e5,j8,uV];repeat(intro d;try simp only[d])
   exact g5 (by first|decide|simp[Z5]) (by first|rfl|trivial)
  case Ao=>
   intro x a b;simp only[l8,e5,j8,uV];intro n o u y z A C D E F p q t;simp only[n,o,u,y,z,A,C,D,E,F,p,q,t];clear n o u y z A C D E F p q t;have h:=a6 (G.trans b);clear aa;have av:(a).cell? ⟨gb,0,J⟩=So (Z ag xs.length c):=(l.h h.out).cell 0;obtain⟨bq,be,br⟩:=(N.h b).c3;obtain⟨P,H⟩:=i6 ((l.h h.out).alloc (U #[I V s.fr,I V s.tp,I M s.way] 388)) ((Q.h h.out).h ((a9.refl a).alloc (U #[I V s.fr,I V s.tp,I M s.way] 388)));go_wp2_with(at_builtin;go_loud (refine j3 rfl (Tm 26) (Tm 28) 312 388 rfl a2g base _ xs rfl H _ 1 1 [s] rfl rfl (fF (by simp) rfl) ba (c8 ax (h.alloc _).size) ?_;intro bs ap L bp ab bk;have i:=P.grown ab (fun e=>H.ne P (by decide) e.symm);have bj:=i.frozen 0;have bi:=i.cell 0;have am:Tv B S5 _ ap:= .ofOwn H ab aj (by decide);obtain⟨ah,al,ai,rfl⟩:=L.f))
   go_end0
   have an:=Tv.r i az (S:=S5) (by decide) 0 (Z ah al ai);exact⟨rfl,_,i.f 0 _,by rw[T.out];exact L.kept (x4 _ gb 0 _) (.inr (L.ne i (by decide))),((Tv.f (h.alloc _)).trans am).trans an⟩
 ·obtain⟨m,bm⟩:∃m,xs.length=m+1:=⟨xs.length-1,by omega⟩
  obtain⟨j,rfl⟩:∃j,ag=So ⟨j,0,J⟩:=by
   obtain⟨g,cs,Jq,e,_⟩:=Q.blk (by omega);exact⟨g,e⟩
  have ae:m<xs.length:=by omega
  have bl:Dc (0<xs.length)=Bt:=by simp;omega
  have bw:IntKind.i64.wrap ((xs.length:Int)-1)=(m:Int):=by rw[a37 _ (by omega)];omega
  have bv:(m:Int)<(xs.length:Int):=by omega
  have bf:=a6 (Q.i.1);have k2:∀a,a9 w a→a.cell? ⟨j,m*3+2,J⟩=So (I M xs[m].way):=fun a b=>(bf.h b).elt0 ae (r:=2) rfl
  have ay:xs.getD (xs.length-1) rV=xs[m]:=by
   rw[show xs.length-1=m by omega];exact x0 ae
  rw[ay,show Dc (0<xs.length)=Bt by simp;omega,Bool.true_and,show xs.length-1=m by omega]at f;have ar:=a6 k2;clear k2 ay ad bm;generalize bc:xs[m]=af at*;have au:=a6 bc;clear bc;cases bb:af.way==s.way
  ·rw[bb,if_neg (by decide)]at f
   have T:=a6 f.symm;clear f;go_in;go_wp2_with fail
   refine e7 rfl [.is ?By,.is ?Bz,.is ?Ca,.is ?Cb,.is ?Cc,.is ?Cd,.is ?Ce,.is ?Cf,.is ?Cg,.is ?Ch,.is ?Ci,.is ?Cj,.is ?Ck] (by kernel_rfl) ?Cl ?Ap ⟨?Aq,?Ar,?As,?At,?Au,?Av,?Aw,?Ax,?Ay,?Az,?Ba,?Bb,?Bc,trivial⟩ ?Bd
   case Ap=>intro x;simp only[e6,Act.put,uL,l9]<;>rfl
   case Aq|Ar|As|At|Au|Av|Aw|Ax|Ay|Az|Ba|Bb|Bc=>
    intro x a b;simp only[e5,j8,uV];repeat(intro d;try simp only[d])
    try refine g9 (by first|rfl|simp) ?_
    have aa:a.cell? ⟨gb,0,J⟩=So (Z (So ⟨j,0,J⟩) xs.length c):=(l.h (G.trans b)).cell 0;have k:=ar a (G.trans b);have bt:=(N.h b).cell 2;go_wp2_with fail
    refine a0e ?_ rfl (a9.refl _);rfl
   case Bd=>
    intro x a b;simp only[l8,e5,j8,uV];intro n o u y z A C D E F p q t;simp only[n,o,u,y,z,A,C,D,E,F,p,q,t];clear n o u y z A C D E F p q t;have h:=a6 (G.trans b);clear aa;have av:(a).cell? ⟨gb,0,J⟩=So (Z (So ⟨j,0,J⟩) xs.length c):=(l.h h.out).cell 0;obtain⟨bq,be,br⟩:=(N.h b).c3;obtain⟨P,H⟩:=i6 ((l.h h.out).alloc (U #[I V s.fr,I V s.tp,I M s.way] 388)) ((Q.h h.out).h ((a9.refl a).alloc (U #[I V s.fr,I V s.tp,I M s.way] 388)));go_wp2_with(at_builtin;go_loud (refine j3 rfl (Tm 26) (Tm 28) 312 388 rfl a2g base _ xs rfl H _ 1 1 [s] rfl rfl (fF (by simp) rfl) ba (c8 ax (h.alloc _).size) ?_;intro bs ap L bp ab bk;have i:=P.grown ab (fun e=>H.ne P (by decide) e.symm);have bj:=i.frozen 0;have bi:=i.cell 0;have am:Tv B S5 _ ap:= .ofOwn H ab aj (by decide);obtain⟨ah,al,ai,rfl⟩:=L.f))
    go_end0
    have an:=Tv.r i az (S:=S5) (by decide) 0 (Z ah al ai);exact⟨rfl,_,i.f 0 _,by rw[T.out];exact L.kept (x4 _ gb 0 _) (.inr (L.ne i (by decide))),((Tv.f (h.alloc _)).trans am).trans an⟩
  ·rw[bb,if_pos rfl]at f
   have T:=a6 f.symm;clear f;go_in;go_wp2_with fail
   refine e7 rfl [.is ?Cm,.is ?Cn,.is ?Co,.is ?Cp,.is ?Cq,.is ?Cr,.is ?Cs,.is ?Ct,.is ?Cu,.is ?Cv,.is ?Cw,.is ?Cx,.is ?Cy] (by kernel_rfl) ?Cz ?Be ⟨?Bf,?Bg,?Bh,?Bi,?Bj,?Bk,?Bl,?Bm,?Bn,?Bo,?Bp,?Bq,?Br,trivial⟩ ?Bs
   case Be=>intro x;simp only[e6,Act.put,uL,l9]<;>rfl
   case Bf|Bg|Bh|Bi|Bj|Bk|Bl|Bm|Bn|Bo|Bp|Bq|Br=>
    intro x a b;simp only[e5,j8,uV];repeat(intro d;try simp only[d])
    try refine g9 (by first|rfl|simp) ?_
    have aa:a.cell? ⟨gb,0,J⟩=So (Z (So ⟨j,0,J⟩) xs.length c):=(l.h (G.trans b)).cell 0;have k:=ar a (G.trans b);have bt:=(N.h b).cell 2;go_wp2_with fail
    refine a0e ?_ rfl (a9.refl _);rfl
   case Bs=>
    intro x a b;simp only[l8,e5,j8,uV];intro n o u y z A C D E F p q t;simp only[n,o,u,y,z,A,C,D,E,F,p,q,t];clear n o u y z A C D E F p q t;have W:=a6 (G.trans b);clear aa;have av:a.cell? ⟨gb,0,J⟩=So (Z (So ⟨j,0,J⟩) xs.length c):=(l.h W.out).cell 0;have be:=(N.h b).cell 1;have Oq:=Q.h W.out;have bu:a.frozen? ⟨j,m*3+1,J⟩=Bf:=by obtain⟨ag,c,bo,ac⟩:=Oq;cases bo;exact ac.frozenAt (m*3+1)
    have k1:a.cell? ⟨j,m*3+1,J⟩=So (I V af.tp):=(Oq.i.1).elt0 ae (r:=1) (by rw[au.out];rfl);obtain⟨bd,aw⟩:=Oq.setF m 1 ae (by decide) (I V s.tp) ⟨af.fr,s.tp,af.way⟩ (by rw[au.out];rfl);have bn:So gb≠So j:=fun e=>Oq.ne (l.h W.out) (by decide) e.symm
    obtain⟨bh,aq,bg⟩:=p7 bd aw Oq;clear Oq bd aw;go_wp2_with fail
    refine Bp (Rz rfl _ _ _) rfl ⟨rfl,_,(l.h W.out).grown aq bn,by rw[T.out];exact bh.out,(Tv.f W.out).trans (.ofOwn bg aq aj (by decide))⟩
end
section
attribute [local go_sem] Oper.semAt_some
structure MgI(u:Wd)(z:Nat)(pre:List m8)(W:Wd):Prop where
 ou:∃v,b9 W u 312 #[v]∧e4 W (u+2) 388 S2 v (pre.foldl sF [])
 fn:b9 W (u+1) 457 #[Fc (.func 351) #[] #[K u]]
 x:a9 u W
 z:z≤W
theorem a17(u:Wd)(z:Nat)(i:u≤z):OwnFrom z (MgI u z):=fun j W W' row⟨⟨v,d,f⟩,g,c,h⟩ a b=>
 ⟨⟨v,e8 d a fun r e=>(b r e).2,f.l a fun r e=>(b r e).2⟩,e8 g a fun r e=>(b r e).2,Below.grown c a c.size (fun r e=>c8 i (b r e).1),c8 h a.size⟩
theorem KC:∀(l xs:List m8),(l.foldl sF xs).length≤xs.length+l.length
 |[],xs=>a7 _
 |s::l,xs=>by
  have a:=KC l (sF xs s);have b:=a06 xs s;rw[List.foldl_cons,a3W];omega
theorem wG:∀(a:List Int)(lo i:Int),(aT lo a i).length≤2*a.length+1
 |[],lo,i=>by unfold aT;split<;>simp
 |n::r,lo,i=>by
  have:=wG r (n+1) (i+1);unfold aT;split<;>simp<;>omega
def mgF(u:Nat)(l:Va)(g:Nat)(s:m8):Act:=
 {tmps:= #[l,Un,Z J 0 0,K u,K (u+1:Nat),K g,Fc (.func 351) #[] #[K u],l,dA s,Un,Un,Un,Un],defers:=[]}
def mgA(u:Nat)(l:Va)(x:m8)(b:Nat)(a:Act)(W:Wd):Prop:=∃g,b≤g∧a=mgF u l g x∧b9 W g 388 #[I V x.fr,I V x.tp,I M x.way]
theorem OA(b1 b2 b3 c N:Nat)(C D:Option Ad)(d:List Int)(ax:d.length≤900)(aa:N7 0 d)(u:Wd)(j:u.cell? ⟨b1,0,J⟩=So (Z C d.length c))(m:u.cell? ⟨b2,0,J⟩=So (I M 0))(o:u.cell? ⟨b3,0,J⟩=So (Z D d.length N))(R:h9 u C (i3 V d))(S:h9 u D (i3 M (O7 d.length))):
  Ci .wide 3 prog 264 #[Fc (.func 352) #[] #[K b1,K b2,K b3]] u fun e ad=>
   ∃v,e=X v∧e4 ad u 388 S2 v ((aT 0 d 1).foldl sF [])∧a9 u ad:=by
 have ai:=a6 (wF b1 b2 b3 c N C D d (by omega) aa u j m o R S);have az:=wG d 0 1;generalize aT 0 d 1=ap at*;clear j m o R S aa;refine Cm func264 rfl trivial ?_ rfl;simp only[ntmps264,uE,l9,a4D];have L:b9 ((u.alloc (U #[Z J 0 0] 312)).alloc (U #[Fc (.func 351) #[] #[K u]] 457)) u 312 #[Z J 0 0]:=(b9.new u _ _).alloc _;have H:b9 ((u.alloc (U #[Z J 0 0] 312)).alloc (U #[Fc (.func 351) #[] #[K u]] 457)) (u+1) 457 #[Fc (.func 351) #[] #[K u]]:=b9.b (by simp);have ab:a9 u ((u.alloc (U #[Z J 0 0] 312)).alloc (U #[Fc (.func 351) #[] #[K u]] 457)):=((a9.refl u).alloc _).alloc _;have ba:((u.alloc (U #[Z J 0 0] 312)).alloc (U #[Fc (.func 351) #[] #[K u]] 457)).heap.size=u.heap.size+2:=by simp
 gi_wp2_with fail
 generalize(u.alloc (U #[Z J 0 0] 312)).alloc (U #[Fc (.func 351) #[] #[K u]] 457)=w0 at*;refine s5 rfl (by decide) (gf:=352) (lb:= #[K b1,K b2,K b3]) rfl trivial (Eo func352 (by kernel_rfl) rfl)
  ai.out
  (fun i k q=>k (i q))
  (fun W l y z f i p al q=>Below.trans q (belowK_b (w:=w0) (by omega) W l y z f i p al)) (show Below _ u w0 from ab) (fun _=>rfl)
  (fun x W l y z Q f p=>trivial)
  (MgI u w0) (a17 u w0 (by omega))
  ⟨⟨_,L,e4.nil _ _ _ _⟩,H,ab,a7 _⟩
  (mgA u (Fc (.func 352) #[] #[K b1,K b2,K b3]))
  (fun x bg af W l y z⟨g,j,m,o⟩ f p=>⟨g,j,m,e8 o (grownBy_putObj' W l z) (fun r e=>by cases e;exact⟨y,f,p⟩)⟩)
  (fun _ _ _ i _=>trivial) (fun W W' e q=>q.trans e) ?Aa ?Ab ?Ac
 case Aa=>
  rintro l⟨a,b,c⟩ W aq Q h;unfold dA
  gi_wp2
  exact h _ _ ((a9.refl W).alloc _) ⟨W,a7 _,rfl,b9.new _ _ _⟩
 case Ab=>
  rintro l A x ar W af-⟨⟨v,t,s⟩,E,F,T⟩ Q⟨g,bb,rfl,aj⟩ av ay;have f:=KC A [];have ak:(A++[x]).foldl sF []=sF (A.foldl sF []) x:=by simp
  have G:=a6 (OB u (u+2) u v (A.foldl sF []) x W t s (by omega) (a7 _) (by omega) (by simp at f;omega));have ah:=E.cell 0;obtain⟨bc,bd,be⟩:=aj.c3;clear L H t;unfold mgF;unfold dA at G;gi_wp2_with(refine⟨trivial,?_⟩;gi_at_call 351;refine(CallsIn.inRound l ((Cw (n:=0)).2 G.out)).mono ?_;rintro e bf⟨rfl,ao,ag,an,B⟩)
  have ac:=B.b F (a7 _);exact⟨B.from,fun _=>ac,⟨ao,ag,by rw[ak];exact an⟩,B.blk E (.inr (by decide)),ac,c8 T B.size⟩
 case Ac=>
  rintro ae xs W aw am⟨⟨v,t,s⟩,E,F,T⟩ h;have ah:=t.cell 0;obtain⟨P,au,rfl⟩:=s.b;subst am
  gi_wp2
  refine⟨by simp,.inl ⟨_,_,rfl,run_takeDeferred h,?_⟩⟩;exact⟨_,results_tmp rfl _ _ _,_,rfl,(s.mono (by omega)).putObj _ h rfl,Below.trans F (belowK_b (w:=u) (a7 _) W ae _ _ (by omega) h rfl rfl)⟩
theorem iT(xs:List m8)(s:m8)(b:∀a,xs.getLast? =So a→a.way≠s.way):sF xs s=xs++[s]:=by
 unfold sF mgB;by_cases c:xs.length=0
 ·rw[if_neg (by simp[c])]
 ·have e:xs.getLast? =So (xs.getD (xs.length-1) rV):=by
   rw[List.getLast?_eq_getElem?,a8,e9 (by omega)];rfl
  rw[if_neg];simp only[Bool.and_eq_true,beq_iff_eq,not_and];exact fun _=>b _ e
theorem a2q:∀(c:List Int)(lo i:Int)(xs:List m8),0<i→(∀b,xs.getLast? =So b→b.way=i-1∧0<b.way)→(aT lo c i).foldl sF xs=xs++aT lo c i
 |[],lo,i,xs,hi,h=>by
  unfold aT;split
  ·exact iT _ _ fun b a e=>by have:=(h b a).2;rw[e]at this;exact(Int.lt_irrefl 0 this).elim
  ·simp
 |n::r,lo,i,xs,hi,h=>by
  have ih:=fun zs:List m8=>a2q r (n+1) (i+1) (zs++[⟨n,n,i⟩]) (by omega) fun b a=>by
   rw[List.getLast?_append]at a;simp at a;rw[←a];exact⟨by show i=i+1-1;omega,hi⟩
  unfold aT;split
  ·show(aT (n+1) r (i+1)).foldl sF (sF (sF xs ⟨lo,n-1,0⟩) ⟨n,n,i⟩)=_
   rw[iT xs _ fun b a e=>by have:=(h b a).2;rw[e]at this;exact(Int.lt_irrefl 0 this).elim,iT _ _ fun b a=>by
    rw[List.getLast?_append]at a;simp at a;rw[←a];show(0:Int)≠i;omega,ih]
   simp
  ·show(aT (n+1) r (i+1)).foldl sF (sF xs ⟨n,n,i⟩)=_
   rw[iT xs _ fun b a e=>by have:=(h b a).1;rw[e]at this;simp only at this;omega,ih];simp
theorem JO:∀(a:List Int)(lo:Int)(k:Nat)(b:k+1<a.length),N7 lo a→a[k]<a[k+1]
 |n::m::r,lo,0,_,h=>by have:=h.2.2.1;show n<m;omega
 |n::r,lo,k+1,b,h=>JO r (n+1) k (by simpa using b) h.2.2
theorem a3f(j l:Option Ad)(c h:Nat)(a:List Int)(ab:a.length≤900)(G:N7 0 a)(w:Wd)(F:h9 w j (i3 V a))(N:h9 w l (i3 M (O7 a.length))):
  Ca prog 200 #[Z j a.length c,Z l a.length h,I M 0] w fun e T=>∃v,e=X (Tp #[v,I M 0])∧e4 T w 388 S2 v (aT 0 a 1)∧a9 w T:=by
 have ag:∀f:Wd,(((f.alloc (U #[Z j a.length c] 37)).alloc (U #[Z l a.length h] 33)).alloc (U #[I M 0] 3)).heap.size=f.heap.size+3:=fun f=>by simp
 have H:=a6 (fun(f:Wd)(g:a9 w f)=>by
  have W:a9 w (((f.alloc (U #[Z j a.length c] 37)).alloc (U #[Z l a.length h] 33)).alloc (U #[I M 0] 3)):=((g.alloc _).alloc _).alloc _;exact callsIn_wide.1 (OA f (f+2) (f+1) c h j l a ab G _ ((((b9.new f _ _).alloc _).alloc _).cell 0) ((b9.b (by simp)).cell 0) (((b9.b (by simp)).alloc _).cell 0) (F.h W) (N.h W)))
 rw[a2q a 0 1 [] (by decide) (fun ai af=>by cases af),List.nil_append]at H;obtain⟨L,aa⟩:=i6 F (fun k Q=>JO a 0 k Q G);have an:((a.length:Int) !=(a.length:Int))=Bf:=by simp
 clear F N G;go_in;go_wp2_with fail
 go_loopw [16] (fun i wr=>∃k:Nat,k≤a.length∧i=I M k∧a9 w wr) (fun i _=>a.length-(intOf i).toNat)
 case atStart=>exact⟨0,i5 _,rfl,a9.refl w⟩
 case round=>
  obtain⟨k,Q,rfl,n⟩:=hrel;by_cases R:k<a.length
  ·obtain⟨b,ap,rfl,al,P⟩:=(L.h n).at_ (k:=k) (by simpa using R)
   rw[List.getElem_map]at P;rcases k with _|m
   ·go_wp2_with fail
    refine e7 rfl [.is ?Bg,.is ?Bh,.is ?Bi,.is Un,.is Un,.is Un,.is Un,.is Un,.is Un,.is Un,.is Un,.is Un,.is Un,.is ?Bj] (by kernel_rfl) ?Bk ?Aa ⟨?Ab,?Ac,?Ad,?Ae,?Af,?Ag,?Ah,?Ai,?Aj,?Ak,?Al,?Am,?An,?Ao,trivial⟩ ?Ap
    case Aa=>intro x;simp only[e6,Act.put,uL,l9]<;>rfl
    case Ab|Ac|Ad|Ao=>
     intro x f g;simp only[e5,j8,uV];repeat(intro d;try simp only[d])
     go_wp2_with fail
     refine a0e ?_ rfl (a9.refl _);rfl
    case Ae|Af|Ag|Ah|Ai|Aj|Ak|Al|Am|An=>
     intro x f g;simp only[e5,j8,uV];repeat(intro d;try simp only[d])
     exact g5 (by first|decide|simp[Z5]) (by first|rfl|trivial)
    case Ap=>
     intro x f g;simp only[l8,e5,j8,uV];intro o p u y z A B C D E q r s t;simp only[o,p,u,y,z,A,B,C,D,E,q,r,s,t];clear o p u y z A B C D E q r s t;go_wp2_with fail
     go_roundw
     case rel=>exact⟨1,by omega,by go_num,n.trans g⟩
     case measure=>simp[intOf];omega
   ·have ao:=aa m R
    have am:Dc (a[m+1]≤a[m])=Bf:=by simp;omega
    have h:=(L.h n).cell (k:=m) (M2 (show m<a.length by omega));have ah:IntKind.i64.wrap (((m+1:Nat):Int)-1)=(m:Int):=by rw[a37 _ (by omega)];omega
    generalize a[m+1]=x at*;generalize a[m]=ai at*;go_wp2_with fail
    refine e7 rfl [.is ?Bl,.is ?Bm,.is ?Bn,.is ?Bo,.is ?Bp,.is ?Bq,.is ?Br,.is ?Bs,.is ?Bt,.is ?Bu,.is ?Bv,.is ?Bw,.is ?Bx,.is ?By] (by kernel_rfl) ?Bz ?Aq ⟨?Ar,?As,?At,?Au,?Av,?Aw,?Ax,?Ay,?Az,?Ba,?Bb,?Bc,?Bd,?Be,trivial⟩ ?Bf
    case Aq=>intro x;simp only[e6,Act.put,uL,l9]<;>rfl
    case Ar|As|At|Au|Av|Aw|Ax|Ay|Az|Ba|Bb|Bc|Bd|Be=>
     intro x f g;simp only[e5,j8,uV];repeat(intro d;try simp only[d])
     try refine g9 (by first|rfl|simp) ?_
     have aq:=g.cell P;have au:=g.cell h;go_wp2_with fail
     refine a0e ?_ rfl (a9.refl _);rfl
    case Bf=>
     intro x f g;simp only[l8,e5,j8,uV];intro o p u y z A B C D E q r s t;simp only[o,p,u,y,z,A,B,C,D,E,q,r,s,t];clear o p u y z A B C D E q r s t;go_wp2_with fail
     go_roundw
     case rel=>exact⟨m+1+1,by omega,by go_num,n.trans g⟩
     case measure=>simp[intOf];omega
  ·obtain rfl:k=a.length:=by omega
   go_wp2_with fail
   apply(callsIn_wide.1 (NH j l a.length a.length c h _)).mono;rintro e ah⟨rfl,rfl⟩;go_wp2_with fail
   apply(H _ n).mono;rintro e ar⟨v,rfl,S,ad⟩;obtain⟨aj,ak,rfl⟩:=S.b;have ae:=((((n.alloc (U #[Z j a.length c] 37)).alloc (U #[Z l a.length h] 33)).alloc (U #[I M 0] 3))).trans ad;have ac:=S.mono (b2:=w) (by rw[ag];have:=n.size;omega);go_wp2_with fail
   go_ret2
   exact⟨_,rfl,ac,ae⟩
end
abbrev M6:Va:=Z J 0 0
def M7(dy:Int):i1:=⟨[],0,[],dy,0,[],[],0,0,Bf,Bf,Bf,Bf⟩
theorem a3x(w:Wd):Ca prog 34 #[] w fun e f=>e=X (Ag (i4 (M7 2147483648) M6 M6 M6 M6))∧a9 w f:=by
 have b:=a6 (fun c=>b9.new w 39 c);unfold i4 M7 at*;dsimp only at*;go_in;go_wp2_with(refine c7 rfl 39 (Tm 0) (Tm 1) rfl w _ _ _ rfl rfl (b _) (by kernel_rfl) (by kernel_rfl) (by simp[Value.oneCell']) ?_;intro g a d)
 exact Bp (g0 rfl _ _ _ _ _ _ rfl a underlying39 rfl (by kernel_rfl)) rfl ⟨rfl,((a9.refl w).alloc _).f d (fun k e=>by cases e;exact a7 _)⟩
def r0(a:List i0):Bool:=a.any fun n=> !kA n.err
theorem FR(n:i0)(W:Wd):Ca prog 24 (#[Ag (g6.c n).toArray]++ #[]) W fun e g=>e=X (O (!kA n.err))∧a9 W g:=by
 obtain⟨f,l,a,t⟩:=n;have b:=a6 (PI a);have c:=(a9.refl W).alloc (U #[Y f,I M l,I M a,Y t] 73);show Ca prog 24 #[Ag #[Y f,I M l,I M a,Y t]] W _;dsimp only;generalize kA a=m at*;go_in;go_wp2_with fail
 apply(b _).mono;rintro e h⟨rfl,d⟩;go_wp2_with fail
 go_ret;exact⟨rfl,c.trans d⟩
theorem kL(b:Option Ad)(n c:Nat)(a:List i0)(w:Wd)(g:a.length=n)(h:n≤1000000)(f:h9 w b (g6.row a)):
  Ca prog 15 #[Z b n c] w fun e d=>e=X (O (r0 a))∧a9 w d:=by
 have H:=a6 (show Ca prog 23 #[Z b n c,Fc (.func 24) #[] #[]] w fun e d=>e=X (O (r0 a))∧a9 w d from cfQ a1u g6 (by decide) isAgg73 sizeOf73 _ 24 #[] (Eo func24 (by kernel_rfl) rfl) b n c a w (fun x _ W _=>FR x W) g h f);generalize r0 a=R at*;clear f g;go_in;go_wp2_with fail
 apply H.mono;rintro e j⟨rfl,i⟩;go_wp2_with fail
 go_ret;exact⟨rfl,i⟩
def x6(is:Int→Bool):Option Int→List Int→Bool
 |_,[]=>Bt
 |p,n::r=>if !is n||(match p with|none=>Bf|some q=>Dc (n≤q))then Bf else x6 is (So n) r
def dC(l:List Int):Nat→Option Int
 |0=>J
 |k+1=>l[k]?
theorem lT(is:Int→Bool)(p:Option Int)(n:Int)(r:List Int):x6 is p (n::r)=if !is n||(match p with|none=>Bf|some q=>Dc (n≤q))then Bf else x6 is (So n) r:=by cases p<;>rfl
theorem pE(is:Int→Bool)(l:List Int)(k:Nat)(a:k<l.length):x6 is (dC l k) (l.drop k)=if !is l[k]||(Dc (0<k)&&Dc (l[k]≤(l[k-1]'(by omega))))then Bf else x6 is (dC l (k+1)) (l.drop (k+1)):=by
 rw[List.drop_eq_getElem_cons a];have e:dC l (k+1)=So l[k]:=e9 a;rw[e,lT];rcases k with _|j
 ·simp[dC]
 ·have b:dC l (j+1)=So l[j]:=e9 (by omega)
  rw[b];simp
def eC(a:Int):Bool:= !(rL a).toList.isEmpty
def gY(a:Int):Bool:= !(ZX j0 a).toList.isEmpty
theorem ZG(a:Int)(W:Wd):Ca prog 71 #[I M a] W fun e d=>e=X (Y (rL a))∧a9 W d:=by
 by_cases c:a<0∨6≤a
 ·have e:rL a=⟨#[]⟩:=by
   unfold rL;split
   ·have:r5.length≤a.toNat:=by show 6≤_;omega
    simp[a8,List.getElem?_eq_none this]
   ·rfl
  rw[e];exact IH a c W
 ·obtain⟨k,rfl⟩:∃k:Nat,a=k:=⟨a.toNat,by omega⟩
  have b:k<r5.length:=by show k<6;omega
  have e:rL (k:Int)=r5[k].1:=by
   unfold rL;rw[if_pos (by omega),a4A];simp[a8,b]
  rw[e];exact mS k b W
theorem a0K(x:Int)(W:Wd):Ca prog 70 #[I M x] W fun e b=>e=X (O (eC x))∧a9 W b:=by
 have H:=a6 (fun W=>show Ca prog 71 #[I M x] W _ from ZG x W);unfold eC;generalize rL x=s at*;go_in;go_wp2_with fail
 apply(H _).mono;rintro e c⟨rfl,a⟩;go_wp2_with fail
 go_ret;exact⟨by simp,a⟩
theorem a3m(r:Option Ad)(n c:Nat)(l:List Int)(w:Wd)(B:l.length=n)(aa:n≤1000000)(y:h9 w r (i3 M l)):Ca prog 69 #[Z r n c,Fc (.func 70) #[] #[]] w fun e N=>e=X (O (x6 eC J l))∧a9 w N:=by
 obtain⟨t,u⟩:=i6 y B;obtain⟨R,p⟩:∃R,R=x6 eC J l:=⟨_,rfl⟩;rw[←p];obtain⟨D,E⟩:=i6 p (pE eC l);clear y B p;go_in;go_wp2_with fail
 go_loopw [9] (fun i wr=>∃k:Nat,k≤n∧i=I M k∧R=x6 eC (dC l k) (l.drop k)∧a9 w wr) (fun i _=>n-(intOf i).toNat)
 case atStart=>exact⟨0,i5 _,rfl,D.out,a9.refl _⟩
 case round=>
  obtain⟨k,ac,rfl,g,f⟩:=hrel;by_cases L:k<n
  ·have A:k<l.length:=by rw[u.out];exact L
   obtain⟨b,ad,rfl,ab,S⟩:=(t.h f).num A;have v:=fun W(H:a9 wr W)=>((t.h f).h H).cell (M2 (show k-1<l.length by omega))
   have s:=a6 v;rw[E k A]at g;have m:=a6 (fun W=>a0K l[k] W);generalize l[k]=x at*;generalize l[k-1]=Q at*;generalize eC x=q at*;have h:=a6 g;clear g v;have k0:(k:Int)<n:=by omega
   have k1:(0:Int)≤k:=by omega
   rcases q with _|_
   ·go_wp2_with fail
    apply(m _).mono;rintro e P⟨rfl,d⟩;go_wp2_with fail
    go_ret;exact⟨by rw[h.out];rfl,f.trans d⟩
   ·by_cases T:0<k
    ·have G:Dc ((0:Int)<k)=Bt:=by simp;omega
     have P:IntKind.i64.wrap ((k:Int)-1)=((k-1:Nat):Int):=by rw[show(k:Int)-1=((k-1:Nat):Int) by omega];exact a37 _ (by omega)
     have k2:((k-1:Nat):Int)<n:=by omega
     have k3:(0:Int)≤((k-1:Nat):Int):=by omega
     have a:=h.out;have o:Dc (0<k)=Bt:=by simp;omega
     rw[o]at a;rcases z:Dc (x≤Q)with _|_
     ·rw[z]at a
      have j:=a6 (show R=x6 eC (dC l (k+1)) (l.drop (k+1))from a);clear a;go_wp2_with fail
      apply(m _).mono;rintro e C⟨rfl,d⟩;have F:=s _ d;go_wp2_with fail
      go_roundw
      case rel=>exact⟨k+1,by omega,by go_num,j.out,f.trans d⟩
      case measure=>simp[intOf];omega
     ·rw[z]at a
      have j:=a6 (show R=Bf from a);clear a;go_wp2_with fail
      apply(m _).mono;rintro e C⟨rfl,d⟩;have F:=s _ d;go_wp2_with fail
      go_ret;exact⟨by rw[j.out];rfl,f.trans d⟩
    ·have G:Dc ((0:Int)<k)=Bf:=by simp;omega
     have a:=h.out;have o:Dc (0<k)=Bf:=by simp;omega
     rw[o]at a;have j:=a6 (show R=x6 eC (dC l (k+1)) (l.drop (k+1))from a);clear a;go_wp2_with fail
     apply(m _).mono;rintro e C⟨rfl,d⟩;go_wp2_with fail
     go_roundw
     case rel=>exact⟨k+1,by omega,by go_num,j.out,f.trans d⟩
     case measure=>simp[intOf];omega
  ·obtain rfl:k=n:=by omega
   have e:l.drop k=[]:=by rw[List.drop_eq_nil_iff,u.out];exact a7 _
   rw[e]at g;have h:=a6 g;clear g e;go_wp2_with fail
   go_ret;exact⟨by rw[h.out];rfl,f⟩
theorem a0J(x:Int)(W:Wd):Ca prog 73 #[I V x] W fun e b=>e=X (O (gY x))∧a9 W b:=by
 have H:=a6 (fun W=>show Ca prog 74 #[I V x] W _ from wP x W);unfold gY;generalize ZX j0 x=s at*;go_in;go_wp2_with fail
 apply(H _).mono;rintro e c⟨rfl,a⟩;go_wp2_with fail
 go_ret;exact⟨by simp,a⟩
theorem a3l(r:Option Ad)(n c:Nat)(l:List Int)(w:Wd)(B:l.length=n)(aa:n≤1000000)(y:h9 w r (i3 V l)):Ca prog 72 #[Z r n c,Fc (.func 73) #[] #[]] w fun e N=>e=X (O (x6 gY J l))∧a9 w N:=by
 obtain⟨t,u⟩:=i6 y B;obtain⟨R,p⟩:∃R,R=x6 gY J l:=⟨_,rfl⟩;rw[←p];obtain⟨D,E⟩:=i6 p (pE gY l);clear y B p;go_in;go_wp2_with fail
 go_loopw [9] (fun i wr=>∃k:Nat,k≤n∧i=I M k∧R=x6 gY (dC l k) (l.drop k)∧a9 w wr) (fun i _=>n-(intOf i).toNat)
 case atStart=>exact⟨0,i5 _,rfl,D.out,a9.refl _⟩
 case round=>
  obtain⟨k,ac,rfl,g,f⟩:=hrel;by_cases L:k<n
  ·have A:k<l.length:=by rw[u.out];exact L
   obtain⟨b,ad,rfl,ab,S⟩:=(t.h f).num A;have v:=fun W(H:a9 wr W)=>((t.h f).h H).cell (M2 (show k-1<l.length by omega))
   have s:=a6 v;rw[E k A]at g;have m:=a6 (fun W=>a0J l[k] W);generalize l[k]=x at*;generalize l[k-1]=Q at*;generalize gY x=q at*;have h:=a6 g;clear g v;have k0:(k:Int)<n:=by omega
   have k1:(0:Int)≤k:=by omega
   rcases q with _|_
   ·go_wp2_with fail
    apply(m _).mono;rintro e P⟨rfl,d⟩;go_wp2_with fail
    go_ret;exact⟨by rw[h.out];rfl,f.trans d⟩
   ·by_cases T:0<k
    ·have G:Dc ((0:Int)<k)=Bt:=by simp;omega
     have P:IntKind.i64.wrap ((k:Int)-1)=((k-1:Nat):Int):=by rw[show(k:Int)-1=((k-1:Nat):Int) by omega];exact a37 _ (by omega)
     have k2:((k-1:Nat):Int)<n:=by omega
     have k3:(0:Int)≤((k-1:Nat):Int):=by omega
     have a:=h.out;have o:Dc (0<k)=Bt:=by simp;omega
     rw[o]at a;rcases z:Dc (x≤Q)with _|_
     ·rw[z]at a
      have j:=a6 (show R=x6 gY (dC l (k+1)) (l.drop (k+1))from a);clear a;go_wp2_with fail
      apply(m _).mono;rintro e C⟨rfl,d⟩;have F:=s _ d;go_wp2_with fail
      go_roundw
      case rel=>exact⟨k+1,by omega,by go_num,j.out,f.trans d⟩
      case measure=>simp[intOf];omega
     ·rw[z]at a
      have j:=a6 (show R=Bf from a);clear a;go_wp2_with fail
      apply(m _).mono;rintro e C⟨rfl,d⟩;have F:=s _ d;go_wp2_with fail
      go_ret;exact⟨by rw[j.out];rfl,f.trans d⟩
    ·have G:Dc ((0:Int)<k)=Bf:=by simp;omega
     have a:=h.out;have o:Dc (0<k)=Bf:=by simp;omega
     rw[o]at a;have j:=a6 (show R=x6 gY (dC l (k+1)) (l.drop (k+1))from a);clear a;go_wp2_with fail
     apply(m _).mono;rintro e C⟨rfl,d⟩;go_wp2_with fail
     go_roundw
     case rel=>exact⟨k+1,by omega,by go_num,j.out,f.trans d⟩
     case measure=>simp[intOf];omega
  ·obtain rfl:k=n:=by omega
   have e:l.drop k=[]:=by rw[List.drop_eq_nil_iff,u.out];exact a7 _
   rw[e]at g;have h:=a6 g;clear g e;go_wp2_with fail
   go_ret;exact⟨by rw[h.out];rfl,f⟩
section
open Go.Shelf Go.Sort
def EC(xs:List Int)(x:Int):Nat:=LC (fun h=>Dc (xs.getD h 0<x)) xs.length 0 xs.length
def x9(xs:List Int)(n:Int):List Int:=xs.filter fun x=> !(x==n)
def withT(xs:List Int)(n:Int)(inn:Bool):List Int:=if inn then V8 (x9 xs n) (EC (x9 xs n) n) n else x9 xs n
theorem a3R(k:IntKind)(E:p6 Int)(h:∀x,E.c x=[I k x])(xs:List Int):E.row xs=i3 k xs:=by
 induction xs with
 |nil=>rfl
 |cons x r ih=>rw[E.row_cons,h,ih];rfl
theorem dS(xs:List Int)(n:Int):(x9 xs n).length≤xs.length:=List.length_filter_le _ _
theorem sQ(xs:List Int)(n:Int)(inn:Bool):(withT xs n inn).length≤xs.length+1:=by
 have:=dS xs n;unfold withT;split
 ·rw[BU];omega
 ·omega
theorem BY{a:Type}[Inhabited a](enc:a→Va){w:Wd}{g n:Nat}{os:Array Obj}(d:Array a):w.grownBy (sortWorld enc w g 0 n d os) (So g):=by
 refine⟨rfl,rfl,rfl,by simp[sortWorld],fun k b c=> ?_⟩;unfold sortWorld;rw[heap_grow_old _ _ (by simpa using b)];have:g≠k:=fun e=>c (by rw[e])
 simp[putRow,mapBlock,Sort.ahead,Array.getElem?_modify,this]
theorem a3U(x:Int)(W:Wd):Ca prog 397 #[I M x] W fun e a=>e=X (O Bf)∧W=a:=by
 go_in;go_wp2;go_ret;exact⟨rfl,rfl⟩
theorem a42(x:Int)(W:Wd):Ca prog 369 #[I M x] W fun e a=>e=X (O Bf)∧W=a:=by
 go_in;go_wp2;go_ret;exact⟨rfl,rfl⟩
theorem a5e(x a:Int)(W:Wd):Ca prog 368 #[I M x,I M a] W fun e b=>e=X (O (Dc (x<a)))∧W=b:=by
 have H:=a6 (a3U x W);go_in;go_wp2_with fail
 apply H.mono;rintro e c⟨rfl,rfl⟩;go_wp2_with fail
 go_ret;exact⟨rfl,rfl⟩
theorem a5J(n:Option Ad)(c:Nat)(xs:List Int)(x:Int)(w:Wd)(L:xs.length≤1000000)(p:h9 w n (i3 M xs)):
  Ca prog 322 #[Z n xs.length c,I M x] w fun e l=>∃q,e=X (Tp #[I M (EC xs x:Nat),O q])∧w=l:=by
 obtain⟨R,g⟩:∃R,R=EC xs x:=⟨_,rfl⟩;rw[←g];unfold EC at g;obtain⟨o,t⟩:=i6 p (fun(i:Nat)(z:i<xs.length)=>show xs.getD i 0=xs[i] by simp[a8,z]);clear p;go_in;go_wp2_with fail
 go_loopg [7,8] xs.length (fun E H G wr=>∃d a f:Nat,H=I M d∧G=I M a∧d≤a∧a≤xs.length∧a-d≤E∧a-d≤f∧R=LC (fun i=>Dc (xs.getD i 0<x)) f d a∧wr=w)
 case atStart=>exact⟨0,xs.length,xs.length,rfl,rfl,i5 _,a7 _,by omega,by omega,g,rfl⟩
 case round=>
  clear g;obtain⟨d,a,f,rfl,rfl,S,A,Q,P,g,rfl⟩:=hrel;by_cases B:d<a
  ·have r:(d+a)/2<xs.length:=by omega
   obtain⟨b,F,rfl,y,u⟩:=o.num r;obtain⟨f,rfl⟩:∃v,f=v+1:=⟨f-1,by omega⟩;unfold LC at g;rw[if_pos B,t _ r]at g;generalize xs[(d+a)/2]=j at*;have k:=a6 (a5e j x wr);by_cases h:j<x
   ·rw[if_pos (decide_eq_true h)]at g
    rw[decide_eq_true h]at k;have m:=a6 g;clear g h;go_wp2_with fail
    apply k.mono;rintro e l⟨rfl,rfl⟩;go_wp2_with fail
    go_roundg (a-((d+a)/2+1))
    case measure=>omega
    case rel=>exact⟨(d+a)/2+1,a,f,by rw[show((d:Int)+(a:Int))/2+1=(((d+a)/2+1:Nat):Int) by omega],rfl,by omega,A,a7 _,by omega,m.out,rfl⟩
   ·rw[decide_eq_false h,if_neg (by decide)]at g
    rw[decide_eq_false h]at k;have m:=a6 g;clear g h;go_wp2_with fail
    apply k.mono;rintro e l⟨rfl,rfl⟩;go_wp2_with fail
    go_roundg ((d+a)/2-d)
    case measure=>omega
    case rel=>exact⟨d,(d+a)/2,f,rfl,by rw[show((d:Int)+(a:Int))/2=(((d+a)/2:Nat):Int) by omega],by omega,by omega,a7 _,by omega,m.out,rfl⟩
  ·obtain rfl:d=a:=by omega
   rw[jN]at g;subst g;by_cases C:R<xs.length
   ·obtain⟨b,F,rfl,y,u⟩:=o.num C
    generalize xs[R]=j at*;have s:=a6 (a42 j wr);have D:(R:Int)<xs.length:=by omega
    rcases N:j==x with _|_
    ·go_wp2_with fail
     apply s.mono;rintro e l⟨rfl,rfl⟩;go_wp2_with fail
     go_ret2
     exact⟨_,rfl,rfl⟩
    ·go_wp2_with fail
     go_ret2
     exact⟨_,rfl,rfl⟩
   ·have D:Dc ((R:Int)<xs.length)=Bf:=by simp;omega
    go_wp2_with fail
    go_ret2
    exact⟨_,rfl,rfl⟩
theorem a5g:SlLaysH.n10 prog ⟨fun|6=>253|10=>320|n=>n,fun|22=>33|23=>3|25=>148|3=>3|4=>4|0=>0|n=>n,fun n=>n⟩:=by
 constructor
 case f6=>exact⟨f253.name,by decide,func253.trans (congrArg So (by kernel_rfl))⟩
 case f10=>exact⟨f320.name,by decide,func320.trans (congrArg So (by kernel_rfl))⟩
 all_goals first|(intro w;kernel_rfl)|kernel_rfl
theorem RP(x n:Int)(g:Nat)(W:Wd)(b:W.cell? ⟨g,0,J⟩=So (I M n)):Ca prog 321 (#[I M x]++ #[K g]) W fun e a=>e=X (O (x==n))∧∃q,a=W.drewN q:=by
 show Ca prog 321 #[I M x,K g] W _;go_in;go_wp2;go_ret;exact⟨rfl,0,rfl⟩
theorem a3j(v:Va)(xs:List Int)(n:Int)(base g:Nat)(w:Wd)(af:xs.length≤1000000)(a:e4 w base 3 V7 v xs)(o:b9 w g 3 #[I M n])(ad:g<base):
  Ca prog 320 #[v,Fc (.func 321) #[] #[K g]] w fun e j=>∃v',e=X v'∧e4 j base 3 V7 v' (x9 xs n)∧w.grownBy j v.ownBlock:=by
 have C:∀xs:List Int,xs.filter (fun x=> !(x==n))=x9 xs n:=fun _=>rfl
 obtain⟨G,c,rfl,a⟩:=a;rcases a.2 with⟨i,t⟩|⟨b,cap,cur,i,S,R,u,N,P,Q⟩
 ·have d:xs=[]:=List.eq_nil_of_length_eq_zero t
  subst d;cases i;have f:V2 prog 321 #[K g] (I M) (fun x=>x==n) w []:=fun x d=>by cases d
  obtain⟨H,z⟩:=i6 (show Ca prog 253 #[Z J 0 0,Fc (.func 321) #[] #[K g]] w _ from ixE VZ (I M) isAgg3 sizeOf3 (fun x=>x==n) 321 #[K g] (Eo func321 (by kernel_rfl) rfl) J 0 0 [] w f rfl (by omega) (h9.nil _ _)) a;clear a f;go_in;go_wp2_with fail
  apply H.mono;rintro e ag⟨rfl,d⟩;go_wp2_with fail
  go_ret;exact⟨_,rfl,e4.h ⟨J,0,rfl,z.out⟩ d,h8 d _⟩
 ·cases i
  have h:(Z b xs.length c)≠ Z J 0 0:=fun s=>by cases s
  rw[a3R M V7 (fun _=>rfl)]at a;have p:=a;obtain⟨_,_,F,_,ae,_,_,ab,y⟩:=Lib.holds_of_ownsRow (zs:=xs) p h;cases F;have D:So g≠So b:=fun e=>by injection e with e;omega
  have f:PredAt prog 321 #[K g] (I M) (fun x=>x==n) w:=fun W x A=>RP x n g W ((o.h A).cell 0)
  have E:PredOver prog 321 #[K g] (I M) (fun x=>x==n) b 0 xs.toArray.size w:=fun m os L x T=>RP x n g _ ((o.grown (row:=So b) (BY _ _) D).cell 0)
  have ac:=dS xs n;have:=AnyE.slices_DeleteFunc a5g (I M) (fun _=>rfl) (fun x=>x==n) 321 #[K g] (Eo func321 (by kernel_rfl) rfl) 0 (by intro w;kernel_rfl) b 0 c xs.toArray w f E y (by simp;omega) (by simpa using u);simp only[C,List.size_toArray]at this;refine this.mono fun e j⟨B,q,r⟩=>⟨_,B,⟨_,c,rfl,?_⟩,?_⟩
  ·rw[r]
   have l:=Lib.ownsRow_putRow (q:=q) (k:=(x9 xs n).length) (ys:=x9 xs n++a2A (xs.length-(x9 xs n).length) 0) p (by simp;omega) (by omega);rw[List.take_left]at l;rw[a3R M V7 (fun _=>rfl)];exact l
  ·rw[r]
   refine⟨rfl,rfl,rfl,by simp[putRow,mapBlock,Sort.ahead],fun k aa h=> ?_⟩;have:b≠k:=fun e=>h (by rw[e];rfl)
   simp[putRow,mapBlock,Sort.ahead,Array.getElem?_modify,this]
theorem TL(v:Va)(xs:List Int)(n:Int)(inn:Bool)(w:Wd)(aa:xs.length≤100000)(y:LH w V7 v xs):
  Ca prog 229 #[v,I M n,O inn] w fun e C=>∃v',e=X v'∧e4 C (w+1) 3 V7 v' (withT xs n inn)∧a9 w C:=by
 have o:=(a9.refl w).alloc (U #[I M n] 3);have B:=b9.new w 3 #[I M n];obtain⟨s,t,r⟩:=p7 (show Ca prog 164 #[v] (w.alloc (U #[I M n] 3)) _ from HZ WE V7 a3X sizeOf3 (by omega) (y.h o)) o B;have f:withT xs n inn=if inn then V8 (x9 xs n) (EC (x9 xs n) n) n else x9 xs n:=rfl
 generalize withT xs n inn=R at*;have W:=dS xs n;have L:EC (x9 xs n) n≤(x9 xs n).length:=rE _ _ _ _ (i5 _);have f:=a6 f;obtain⟨S,c,rfl,-,-⟩:=y;clear o B;go_in;go_wp2_with fail
 apply s.mono;rintro e Q⟨P,rfl,b,p⟩;have h:=r.h p;replace b:=b.mono (b2:=w+1) (by simp);go_wp2_with fail
 apply(a3j P xs n (w+1) w Q (by omega) b h (by omega)).mono;rintro e a⟨ac,rfl,d,l⟩;have A:=(t.trans p).f l (fun k m=>by have:=(b.lt m).1;omega);have i:=h.grown l (fun e=>by have:=(b.lt e.symm).1;omega);have T:=i.cell 0;obtain⟨u,D⟩:=i6 A i;rcases inn with _|_
 ·go_wp2_with fail
  go_ret;exact⟨_,rfl,by rw[f.out];exact d,u.out⟩
 ·obtain⟨g,x,rfl⟩:=d.b
  have j:=a6 d;have z:h9 a g (i3 M (x9 xs n)):=by rw[←a3R M V7 (fun _=>rfl)];exact d.i.1
  have G:=a6 (a5J g x (x9 xs n) n a (by omega) z);clear d b h i A l z r s p t;go_wp2_with fail
  apply G.mono;rintro e ae⟨q,rfl,rfl⟩;have ab:w+1≤a.heap.size:=D.lt;have F:=a6 (SZ (E:=V7) a1r a3X n (Z g (x9 xs n).length x) (x9 xs n) (w+1) (EC (x9 xs n) n) a (a.alloc (U #[I M n] 3)) (by omega) L ((j.out).h ((a9.refl a).alloc _)) (b9.new a _ _) (fun e=>by have:=(j.lt e).2;omega) (by simp;omega));go_wp2_with fail
  apply F.mono;rintro e af⟨ad,rfl,N,H,-⟩;go_wp2_with fail
  go_ret;exact⟨_,rfl,by rw[f.out];exact N,(u.alloc _).f H (fun k m=>by have:=(j.lt m).1;omega)⟩
theorem a3T(x:Int)(W:Wd):Ca prog 185 #[I V x] W fun e a=>e=X (O Bf)∧W=a:=by
 go_in;go_wp2;go_ret;exact⟨rfl,rfl⟩
theorem a41(x:Int)(W:Wd):Ca prog 374 #[I V x] W fun e a=>e=X (O Bf)∧W=a:=by
 go_in;go_wp2;go_ret;exact⟨rfl,rfl⟩
theorem a5d(x a:Int)(W:Wd):Ca prog 373 #[I V x,I V a] W fun e b=>e=X (O (Dc (x<a)))∧W=b:=by
 have H:=a6 (a3T x W);go_in;go_wp2_with fail
 apply H.mono;rintro e c⟨rfl,rfl⟩;go_wp2_with fail
 go_ret;exact⟨rfl,rfl⟩
theorem a5I(n:Option Ad)(c:Nat)(xs:List Int)(x:Int)(w:Wd)(L:xs.length≤1000000)(p:h9 w n (i3 V xs)):
  Ca prog 326 #[Z n xs.length c,I V x] w fun e l=>∃q,e=X (Tp #[I M (EC xs x:Nat),O q])∧w=l:=by
 obtain⟨R,g⟩:∃R,R=EC xs x:=⟨_,rfl⟩;rw[←g];unfold EC at g;obtain⟨o,t⟩:=i6 p (fun(i:Nat)(z:i<xs.length)=>show xs.getD i 0=xs[i] by simp[a8,z]);clear p;go_in;go_wp2_with fail
 go_loopg [7,8] xs.length (fun E H G wr=>∃d a f:Nat,H=I M d∧G=I M a∧d≤a∧a≤xs.length∧a-d≤E∧a-d≤f∧R=LC (fun i=>Dc (xs.getD i 0<x)) f d a∧wr=w)
 case atStart=>exact⟨0,xs.length,xs.length,rfl,rfl,i5 _,a7 _,by omega,by omega,g,rfl⟩
 case round=>
  clear g;obtain⟨d,a,f,rfl,rfl,S,A,Q,P,g,rfl⟩:=hrel;by_cases B:d<a
  ·have r:(d+a)/2<xs.length:=by omega
   obtain⟨b,F,rfl,y,u⟩:=o.num r;obtain⟨f,rfl⟩:∃v,f=v+1:=⟨f-1,by omega⟩;unfold LC at g;rw[if_pos B,t _ r]at g;generalize xs[(d+a)/2]=j at*;have k:=a6 (a5d j x wr);by_cases h:j<x
   ·rw[if_pos (decide_eq_true h)]at g
    rw[decide_eq_true h]at k;have m:=a6 g;clear g h;go_wp2_with fail
    apply k.mono;rintro e l⟨rfl,rfl⟩;go_wp2_with fail
    go_roundg (a-((d+a)/2+1))
    case measure=>omega
    case rel=>exact⟨(d+a)/2+1,a,f,by rw[show((d:Int)+(a:Int))/2+1=(((d+a)/2+1:Nat):Int) by omega],rfl,by omega,A,a7 _,by omega,m.out,rfl⟩
   ·rw[decide_eq_false h,if_neg (by decide)]at g
    rw[decide_eq_false h]at k;have m:=a6 g;clear g h;go_wp2_with fail
    apply k.mono;rintro e l⟨rfl,rfl⟩;go_wp2_with fail
    go_roundg ((d+a)/2-d)
    case measure=>omega
    case rel=>exact⟨d,(d+a)/2,f,rfl,by rw[show((d:Int)+(a:Int))/2=(((d+a)/2:Nat):Int) by omega],by omega,by omega,a7 _,by omega,m.out,rfl⟩
  ·obtain rfl:d=a:=by omega
   rw[jN]at g;subst g;by_cases C:R<xs.length
   ·obtain⟨b,F,rfl,y,u⟩:=o.num C
    generalize xs[R]=j at*;have s:=a6 (a41 j wr);have D:(R:Int)<xs.length:=by omega
    rcases N:j==x with _|_
    ·go_wp2_with fail
     apply s.mono;rintro e l⟨rfl,rfl⟩;go_wp2_with fail
     go_ret2
     exact⟨_,rfl,rfl⟩
    ·go_wp2_with fail
     go_ret2
     exact⟨_,rfl,rfl⟩
   ·have D:Dc ((R:Int)<xs.length)=Bf:=by simp;omega
    go_wp2_with fail
    go_ret2
    exact⟨_,rfl,rfl⟩
theorem a5f:SlLaysH.n10 prog ⟨fun|6=>372|10=>324|n=>n,fun|22=>37|23=>26|25=>151|3=>3|4=>4|0=>0|n=>n,fun n=>n⟩:=by
 constructor
 case f6=>exact⟨f372.name,by decide,func372.trans (congrArg So (by kernel_rfl))⟩
 case f10=>exact⟨f324.name,by decide,func324.trans (congrArg So (by kernel_rfl))⟩
 all_goals first|(intro w;kernel_rfl)|kernel_rfl
theorem RO(x n:Int)(g:Nat)(W:Wd)(b:W.cell? ⟨g,0,J⟩=So (I V n)):Ca prog 325 (#[I V x]++ #[K g]) W fun e a=>e=X (O (x==n))∧∃q,a=W.drewN q:=by
 show Ca prog 325 #[I V x,K g] W _;go_in;go_wp2;go_ret;exact⟨rfl,0,rfl⟩
theorem a3i(v:Va)(xs:List Int)(n:Int)(base g:Nat)(w:Wd)(af:xs.length≤1000000)(a:e4 w base 26 N4 v xs)(o:b9 w g 26 #[I V n])(ad:g<base):
  Ca prog 324 #[v,Fc (.func 325) #[] #[K g]] w fun e j=>∃v',e=X v'∧e4 j base 26 N4 v' (x9 xs n)∧w.grownBy j v.ownBlock:=by
 have C:∀xs:List Int,xs.filter (fun x=> !(x==n))=x9 xs n:=fun _=>rfl
 obtain⟨G,c,rfl,a⟩:=a;rcases a.2 with⟨i,t⟩|⟨b,cap,cur,i,S,R,u,N,P,Q⟩
 ·have d:xs=[]:=List.eq_nil_of_length_eq_zero t
  subst d;cases i;have f:V2 prog 325 #[K g] (I V) (fun x=>x==n) w []:=fun x d=>by cases d
  obtain⟨H,z⟩:=i6 (show Ca prog 372 #[Z J 0 0,Fc (.func 325) #[] #[K g]] w _ from ixE a3N (I V) isAgg26 sizeOf26 (fun x=>x==n) 325 #[K g] (Eo func325 (by kernel_rfl) rfl) J 0 0 [] w f rfl (by omega) (h9.nil _ _)) a;clear a f;go_in;go_wp2_with fail
  apply H.mono;rintro e ag⟨rfl,d⟩;go_wp2_with fail
  go_ret;exact⟨_,rfl,e4.h ⟨J,0,rfl,z.out⟩ d,h8 d _⟩
 ·cases i
  have h:(Z b xs.length c)≠ Z J 0 0:=fun s=>by cases s
  rw[a3R V N4 (fun _=>rfl)]at a;have p:=a;obtain⟨_,_,F,_,ae,_,_,ab,y⟩:=Lib.holds_of_ownsRow (zs:=xs) p h;cases F;have D:So g≠So b:=fun e=>by injection e with e;omega
  have f:PredAt prog 325 #[K g] (I V) (fun x=>x==n) w:=fun W x A=>RO x n g W ((o.h A).cell 0)
  have E:PredOver prog 325 #[K g] (I V) (fun x=>x==n) b 0 xs.toArray.size w:=fun m os L x T=>RO x n g _ ((o.grown (row:=So b) (BY _ _) D).cell 0)
  have ac:=dS xs n;have:=AnyE.slices_DeleteFunc a5f (I V) (fun _=>rfl) (fun x=>x==n) 325 #[K g] (Eo func325 (by kernel_rfl) rfl) 0 (by intro w;kernel_rfl) b 0 c xs.toArray w f E y (by simp;omega) (by simpa using u);simp only[C,List.size_toArray]at this;refine this.mono fun e j⟨B,q,r⟩=>⟨_,B,⟨_,c,rfl,?_⟩,?_⟩
  ·rw[r]
   have l:=Lib.ownsRow_putRow (q:=q) (k:=(x9 xs n).length) (ys:=x9 xs n++a2A (xs.length-(x9 xs n).length) 0) p (by simp;omega) (by omega);rw[List.take_left]at l;rw[a3R V N4 (fun _=>rfl)];exact l
  ·rw[r]
   refine⟨rfl,rfl,rfl,by simp[putRow,mapBlock,Sort.ahead],fun k aa h=> ?_⟩;have:b≠k:=fun e=>h (by rw[e];rfl)
   simp[putRow,mapBlock,Sort.ahead,Array.getElem?_modify,this]
theorem TK(v:Va)(xs:List Int)(n:Int)(inn:Bool)(w:Wd)(aa:xs.length≤100000)(y:LH w N4 v xs):
  Ca prog 232 #[v,I V n,O inn] w fun e C=>∃v',e=X v'∧e4 C (w+1) 26 N4 v' (withT xs n inn)∧a9 w C:=by
 have o:=(a9.refl w).alloc (U #[I V n] 26);have B:=b9.new w 26 #[I V n];obtain⟨s,t,r⟩:=p7 (show Ca prog 165 #[v] (w.alloc (U #[I V n] 26)) _ from HZ WD N4 a0o sizeOf26 (by omega) (y.h o)) o B;have f:withT xs n inn=if inn then V8 (x9 xs n) (EC (x9 xs n) n) n else x9 xs n:=rfl
 generalize withT xs n inn=R at*;have W:=dS xs n;have L:EC (x9 xs n) n≤(x9 xs n).length:=rE _ _ _ _ (i5 _);have f:=a6 f;obtain⟨S,c,rfl,-,-⟩:=y;clear o B;go_in;go_wp2_with fail
 apply s.mono;rintro e Q⟨P,rfl,b,p⟩;have h:=r.h p;replace b:=b.mono (b2:=w+1) (by simp);go_wp2_with fail
 apply(a3i P xs n (w+1) w Q (by omega) b h (by omega)).mono;rintro e a⟨ac,rfl,d,l⟩;have A:=(t.trans p).f l (fun k m=>by have:=(b.lt m).1;omega);have i:=h.grown l (fun e=>by have:=(b.lt e.symm).1;omega);have T:=i.cell 0;obtain⟨u,D⟩:=i6 A i;rcases inn with _|_
 ·go_wp2_with fail
  go_ret;exact⟨_,rfl,by rw[f.out];exact d,u.out⟩
 ·obtain⟨g,x,rfl⟩:=d.b
  have j:=a6 d;have z:h9 a g (i3 V (x9 xs n)):=by rw[←a3R V N4 (fun _=>rfl)];exact d.i.1
  have G:=a6 (a5I g x (x9 xs n) n a (by omega) z);clear d b h i A l z r s p t;go_wp2_with fail
  apply G.mono;rintro e ae⟨q,rfl,rfl⟩;have ab:w+1≤a.heap.size:=D.lt;have F:=a6 (SZ (E:=N4) a1q a0o n (Z g (x9 xs n).length x) (x9 xs n) (w+1) (EC (x9 xs n) n) a (a.alloc (U #[I V n] 26)) (by omega) L ((j.out).h ((a9.refl a).alloc _)) (b9.new a _ _) (fun e=>by have:=(j.lt e).2;omega) (by simp;omega));go_wp2_with fail
  apply F.mono;rintro e af⟨ad,rfl,N,H,-⟩;go_wp2_with fail
  go_ret;exact⟨_,rfl,by rw[f.out];exact N,(u.alloc _).f H (fun k m=>by have:=(j.lt m).1;omega)⟩
end
def UE(p:i1):Bool:=p.lc.any fun c=>c.2 !=0
def DC(p:i1):Bool:=p.dy==2147483648||(Dc (327680≤p.dy)&&Dc (p.dy≤331775))
def UZ(p:i1):Bool:=Dc (p.am≤2)&&(p.am !=0||(p.fa.length:Int)==0)
def spB(p:i1):Bool:=bits .andNot U6 p.sp C0==0
def y9(p:i1):Bool:=(((((((!UE p&&DC p)&&UZ p)&&x6 eC J p.ar)&&x6 gY J p.fa)&&bO p.fm p.fc)&&bO p.lm p.lc)&&spB p)
theorem a0M(n:o8)(W:Wd):Ca prog 68 (#[Ag (p5.c n).toArray]++ #[]) W fun e b=>e=X (O (n.2 !=0))∧a9 W b:=by
 obtain⟨s,x⟩:=n;have a:=(a9.refl W).alloc (U #[Y s,I V x] 144);show Ca prog 68 #[Ag #[Y s,I V x]] W _;go_in;go_wp2;go_ret;exact⟨rfl,a⟩
theorem FQ(p:i1)(E F G H:Va)(w:Wd)(v:p.small)(u:0≤p.fm∧0≤p.lm)(f:R3 w p E F G H):Ca prog 36 #[.agg (i4 p E F G H)] w fun e be=>e=X (O (y9 p))∧a9 w be:=by
 have cf:=(a9.refl w).alloc (U (i4 p E F G H) 39);have cb:=b9.new w 39 (i4 p E F G H);have dc:w<(w.alloc (U (i4 p E F G H) 39)).heap.size:=by simp
 obtain⟨Aa,cv,rfl,au,-⟩:=f.a;obtain⟨Af,bq,rfl,cc,-⟩:=f.f;obtain⟨Al,P,rfl,bb,-⟩:=f.l;obtain⟨Am,cw,rfl,bc,-⟩:=f.m;rw[a3R M V7 (fun _=>rfl)]at au;rw[a3R V N4 (fun _=>rfl)]at bc;obtain⟨bi,bj,bk,cp,cq,cr⟩:=jX (fun a(b:a9 w a)=>show Ca prog 67 #[Z Al p.lc.length P,Fc (.func 68) #[] #[]] a fun e be=>e=X (O (UE p))∧a9 a be from cfQ WF p5 (by decide) isAgg144 sizeOf144 _ 68 #[] (Eo func68 (by kernel_rfl) rfl) Al p.lc.length P p.lc a (fun x _ W _=>a0M x W) rfl (by have:=v.l;omega) (bb.h b)) (fun a(b:a9 w a)=>a3m Aa p.ar.length cv p.ar a rfl (by have:=v.a;omega) (au.h b)) (fun a(b:a9 w a)=>a3l Am p.fa.length cw p.fa a rfl (by have:=v.m;omega) (bc.h b)) (fun a(b:a9 w a)=>jC p.fm u.1 Af p.fc.length bq p.fc a rfl (by have:=v.f;omega) (cc.h b)) (fun a(b:a9 w a)=>jC p.lm u.2 Al p.lc.length P p.lc a rfl (by have:=v.l;omega) (bb.h b)) (fun a=>AT a);have g:DC p=(p.dy==2147483648||(Dc (327680≤p.dy)&&Dc (p.dy≤331775))):=rfl;have cd:UZ p=(Dc (p.am≤2)&&(p.am !=0||(p.fa.length:Int)==0)):=rfl;have ce:spB p=(bits .andNot U6 p.sp C0==0):=rfl;obtain⟨R,C⟩:∃R,R=y9 p:=⟨_,rfl⟩;rw[←C];unfold y9 at C;generalize UE p=b1 at*;generalize DC p=b2 at*;generalize UZ p=b3 at*;generalize x6 eC J p.ar=b4 at*;generalize x6 gY J p.fa=bn at*;generalize bO p.fm p.fc=bo at*;generalize bO p.lm p.lc=bp at*;generalize spB p=cu at*;obtain⟨ar,fm,fc,dy,lm,lc,fa,am,sp,we,pe,rt,np⟩:=p;dsimp only[i4]at*;obtain⟨y,av⟩:∃c,c=(!b1&&b2):=⟨_,rfl⟩;obtain⟨z,aw⟩:∃c,c=(y&&b3):=⟨_,rfl⟩;obtain⟨A,ax⟩:∃c,c=(z&&b4):=⟨_,rfl⟩;obtain⟨l,ay⟩:∃c,c=(A&&bn):=⟨_,rfl⟩;obtain⟨m,az⟩:∃c,c=(l&&bo):=⟨_,rfl⟩;obtain⟨i,ba⟩:∃c,c=(m&&bp):=⟨_,rfl⟩;rw[←av,←aw,←ax,←ay,←az,←ba]at C;obtain⟨an,ap,bl,bm,cs,ct⟩:=jX cb cf g cd ce C;obtain⟨ci,cj,ck,cm,cn,co⟩:=jX av aw ax ay az ba;clear cb cf g cd ce C av aw ax ay az ba au cc bb bc f v u;go_in;have da:=an.cell 5;go_wp2_with fail
 apply(bi _ ap.out).mono;rintro e db⟨rfl,bg⟩;obtain⟨o,N⟩:=i6 (an.h bg) (ap.trans bg);clear bg da an ap bi
 go_upto_region 2 with fail
 go_cut [4] (fun bd bf=>bd=O b2∧bf=db)
 case first=>
  have dd:=o.cell 3;have g:=bl.out;rcases n:dy==2147483648 with _|_
  ·rcases B:Dc (327680≤dy)with _|_
   ·rw[n,B]at g
    go_wp2_with fail
    go_meet
    exact⟨by rw[g];rfl,rfl⟩
   ·rw[n,B]at g
    go_wp2_with fail
    go_meet
    exact⟨by rw[g];simp,rfl⟩
  ·rw[n]at g
   go_wp2_with fail
   go_meet
   exact⟨by rw[g];rfl,rfl⟩
 case rest=>
  obtain⟨rfl,rfl⟩:=hcut
  go_upto_region 3 with fail
  go_cut [5] (fun bd bf=>bd=O b3∧bf=wc)
  case first=>
   obtain⟨de,cg⟩:=o.d2 7 6;have g:=bm.out;rcases n:Dc (am≤2)with _|_
   ·rw[n]at g
    go_wp2_with fail
    go_meet
    exact⟨by rw[g];rfl,rfl⟩
   ·rcases B:am !=0 with _|_
    ·rw[n,B]at g
     go_wp2_with fail
     go_meet
     exact⟨by rw[g];simp,rfl⟩
    ·rw[n,B]at g
     go_wp2_with fail
     go_meet
     exact⟨by rw[g];rfl,rfl⟩
  case rest=>
   obtain⟨rfl,rfl⟩:=hcut;have cz:=o.cell 0;go_wp2_with fail
   apply(bj _ N.out).mono;rintro e df⟨rfl,L⟩;have cg:=(o.h L).cell 6;go_wp2_with fail
   apply(bk _ (N.trans L)).mono;rintro e dg⟨rfl,bh⟩;obtain⟨ao,aq⟩:=i6 ((o.h L).h bh) ((N.trans L).trans bh);clear cz cg L bh o N bj bk bl bm;go_wp2_with fail
   refine e7 rfl ((.is ?Bh:VP)::(.is ?Bi:VP)::(.is (cond (!b1) (O b2) Un):VP)::(.is (O y):VP)::(.is ?Bj:VP)::(.is (cond y (O b3) Un):VP)::(.is (O z):VP)::(.is ?Bk:VP)::(.is (cond z (O b4) Un):VP)::(.is (O A):VP)::(.is ?Bl:VP)::(.is (cond A (O bn) Un):VP)::(.is (O l):VP)::(.is ?Bm:VP)::(.is (cond l (K (So ⟨w,1,J⟩)) Un):VP)::(.is (cond l (.agg #[I U8 fm,Z Af fc.length bq]) Un):VP)::(.is (cond l (O bo) Un):VP)::(.is (O m):VP)::(.is ?Bn:VP)::(.is (cond m (K (So ⟨w,4,J⟩)) Un):VP)::(.is (cond m (.agg #[I U8 lm,Z Al lc.length P]) Un):VP)::(.is (cond m (O bp) Un):VP)::(.is (O i):VP)::(.is ?Bo:VP)::(.is (cond i (K (So ⟨w,8,J⟩)) Un):VP)::(.is (cond i (I U6 sp) Un):VP)::(.is (cond i (I U6 C0) Un):VP)::(.is (cond i (I U6 (bits .andNot U6 sp C0)) Un):VP)::(.is (cond i (O cu) Un):VP)::(.is (O R):VP)::(.is ?Bp:VP)::[]) (by kernel_rfl) ?Bq ?Aa ⟨?Ab,?Ac,?Ad,?Ae,?Af,?Ag,?Ah,?Ai,?Aj,?Ak,?Al,?Am,?An,?Ao,?Ap,?Aq,?Ar,?As,?At,?Au,?Av,?Aw,?Ax,?Ay,?Az,?Ba,?Bb,?Bc,?Bd,?Be,?Bf,trivial⟩ ?Bg
   case Aa=>intro x;simp only[e6,Act.put,uL,l9]<;>rfl
   case Ab|Ac|Af|Ai|Al|Ao|At|Ay|Bf=>
    intro x a b;simp only[e5,j8,uV];repeat(intro d;try simp only[d])
    go_wp2_with fail
    refine a0e ?_ rfl (a9.refl _);rfl
   case Ad=>
    intro x a b;simp only[e5,j8,uV];intro q;simp only[q];cases b1;all_goals(try simp only[uB])
    all_goals first|exact g5 (by first|decide|(intro f;cases f)) (by first|rfl|trivial)|(refine g9 (by first|rfl|simp) ?_;(go_wp2_with(fail);refine a0e ?_ rfl (a9.refl _);exact rfl))
   case Ae=>
    intro x a b;simp only[e5,j8,uV];intro q ac;simp only[q,ac];rw[ci.out];cases b1;all_goals(try simp only[uB])
    all_goals(go_wp2_with(fail);refine a0e ?_ rfl (a9.refl _);exact rfl)
   case Ag=>
    intro x a b;simp only[e5,j8,uV];intro s;simp only[s];cases y;all_goals(try simp only[uB])
    all_goals first|exact g5 (by first|decide|(intro f;cases f)) (by first|rfl|trivial)|(refine g9 (by first|rfl|simp) ?_;(go_wp2_with(fail);refine a0e ?_ rfl (a9.refl _);exact rfl))
   case Ah=>
    intro x a b;simp only[e5,j8,uV];intro s ak;simp only[s,ak];rw[cj.out];cases y;all_goals(try simp only[uB])
    all_goals(go_wp2_with(fail);refine a0e ?_ rfl (a9.refl _);exact rfl)
   case Aj=>
    intro x a b;simp only[e5,j8,uV];intro t;simp only[t];cases z;all_goals(try simp only[uB])
    all_goals first|exact g5 (by first|decide|(intro f;cases f)) (by first|rfl|trivial)|(refine g9 (by first|rfl|simp) ?_;(go_wp2_with(fail);refine a0e ?_ rfl (a9.refl _);exact rfl))
   case Ak=>
    intro x a b;simp only[e5,j8,uV];intro t al;simp only[t,al];rw[ck.out];cases z;all_goals(try simp only[uB])
    all_goals(go_wp2_with(fail);refine a0e ?_ rfl (a9.refl _);exact rfl)
   case Am=>
    intro x a b;simp only[e5,j8,uV];intro r;simp only[r];cases A;all_goals(try simp only[uB])
    all_goals first|exact g5 (by first|decide|(intro f;cases f)) (by first|rfl|trivial)|(refine g9 (by first|rfl|simp) ?_;(go_wp2_with(fail);refine a0e ?_ rfl (a9.refl _);exact rfl))
   case An=>
    intro x a b;simp only[e5,j8,uV];intro r Q;simp only[r,Q];rw[cm.out];cases A;all_goals(try simp only[uB])
    all_goals(go_wp2_with(fail);refine a0e ?_ rfl (a9.refl _);exact rfl)
   case Ap=>
    intro x a b;simp only[e5,j8,uV];intro j;simp only[j];cases l;all_goals(try simp only[uB])
    all_goals first|exact g5 (by first|decide|(intro f;cases f)) (by first|rfl|trivial)|(refine g9 (by first|rfl|simp) ?_;(go_wp2_with(fail);refine a0e ?_ rfl (a9.refl _);exact rfl))
   case Aq=>
    intro x a b;simp only[e5,j8,uV];intro S j;simp only[S,j];obtain⟨u,cx⟩:=(ao.h b).d2 1 2;cases l;all_goals(try simp only[uB])
    all_goals first|exact g5 (by first|decide|(intro f;cases f)) (by first|rfl|trivial)|(refine g9 (by first|rfl|simp) ?_;(go_wp2_with(fail);refine a0e ?_ rfl (a9.refl _);exact rfl))
   case Ar=>
    intro x a b;simp only[e5,j8,uV];intro T j;simp only[T,j];cases l;all_goals(try simp only[uB])
    all_goals first|exact g5 (by first|decide|(intro f;cases f)) (by first|rfl|trivial)|(refine g9 (by first|rfl|simp) ?_;(go_wp2_with((go_at_call 75;apply(cp a (aq.trans b)).mono;rintro e ch⟨rfl,D⟩));refine a0e ?_ rfl (D);exact rfl))
   case As=>
    intro x a b;simp only[e5,j8,uV];intro j aa;simp only[j,aa];rw[cn.out];cases l;all_goals(try simp only[uB])
    all_goals(go_wp2_with(fail);refine a0e ?_ rfl (a9.refl _);exact rfl)
   case Au=>
    intro x a b;simp only[e5,j8,uV];intro k;simp only[k];cases m;all_goals(try simp only[uB])
    all_goals first|exact g5 (by first|decide|(intro f;cases f)) (by first|rfl|trivial)|(refine g9 (by first|rfl|simp) ?_;(go_wp2_with(fail);refine a0e ?_ rfl (a9.refl _);exact rfl))
   case Av=>
    intro x a b;simp only[e5,j8,uV];intro ab k;simp only[ab,k];obtain⟨u,cx⟩:=(ao.h b).d2 4 5;cases m;all_goals(try simp only[uB])
    all_goals first|exact g5 (by first|decide|(intro f;cases f)) (by first|rfl|trivial)|(refine g9 (by first|rfl|simp) ?_;(go_wp2_with(fail);refine a0e ?_ rfl (a9.refl _);exact rfl))
   case Aw=>
    intro x a b;simp only[e5,j8,uV];intro ad k;simp only[ad,k];cases m;all_goals(try simp only[uB])
    all_goals first|exact g5 (by first|decide|(intro f;cases f)) (by first|rfl|trivial)|(refine g9 (by first|rfl|simp) ?_;(go_wp2_with((go_at_call 75;apply(cq a (aq.trans b)).mono;rintro e ch⟨rfl,D⟩));refine a0e ?_ rfl (D);exact rfl))
   case Ax=>
    intro x a b;simp only[e5,j8,uV];intro k ae;simp only[k,ae];rw[co.out];cases m;all_goals(try simp only[uB])
    all_goals(go_wp2_with(fail);refine a0e ?_ rfl (a9.refl _);exact rfl)
   case Az=>
    intro x a b;simp only[e5,j8,uV];intro h;simp only[h];cases i;all_goals(try simp only[uB])
    all_goals first|exact g5 (by first|decide|(intro f;cases f)) (by first|rfl|trivial)|(refine g9 (by first|rfl|simp) ?_;(go_wp2_with(fail);refine a0e ?_ rfl (a9.refl _);exact rfl))
   case Ba=>
    intro x a b;simp only[e5,j8,uV];intro af h;simp only[af,h];have u:=(ao.h b).cell 8;cases i;all_goals(try simp only[uB])
    all_goals first|exact g5 (by first|decide|(intro f;cases f)) (by first|rfl|trivial)|(refine g9 (by first|rfl|simp) ?_;(go_wp2_with(fail);refine a0e ?_ rfl (a9.refl _);exact rfl))
   case Bb=>
    intro x a b;simp only[e5,j8,uV];intro h;simp only[h];cases i;all_goals(try simp only[uB])
    all_goals first|exact g5 (by first|decide|(intro f;cases f)) (by first|rfl|trivial)|(refine g9 (by first|rfl|simp) ?_;(go_wp2_with((go_at_call 76;apply(cr a).mono;rintro e ch⟨rfl,D⟩));refine a0e ?_ rfl (D);exact rfl))
   case Bc=>
    intro x a b;simp only[e5,j8,uV];intro ag ah h;simp only[ag,ah,h];cases i;all_goals(try simp only[uB])
    all_goals first|exact g5 (by first|decide|(intro f;cases f)) (by first|rfl|trivial)|(refine g9 (by first|rfl|simp) ?_;(go_wp2_with(fail);refine a0e ?_ rfl (a9.refl _);exact rfl))
   case Bd=>
    intro x a b;simp only[e5,j8,uV];intro ai h;simp only[ai,h];rw[cs.out];cases i;all_goals(try simp only[uB])
    all_goals first|exact g5 (by first|decide|(intro f;cases f)) (by first|rfl|trivial)|(refine g9 (by first|rfl|simp) ?_;(go_wp2_with(fail);refine a0e ?_ rfl (a9.refl _);exact rfl))
   case Be=>
    intro x a b;simp only[e5,j8,uV];intro h aj;simp only[h,aj];rw[ct.out];cases i;all_goals(try simp only[uB])
    all_goals(go_wp2_with(fail);refine a0e ?_ rfl (a9.refl _);exact rfl)
   case Bg=>
    intro x a b;simp only[l8,e5,j8,uV];intro br q ac bw s ak bz t al ca r Q bs j S T aa bt k ab ad ae bu h af ag ah ai aj bv bx;simp only[br,q,ac,bw,s,ak,bz,t,al,ca,r,Q,bs,j,S,T,aa,bt,k,ab,ad,ae,bu,h,af,ag,ah,ai,aj,bv,bx];clear br q ac bw s ak bz t al ca r Q bs j S T aa bt k ab ad ae bu h af ag ah ai aj bv bx;have cy:=aq.trans b;go_wp2_with fail
    go_ret;exact⟨rfl,cy⟩
end Go.Proofs.YtiomenjfmagknaaGreat
