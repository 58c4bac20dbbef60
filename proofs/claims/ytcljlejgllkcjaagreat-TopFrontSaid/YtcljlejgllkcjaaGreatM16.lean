/- A part of the proof of TopFront: lemmas on the walks of its calls. -/
import Derived.Test.YtcljlejgllkcjaaGreatM15
set_option maxHeartbeats 12000000
set_option linter.all false
set_option maxRecDepth 100000
namespace Go.Proofs.YtcljlejgllkcjaaGreat
open Go.RowKit Go.ChangeShapes Go.WideShapes Tryz
open Bool renaming true→Bt,false→Bf
open Decidable renaming decide→Dc
open Ending renaming returned→X
open Go renaming World→Wd,Value→Va,Calls→Ca,callsIn_wide→Cw,undef→Un,TypeId→Ti,Addr→Ad,Program→Pg,wpListIn→Wl,callsIn_of_wp_marks→Cm,CallsIn→Ci
open Go.Proofs renaming enters_of→Eo
open IntKind renaming i64→M,u32→V,u64→U6,u16→U1
open IntWalk renaming i64_in→h7
open List renaming getD_eq_getElem?_getD→b9,getElem?_eq_getElem→e9,length_append→g1,getElem_mem→g3,take_succ_eq_append_getElem→g2,length_map→i1,length_cons→i4,range→m9,length_take→m4,append_assoc→p6,length→D
open Nat renaming le_refl→a7,le_trans→b6,zero_le→c6,add_zero→j8
open Obj renaming cells→U
open Operand renaming tmp→Tm
open Option renaming none→J,some→So
open Value renaming int→I,slice→Z,pointer→K,bool→O,func→Fc,tuple→Tp,agg→Ag
section
attribute [local go_sem] Oper.semAt_some
def lY(l:o5):Int:=l.reverse.foldl fY 2147418112
def N0(xs:o5)(pre:R8):Int:=(pre.map λi=>xs.getD i 0).foldl fY 2147418112
theorem a1J(xs:o5):N0 xs (m9 (D xs)).reverse=lY xs:=by
 unfold N0 lY;rw[List.map_reverse];congr 2;refine List.ext_getElem i3 λi b a=> ?_
 simp[b9,e9 a]
structure CmI(u:Wd)(g s n c:Nat)(A:p1)(xs:o5)(z:Nat)(pre:R8)(W:Wd):Prop where
 b:e7 W g 32 #[I V (N0 xs pre)]
 s:e7 W s 33 #[Z A n c]
 x:a9 u W
 z:z<=W
theorem a2a(u:Wd)(g s n c:Nat)(f:p1)(xs:o5)(z:Nat)(k:u<=z):OwnFrom z (CmI u g s n c f xs z):=λpre W W' row⟨h,i,d,j⟩ a b=>
 ⟨i2 h a λr e=>(b r e).2,i2 i a λr e=>(b r e).2,Below.grown d a d.size (λr e=>b6 k (b r e).1),b6 j a.size⟩
theorem GU(d:p1)(n c:Nat)(xs:o5)(u:Wd)(Q:D xs=n)(av:n<=1000)(L:i5 u d (l8 V xs)):
 Ci .wide 3 prog 46 #[Z d n c] u λe ab=>e=X (I V (lY xs))/\a9 u ab:=by
 obtain⟨C,af,E⟩:=r6 L (a1J xs) Q;clear L Q;refine Cm func46 rfl trivial ?_ rfl;simp only[ntmps46,uE,Nat.reduceAdd,Nat.reduceSub];gi_wp2_with(refine⟨trivial,?_⟩;gi_at_call 72;apply(YD d n c _).mono;rintro e ab⟨rfl,rfl⟩);have F:e7 ((u.alloc (U #[I V 2147418112] 32)).alloc (U #[Z d n c] 33)) u 32 #[I V 2147418112]:=(e7.new u _ _).alloc _;have b1:e7 ((u.alloc (U #[I V 2147418112] 32)).alloc (U #[Z d n c] 33)) (u+1) 33 #[Z d n c]:=e7.b i3;have A:a9 u ((u.alloc (U #[I V 2147418112] 32)).alloc (U #[Z d n c] 33)):=((a9.refl u).alloc _).alloc _;have ax:((u.alloc (U #[I V 2147418112] 32)).alloc (U #[Z d n c] 33)).heap.size=u.heap.size+2:=i3;generalize(u.alloc (U #[I V 2147418112] 32)).alloc (U #[Z d n c] 33)=w0 at*;have N:i5 w0 d (l8 V xs):=C.h A;refine G8 rfl e6 (gf:=130) (lb:= #[K (u+1:Nat)]) rfl trivial (Eo func130 g6 rfl)
  (aH.toB (CT (u+1) n c d xs E a8 w0 b1.lt (by rw[b1.cell];rfl) N)) (λaj k=>aj.trans k)
  (λW l o z _ P m _=>⟨λt=>cell_kept t (grownBy_putObj' W l z) (λr e=>by cases e;exact⟨o,P,m⟩),λt j u am=>by
   obtain⟨b,ao,e,ak⟩:=t j u am
   exact⟨b,ao,e,cell_kept ak (grownBy_putObj' W l z) (λr e=>by cases e;exact⟨o,P,m⟩)⟩⟩) (Below.refl _ _) (λ_=>rfl)
  (λx W l o z H _ _=>H)
  (CmI u u (u+1) n c d xs w0) (λ_ _ _=>trivial) (a2a _ _ _ _ _ _ _ _ a8)
  ⟨F,b1,A,a7 _⟩
  (λx=> {tmps:= #[Z d n c,Un,I V 0,K u,Un,I V (xs.getD x 0),Z d n c,Fc (.func 130) #[] #[K (u+1:Nat)],I M x,I V (xs.getD x 0),Un,Un,Un,Un,Un],defers:=[]})
  ?Aa ?Ab ?Ac
 case Aa=>intro l g W ap i;gi_wp2;simpa using i
 case Ab=>
  rintro l pre y W⟨f,s,v,aa⟩ H aw;have al:N0 xs (pre++[y])=fY (N0 xs pre) (xs.getD y 0):=by unfold N0;rw[List.map_append,List.foldl_append,List.map_cons,List.map_nil,List.foldl_cons,List.foldl_nil]
  generalize N0 xs pre=a at*;generalize xs.getD y 0=g at*;have G:=f.cell 0;have B:=(a9.refl W).alloc (U #[I V a,I V g] 32);have q:=e7.new W 32 #[I V a,I V g];obtain⟨ag,ae,ai,ah⟩:=F6 ((Cw (n:=0)).2 (YS a g W _ (q.cell 0) (q.cell 1))) (f.h B) B s;clear F b1 A N f B q s;gi_wp2_with(refine⟨trivial,?_⟩;gi_at_call 73;refine C0 (CallsIn.inRound l ag.O) λac S=>?_;have h:=ae.h S;have ar:=h.frozen 0;have aq:ac.cell? ⟨u,0,J⟩=So (I V a):=h.cell 0);have p:Tv u [32] W (ac.setCell ⟨u,0,J⟩ (I V (fY a g))):=(Tv.f (ai.trans S)).trans (.r h (a7 _) e6 0 _);have R:=p.blk ah (.inr e6);have T:=p.b v (a7 _);exact⟨p.from,⟨λ_=>R.cell 0,λ_=>C.h T⟩,⟨by rw[al];exact h.f 0 _,R,T,b6 aa p.size⟩⟩
 rintro ad ys W au an⟨f,s,v,aa⟩ i;subst an;have G:=f.cell 0;have m:N0 xs (m9 n).reverse=lY xs:=by rw[<-E.O];exact af.O
 rw[m]at G;gi_wp2;refine⟨i3,.inl ⟨_,_,rfl,run_takeDeferred i,?_⟩⟩;exact⟨_,results_tmp rfl _ _ _,rfl,Below.trans v (belowK_b (w:=u) (a7 _) W ad _ _ a8 i rfl rfl)⟩
theorem a4L(a:p1)(n c:Nat)(xs:o5)(u:Wd)(f:D xs=n)(d:n<=1000)(b:i5 u a (l8 V xs)):
  Ca prog 46 #[Z a n c] u λe g=>e=X (I V (lY xs))/\a9 u g:=callsIn_wide.1 (GU a n c xs u f d b)
end
theorem MW{r:r9}(a:VC r):VC (J1 r):=by
 obtain⟨c,d⟩:=xL r.tests r.act;refine⟨a.nr,?_,λt b=>a.ts t (c t (List.mem_of_mem_take b)),b6 (AK r) a.len⟩;show kn (N6 r.tests r.act).2;rcases d with e|⟨t,b,e⟩
 rw[e];exact a.act;rw[e];exact(a.ts t b).2.2.2.2
theorem UL{f:J7}(a:eT f):eT (W9 f):=by obtain⟨k1,k2⟩:=oG f.dflt f.rules;have d:=a.len;have e:=a.sz;refine⟨a.ar,a.d,λr b=> ?_,jT _ _ _ a.ri,?_,?_⟩;obtain⟨x,c,rfl⟩:=List.mem_map.1 (List.mem_filter.1 b).1;exact MW (a.rs x c);show((f.rules.map J1).filter (P2 f.dflt)).length<=40;omega;show 3*D ((f.rules.map J1).filter (P2 f.dflt))+7*rR ((f.rules.map J1).filter (P2 f.dflt))+7<=1365;omega
structure jF where
 d:Nat
 a:Nat
 f:J7
def lL(p:j2)(d a:Nat):List jF:=match bG p d a with
 |none=>[]
 |some f=>[⟨d,a,f⟩]
def tM(p:j2)(d:Nat):List jF:=(m9 6).flatMap (lL p d)
def aZ(p:j2):List jF:=(if D p.ar=0 then []else [⟨0,6,⟨0,0,[]⟩⟩])++(m9 8).flatMap (tM p)
def WI(a:Bool)(p:j2)(x:jF):List B7:=if x.d=0 then mB a (O5 (xC (R3 p.ar))) (O5 (xC (R3 p.ar)))else mB a (O5 (eZ x.f)) (O5 (eZ (W9 x.f)))
structure Q5 where
 d:Int
 a:Int
 ins:List B7
def bN(a:Bool)(p:j2):List Q5:=(aZ p).map λx=>⟨x.d,x.a,WI a p x⟩
theorem a5x(p:j2)(a:Nat):bG p 0 a=J:=by show(if xU p.ar a&&Bf then _ else J)=J;rw[Bool.and_false];rfl
theorem a3C(p:j2):tM p 0=[]:=by unfold tM lL;simp only[a5x,List.flatMap_eq_nil_iff,implies_true]
theorem TS(p:j2)(d a:Nat):D (lL p d a)<=1:=by unfold lL;split<;>simp
theorem xE{b c:Type}(f:b->List c)(m:Nat)(a:∀x,D (f x)<=m):∀l:List b,D (l.flatMap f)<=m*D l
 |[]=>i3
 |x::l=>by have:=xE f m a l;have:=a x;rw[List.flatMap_cons,g1,i4,Nat.mul_succ];omega
theorem TR(p:j2)(d:Nat):D (tM p d)<=6:=by have:=xE (lL p d) 1 (TS p d) (m9 6);rw[List.length_range]at this;exact this
theorem TP(p:j2):D (aZ p)<=43:=by
 have a:=xE (tM p) 6 (TR p) [1,2,3,4,5,6,7];unfold aZ;rw[show m9 8=0::[1,2,3,4,5,6,7]from rfl,List.flatMap_cons,a3C,List.nil_append,g1];have b:D (if D p.ar=0 then([]:List jF)else [⟨0,6,⟨0,0,[]⟩⟩])<=1:=by split<;>simp
 simp only[i4,List.length_nil]at a;omega
theorem uK{f:J7}(h:eT f):bZ (O5 (eZ f))/\bZ (O5 (eZ (W9 f))):=
 let⟨⟨a1,a2,a3⟩,b1,b2,b3⟩:=a1B h.ok h.sz
 ⟨⟨a1,a2,a3⟩,⟨b1,b2,b3⟩⟩
section
theorem XO:∀(ts:List p3)(act:Int)(i:Nat),(Q0 (λt:p3=>t.mask==0) ts i= -1/\N6 ts act=(ts,act))\/∃k,∃a:k<D ts,Q0 (λt:p3=>t.mask==0) ts i=((i+k:Nat):Int)/\N6 ts act=(ts.take k,ts[k].act)
 |[],act,i=> .inl ⟨rfl,rfl⟩
 |t::r,act,i=>by
  unfold Q0 N6;by_cases a:t.mask=0;rw[if_pos (by simpa using a),if_pos a];exact .inr ⟨0,i3,rfl,rfl⟩;rw[if_neg (by simpa using a),if_neg a];rcases XO r act (i+1)with⟨b,d⟩|⟨k,e,b,d⟩
  rw[b,d];exact .inl ⟨rfl,rfl⟩;rw[b,d];exact .inr ⟨k+1,by simpa using e,a8,rfl⟩
theorem a37(nr act:Int)(A:p1)(c:Nat)(ts:List p3)(w:Wd)(E:D ts<=1000)(q:B4 w 435 y4 (Z A (D ts) c) ts):
 Ca prog 329 #[Ag #[I V nr,Z A (D ts) c,I V act]] w λe w'=>∃v,e=X (Ag #[I V nr,v,I V act])/\c7 w' w 435 y4 v ts/\a9 w w':=by
 have j:=((a9.refl w).alloc (U #[I V nr,Z A (D ts) c,I V act] 254)).alloc (U #[I V 0,Z J 0 0,I V 0] 254);have B:=(e7.new w 254 #[I V nr,Z A (D ts) c,I V act]).alloc (U #[I V 0,Z J 0 0,I V 0] 254);have N:e7 ((w.alloc (U #[I V nr,Z A (D ts) c,I V act] 254)).alloc (U #[I V 0,Z J 0 0,I V 0] 254)) (w+1) 254 #[I V 0,Z J 0 0,I V 0]:=e7.b i3;have t:=a6 (show Ca prog 390 #[Z A (D ts) c] _ _ from N3 JH y4 yR sizeOf435 a8 (q.h j).rd);have y:=B.cell 1;clear q;go_in;go_wp2_with fail;apply t.mono;rintro e L⟨v,rfl,a,i⟩;have f:=B.h i;have o:=N.h i;replace a:=a.mono (b2:=w+2) i3;obtain⟨d,h,g,rfl⟩:=a.f;have z:=f.frozen 1;have l:=f.f 1 (Z d h g);have C:=f.cell 1;obtain⟨F,G,H⟩:=l.c3;obtain⟨u,n,x⟩:=r6 (o.far (p:=⟨w,1,J⟩) i3 (Z d h g)) (a.low (b:=w) a8 1 (Z d h g)) ((j.trans i).set (p:=⟨w,1,J⟩) (a7 _) (Z d h g));clear f o a l y i j B N;go_wp2_with(refine q6 u.O ?_;intro P s r);exact F9 s underlying254 ⟨_,rfl,(n.kept r (.inr λe=>by have:=(n.lt e).1;omega)).mono a8,x.grown r (λk e=>by cases e;omega)⟩
theorem NZ(t:p3)(w:Wd):Ca prog 331 (#[Ag (y4.c t).toArray]++ #[]) w λe w'=>e=X (O (t.mask==0))/\a9 w w':=by show Ca prog _ #[Ag #[I M t.arg,I U6 t.mask,I U6 t.value,I V t.act]] w _;have a:=(a9.refl w).alloc (U #[I M t.arg,I U6 t.mask,I U6 t.value,I V t.act] 435);have b:=(e7.new w 435 #[I M t.arg,I U6 t.mask,I U6 t.value,I V t.act]).cell 1;go_wp2;go_ret;exact⟨rfl,a⟩
structure QK(w:Wd)(nr:Int)(A:p1)(m c:Nat)(ts:List p3)(act:Int)(wr:Wd):Prop where
 b:e7 wr w 254 #[I V nr,Z A m c,I V act]
 t:B4 wr 435 y4 (Z A m c) ts
 r:e7 wr (w+1) 254 #[I V 0,Z J 0 0,I V 0]
 x:a9 w wr
 c:m<=c
section
variable {w wr w':Wd} {nr act:Int} {A:Option Ad} {m c:Nat} {ts:List p3}
theorem LC{L:List p3}{a:Int}{j:Nat}(d:j<D L)(b:L[j].act=a):M3 L a (j+1)=M3 L a j:=by
 conv=>lhs;unfold M3
 rw[if_pos (by rw[b9,e9 d];exact b)]
theorem RP{L:List p3}{a:Int}{j:Nat}(d:j<D L)(b:L[j].act≠a):M3 L a (j+1)=j+1:=by unfold M3;rw[if_neg (by rw[b9,e9 d];exact b)]
theorem QK.set2(h:QK w nr A m c ts act wr)(a:Int):QK w nr A m c ts a (wr.setCell ⟨w,2,J⟩ (I V a)):=
 ⟨h.b.f 2 _,h.t.kept λb cs k=>k.far (λe=>k.ne h.b e6 e) _,h.r.far (by show w+1≠w.heap.size;omega) _,h.x.set (p:=⟨w,2,J⟩) (a7 _) _,h.c⟩
theorem QK.h(h:QK w nr A m c ts act wr)(x:a9 wr w'):QK w nr A m c ts act w':=⟨h.b.h x,h.t.h x,h.r.h x,h.x.trans x,h.c⟩
theorem QK.cut(a:QK w nr A m c ts act wr)(k d:Nat)(g:k<=D ts)(f:k<=d):QK w nr A k d (ts.take k) act (wr.setCell ⟨w,1,J⟩ (Z A k d)):=
 ⟨a.b.f 1 _,(a.t.take k d g).kept λb cs q=>q.far (λe=>q.ne a.b e6 e) _,a.r.far (by show w+1≠w.heap.size;omega) _,a.x.set (p:=⟨w,1,J⟩) (a7 _) _,f⟩
end
theorem WG(nr act:Int)(A:p1)(c:Nat)(ts:List p3)(w:Wd)(bw:D ts<=1000)(bd:B4 w 435 y4 (Z A (D ts) c) ts):
 Ca prog 257 #[Ag #[I V nr,Z A (D ts) c,I V act]] w λe w'=>∃r:RR,e=X (Ag (B8.c r).toArray)/\r.p=J1 ⟨nr,ts,act⟩/\B4 w' 435 y4 r.v r.p.tests/\a9 w w':=by
 have ap:=((a9.refl w).alloc (U #[I V nr,Z A (D ts) c,I V act] 254)).alloc (U #[I V 0,Z J 0 0,I V 0] 254);have B:=(e7.new w 254 #[I V nr,Z A (D ts) c,I V act]).alloc (U #[I V 0,Z J 0 0,I V 0] 254);have N:e7 ((w.alloc (U #[I V nr,Z A (D ts) c,I V act] 254)).alloc (U #[I V 0,Z J 0 0,I V 0] 254)) (w+1) 254 #[I V 0,Z J 0 0,I V 0]:=e7.b i3;have ay:=a6 (a37 nr act A c ts _ bw (bd.h ap));have au:=a6 (λ(l:p1)(p:Nat)(i:Wd)(br:i5 i l (y4.row ts))=>show Ca prog 330 #[Z l (D ts) p,Fc (.func 331) #[] #[]] i λe w'=>e=X (I M (Q0 (λt:p3=>t.mask==0) ts 0))/\a9 i w' from
  hX JG y4 e6 isAgg435 sizeOf435 (λt=>t.mask==0) 331 #[] (Eo func331 g6 rfl) l (D ts) p ts i (λx cu W _=>NZ x W) rfl a8 br)
 have E:=a6 (XO ts act 0);have aa:J1 ⟨nr,ts,act⟩=⟨nr,(N6 ts act).1.take (M3 (N6 ts act).1 (N6 ts act).2 (D (N6 ts act).1)),(N6 ts act).2⟩:=rfl;obtain⟨⟨L,h⟩,al⟩:∃q,q=N6 ts act:=⟨_,rfl⟩;rw[<-al]at E aa;dsimp only at aa;have av:=a6 aa;have cn:D L<=1000:=by have:=xM ts act;rw[<-al]at this;dsimp only at this;omega
 clear bd aa al;go_in;obtain⟨cb,y,bh⟩:=B.c3;go_wp2_with fail;apply ay.mono;rintro e cd⟨cx,rfl,ab,ac⟩;obtain⟨l,p,rfl⟩:=ab.b;obtain⟨_,_,bt,bs,_,_⟩:=ab.inM;cases bt;have ad:=B.h ac;obtain⟨ba,aw,az⟩:=r6 (N.h ac) ab (ap.trans ac);clear cb y bh B N ab ac ap ay;go_wp2_with(refine q6 ad ?_;intro bi S am;have y:=S.cell 1);have bj:=a6 S;have aj:=aw.ty.kept λb cs q=>q.grown am (λe=>by injection e with e;exact q.ne ad e6 e)
 have a:QK w nr l (D ts) p ts act bi:=⟨S,aj,ba.grown am (λe=>by injection e with e;omega),az.grown am (λk e=>by cases e;omega),bs⟩;have g:=a6 a;have bc:=aj.mem;clear ad a aj aw ba az S;refine l4 (au l p bi bc) λcy cg=>?_;have o:=a6 (g.h cg);clear y bc au bj g;go_upto_if 11 with fail;go_cut [3] (λcw cf=>∃ak,QK w nr l (D L) ak L h cf)
 ·rcases E.O with⟨hi,P⟩|⟨k,bv,hi,P⟩
  ·obtain⟨rfl,rfl⟩:L=ts/\h=act:=by injection P with h1 h2;exact⟨h1,h2⟩
   rw[hi];clear P hi E;go_wp2;go_meet;exact⟨p,o.O⟩
  obtain⟨rfl,rfl⟩:L=ts.take k/\h=ts[k].act:=by injection P with h1 h2;exact⟨h1,h2⟩
  rw[hi,Nat.zero_add];have v:=o.t.mem;obtain⟨bb,bg,rfl,_⟩:=v.rows e6 a8;have C:=v.l bv (r:=3) rfl;simp only[y4]at C;obtain⟨y,bh⟩:=o.b.d2 1 2;have cm:=o.b.frozen 2;have bq:=o.b.frozen 1;have cq:(k:Int)<D ts:=a8;have bp:(0:Int)<=k:=a8;have cp:k<=p:=a8;have cr:(k:Int)<=p:=a8;have ar:=(o.set2 ts[k].act).cut k k a8 (a7 k);have cv:=(o.set2 ts[k].act).b.cell 1;have bf:D (ts.take k)=k:=by rw[m4];omega
  obtain⟨bm,bl⟩:=j0 bf ar;generalize ts[k].act=T at*;clear P hi E v ar bf;go_wp2;go_meet;exact⟨k,by rw[bm.O];exact bl.O⟩
 obtain⟨ak,H⟩:=hcut;have y:=H.b.cell 1;have g:=a6 H;clear o E H;go_wp2;go_loopw [4] (λcc wr=>∃m u,m<=D L/\cc=I M m/\QK w nr l m u (L.take m) h wr/\M3 L h (D L)=M3 L h m) (λs _=>(intOf s).toNat);exact⟨D L,ak,a7 _,rfl,by rw[List.take_length];exact g.O,rfl⟩;clear y g;obtain⟨m,u,ct,rfl,H,R⟩:=hrel;have g:=a6 H;have an:D (L.take m)=m:=by rw[m4];omega
 have F:=a6 an;rcases m with _|j
 ·have ah:=a6 (show M3 L h (D L)=0 from R);clear H R an;go_wp2_with fail;refine gP ?_;repeat(apply D7;focus (intro x i f;simp only[g0,o7,uV];(repeat intro d;try simp only[d]);first|(refine a2B ?_ ?_;(first|decide|(intro G;cases G)|simp[I1]);first|rfl|trivial)|(go_wp2_with fail;exact dn rfl rfl (a9.refl _))))
  intro x i f;simp only[n9,g0,o7,uV];repeat(intro d;try simp only[d];clear d)
  have a:=g.h f;obtain⟨bx,bz,ca⟩:=a.b.c3;have n:=a6 a;clear a;go_wp2_with(refine q6 n.r ?_;intro ce ae Q);refine F9 ae underlying254 ⟨⟨⟨nr,L.take 0,h⟩,l,u⟩,?_,by rw[av.O,ah.O],?_,n.x.grown Q (λk e=>by cases e;omega)⟩;simp only[B8,RR.v,F.O];have ao:=n.t.kept λb cs k=>k.grown Q (λe=>by injection e with e;exact k.ne n.r e6 e)
  simp only[RR.v,F.O];exact ao
 have be:j<D L:=a8;have v:=H.t.mem;obtain⟨bb,bg,rfl,_⟩:=v.rows e6 a8;have C:=v.l (a8:j<D (L.take (j+1))) (r:=3) rfl;rw[List.getElem_take]at C;simp only[y4]at C;have ax:=a6 C;have cd:IntKind.i64.wrap (((j+1:Nat):Int)-1)=(j:Int):=by rw[h7 _ a8];omega
 have bp:(0:Int)<=j:=a8;have ck:(j:Int)<((j+1:Nat):Int):=a8;obtain⟨ai,ag⟩:=j0 (λG=>R.trans (LC be G)) (λG=>R.trans (RP be G));generalize L[j].act=T at*;clear H R an v C;by_cases z:T=h
 ·have bn:=a6 (ai z);have bo:(T==h)=Bt:=by simp[z]
  clear ai ag z;go_wp2_with fail;refine gP ?_;repeat(apply D7;focus (intro x i f;simp only[g0,o7,uV];(repeat intro d;try simp only[d]);have ch:=(g.b.h f).cell 1;have aq:=ax.O;have ci:=f.cell aq;have cj:=(g.b.h f).cell 2;(try refine a2E eX ?_);go_wp2_with fail;exact dn rfl rfl (a9.refl _)))
  intro x i f;simp only[n9,g0,o7,uV];repeat(intro d;try simp only[d];clear d)
  have a:=g.h f;have y:=a.b.cell 1;have bq:=a.b.frozen 1;have bu:j<=u:=by have:=a.c;omega
  have co:(j:Int)<=u:=a8;have af:=a.cut j u (by rw[F.O];omega) bu;rw[List.take_take,Nat.min_eq_left (Nat.le_succ j)]at af;have bk:=a6 af;clear a af;go_wp2;go_roundw;exact⟨j,u,a8,o3,bk.O,bn.O⟩;simp[intOf]
 have ah:=a6 (ag z);have bo:(T==h)=Bf:=by simp[z]
 clear ai ag z;go_wp2_with fail;refine gP ?_;repeat(apply D7;focus (intro x i f;simp only[g0,o7,uV];(repeat intro d;try simp only[d]);have ch:=(g.b.h f).cell 1;have aq:=ax.O;have ci:=f.cell aq;have cj:=(g.b.h f).cell 2;(try refine a2E eX ?_);go_wp2_with fail;exact dn rfl rfl (a9.refl _)))
 intro x i f;simp only[n9,g0,o7,uV];repeat(intro d;try simp only[d];clear d)
 have a:=g.h f;obtain⟨bx,bz,ca⟩:=a.b.c3;have n:=a6 a;clear a;go_wp2_with(refine q6 n.r ?_;intro ce ae Q);refine F9 ae underlying254 ⟨⟨⟨nr,L.take (j+1),h⟩,(So ⟨bb,bg,J⟩),u⟩,?_,by rw[av.O,ah.O],?_,n.x.grown Q (λk e=>by cases e;omega)⟩;simp only[B8,RR.v,F.O];have ao:=n.t.kept λb cs k=>k.grown Q (λe=>by injection e with e;exact k.ne n.r e6 e)
 simp only[RR.v,F.O];exact ao
end
def WN:List Ti:=[254,114]
def m3(d:Int)(rs:List RR):List r9:=((rs.map (·.p)).map J1).filter (P2 d)
theorem UN(a:Int)(rs:List RR){k:Nat}(b:k<D rs):m3 a (rs.take (k+1))=m3 a (rs.take k)++if P2 a (J1 rs[k].p)then [J1 rs[k].p]else []:=by unfold m3;rw[g2 b,List.map_append,List.map_append,List.filter_append];simp[List.filter_cons]
structure NmI(w u:Wd)(a d:Int)(A:p1)(c n:Nat)(v:Va)(qs:List RR)(wr:Wd):Prop where
 b:e7 wr u 114 #[I M a,v,I V d]
 o:c7 wr u 254 B8 v qs
 t:∀r∈qs,B4 wr 435 y4 r.v r.p.tests
 v:Tv u WN u wr
 i:e7 wr w 114 #[I M a,Z A n c,I V d]
 r:e7 wr (w+1) 114 #[I M 0,Z J 0 0,I V 0]
theorem NmI.box{w u wr f l:Wd}{a i:Int}{h:p1}{c n:Nat}{v:Va}{j:List RR}(d:NmI w u a i h c n v j wr)(x:a9 wr f)(z:w+2<=u.heap.size){cs:Array Va}(k:e7 f wr 254 cs)(g:f.grownBy l (So wr)):NmI w u a i h c n v j l:=by have p:=d.v.size;have s:=d.i.lt;have t:=d.r.lt;have y:=d.b.lt;exact⟨(d.b.h x).grown g (λe=>by injection e with e;omega),(d.o.h x).kept g (.inr λe=>by have:=(d.o.lt e).2;omega),λr o=>((d.t r o).h x).kept λb cs q=>q.grown g (λe=>by injection e with e;exact q.ne k e6 e),d.v.trans ((Tv.f x).trans (.l g λb m=>by cases m;exact⟨p,_,k,rfl⟩)),(d.i.h x).grown g (λe=>by injection e with e;omega),(d.r.h x).grown g (λe=>by injection e with e;omega)⟩
theorem NY(a f:Int)(z:p1)(c:Nat)(rs:List RR)(w:Wd)(am:eT ⟨a,f,rs.map (·.p)⟩)(bh:B4 w 254 B8 (Z z (D rs) c) rs)(bi:∀r∈rs,B4 w 435 y4 r.v r.p.tests):
 Ca prog 165 #[Ag #[I M a,Z z (D rs) c,I V f]] w λe bs=>∃bu cb h,e=X (Tp #[Ag #[I M a,Z bu (D (h:List RR)) cb,I V f],I M 0])/\B4 bs 254 B8 (Z bu (D h) cb) h/\(∀r∈h,B4 bs 435 y4 r.v r.p.tests)/\h.map (·.p)=m3 f rs/\a9 w bs:=by
 have ar:=((a9.refl w).alloc (U #[I M a,Z z (D rs) c,I V f] 114)).alloc (U #[I M 0,Z J 0 0,I V 0] 114);have B:=(e7.new w 114 #[I M a,Z z (D rs) c,I V f]).alloc (U #[I M 0,Z J 0 0,I V 0] 114);have N:e7 ((w.alloc (U #[I M a,Z z (D rs) c,I V f] 114)).alloc (U #[I M 0,Z J 0 0,I V 0] 114)) (w+1) 114 #[I M 0,Z J 0 0,I V 0]:=e7.b i3;have bv:=a6 (a2w a f z c rs _ am (bh.h ar).mem λr g=>(bi r g).h ar);have df:D rs<=40:=by have:=am.len;simpa using this
 obtain⟨cn,cj,cm,ck⟩:=F6 (λ(r:RR)(g:r∈rs)=>show D r.p.tests<=1000 by have:=(am.rs r.p (List.mem_map_of_mem g)).len;omega) bh bi (λk n=>UN f rs (k:=k) n);obtain⟨ap,aa,aq⟩:=B.c3;clear am bh bi;go_in;go_wp2_with fail;refine l4 bv λm ak=>?_;have aw:=B.h ak;have ac:=ar.trans ak;clear ap aa aq;obtain⟨ap,aa,aq⟩:=aw.c3;have bo:w+2<=m.heap.size:=by have:=ak.size;simpa using this
 have bc:NmI w m a f z c (D rs) (Z J 0 0) [] (m.alloc (U #[I M a,Z J 0 0,I V f] 114)):=
  ⟨e7.new _ _ _,c7.nil _ _ _ _,λr g=>(by cases g),.f ((a9.refl m).alloc _),aw.alloc _,(N.h ak).alloc _⟩
 have db:=bc.i.cell 1;obtain⟨cp,bw⟩:=j0 ac bc;clear ak ar ac B aw N bc bv;go_wp2;go_loopw [19] (λdc wr=>∃(k:Nat)(v:Va)(h:List RR),k<=D rs/\dc=I M k/\NmI w m a f z c (D rs) v h wr/\h.map (·.p)=m3 f (rs.take k)/\D h<=k) (λi _=>D rs-(intOf i).toNat);exact⟨0,_,[],c6 _,rfl,bw.O,rfl,a7 _⟩;clear db ap aa aq bw;obtain⟨k,v,h,n,rfl,N,ce,bm⟩:=hrel;have al:=a6 ce;clear ce;have ai:=N.v.b cp a8;by_cases R:k<D rs
 ·have ag:=(cj.h ai).mem;obtain⟨de,dg,rfl,_⟩:=ag.rows e6 a8;have cy:=ag.l R (r:=0) rfl;have cz:=ag.l R (r:=1) rfl;have da:=ag.l R (r:=2) rfl;simp only[B8,j8]at cy cz da;have cc:=(cm _ (g3 R)).h ai;have cx:=cn _ (g3 R);have cf:=ck k R;generalize rs[k]=x at*;obtain⟨⟨T,ts,H⟩,av,be⟩:=x;dsimp only[RR.v]at*;have bt:=(a9.refl wr).alloc (U #[I V T,Z av (D ts) be,I V H] 254);have ax:=e7.new wr 254 #[I V T,Z av (D ts) be,I V H];obtain⟨bq,an,ao⟩:=ax.c3;obtain⟨bx,az,cq,p⟩:=F6 (WG T H av be ts _ cx (cc.h bt)) cf bt N;clear cc cf ag bt N ai;go_wp2_with fail;apply bx.mono;rintro e dh⟨⟨⟨W,t,u⟩,G,L⟩,rfl,cd,ca,ac⟩;dsimp only[B8,RR.v]at*;obtain⟨A,bb,af,bz⟩:=F6 (ax.h ac) (cq.trans ac) cd ca;clear bq an ao ax ac bx cd ca;by_cases P:0<D t
  ·have ct:Dc (0<D t)=Bt:=by simpa using P
   have n:P2 f (J1 ⟨T,ts,H⟩)=Bt:=by rw[<-af.O];simp[P2,P]
   have ad:=a6 n;clear n P;have bl:D h+1<=1000000:=a8;go_wp2_with(first
    |(refine q6 A.O ?_;intro ab l s;have j:=p.box bb bo A s;have bq:=l.cell 0;have an:=l.cell 1;have ao:=l.cell 2;have cg:=j.i.cell 2;have aa:=j.b.cell 1;have bk:=j.v.size;have ah:=bz.kept λb cs k=>k.grown s (λe=>by injection e with e;exact k.ne A e6 e);have d:=a6 j;have ba:=a6 ah;clear j l ah s)
    |(at_builtin;go_loud (refine h8 rfl (Tm 37) (Tm 39) 112 254 rfl EF m v h rfl (d.o.h ((a9.refl _).alloc _)) _ 1 1 [⟨⟨W,t,u⟩,G,L⟩] rfl rfl (cF i3 rfl) bl (b6 bk i3) ?_;intro dd aj F bn E bj;obtain⟨au,bp,bd,rfl⟩:=F.f;have y:=(d.b.alloc (U #[I V W,Z G (D t) L,I V u] 254)).grown E (λe=>d.o.ne d.b e6 e.symm);have cw:=y.frozen 1;have cv:aj.cell? ⟨m,1,J⟩=So v:=y.cell 1;have C:=a6 y;have ae:=a6 F;have ay:=a6 E;clear y F E bn bj)))
   have br:Tv m WN ab aj:=(Tv.f ((a9.refl ab).alloc _)).trans (.ofOwn (d.o.h ((a9.refl _).alloc _)) ay (a7 _) e6);have o:=br.trans (Tv.r C (a7 _) (S:=WN) e6 1 (Z au bp bd));go_roundw;refine⟨k+1,_,h++[⟨⟨W,t,u⟩,G,L⟩],a8,o3,⟨C.f 1 _,ae.kept (c8 _ m 1 _) (.inr (ae.ne C e6)),λr g=> ?_,d.v.trans o,o.blk d.i (.inl a8),o.blk d.r (.inl a8)⟩,by rw[List.map_append,al.O,az.O,if_pos ad.O,<-af.O];rfl,by rw[g1];exact Nat.succ_le_succ bm⟩;rcases List.mem_append.1 g with g|g
   exact(d.t r g).tv o e6;rw[List.mem_singleton.1 g];exact ba.tv o e6;simp[intOf];omega
  have ct:Dc (0<D t)=Bf:=by simpa using P
  have bf:D t=0:=a8;by_cases Q:u=f
  ·have cu:(u !=f)=Bf:=by simp[Q]
   have n:P2 f (J1 ⟨T,ts,H⟩)=Bf:=by rw[<-af.O];simp[P2,Q,bf]
   have ad:=a6 n;clear n P Q bf;go_wp2_with(refine q6 A.O ?_;intro ab l s;have j:=p.box bb bo A s;have an:=l.cell 1;have ao:=l.cell 2;have cg:=j.i.cell 2;have d:=a6 j;clear j l s);go_roundw;exact⟨k+1,v,h,a8,o3,d.O,by rw[al.O,az.O,if_neg (by rw[ad.O];decide),List.append_nil],Nat.le_succ_of_le bm⟩;simp[intOf];omega
  have cu:(u !=f)=Bt:=by simp[Q]
  have n:P2 f (J1 ⟨T,ts,H⟩)=Bt:=by rw[<-af.O];simp[P2,Q]
  have ad:=a6 n;clear n P Q bf;have bl:D h+1<=1000000:=a8;go_wp2_with(first
   |(refine q6 A.O ?_;intro ab l s;have j:=p.box bb bo A s;have bq:=l.cell 0;have an:=l.cell 1;have ao:=l.cell 2;have cg:=j.i.cell 2;have aa:=j.b.cell 1;have bk:=j.v.size;have ah:=bz.kept λb cs k=>k.grown s (λe=>by injection e with e;exact k.ne A e6 e);have d:=a6 j;have ba:=a6 ah;clear j l ah s)
   |(at_builtin;go_loud (refine h8 rfl (Tm 37) (Tm 39) 112 254 rfl EF m v h rfl (d.o.h ((a9.refl _).alloc _)) _ 1 1 [⟨⟨W,t,u⟩,G,L⟩] rfl rfl (cF i3 rfl) bl (b6 bk i3) ?_;intro dd aj F bn E bj;obtain⟨au,bp,bd,rfl⟩:=F.f;have y:=(d.b.alloc (U #[I V W,Z G (D t) L,I V u] 254)).grown E (λe=>d.o.ne d.b e6 e.symm);have cw:=y.frozen 1;have cv:aj.cell? ⟨m,1,J⟩=So v:=y.cell 1;have C:=a6 y;have ae:=a6 F;have ay:=a6 E;clear y F E bn bj)))
  have br:Tv m WN ab aj:=(Tv.f ((a9.refl ab).alloc _)).trans (.ofOwn (d.o.h ((a9.refl _).alloc _)) ay (a7 _) e6);have o:=br.trans (Tv.r C (a7 _) (S:=WN) e6 1 (Z au bp bd));go_roundw;refine⟨k+1,_,h++[⟨⟨W,t,u⟩,G,L⟩],a8,o3,⟨C.f 1 _,ae.kept (c8 _ m 1 _) (.inr (ae.ne C e6)),λr g=> ?_,d.v.trans o,o.blk d.i (.inl a8),o.blk d.r (.inl a8)⟩,by rw[List.map_append,al.O,az.O,if_pos ad.O,<-af.O];rfl,by rw[g1];exact Nat.succ_le_succ bm⟩;rcases List.mem_append.1 g with g|g
  exact(d.t r g).tv o e6;rw[List.mem_singleton.1 g];exact ba.tv o e6;simp[intOf];omega
 obtain rfl:k=D rs:=a8;obtain⟨ch,cr,rfl⟩:=N.o.b;obtain⟨ap,aa,aq⟩:=N.b.c3;obtain⟨p,co⟩:=j0 N ai;clear N ai;go_wp2_with(refine q6 p.r ?_;intro di ci bg);exact s0 rfl ci underlying114 ⟨ch,cr,h,rfl,(p.o.kept bg (.inr (p.o.ne p.r e6))).ty,λr g=>(p.t r g).kept λb cs q=>q.grown bg (λe=>by injection e with e;exact q.ne p.r e6 e),by rw[al.O,List.take_length],co.grown bg (λk e=>by cases e;omega)⟩
theorem MO(w:Wd)(T:Ti):(w.alloc (U #[] T)).ownsRow w T 4 (Z w 0 0) 0 []:=
 ⟨rfl,.inr ⟨_,0,#[],rfl,a7 _,e7.new w T #[],a7 _,c6 _,rfl,rfl⟩⟩
theorem IR{w:Wd}{base:Nat}{b:Ti}{n c:Nat}{a:p1}{xs:List Va}(e:w.ownsRow base b 4 (Z a n c) n xs)(m:1<=n):∃g j,a=So ⟨g,0,J⟩/\e7 w g b (xs++j).toArray/\base<=g:=by
 obtain⟨l,⟨d,k⟩|⟨g,cap,cur,d,f,h,_,_,_,i⟩⟩:=e;omega;injection d with hA
 refine⟨g,cur.toList.drop (n*4),hA,?_,f⟩;unfold e7;rw[h,<-i,List.take_append_drop]
theorem a6c(b o n c:Nat)(a:List Sy)(w:Wd)(F:D a=n)(N:1<=n)(R:n<=131072)(j:i5 w (So ⟨b,o,J⟩) (sc a)):
 Ca prog 400 #[Z (So ⟨b,o,J⟩) n c] w λe i=>∃g d h,e=X (Z (So ⟨g,0,J⟩) n d)/\e7 i g 417 (sc a++h).toArray/\w.heap.size<=g/\a9 w i:=by
 obtain⟨L,hi,p,q,r⟩:=info_parts BF;have l:=MO w 417;have f:=(a9.refl w).alloc (U #[] 417);have k:D (sc a)=n*4:=by rw[M8];omega
 have z:=SE a;have u:=a6 (j.h f);have s:=a6 hi;have v:=a6 p;have x:=a6 q;have y:=a6 r;have t:=a6 k;have B:0+n<=1000000:=a8;have Q:∀w:Wd,(binOp .eql 180 (Z (So ⟨b,o,J⟩) n c) (Z J 0 0)).run prog w= .ok (O Bf) w:=λw=>Lib.run_eql_slice_nil w _ 417 _ n c 0 0 underlying180
 clear hi p q r F k j;go_in;go_wp2_with(refine aN rfl (Tm 5) (Tm 6) 180 rfl w 417 L _ 4 24 underlying180 s v x y rfl e6 w 0 0 [] rfl l _ n c (sc a) rfl t u z B e6 f.size ?_;intro P d i m E H;clear H);have G:=f.app l (a7 _) E;rw[List.nil_append,Nat.zero_add]at m;obtain⟨g,h,rfl,A,C⟩:=IR m N;go_ret;exact⟨g,d,h,rfl,A,C,G⟩
def fW(f:Int->Int)(a:List Sy)(k:Nat):List Sy:=(m9 (D a)).map λi=>if i<k then mv f (a.getD i i0)else a.getD i i0
theorem E9(f:Int->Int)(a:List Sy)(k:Nat):D (fW f a k)=D a:=by simp[fW]
theorem U2(f:Int->Int)(a:List Sy)(k i:Nat)(b:i<D a):(fW f a k).getD i i0=if i<k then mv f (a.getD i i0)else a.getD i i0:=by simp[fW,b9,b]
theorem MY(f:Int->Int)(a:List Sy):fW f a 0=a:=xH (E9 _ _ _) λi hi=>by rw[E9]at hi;rw[U2 f a 0 i hi,if_neg a8]
theorem UT(f:Int->Int)(a:List Sy):fW f a (D a)=a.map (mv f):=xH (by rw[E9,i1]) λi hi=>by rw[E9]at hi;rw[U2 f a _ i hi,if_pos hi,lT _ _ _ hi]
theorem MZ(f:Int->Int)(a:List Sy)(k:Nat)(c:k<D a):(fW f a k).set k (mv f (a.getD k i0))=fW f a (k+1):=xH (by rw[List.length_set,E9,E9]) λi hi=>by rw[List.length_set,E9]at hi;rw[X3,E9,U2 f a k i hi,U2 f a (k+1) i hi];by_cases e:k=i;subst e;rw[if_pos ⟨rfl,hi⟩,if_pos a8];rw[if_neg (λx=>e x.1)];by_cases b:i<k;rw[if_pos b,if_pos a8];rw[if_neg b,if_neg a8]
theorem NA(f:Int->Int)(a:List Sy)(k:Nat)(d:k<D a)(c:mv f (a.getD k i0)=a.getD k i0):fW f a (k+1)=fW f a k:=xH (by rw[E9,E9]) λi hi=>by rw[E9]at hi;rw[U2 f a k i hi,U2 f a (k+1) i hi];by_cases e:k=i;subst e;rw[if_pos a8,if_neg a8,c];by_cases b:i<k;rw[if_pos b,if_pos a8];rw[if_neg b,if_neg a8]
theorem zD:∀(a:List Sy)(k r:Nat)(v:Va)(s':Sy)(b:k<D a),r<4->a[k].cells.toList.set r v=s'.cells.toList->(sc a).set (k*4+r) v=sc (a.set k s')
 |i::a,0,r,v,s',_,hr,h=>by rw[Q6,List.set_append_left _ _ (by simp[Sy.cells];omega),Nat.zero_mul,Nat.zero_add];have c:i.cells.toList.set r v=s'.cells.toList:=h;rw[c];rfl
 |i::a,k+1,r,v,s',b,hr,h=>by
  have d:k<D a:=by simpa using b
  have:=zD a k r v s' d hr (by simpa using h);rw[Q6,List.set_append_right _ _ (by simp[Sy.cells];omega)];have e:(k+1)*4+r-D i.cells.toList=k*4+r:=by simp[Sy.cells];omega
  rw[e,this];rfl
theorem uY{w:Wd}{g:Nat}{b:Ti}{a:List Sy}{c:List Va}(d:e7 w g b (sc a++c).toArray){k:Nat}(e:k<D a)(r:Nat)(f:r<4)(v:Va)(s':Sy)(h:a[k].cells.toList.set r v=s'.cells.toList):
 e7 (w.setCell ⟨g,k*4+r,J⟩ v) g b (sc (a.set k s')++c).toArray:=by
 have:=d.f (k*4+r) v;rw[List.setIfInBounds_toArray,List.set_append_left _ _ (by rw[M8];omega),zD a k r v s' e f h]at this;exact this
theorem YB{w:Wd}{g:Nat}{b:Ti}{a:List Sy}{c:List Va}{k:Nat}{co kk th el:Int}(d:e7 w g b (sc a++c).toArray)(f:k<D a)(e:a[k]=⟨co,kk,th,el⟩)(x:Int):
  e7 (w.setCell ⟨g,k*4+2,J⟩ (I M x)) g b (sc (a.set k ⟨co,kk,x,el⟩)++c).toArray:=uY d f 2 a8 _ _ (by rw[e];rfl)
theorem a4t{w:Wd}{g:Nat}{b:Ti}{a:List Sy}{c:List Va}{k:Nat}{co kk th el:Int}(d:e7 w g b (sc a++c).toArray)(f:k<D a)(e:a[k]=⟨co,kk,th,el⟩)(x:Int):
  e7 (w.setCell ⟨g,k*4+3,J⟩ (I M x)) g b (sc (a.set k ⟨co,kk,th,x⟩)++c).toArray:=uY d f 3 a8 _ _ (by rw[e];rfl)
theorem eO{w:Wd}{g:Nat}{b:Ti}{a:List Sy}{f:List Va}{k:Nat}{co kk th el:Int}(c:e7 w g b (sc a++f).toArray)(d:k<D a)(e:a[k]=⟨co,kk,th,el⟩):
 w.cell? ⟨g,k*4,J⟩=So (I U1 co)/\w.cell? ⟨g,k*4+1,J⟩=So (I V kk)/\w.cell? ⟨g,k*4+2,J⟩=So (I M th)/\w.cell? ⟨g,k*4+3,J⟩=So (I M el):=by
 have:=G7 (i5.f c rfl).prefix_ d;simp only[Nat.zero_add,e]at this;exact this
theorem jW(s:Sy)(q:Int)(b:(dV s.code).1.cls=q)(h:(q==4)=Bf)(W:Wd):Ca prog 402 #[s.val] W λe g=>e=X (O Bf)/\a9 W g:=by have a:=a6 (λW'=>K9 s.code W');rw[b]at a;clear b;obtain⟨co,k,th,el⟩:=s;unfold Sy.val Sy.cells;dsimp only at*;have d:=(a9.refl W).alloc (U #[I U1 co,I V k,I M th,I M el] 417);have c:=e7.new W 417 #[I U1 co,I V k,I M th,I M el];obtain⟨i,j,l,m⟩:=(c).c4;go_in;go_wp2_with fail;refine l4 (a _) λn f=>?_;go_wp2;go_ret;exact⟨rfl,d.trans f⟩
theorem CX{s:Sy}{a n:Int}(d:N9 s a n)(W:Wd):Ca prog 402 #[s.val] W λe g=>e=X (O (a2L s.code))/\a9 W g:=by
 have b:=iK d;rcases d with⟨q,_,_,_⟩|⟨q,_,_⟩|⟨q,_,_⟩|⟨q,_,_,f⟩|⟨q,f,h⟩
 rw[q]at b⊢;exact jW s 1 (by rw[q];exact b) rfl W;rw[q]at b⊢;exact jW s 3 (by rw[q];exact b) rfl W;rw[q]at b⊢;exact jW s 5 (by rw[q];exact b) rfl W;rw[q]at b;have c:=wJ s (by rw[q];exact b) W;rw[q]at c⊢;exact c;have c:=wJ s (by rw[b,if_neg a8,if_neg a8,if_neg a8]) W;rw[A7.2 q];rw[show(s.code !=5)=Bt by simp;omega]at c;exact c
def MvS(j:FuncId)(C:Array Va)(B:Va->Array Va):Prop:=∀(f:Int->Int)(P:Int->Prop)(b o n c:Nat)(d:List Sy)(w:Wd),D d=n->1<=n->n<=131072->i5 w (So ⟨b,o,J⟩) (sc d)->
  (∀i,i<n->∃a m,N9 (d.getD i i0) a m)->(∀i,i<n->∀t,X4 (d.getD i i0) t->P t)->
  (∀W t,a9 w W->P t->Ca prog j (B (I M t)) W λe h=>e=X (I M (f t))/\a9 W h)->
  Ca prog 398 #[Z (So ⟨b,o,J⟩) n c,Fc (.func j) #[] C] w λe h=>∃g k l,e=X (Z (So ⟨g,0,J⟩) n k)/\e7 h g 417 (sc (d.map (mv f))++l).toArray/\w.heap.size<=g/\a9 w h
theorem pN:(∀gb,MvS 401 #[K (So ⟨gb,0,J⟩)] λv=> #[v,K (So ⟨gb,0,J⟩)])/\(∀gb,MvS 404 #[K (So ⟨gb,0,J⟩)] λv=> #[v,K (So ⟨gb,0,J⟩)])/\∀aw gb,MvS 399 #[K (So ⟨aw,0,J⟩),K (So ⟨gb,0,J⟩)] λv=> #[v,K (So ⟨aw,0,J⟩),K (So ⟨gb,0,J⟩)]:=by
 refine⟨λgb=> ?_,λgb=> ?_,λaw gb=> ?_⟩<;>(
  intro f P b o n c d w bd cq cr bq bk bm ao
  dsimp only at ao
  obtain⟨bj,bl,cg,ck,ap,cd⟩:=dK (a6c b o n c d w bd cq cr bq) bd bk bm ao (UT f d)
  obtain⟨cj,ci,ch,cf,cm⟩:=Y2 (MZ f d) (NA f d) (E9 f d) (U2 f d) (MY f d)
  clear bd bq bk bm ao
  go_in
  go_wp2_with fail
  apply(bj.O).mono
  rintro e dc⟨g,cn,bx,rfl,br,ah,bv⟩
  have bi:=a6 br
  clear br bj
  go_wp2
  go_loopw [12] (λbg W=>∃k:Nat,k<=n/\bg=I M k/\a9 w W/\e7 W g 417 (sc (fW f d k)++bx).toArray) (λbg _=>n-(intOf bg).toNat)
  case atStart=>exact⟨0,c6 _,rfl,bv,by rw[cm.O];exact bi.O⟩
  case round=>
   clear bv bi
   obtain⟨k,cw,rfl,bf,F⟩:=hrel
   by_cases bb:k<n
   ·have aa:k<D d:=by rw[bl.O];exact bb
    have B:k<D (fW f d k):=by rw[ch.O];exact aa
    obtain⟨cy,cz,G⟩:=cg k bb
    have ag:=iK G
    have H:=λt=>ck k bb t
    have ab:(fW f d k)[k]=d.getD k i0:=by
     have:=cf k k aa
     rw[if_neg a8]at this
     rw[<-this]
     simp[b9,B]
    have C:=cj k aa
    have ai:=ci k aa
    have z:=a6 (λW'=>CX G W')
    have k1:(0:Int)<=k:=a8
    have k2:(k:Int)<n:=a8
    have k3:(k:Int)<=131072:=a8
    generalize L:fW f d k=aj at*
    generalize bu:fW f d (k+1)=ca at*
    have aq:=a6 bu
    generalize d.getD k i0=s at*
    obtain⟨co,kk,th,el⟩:=s
    obtain⟨da,bz,cs,db⟩:=eO F B ab
    unfold Sy.val Sy.cells at z
    dsimp only at*
    have ad:=e7.new wr 417 #[I U1 co,I V kk,I M th,I M el]
    have S:=bf.alloc (U #[I U1 co,I V kk,I M th,I M el] 417)
    have ax:=F.alloc (U #[I U1 co,I V kk,I M th,I M el] 417)
    have bt:wr≠g:=by have:=F.lt;omega
    obtain⟨h,i,j,l⟩:=(ad).c4
    have E:=a6 (λW'=>K9 co W')
    clear L bu F bf aa
    by_cases ae:co=5
    ·subst ae
     have N:(dV 5).1.cls=4:=g6
     have bn:a2L 5=Bf:=rfl
     rw[N]at E
     rw[bn]at z
     obtain⟨ba,ac⟩:=j0 (H th (WB rfl)) (show aj.set k ⟨5,kk,f th,el⟩=ca from by rw[tP f rfl]at C;exact C)
     clear G ag H C ai N bn
     go_wp2_with fail
     apply(E _).mono
     rintro e ak⟨rfl,a⟩
     have r:=ad.h a
     obtain⟨h,i,j,l⟩:=(r).c4
     go_wp2_with fail
     apply(ap ak th (S.trans a) ba.O).mono
     rintro e ct⟨rfl,y⟩
     have x:=ax.h (a.trans y)
     have R:=YB x B ab (f th)
     have T:=(S.trans (a.trans y)).set (p:=⟨g,k*4+2,J⟩) ah (I M (f th))
     have A:=(r.h y).far (p:=⟨g,k*4+2,J⟩) bt (I M (f th))
     have au:=(eO x B ab).2.2.1
     have av:=x.frozen (k*4+2)
     clear h i j l
     obtain⟨h,i,j,l⟩:=(A).c4
     obtain⟨am,al,an⟩:=r6 A R T
     clear x R T A r y a
     go_wp2_with fail
     clear au av
     apply(z _).mono
     rintro e bh⟨rfl,m⟩
     have ar:=am.h m
     clear h i j l
     obtain⟨h,i,j,l⟩:=(ar).c4
     go_wp2
     go_roundw
     case rel=>exact⟨k+1,a8,o3,an.trans m,by rw[aq.O,<-ac.O];exact al.h m⟩
     case measure=>simp[intOf];omega
    ·by_cases u:a2L co=Bt
     ·have L:=A7.1 u
      have N:(dV co).1.cls=4:=by rw[ag,if_neg a8,if_neg a8,if_neg a8]
      rw[N]at E
      rw[u]at z
      obtain⟨ba,cp,ac⟩:=r6 (H th (xX (s:=⟨co,kk,th,el⟩) u).1) (H el (xX (s:=⟨co,kk,th,el⟩) u).2) (show aj.set k ⟨co,kk,f th,f el⟩=ca from by rw[bD (s:=⟨co,kk,th,el⟩) f u]at C;exact C)
      clear G ag H C ai N ae u L
      go_wp2_with fail
      apply(E _).mono
      rintro e ak⟨rfl,a⟩
      have r:=ad.h a
      obtain⟨h,i,j,l⟩:=(r).c4
      go_wp2_with fail
      apply(ap ak th (S.trans a) ba.O).mono
      rintro e ct⟨rfl,y⟩
      have x:=ax.h (a.trans y)
      have R:=YB x B ab (f th)
      have T:=(S.trans (a.trans y)).set (p:=⟨g,k*4+2,J⟩) ah (I M (f th))
      have A:=(r.h y).far (p:=⟨g,k*4+2,J⟩) bt (I M (f th))
      have au:=(eO x B ab).2.2.1
      have av:=x.frozen (k*4+2)
      clear h i j l
      obtain⟨h,i,j,l⟩:=(A).c4
      obtain⟨am,al,an⟩:=r6 A R T
      clear x R T A r y a
      go_wp2_with fail
      clear au av
      apply(z _).mono
      rintro e bh⟨rfl,m⟩
      have ar:=am.h m
      clear h i j l
      obtain⟨h,i,j,l⟩:=(ar).c4
      go_wp2_with fail
      have az:=an.trans m
      apply(ap bh el az cp.O).mono
      rintro e dd⟨rfl,bw⟩
      have af:=al.h (m.trans bw)
      have bs:k<D (aj.set k ⟨co,kk,f th,el⟩):=by rw[List.length_set];exact B
      have be:(aj.set k ⟨co,kk,f th,el⟩)[k]=⟨co,kk,f th,el⟩:=List.getElem_set_self ..
      have ay:=a4t af bs be (f el)
      have bp:=(az.trans bw).set (p:=⟨g,k*4+3,J⟩) ah (I M (f el))
      have cu:=(eO af bs be).2.2.2
      have cv:=af.frozen (k*4+3)
      rw[List.set_set,ac.O]at ay
      obtain⟨cb,cc⟩:=j0 ay bp
      clear af ay bp be az
      go_wp2
      go_roundw
      case rel=>exact⟨k+1,a8,o3,cc.O,by rw[aq.O];exact cb.O⟩
      case measure=>simp[intOf];omega
     ·have bc:co=32\/co=84\/co=6:=by
       rcases G with⟨q,_,_,_⟩|⟨q,_,_⟩|⟨q,_,_⟩|⟨q,_,_,bz⟩|⟨q,bz,cs⟩
       ·exact .inl q
       ·exact .inr (.inl q)
       ·exact .inr (.inr q)
       ·exact absurd q ae
       ·exact absurd (A7.2 q) u
      obtain⟨q,L,cx⟩:∃q:Int,(dV co).1.cls=q/\(q==4)=Bf:=by
       rcases bc with Q|Q|Q
       ·exact⟨1,by rw[Q];kernel_rfl,rfl⟩
       ·exact⟨3,by rw[Q];kernel_rfl,rfl⟩
       ·exact⟨5,by rw[Q];kernel_rfl,rfl⟩
      have bo:a2L co=Bf:=by simpa using u
      rw[L]at E
      rw[bo]at z
      have ac:=a6 (ai (C9 (s:=⟨co,kk,th,el⟩) f bc))
      clear G ag H C ai ae u bo bc L
      go_wp2_with fail
      apply(E _).mono
      rintro e ak⟨rfl,a⟩
      have r:=ad.h a
      clear h i j l
      obtain⟨h,i,j,l⟩:=(r).c4
      go_wp2_with fail
      apply(z _).mono
      rintro e bh⟨rfl,m⟩
      go_wp2
      go_roundw
      case rel=>exact⟨k+1,a8,o3,S.trans (a.trans m),by rw[aq.O,ac.O];exact ax.h (a.trans m)⟩
      case measure=>simp[intOf];omega
   ·obtain rfl:k=n:=a8
    have ce:=a6 F
    clear F
    go_wp2
    go_ret
    exact⟨g,cn,bx,rfl,by rw[<-cd.O,bl.O];exact ce.O,ah,bf⟩)
theorem tG(b:List Va)(s':Sy):∀(a:List Sy)(k:Nat),k<D a->splice (sc a++b) (k*4) s'.cells.toList=sc (a.set k s')++b
 |i::a,0,_=>by unfold splice;rw[Q6,Nat.zero_mul,List.take_zero,List.nil_append,Nat.zero_add,p6,show D s'.cells.toList=D i.cells.toList from rfl,List.drop_left];rw[List.set_cons_zero,Q6,p6]
 |i::a,k+1,h=>by
  have ih:=tG b s' a k (by simpa using h);unfold splice at ih⊢;have e:(k+1)*4=D i.cells.toList+k*4:=by simp[Sy.cells];omega
  rw[Q6,p6,e,List.take_length_add_append,Nat.add_assoc,List.drop_length_add_append,p6,ih,List.set_cons_succ,Q6,p6]
theorem rB{w:Wd}{g:Nat}{c:Ti}{a:List Sy}{b:List Va}{k:Nat}{s':Sy}(e:k<D a)(d:e7 w g c (splice (sc a++b) (k*4) s'.cells.toList).toArray):e7 w g c (sc (a.set k s')++b).toArray:=by rwa[tG b s' a k e]at d
theorem D9{d:Fence}{n:Nat}{P:Pg}{w:Wd}{i:Array Oper}{rest:List Oper}{b:Oper}{a:Act}{Q:Exit->Act->Wd->Prop}(r:b.guard=J)(ty:Ti)(x j:Operand)(e:b.op= .store ty x j)
 (g o:Nat) (t:Ti) (cur:List Va) (cs:Array Va) (s:a.eval x=K (So ⟨g,o,J⟩)) (u:a.eval j=Ag cs) (h:e7 w g t cur.toArray) (q:o+cs.size<=D cur)
 (hi:(P.info? ty).map (·.size)=So cs.size) (l:∀v∈cs.toList,v.oneCell'=Bt)
 (k:∀f,e7 f g t (splice cur o cs.toList).toArray->w.grownBy f (So g)->Wl d n P i Q rest (a.put b.dst Un) f):Wl d n P i Q (b::rest) a w:=by
 refine wpListIn_plain r λy m=> ?_
 unfold Oper.wpIn;refine⟨?_,?_⟩;simp[Oper.about,e,Sem.run_pure];rw[Oper.semAt_plain d _ _ (by rw[e];intro c p;cases p)];simp only[execOp,e,s,u,Instr.storeAt,Instr.sureAddr,Sem.run_bind,Sem.run_pure,Result.andThen_ok,Y0 w g o t ty cur cs h q hi l];exact m _ _ (k _ (setRow_heap w g _ _ t _ h) (H0 w g _))
def VP.ptrm(xs:List Va):VP:=⟨λv w=>∃A,v=K A/\i5 w A xs,λ_ _ _⟨A,h,k⟩ e=>⟨A,h,k.h e⟩⟩
theorem ZY(gb g n j:Nat)(a:List Sy)(o:List Va)(l:D a=n)(W:Wd)(d:e7 W gb 180 #[Z g n j])(f:e7 W g 417 (sc a++o).toArray)(t:Int)(m:0<=t/\t<n):
 Ca prog 401 #[I M t,K gb] W λe p=>e=X (I M (F5 a t))/\a9 W p:=by
 obtain⟨t,rfl⟩:∃x:Nat,t=x:=⟨t.toNat,a8⟩;have c:t<D a:=a8;have h:F5 a t=if a[t].code=5 then a[t].th else(t:Int):=by unfold F5;rw[Int.toNat_natCast,show a.getD t i0=a[t] by simp[b9,c]]
 rw[h];obtain⟨q,r,u,v⟩:=eO (co:=a[t].code) (kk:=a[t].k) (th:=a[t].th) (el:=a[t].el) f c rfl;have i:=d.cell 0;simp only[List.getElem?_toArray,List.getElem?_cons_zero]at i;have w:(0:Int)<=t:=a8;have y:(t:Int)<n:=a8;generalize a[t]=s at*;obtain⟨co,kk,th,el⟩:=s;dsimp only at*;clear h l c m d f;by_cases b:co=5
 ·rw[if_pos b];have k:(co==5)=Bt:=by simpa using b
  clear b;go_in;go_wp2;go_ret;exact⟨rfl,a9.refl _⟩
 rw[if_neg b];have k:(co==5)=Bf:=by simpa using b
 clear b;go_in;go_wp2;go_ret;exact⟨rfl,a9.refl _⟩
section
attribute [local go_sem] Oper.semAt_some
def a41(b:p1)(n c a g e f d:Nat)(co kk th el:Int):Act:=
 {tmps:= #[Z b n c,Un,Z J 0 0,K a,K (a+1:Nat),I M d,K f,Z b n c,Z g n e,Fc (.func 401) #[] #[K a],Z b n c,Fc (.func 395) #[] #[K (a+1+1:Nat)],I M d,Ag #[I U1 co,I V kk,I M th,I M el],Un,Un,Un,Un,Un,Un,Un,Un,Un,Un,Un,Un,Un,Un,Un,Un,Un,Un,Un,Un,Un,Un,Un,Un,Un,Un,Un,Un,Un],defers:=[]}
def a6Z(b:p1)(n c i g e:Nat)(f:List Sy)(x h:Nat)(d:Act)(W:Wd):Prop:=
 ∃a co kk th el,h<=a/\f.getD x i0=⟨co,kk,th,el⟩/\d=a41 b n c i g e a x co kk th el/\e7 W a 417 #[I U1 co,I V kk,I M th,I M el]
structure a57(w:Wd)(A:p1)(n c z1 g c':Nat)(ps:List Sy)(more:List Va)(pre:R8)(W:Wd):Prop where
 q:e7 W g 417 (sc (x3 ps pre)++more).toArray
 b3:e7 W z1 180 #[Z g n c']
 b4:e7 W (z1+1) 283 #[Fc (.func 401) #[] #[K z1]]
 b5:e7 W (z1+1+1) 180 #[Z A n c]
 h:a9 w W
 z:z1+3<=W
theorem YW(w:Wd)(i:p1)(n c f g j:Nat)(m:w<=f)(l:List Sy)(k:List Va):OwnFrom (f+3) (a57 w i n c f g j l k):=λpre W W' row a b h=>by
 have d:∀r,row=So r->∃o:Obj,W.heap[r]? =So o/\o.isCells=Bf:=λr e=>(h r e).2
 exact⟨i2 a.q b d,i2 a.b3 b d,i2 a.b4 b d,i2 a.b5 b d,a.h.grown b (λr e=>by have:=(h r e).1;omega),b6 a.z b.size⟩
theorem gV(a:List Sy):∀(pre:R8)(q:List Sy),D (pre.foldl (eE a) q)=D q
 |[],q=>rfl
 |i::pre,q=>by rw[List.foldl_cons,gV a pre];unfold eE;rw[List.length_set]
theorem a1l{s:Sy}{a n:Int}(f:Int->Int)(h:N9 s a n):∃g i,N9 (mv f s) g i:=by
 rcases h with⟨b,d,c,e⟩|⟨b,d,c⟩|⟨b,d,c⟩|⟨b,e,c,d⟩|⟨b,d,c⟩
 rw[C9 f (.inl b)];exact⟨0,0,.ld b d c e⟩;rw[C9 f (.inr (.inl b))];exact⟨0,0,.an b d c⟩;rw[C9 f (.inr (.inr b))];exact⟨0,0,.re b d c⟩;rw[tP f b];exact⟨f s.th-1,f s.th+1,.ja b e c ⟨by dsimp only;omega,by dsimp only;omega⟩⟩;rw[bD f (A7.2 b)];exact⟨min (f s.th) (f s.el)-1,max (f s.th) (f s.el)+1,.as b ⟨by dsimp only;omega,by dsimp only;omega⟩ ⟨by dsimp only;omega,by dsimp only;omega⟩⟩
theorem dH{W W':Wd}{g:Nat}{c:Ti}{cs:Array Va}(d:W.grownBy W' (So g))(b:e7 W g c cs)(B:Nat):KeepsFrom B W W':=
 KeepsOthers.from (KeepsOthers.of_grownBy d (λj o e a=>by
  injection e with e
  subst e;unfold e7 at b;rw[b]at a;injection a with a
  subst a;rfl)) B
theorem eK{W W':Wd}(a:a9 W W')(B:Nat):KeepsFrom B W W':=KeepsOthers.from ⟨a.size,λk o b _=>(a.block (Array.getElem?_eq_some_iff.1 b).1).trans b⟩ B
theorem yQ(b o n c:Nat)(m:List Sy)(w:Wd)(bb:D m=n)(bz:C5 m)(bx:i5 w (So ⟨b,o,J⟩) (sc m)):
 Ci .wide 3 prog 320 #[Z (So ⟨b,o,J⟩) n c] w λe cj=>∃g v G,e=X (Z (So ⟨g,0,J⟩) n v)/\e7 cj g 417 (sc (K2 m)++G).toArray/\w.heap.size<=g/\a9 w cj:=by
 have fu:1<=n:=by have:=bz.l1;omega
 have fi:n<=131072:=by have:=bz.l2;omega
 obtain⟨ao,eh,an,ek⟩:=F6 bb (a6c b o n c m w bb fu fi bx) bx (show K2 m=x3 m (m9 n).reverse from by unfold K2;rw[bb]);clear bb bx;refine Cm func320 rfl trivial ?_ rfl;simp only[ntmps320,uE,Nat.reduceAdd,Nat.reduceSub];gi_wp2_with(first
  |(refine⟨trivial,?_⟩;gi_at_call 400;apply((Cw (n:=2)).2 eh.O).mono;rintro e L⟨g,v,G,rfl,de,ff,cg⟩)
  |(refine⟨trivial,?_⟩;gi_at_call 317;apply(CU (So ⟨b,o,J⟩) n c _).mono;rintro e cj⟨rfl,rfl⟩))
 generalize bc:L.heap.size=a at*;have ez:e7 (((L.alloc (U #[Z (So ⟨g,0,J⟩) n v] 180)).alloc (U #[Fc (.func 401) #[] #[K a]] 283)).alloc (U #[Z (So ⟨b,o,J⟩) n c] 180)) a 180 #[Z (So ⟨g,0,J⟩) n v]:=((e7.b bc.symm).alloc _).alloc _;have fa:e7 (((L.alloc (U #[Z (So ⟨g,0,J⟩) n v] 180)).alloc (U #[Fc (.func 401) #[] #[K a]] 283)).alloc (U #[Z (So ⟨b,o,J⟩) n c] 180)) (a+1) 283 #[Fc (.func 401) #[] #[K a]]:=(e7.b (by simp[bc])).alloc _;have bv:e7 (((L.alloc (U #[Z (So ⟨g,0,J⟩) n v] 180)).alloc (U #[Fc (.func 401) #[] #[K a]] 283)).alloc (U #[Z (So ⟨b,o,J⟩) n c] 180)) (a+1+1) 180 #[Z (So ⟨b,o,J⟩) n c]:=e7.b (by simp[bc]);have bw:a9 L (((L.alloc (U #[Z (So ⟨g,0,J⟩) n v] 180)).alloc (U #[Fc (.func 401) #[] #[K a]] 283)).alloc (U #[Z (So ⟨b,o,J⟩) n c] 180)):=(((a9.refl L).alloc _).alloc _).alloc _;have ch:(((L.alloc (U #[Z (So ⟨g,0,J⟩) n v] 180)).alloc (U #[Fc (.func 401) #[] #[K a]] 283)).alloc (U #[Z (So ⟨b,o,J⟩) n c] 180)).heap.size=a+3:=by simp[bc]
 generalize((L.alloc (U #[Z (So ⟨g,0,J⟩) n v] 180)).alloc (U #[Fc (.func 401) #[] #[K a]] 283)).alloc (U #[Z (So ⟨b,o,J⟩) n c] 180)=w0 at*;have fb:i5 w0 (So ⟨b,o,J⟩) (sc m):=(an.h cg).h bw;have gn:g<a:=by have:=de.lt;omega
 have fn:w<=a:=by have:=cg.size;omega
 refine A4 rfl e6 (gf:=395) (lb:= #[K (a+1+1:Nat)]) rfl trivial (Eo func395 g6 rfl)
  (mD (a+1+1) n c (So ⟨b,o,J⟩) m ao a8 w0 bv.lt (by rw[bv.cell];rfl) fb) (λH k=>H.trans k)
  (λW l o aj _ ba az _=>⟨λcf=>cell_kept cf (grownBy_putObj' W l aj) (λr e=>by cases e;exact⟨o,ba,az⟩),λcf j u fm=>by
   obtain⟨b,fv,e,fe⟩:=cf j u fm
   exact⟨b,fv,e,cell_kept fe (grownBy_putObj' W l aj) (λr e=>by cases e;exact⟨o,ba,az⟩)⟩⟩) (Below.refl _ _) (λ_=>rfl)
  (λx W l o aj cz _ _=>cz)
  (a57 w (So ⟨b,o,J⟩) n c a g v m G) (by rw[ch];exact YW w (So ⟨b,o,J⟩) n c a g v fn m G)
  ⟨de.h bw,ez,fa,bv,cg.trans bw,a8⟩
  (a6Z (So ⟨b,o,J⟩) n c a g v m)
  (λx he ep W l o aj⟨g,co,ft,fs,kk,ew,ex,bt,ey⟩ ba az=>⟨g,co,ft,fs,kk,ew,ex,bt,i2 ey (grownBy_putObj' W l aj) (λr e=>by cases e;exact⟨o,ba,az⟩)⟩)
  (λ_ _ _ H _=>H) (λW W' e=>⟨λH=>e.cell H,λH=>H.h e⟩) ?Aa ?Ab ?Ac
 case Aa=>intro l x W gc cz F;obtain⟨⟨co,kk,th,el⟩,aa⟩:∃E,m.getD x i0=E:=⟨_,rfl⟩;simp only[aa,Sy.val,Sy.cells];gi_wp2;exact F _ _ ((a9.refl W).alloc _) ⟨W,co,kk,th,el,a7 _,aa,rfl,e7.new _ _ _⟩
 case Ab=>
  rintro l pre p gd W ep da N fp⟨R,co,kk,th,el,fr,aa,rfl,dg⟩ _ gp;have fg:p<D m:=by rw[ao.O];exact fp
  have F:=E3 (bz.one p fg);rw[aa,ao.O]at F;have fk:D (x3 m pre)=n:=(gV m pre m).trans ao.O;have ds:x3 m (pre++[p])=(x3 m pre).set p (aQ (F5 (x3 m pre)) ⟨co,kk,th,el⟩):=by rw[fA];unfold eE;rw[aa]
  have gm:a+3<=R:=b6 da.z fr;have ac:=N.q;generalize x3 m pre=d at*;have cb:p<D d:=a8;have dr:aQ (F5 d) ⟨co,kk,th,el⟩=if a2L co=Bt/\F5 d th=F5 d el then⟨5,0,F5 d th,0⟩else mv (F5 d) ⟨co,kk,th,el⟩:=vJ _ _
  have dl:=iE (F5 d) ⟨co,kk,th,el⟩;obtain⟨gg,gy,dc⟩:=a1l (F5 d) F;have dk:a2L co=Bt->mv (F5 d) ⟨co,kk,th,el⟩=⟨co,kk,F5 d th,F5 d el⟩:=λH=>bD (s:=⟨co,kk,th,el⟩) _ H
  have cn:=a6 (λ(A:Wd)(h:a9 W A)(ai:Nat)(bt:e7 A ai 417 #[I U1 co,I V kk,I M th,I M el])=>
   pN.1 a (F5 d) (λt=>0<=t/\t<n) ai 0 1 1 [⟨co,kk,th,el⟩] A rfl (a7 _) a8 (i5.f bt rfl)
    (λi hi=>by
     obtain rfl:i=0:=a8
     exact⟨_,_,F⟩)
    (λi hi t ce=>by
     obtain rfl:i=0:=a8
     have:=DQ F ce
     omega)
    (λeo t dd ce=>ZY a g n v d G fk eo (N.b3.h (h.trans dd)) (ac.h (h.trans dd)) t ce))
  simp only[List.map_cons,List.map_nil]at cn;generalize fh:mv (F5 d) ⟨co,kk,th,el⟩=s' at*;obtain⟨y,C,z,B⟩:=s';dsimp only at dl;subst dl;have am:=a6 (λW'=>CX dc W');dsimp only[Sy.val,Sy.cells]at am;have gv:(0:Int)<=p:=a8;have gw:(p:Int)<n:=a8;obtain⟨ej,Q,cm,bm,ag,bj⟩:=dK ac N dg ds dr dk;clear ac N dg ds dr dk F dc aa fh da;unfold a41;gi_wp2_with fail;refine aO ?_;repeat
   first
    |(apply D7;focus (intro x A h;simp only[g0,g5,uV];(repeat intro et;try simp only[et]);have aq:=cm.h h;have ak:=aq.cell 0;have bd:=aq.cell 1;have be:=aq.cell 2;have bf:=aq.cell 3;gi_wp2_with fail;exact dn rfl rfl (a9.refl _)))
    |(refine r7 (.is (Z (So ⟨g,0,J⟩) n v)) ?_ ?_
      ·intro x A h
       simp only[g0,g5,uV,VP.ptrm]
       have bs:=(Q.b3.h h).cell 0
       simp only[List.getElem?_toArray,List.getElem?_cons_zero]at bs
       gi_wp2_with fail
       refine e8 ?_ rfl (a9.refl _)
       rfl)
    |(refine r7 (VP.blk 1 417 #[I U1 y,I V kk,I M th,I M el]) ?_ ?_
      ·intro x A h
       simp only[g0,g5,uV,VP.ptrm]
       intro au
       simp only[au]
       gi_wp2_with fail
       refine e8 ?_ rfl ((a9.refl _).alloc _)
       exact⟨_,rfl,e7.new _ _ _⟩)
    |(refine r7 (.is (Fc (.func 401) #[] #[K a])) ?_ ?_
      ·intro x A h
       simp only[g0,g5,uV,VP.ptrm]
       have bs:=(Q.b4.h h).cell 0
       simp only[List.getElem?_toArray,List.getElem?_cons_zero]at bs
       gi_wp2_with fail
       refine e8 ?_ rfl (a9.refl _)
       rfl)
    |(refine r7 (VP.row 1 (sc [⟨y,C,z,B⟩])) ?_ ?_
      ·intro x A h
       simp only[g0,g5,uV,VP.ptrm]
       rintro⟨ai,av,dv⟩ aw
       simp only[av,aw]
       gi_wp2_with(refine⟨trivial,?_⟩;gi_at_call 398;refine(CallsIn.inRound l ((Cw (n:=0)).2 (cn A h ai dv))).mono ?_;rintro e hc⟨eu,er,gx,rfl,fd,gl,fo⟩)
       refine e8 ?_ rfl (fo)
       exact⟨So ⟨eu,0,J⟩,er,rfl,(i5.f fd rfl).prefix_⟩)
    |(refine r7 (VP.ptrm (sc [⟨y,C,z,B⟩])) ?_ ?_
      ·intro x A h
       simp only[g0,g5,uV,VP.ptrm]
       rintro⟨dy,es,ax,ci⟩
       simp only[ax]
       obtain⟨gh,gz,rfl,_⟩:=ci.some_ (Nat.zero_lt_succ 3)
       gi_wp2_with fail
       refine e8 ?_ rfl (a9.refl _)
       exact⟨_,rfl,ci⟩)
    |(refine r7 (.is (Ag #[I U1 y,I V C,I M z,I M B])) ?_ ?_
      ·intro x A h
       simp only[g0,g5,uV,VP.ptrm]
       rintro⟨ev,ay,ad⟩
       simp only[ay]
       obtain⟨gj,ha,rfl,_⟩:=ad.some_ (Nat.zero_lt_succ 3)
       have ak:=ad.cell (k:=0) rfl
       have bd:=ad.cell (k:=1) rfl
       have be:=ad.cell (k:=2) rfl
       have bf:=ad.cell (k:=3) rfl
       simp only[j8]at ak
       gi_wp2_with fail
       refine e8 ?_ rfl (a9.refl _)
       rfl)
  intro x A h;simp only[n9,g0,o7,uV,VP.ptrm];rintro ct cu au⟨ai,av,dv⟩ aw⟨dy,es,ax,ci⟩⟨ev,ay,ad⟩ cv cw;simp only[ct,cu,au,av,aw,ax,ay,cv,cw];clear ct cu au av aw ax ay cv cw;have bu:=ej.h h;have di:p*4+4<=D (sc d++G):=by rw[g1,M8];omega
  refine D9 rfl 417 (Tm 22) (Tm 21) rfl g (p*4) 417 (sc d++G) #[I U1 y,I V C,I M z,I M B] rfl rfl bu di g6 nA ?_;intro dx df T;have cd:=rB (s':=⟨y,C,z,B⟩) cb df;have db:=KeepsFrom.trans (eK h (a+3)) (dH T bu (a+3));have cy:a9 w dx:=(Q.h.trans h).grown T (λr e=>by injection e with e;omega);have bq:=(Q.b3.h h).grown T (λe=>by injection e with e;omega);have cq:=(Q.b4.h h).grown T (λe=>by injection e with e;omega);have cs:=(Q.b5.h h).grown T (λe=>by injection e with e;omega);have br:=(cm.h h).grown T (λe=>by injection e with e;omega);have du:W<=dx.heap.size:=b6 h.size T.size;have cc:p<D (d.set p ⟨y,C,z,B⟩):=by rw[List.length_set];exact cb
  obtain⟨fw,fx,fy,fz⟩:=eO cd cc (List.getElem_set_self ..);have ar:=bq.cell 0;simp only[List.getElem?_toArray,List.getElem?_cons_zero]at ar;obtain⟨dz,ea,eb,ec,eg,en⟩:=dK bq cq cs cd cy db;clear df bu di bq cq cs cd cy db;have ei:=a6 (show p*4+4<=D (sc (d.set p ⟨y,C,z,B⟩)++G) from by rw[g1,M8];omega);have gq:a≠R:=a8;have gr:a+1≠R:=a8;have gs:a+1+1≠R:=a8;have gu:g≠R:=a8;by_cases S:a2L y=Bt;rotate_left
  focus
   have cx:a2L y=Bf:=by simpa using S
   have ah:=a6 (ag.trans (if_neg (λq=>S q.1)));rw[cx]at am;clear S cx bj ag
  rotate_right
  have fl:=bj S;injection fl with e0 e1 e2 e3
  rw[S]at am;obtain⟨bk,ah,bn,cp⟩:=F6 (λ(e:F5 d th=F5 d el)=>ag.trans (if_pos ⟨S,e⟩)) (λ(e:¬F5 d th=F5 d el)=>ag.trans (if_neg (λq=>e q.2))) e2 e3;clear e0 e1 e2 e3 S bj ag;rcases dt:(z==B)with _|_
  rotate_left
  focus
   have dh:F5 d th=F5 d el:=by rw[<-bn.O,<-cp.O];simpa using dt
   have bl:=a6 (bk dh);have cc:p<D (d.set p ⟨y,C,z,B⟩):=by rw[List.length_set];exact cb
   clear dh bk ah
  rotate_right
  have dm:¬(F5 d th=F5 d el):=by rw[<-bn.O,<-cp.O];simpa using dt
  have bl:=a6 (ah dm);clear dm bk ah;all_goals
   gi_wp2_with(first
    |(refine D9 rfl 417 (Tm 6) (Tm 26) rfl R 0 417 [I U1 y,I V kk,I M th,I M el] #[I U1 y,I V C,I M z,I M B] rfl rfl br i3 g6 nA ?_
      intro dw ca dj
      have ap:e7 dw R 417 #[I U1 y,I V C,I M z,I M B]:=by
       rw[K3 _ _ i3]at ca
       exact ca
      obtain⟨ak,bd,be⟩:=ap.c3
      have bf:=ap.cell 3)
    |(refine⟨trivial,?_⟩
      gi_at_call 402
      refine(CallsIn.inRound l ((Cw (n:=0)).2 (am _))).mono ?_
      rintro e hb⟨rfl,f⟩
      obtain⟨P,ed,ef,em⟩:=F6 dj ap br du
      obtain⟨al,bg,ae,bh,af,bp⟩:=dK (dz.grown P (λe=>by injection e with e;omega)) (ea.grown P (λe=>by injection e with e;omega)) (eb.grown P (λe=>by injection e with e;omega)) (ec.grown P (λe=>by injection e with e;omega)) (eg.grown P (λr e=>by injection e with e;omega)) (KeepsFrom.trans en (dH P ef (a+3)))
      have bo:=a6 (show a+3<=dw from by have:=Q.z;have:=P.size;have:=em.O;omega)
      clear dj ca ap br du ak bd be bf fw fx fy fz ar
      have ee:=a6 (ed.h f)
      obtain⟨ak,bd,be,bf⟩:=ee.c4
      have ar:=(al.h f).cell 0
      simp only[List.getElem?_toArray,List.getElem?_cons_zero]at ar
      have dp:=bh.h f)
    |(refine D9 rfl 417 (Tm 41) (Tm 40) rfl g (p*4) 417 (sc (d.set p ⟨y,C,z,B⟩)++G) #[I U1 5,I V 0,I M z,I M 0] rfl rfl dp ei g6 nA ?_
      intro gb fc ab))
  ·refine⟨by(try rw[ch]);exact KeepsFrom.trans bp (eK f (a+3)),⟨λ_=>by rw[(ae.h f).cell];rfl,λ_=>an.h (af.trans f)⟩,⟨by rw[bm.O,bl.O];exact bh.h f,al.h f,bg.h f,ae.h f,af.trans f,by have:=f.size;have:=bo.O;omega⟩⟩
  have dq:=rB (s':=⟨5,0,z,0⟩) cc fc;rw[List.set_set]at dq;have ck:a9 w gb:=(af.trans f).grown ab (λr e=>by injection e with e;omega);have cr:=(ae.h f).grown ab (λe=>by injection e with e;omega);refine⟨KeepsFrom.trans bp (KeepsFrom.trans (eK f (a+3)) (dH ab dp (a+3))),⟨λ_=>by rw[cr.cell];rfl,λ_=>an.h ck⟩,⟨by rw[bm.O,bl.O,<-bn.O];exact dq,(al.h f).grown ab (λe=>by injection e with e;omega),(bg.h f).grown ab (λe=>by injection e with e;omega),cr,ck,by have:=f.size;have:=bo.O;have:=ab.size;omega⟩⟩;refine⟨by(try rw[ch]);exact KeepsFrom.trans bp (eK f (a+3)),⟨λ_=>by rw[(ae.h f).cell];rfl,λ_=>an.h (af.trans f)⟩,⟨by rw[bm.O,ah.O];exact bh.h f,al.h f,bg.h f,ae.h f,af.trans f,by have:=f.size;have:=bo.O;omega⟩⟩
 rintro bi ys W gk fq N F;have ga:=N.b3.cell 0;simp only[List.getElem?_toArray,List.getElem?_cons_zero]at ga;have fj:∀r,So bi=So r->∃o:Obj,W.heap[r]? =So o/\o.isCells=Bf:=λr e=>by cases e;exact⟨_,F,rfl⟩
 have ac:=N.q;rw[fq]at ac;gi_wp2;refine⟨i3,.inl ⟨_,_,rfl,run_takeDeferred F,?_⟩⟩;exact⟨_,results_tmp rfl _ _ _,g,v,G,rfl,by rw[ek.O];exact i2 ac (grownBy_putObj' W bi _) fj,ff,N.h.grown (grownBy_putObj' W bi _) (λr e=>by cases e;omega)⟩
end
end Go.Proofs.YtcljlejgllkcjaaGreat
