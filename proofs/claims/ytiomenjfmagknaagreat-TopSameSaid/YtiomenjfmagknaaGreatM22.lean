/- A part of the proof of TopSame: lemmas on the walks of its calls. -/
import Derived.Test.YtiomenjfmagknaaGreatM21
set_option maxHeartbeats 12000000
set_option linter.all false
set_option maxRecDepth 100000
namespace Go.Proofs.YtiomenjfmagknaaGreat
open Go.RowKit Go.ChangeShapes Go.WideShapes Tryz
open Bool renaming true→Bt,false→Bf
open Ending renaming returned→X
open Go renaming World→Wd,Value→Va,Calls→Ca,undef→Un,bodyPost_ret→Bp,TypeId→Ti,Addr→Ad,Program→Pg,callsIn_of_wp_marks→Cm,callsIn_of_wp→Co,CallsIn→Ci
open Go.Proofs renaming enters_of→Eo
open IntKind renaming i64→M,u32→V,u64→U6,u8→U8
open Lib renaming hid→a6
open List renaming length_append→a2e,getElem_mem→a30,length_map→a32,take_succ_eq_append_getElem→a4a,length_take→a4C,map_append→a4F
open Nat renaming le_refl→a7,le_trans→c8,reduceAdd→l9,zero_le→i5,add_zero→a4z,zero_add→a4E
open Obj renaming cells→U
open Operand renaming tmp→Tm
open Option renaming none→J,some→So
open Value renaming int→I,slice→Z,string→Y,pointer→K,bool→O,func→Fc,tuple→Tp,agg→Ag,nilFunc→Nf
theorem r6.mono{w:Wd}{base b2:Nat}{p:i1}{c d e f:Va}(a:r6 w base p c d e f)(b:b2≤base):r6 w b2 p c d e f:=⟨a.a.mono b,a.f.mono b,a.l.mono b,a.m.mono b⟩
theorem r6.grown{w j:Wd}{base g:Nat}{t:Ti}{cs:Array Va}{p:i1}{e f h i:Va}(a:r6 w base p e f h i)(b:b9 w g t cs)(c:3≠t∧144≠t∧26≠t)(d:w.grownBy j (So g)):r6 j base p e f h i:=
 ⟨a.a.kept d (.inr (a.a.ne b c.1)),a.f.kept d (.inr (a.f.ne b c.2.1)),a.l.kept d (.inr (a.l.ne b c.2.1)),a.m.kept d (.inr (a.m.ne b c.2.2))⟩
def VP.polO(base:Nat)(p:i1):VP:=⟨fun v i=>∃e f g h,v=Ag (i4 p e f g h)∧r6 i base p e f g h,fun _ _ _⟨a,b,c,d,j,k⟩ x=>⟨a,b,c,d,j,k.h x⟩⟩
def VP.setA(base:Nat)(p:i1)(a:m6):VP:=⟨fun v i=>∃e f g h,v=Ag (setC p e f g h (Z J 0 0) a)∧r6 i base p e f g h,fun _ _ _⟨a,b,c,d,j,k⟩ x=>⟨a,b,c,d,j,k.h x⟩⟩
def VP.setP(base:Nat)(p:i1)(a:m6):VP:=⟨fun v e=>∃g h i j l,v=K (So ⟨g,0,J⟩)∧y2 e g base p [] a h i j l (Z J 0 0),fun _ _ _⟨g,a,b,c,d,f,k⟩ x=>⟨g,a,b,c,d,f,k.h x⟩⟩
def VP.mapL(L:List SV):VP:=⟨fun v aa=>∃g,v= .map (So g)∧E6 aa g L,fun _ _ _⟨g,h,k⟩ x=>⟨g,h,k.h x⟩⟩
theorem y2.far{w o:Wd}{g base h:Nat}{t:Ti}{cs:Array Va}{p:i1}{i:List i0}{a:m6}{j k l m n:Va}(c:y2 w g base p i a j k l m n)(b:b9 w h t cs)(f:(3≠t∧144≠t∧26≠t)∧208≠t∧73≠t)(d:w.grownBy o (So h)):y2 o g base p i a j k l m n:=
 ⟨c.b.grown d (fun e=>c.b.ne b f.2.1 (by injection e)),c.o.grown b f.1 d,c.n.kept d (.inr (c.n.ne b f.2.2)),c.hg,c8 c.hs d.size⟩
theorem MT(p:i1)(b c d e f:Va)(a:m6):(setC p b c d e f a).toList=(i4 p b c d e).toList++[f,Y a.file,I M a.line,Y a.sec,Y a.key,Y a.val]:=rfl
theorem y2.pol{w:Wd}{g base:Nat}{p:i1}{h:List i0}{a:m6}{b c d e i:Va}(f:y2 w g base p h a b c d e i):h9 w g (i4 p b c d e).toList:=by
 have:=f.b.inM;rw[MT]at this;exact this.prefix_
theorem AC(p:i1){g h i l:Va}(o:∃a n c B m d C k e b j f,g=Z a n c∧h=Z B m d∧i=Z C k e∧l=Z b j f):∀v∈(i4 p g h i l).toList,v.oneCell'=Bt:=by
 obtain⟨a,n,c,B,m,d,C,k,e,b,j,f,rfl,rfl,rfl,rfl⟩:=o;simp[i4,Value.oneCell']
theorem r6.one{w:Wd}{base:Nat}{p:i1}{b g h i:Va}(a:r6 w base p b g h i):∀v∈(i4 p b g h i).toList,v.oneCell'=Bt:=by
 obtain⟨l,n,c,q⟩:=a.a.f;obtain⟨B,m,d,r⟩:=a.f.f;obtain⟨C,k,e,s⟩:=a.l.f;obtain⟨o,j,f,t⟩:=a.m.f;exact AC p ⟨l,n,c,B,m,d,C,k,e,o,j,f,q,r,s,t⟩
def a5P(p:i1)(a:m6)(f:Nat)(p':i1)(b:List i0):Prop:=∀(W:Wd)(g base:Nat)(c d i k:Va),y2 W g base p [] a c d i k (Z J 0 0)→
 Ca prog f #[K g,Y a.val] W fun e W'=>e=X (Tp #[])∧∃va' h j vm' l,y2 W' g base p' b a va' h j vm' l∧Tv base S4 W W'
theorem X1(p p':i1)(a:m6)(v y z A:Va)(w:Wd)(cb:p.small)(bw:R3 w p v y z A)(f:Nat)(B:Bool)
  (bt:B=Bt→∀args w,(callFunc f args).run prog w= .ok (.enter f args) w)
  (P:H0 T3 a.key=if B then So (yM f)else J) (S:List i0) (bk:if B then a5P p a f p' S else p'=p∧S=[]):
  Ca prog 66 #[.agg (i4 p v y z A),.agg (Q8.c a).toArray] w fun e bg=>∃va' bb bd vm' ce,e=X (Tp #[.agg (i4 p' va' bb bd vm'),ce])∧r6 bg w p' va' bb bd vm'∧e4 bg w 73 g6 ce S∧a9 w bg:=by
 obtain⟨r,s,sec,key,val⟩:=a;have aq:(H0 T3 key).getD Nf=if B then yM f else Nf:=by dsimp only at P;rw[P];cases B<;>rfl
 have ca:(H0 T3 key).isSome=B:=by dsimp only at P;rw[P];cases B<;>rfl
 obtain⟨al,ao⟩:∃al,al=if B then yM f else Nf:=⟨_,rfl⟩
 rw[←ao]at aq;obtain⟨cf,ah,cg,H,bn,ag⟩:=jX ao (And.intro aq ca) cb bw (fun W=>JP W) bk;clear P aq ca bk cb bw ao;have F:∀l,a9 w (((w.alloc (U (i4 p v y z A) 39)).alloc (U #[Y r,I M s,Y sec,Y key,Y val] 88)).alloc (U l 39)):=fun l=>(((a9.refl w).alloc _).alloc _).alloc _
 have bp:∀l,b9 (((w.alloc (U (i4 p v y z A) 39)).alloc (U #[Y r,I M s,Y sec,Y key,Y val] 88)).alloc (U l 39)) w 39 (i4 p v y z A):=fun l=>((b9.new w _ _).alloc _).alloc _
 have b1:∀l,b9 (((w.alloc (U (i4 p v y z A) 39)).alloc (U #[Y r,I M s,Y sec,Y key,Y val] 88)).alloc (U l 39)) (w+1) 88 #[Y r,I M s,Y sec,Y key,Y val]:=fun l=>(b9.b (by simp)).alloc _
 have b2:∀l,b9 (((w.alloc (U (i4 p v y z A) 39)).alloc (U #[Y r,I M s,Y sec,Y key,Y val] 88)).alloc (U l 39)) (w+2) 39 l:=fun l=>b9.b (by simp)
 have cz:∀l,(((w.alloc (U (i4 p v y z A) 39)).alloc (U #[Y r,I M s,Y sec,Y key,Y val] 88)).alloc (U l 39)).heap.size=w.heap.size+3:=fun l=>by simp
 show Ca prog 66 #[.agg (i4 p v y z A),.agg #[Y r,I M s,Y sec,Y key,Y val]] w _;go_in;go_wp2_with fail
 refine e7 rfl [.is (.agg (i4 p v y z A)),(VP.polO w p),.is (.agg #[Y r,I M s,Y sec,Y key,Y val]),(VP.setA w p ⟨r,s,sec,key,val⟩),(VP.setP w p ⟨r,s,sec,key,val⟩),(VP.setP w p ⟨r,s,sec,key,val⟩)] (by kernel_rfl) ?Br ?Aa ⟨?Ab,?Ac,?Ad,?Ae,?Af,?Ag,trivial⟩ ?Ah
 case Aa=>intro x;simp only[e6,Act.put,uL,l9]<;>rfl
 case Ab=>
  intro x h c;simp only[e5,j8,uV];have b:=(bp _).h c;go_wp2_with(refine i8 rfl 39 (Tm 2) rfl w 39 _ _ rfl b underlying39 rfl (by kernel_rfl) ?_)
  refine a0e ?_ rfl (a9.refl _);rfl
 case Ac=>
  intro x h c;simp only[e5,j8,uV];intro m;simp only[m];go_wp2_with(go_at_call 114;refine(tJ.2 p v y z A h cg (H.h ((F _).trans c))).mono ?_;rintro e bh⟨va',bb,bd,vm',rfl,cj,ar⟩)
  refine a0e ?_ rfl (ar);exact⟨_,_,_,_,rfl,cj.mono ((F _).trans c).size⟩
 case Ad=>
  intro x h c;simp only[e5,j8,uV];have b:=(b1 _).h c;go_wp2_with(refine i8 rfl 88 (Tm 3) rfl (w+1) 88 _ _ rfl b underlying88 rfl (by kernel_rfl) ?_)
  refine a0e ?_ rfl (a9.refl _);rfl
 case Ae=>
  intro x h c;simp only[e5,j8,uV];rintro⟨ck,co,cr,cv,o,av⟩ i;simp only[o,i];dsimp only[i4];go_wp2_with fail
  refine a0e ?_ rfl (a9.refl _);exact⟨_,_,_,_,rfl,av⟩
 case Af=>
  intro x h c;simp only[e5,j8,uV];rintro⟨cm,cp,ct,cw,j,aw⟩;simp only[j];go_wp2_with fail
  refine a0e ?_ rfl ((a9.refl h).alloc _);exact⟨_,_,_,_,_,rfl,⟨b9.new h _ _,aw.h ((a9.refl h).alloc _),e4.nil _ _ _ _,((F _).trans c).size,c8 ((F _).trans c).size (by simp)⟩⟩
 case Ag=>
  intro x h c;simp only[e5,j8,uV];rintro⟨bv,cn,cq,cu,cx,q,ax⟩;simp only[q];go_wp2_with fail
  refine a0e ?_ rfl (a9.refl _);exact⟨bv,_,_,_,_,rfl,ax⟩
 case Ah=>
  intro x h c;simp only[l8,e5,j8,uV];rintro m⟨ck,co,cr,cv,o,av⟩ i⟨cm,cp,ct,cw,j,aw⟩⟨bv,cn,cq,cu,cx,q,ax⟩⟨N,T,aa,ab,ac,u,cc⟩;simp only[m,o,i,j,q,u];clear m o i j q u;obtain⟨ad,bi,bo,bj⟩:=J5 ((b1 _).h c) ((b2 _).h c) ((F _).trans c) cc;clear bp b1 b2 F av aw ax cc c cz;go_wp2_with fail
  refine e7 rfl [(VP.mapL T3),.is ?Bs,.is (Y key),.is (Tp #[al,O B]),.is ?Bt,.is ?Bu,.is ?Bv,.is ?Bw,.is ?Bx] (by kernel_rfl) ?By ?Ai ⟨?Aj,?Ak,?Al,?Am,?An,?Ao,?Ap,?Aq,?Ar,trivial⟩ ?As
  case Ai=>intro x;simp only[e6,Act.put,uL,l9]<;>rfl
  case Ak|An|Ao|Ap|Aq|Ar=>
   intro x h c;simp only[e5,j8,uV];repeat(intro d;try simp only[d])
   go_wp2_with fail
   refine a0e ?_ rfl (a9.refl _);rfl
  case Aj=>
   intro x h c;simp only[e5,j8,uV];go_wp2_with(go_at_call 113;apply(bn h).mono;rintro e bh⟨g,rfl,ci,ar⟩)
   refine a0e ?_ rfl (ar);exact⟨_,rfl,ci⟩
  case Al=>
   intro x h c;simp only[e5,j8,uV];intro o;simp only[o];have bq:=(ad.h c).cell 3;go_wp2_with fail
   refine a0e ?_ rfl (a9.refl _);rfl
  case Am=>
   intro x h c;simp only[e5,j8,uV];rintro⟨bu,m,au⟩ i;simp only[m,i];go_wp2_with(refine A4 rfl _ _ 204 9 202 rfl underlying204 underlying9 Nf (by intro w;kernel_rfl) bu T3 rfl au key rfl ?_;rw[ah.1,ah.2])
   refine a0e ?_ rfl (a9.refl _);rfl
  case As=>
   intro x h c;simp only[l8,e5,j8,uV];rintro⟨bu,m,au⟩ o i j q u C D bs;simp only[m,o,i,j,q,u,C,D,bs];clear m o i j q u C D bs;obtain⟨ae,af⟩:=i6 (bj.h c) (bi.h c);have da:=(ad.h c).cell 4;have ai:=a6 (bo.trans c);clear c au ad bi bo bj bn ah;rcases B with _|_
   ·obtain⟨rfl,rfl⟩:=ag.out
    have Q:=ae;have E:=af;have aj:=ai;go_wp2_with fail
    obtain⟨t,ch⟩:=i6 (fun Yq(am:GS (w+1+1) 39 13 (i4 p' T aa ab ac) h Yq)=>Q.far E (by decide) am.gr) (b9.lt E.out);refine wpIn_wide.1 (R8 (n:=1) (R:=(GS (w+1+1) 39 13 (i4 p' T aa ab ac))) (fun _=>trivial) rfl [.is ?Bz,.is ?Ca,.is ?Cb,.is (.agg (i4 p' T aa ab ac)),.is ?Cc,.is ?Cd,.is ?Ce,.is (Z J 0 0),a1K,.is ?Cf] (by kernel_rfl) ?Cg ?At ⟨?Au,?Av,?Aw,?Ax,?Ay,?Az,?Ba,?Bb,?Bc,?Bd,trivial⟩ ?Be)
    case At=>intro x;simp only[e6,Act.put,uL,l9]<;>rfl
    case Au|Av|Aw|Ay|Az|Ba|Bb|Bd=>
     intro x h c;simp only[e5,g1,uV];repeat(intro d;try simp only[d])
     have bq:h.cell? ⟨N,13,J⟩=So (Z J 0 0):=(t h c).b.cell 13;gi_wp2_with fail
     refine a0e ?_ rfl (fT.refl _);rfl
    case Ax=>
     intro x h c;simp only[e5,g1,uV];intro i;simp only[i];gi_wp2_with(refine cC rfl 39 _ rfl ⟨N,0,J⟩ _ _ rfl (t h c).pol underlying39 rfl (by kernel_rfl) ?_)
     refine a0e ?_ rfl (fT.refl _);rfl
    case Bc=>
     intro x h c;simp only[e5,g1,uV];intro j;simp only[j];obtain⟨cs,ak,an⟩:=c.sz _ E (by kernel_rfl);gi_wp2_with(refine A5 rfl 39 _ _ rfl (w+1+1) 39 cs _ rfl rfl ak (by rw[an];rfl) (by kernel_rfl) (t h c).o.one ?_;intro bh G ap)
     refine a0e ?_ rfl (GS.store ap G rfl);exact G
    case Be=>
     intro x h c;simp only[l8,e5,g1,uV];rintro m o i j q u C D ay L;simp only[m,o,i,j,q,u,C,D,L];clear m o i j q u C D L;go_wp2_with fail
     exact Bp (h7 rfl _ _ _ _ _ _ rfl ay underlying39 rfl (by kernel_rfl)) rfl ⟨_,_,_,_,_,rfl,(t h c).o,by exact(t h c).n,aj.f c.gr (fun k e=>by cases e;omega)⟩
   ·have bz:=cf.out
    have bm:a5P p ⟨r,s,sec,key,val⟩ f p' S:=ag.out;rw[if_pos rfl]at bz;subst bz;unfold yM;have bl:=a6 (bm h N w T aa ab ac ae.out);clear bm ag;replace bt:=bt rfl;go_wp2_with fail
    apply bl.mono;rintro e cy⟨rfl,ba,bc,be,bf,db,bx,az⟩;obtain⟨E,aj,Q⟩:=p7 (az.blk af (.inr (by decide))) (az.b ai (a7 _)) bx;clear bx az ae af ai bl;go_wp2_with fail
    obtain⟨An,cd,br,rfl⟩:=Q.n.f;obtain⟨t,ch⟩:=i6 (fun Yq(am:GS (w+1+1) 39 13 (i4 p' ba bc be bf) cy Yq)=>Q.far E (by decide) am.gr) (b9.lt E.out);refine wpIn_wide.1 (R8 (n:=1) (R:=(GS (w+1+1) 39 13 (i4 p' ba bc be bf))) (fun _=>trivial) rfl [.is ?Ch,.is ?Ci,.is ?Cj,.is (.agg (i4 p' ba bc be bf)),.is ?Ck,.is ?Cl,.is ?Cm,.is (Z An cd br),a1K,.is ?Cn] (by kernel_rfl) ?Co ?Bf ⟨?Bg,?Bh,?Bi,?Bj,?Bk,?Bl,?Bm,?Bn,?Bo,?Bp,trivial⟩ ?Bq)
    case Bf=>intro x;simp only[e6,Act.put,uL,l9]<;>rfl
    case Bg|Bh|Bi|Bk|Bl|Bm|Bn|Bp=>
     intro x h c;simp only[e5,g1,uV];repeat(intro d;try simp only[d])
     have bq:h.cell? ⟨N,13,J⟩=So (Z An cd br):=(t h c).b.cell 13;gi_wp2_with fail
     refine a0e ?_ rfl (fT.refl _);rfl
    case Bj=>
     intro x h c;simp only[e5,g1,uV];intro i;simp only[i];gi_wp2_with(refine cC rfl 39 _ rfl ⟨N,0,J⟩ _ _ rfl (t h c).pol underlying39 rfl (by kernel_rfl) ?_)
     refine a0e ?_ rfl (fT.refl _);rfl
    case Bo=>
     intro x h c;simp only[e5,g1,uV];intro j;simp only[j];obtain⟨cs,ak,an⟩:=c.sz _ E (by kernel_rfl);gi_wp2_with(refine A5 rfl 39 _ _ rfl (w+1+1) 39 cs _ rfl rfl ak (by rw[an];rfl) (by kernel_rfl) (t h c).o.one ?_;intro bh G ap)
     refine a0e ?_ rfl (GS.store ap G rfl);exact G
    case Bq=>
     intro x h c;simp only[l8,e5,g1,uV];rintro m o i j q u C D ay L;simp only[m,o,i,j,q,u,C,D,L];clear m o i j q u C D L;go_wp2_with fail
     exact Bp (h7 rfl _ _ _ _ _ _ rfl ay underlying39 rfl (by kernel_rfl)) rfl ⟨_,_,_,_,_,rfl,(t h c).o,by exact(t h c).n,aj.f c.gr (fun k e=>by cases e;omega)⟩
def qU(val:ByteArray):List i0:=if(Q6 val).2=0 then []else [⟨⟨#[]⟩,0,(Q6 val).2,j9 val⟩]
def CT(dy:Int)(val:ByteArray):Int:=if(Q6 val).2=0 then(Q6 val).1 else dy
theorem a5s(p:i1)(f g h i:Va)(a base:Nat)(val:ByteArray)(w:Wd)(H:val.size≤1000000)(C:b9 w a 39 (i4 p f g h i))(D:r6 w base p f g h i)(Q:base≤w):
  Ca prog 162 #[K a,Y val] w fun e n=>∃E,e=X E∧b9 n a 39 (i4 {p with dy:=CT p.dy val} f g h i)∧r6 n base {p with dy:=CT p.dy val} f g h i∧e4 n base 73 g6 E (qU val)∧w.grownBy n (So a):=by
 have G:=a6 (XR val H);obtain⟨ar,fm,fc,dy,lm,lc,fa,am,sp,we,pe,rt,np⟩:=p;obtain⟨R,m⟩:∃R,R=qU val:=⟨_,rfl⟩;obtain⟨v,l⟩:∃v,v=CT dy val:=⟨_,rfl⟩;dsimp only at*;rw[←m,←l];unfold qU at m;unfold CT at l;generalize Q6 val=q at*;obtain⟨c,t⟩:=q;dsimp only[i4]at*;have T:0≤min (val.size:Int) 60:=by omega
 have W:min (val.size:Int) 60≤val.size:=by omega
 have aa:(min (val.size:Int) 60).toNat=min val.size 60:=by omega
 obtain⟨x,z,A,y⟩:=J5 C D m l;clear C D m l;go_in;go_wp2_with fail
 apply(G _).mono;rintro e F⟨rfl,b⟩;have S:=b.size;by_cases j:t=0
 ·subst j
  have r:=A.out;have d:=y.out;rw[if_pos rfl]at r d;have B:=x.h b;have Oq:=z.h b;have L:=B.cell 3;have P:=B.frozen 3;obtain⟨s,RR⟩:=i6 (And.intro (B.f 3 (I V c)) (And.intro (show r6 (F.setCell ⟨a,3,J⟩ (I V c)) base ⟨ar,fm,fc,c,lm,lc,fa,am,sp,we,pe,rt,np⟩ f g h i from(fun k=>⟨k.a,k.f,k.l,k.m⟩) (Oq.grown B (by decide) (x4 _ a 3 (I V c)))) ((s6 (h8 b J) (So a)).trans (x4 _ a 3 (I V c))))) (And.intro r d);clear r d B Oq b;go_wp2_with fail
  go_ret;refine⟨_,rfl,?_,?_,?_,s.2.2⟩
  ·rw[RR.2];exact s.1
  ·rw[RR.2];exact s.2.1
  ·rw[RR.1];exact e4.nil _ _ _ _
 ·have r:=A.out
  have d:=y.out;rw[if_neg j]at r d;have N:(t !=0)=Bt:=by simp[j]
  obtain⟨RR,o⟩:=i6 (And.intro r d) b;clear r d j b;go_wp2_with fail
  go_ret;have u:=(a9.refl F).alloc (U #[Y ⟨#[]⟩,I M 0,I M t,Y (j9 val)] 73);refine⟨_,rfl,?_,?_,?_,s6 (h8 (o.trans u) J) (So a)⟩
  ·rw[RR.2];exact(x.h o.out).h u
  ·rw[RR.2];exact(z.h o.out).h u
  ·rw[RR.1];exact e4.new (by omega) rfl rfl (by decide)
def E0(a:m6)(n:i0):i0:=⟨a.file,a.line,n.err,n.text⟩
def eO(a:m6)(b:List i0):List i0:=b.map (E0 a)
def a6L(p p':i1)(m:List i0)(val:ByteArray)(l:Va)(k:Wd):Prop:=∃f cap,l=Fc (.func f) #[] cap∧(∀args w,(callFunc f args).run prog w= .ok (.enter f args) w)∧
 ∀(W:Wd)(a base:Nat)(b c g i:Va),a9 k W→b9 W a 39 (i4 p b c g i)→r6 W base p b c g i→base≤W→
  Ca prog f (#[K a,Y val]++cap) W fun e W'=>∃va' d h vm' j,e=X j∧b9 W' a 39 (i4 p' va' d h vm')∧r6 W' base p' va' d h vm'∧e4 W' base 73 g6 j m∧W.grownBy W' (So a)
def QW(d:Bool)(p p':i1)(c:List i0)(val:ByteArray)(b:Va)(a:Wd):Prop:=d=Bt→a6L p p' c val b a
theorem QW.h{d:Bool}{p p':i1}{c:List i0}{val:ByteArray}{b:Va}{a W:Wd}(h:QW d p p' c val b a)(x:a9 a W):QW d p p' c val b W:=fun e=>by
 obtain⟨f,cap,i,j,k⟩:=h e;exact⟨f,cap,i,j,fun Yq g base m n o q l=>k Yq g base m n o q (x.trans l)⟩
def VP.filT(c:Bool)(p p':i1)(f:List i0)(val:ByteArray):VP:=⟨fun v d=>∃b,v=Tp #[b,O c]∧QW c p p' f val b d,fun _ _ _⟨a,e,k⟩ x=>⟨a,e,k.h x⟩⟩
def VP.filV(f:Bool)(p p':i1)(e:List i0)(val:ByteArray):VP:=⟨fun v c=>∃b,v=b∧QW f p p' e val b c,fun _ _ _⟨a,d,k⟩ x=>⟨a,d,k.h x⟩⟩
def VP.fkeys:VP:=⟨fun v aa=>∃g a c,v= .map (So g)∧vD aa g a c,fun _ _ _⟨g,a,c,h,k⟩ x=>⟨g,a,c,h,k.h x⟩⟩
theorem a40(A C:List Va)(a b u v:Va):((A++a::b::C).set A.length u).set (A.length+1) v=A++u::v::C:=by
 rw[List.set_append_right _ _ (a7 _),Nat.sub_self,List.set_cons_zero,List.set_append_right _ _ (Nat.le_succ _),Nat.succ_sub (a7 _),Nat.sub_self,List.set_cons_succ,List.set_cons_zero]
theorem a4Z(A C:List Va)(a b u v:Va):((A++a::b::C).set (A.length+1) v).set A.length u=A++u::v::C:=by
 rw[List.set_append_right _ _ (Nat.le_succ _),Nat.succ_sub (a7 _),Nat.sub_self,List.set_cons_succ,List.set_cons_zero,List.set_append_right _ _ (a7 _),Nat.sub_self,List.set_cons_zero]
theorem nW(p p':i1)(a:m6)(t u v y:Va)(w:Wd)(cy:p.small)(aj:R3 w p t u v y)(z:Bool)(h:List i0)(em:h.length≤1000000)
  (ak:∀o g b c,vD o g b c→(H0 [(qH,RD b),(qG,RD c),(qI,fK3)] a.key).isSome=z∧QW z p p' h a.val ((H0 [(qH,RD b),(qG,RD c),(qI,fK3)] a.key).getD Nf) o) (cw:z=Bf→p'=p∧h=[]):
  Ca prog 64 #[.agg (i4 p t u v y),.agg (Q8.c a).toArray] w fun e bg=>∃va' dd de vm' bf,e=X (Tp #[.agg (i4 p' va' dd de vm'),bf])∧r6 bg w p' va' dd de vm'∧e4 bg w 73 g6 bf (eO a h)∧a9 w bg:=by
 obtain⟨j,l,sec,key,val⟩:=a;obtain⟨dj,H,bw,bx,bz⟩:=gP cy aj (fun W=>KV W) ak cw;clear ak cy aj cw;have am:∀q,a9 w (((w.alloc (U (i4 p t u v y) 39)).alloc (U #[Y j,I M l,Y sec,Y key,Y val] 88)).alloc (U q 39)):=fun q=>(((a9.refl w).alloc _).alloc _).alloc _
 have G:∀q,b9 (((w.alloc (U (i4 p t u v y) 39)).alloc (U #[Y j,I M l,Y sec,Y key,Y val] 88)).alloc (U q 39)) w 39 (i4 p t u v y):=fun q=>((b9.new w _ _).alloc _).alloc _
 have b1:∀q,b9 (((w.alloc (U (i4 p t u v y) 39)).alloc (U #[Y j,I M l,Y sec,Y key,Y val] 88)).alloc (U q 39)) (w+1) 88 #[Y j,I M l,Y sec,Y key,Y val]:=fun q=>(b9.b (by simp)).alloc _
 have b2:∀q,b9 (((w.alloc (U (i4 p t u v y) 39)).alloc (U #[Y j,I M l,Y sec,Y key,Y val] 88)).alloc (U q 39)) (w+2) 39 q:=fun q=>b9.b (by simp)
 show Ca prog 64 #[.agg (i4 p t u v y),.agg #[Y j,I M l,Y sec,Y key,Y val]] w _;go_in;go_wp2_with(refine i8 rfl 39 (Tm 2) rfl w 39 _ _ rfl (G _) underlying39 rfl (by kernel_rfl) ?_)
 apply(tJ.1 p t u v y _ dj (H.h (am _))).mono;rintro e ep⟨dx,dz,eb,ed,rfl,R,S⟩;have aq:=(G _).h S;have bh:=(b1 _).h S;have bi:=(b2 _).h S;have cb:=(am _).trans S;replace R:=R.mono (am _).size;have ap:=R.one;clear G b1 b2 am S;go_wp2_with(refine c7 rfl 39 (Tm 2) (Tm 11) rfl w _ _ _ rfl rfl aq rfl (by kernel_rfl) ap ?_;intro er bj Q)
 have cf:=R.grown aq (by decide) Q;have bk:=bh.grown Q (by simp);have bl:=bi.grown Q (by simp);have cj:=cb.f Q (fun k e=>by cases e;exact a7 _);obtain⟨bt,E,aa,bs,ca⟩:=gP bj cf bk bl cj;clear aq bh bi cb R ap bj cf bk bl cj Q;refine e7 rfl [VP.fkeys,.is ?Al,.is (Y key),(VP.filT z p p' h val),(VP.filT z p p' h val),(VP.filV z p p' h val),.is ?Am,(VP.filV z p p' h val),.is ?An] (by kernel_rfl) ?Ao ?Aa ⟨?Ab,?Ac,?Ad,?Ae,?Af,?Ag,?Ah,?Ai,?Aj,trivial⟩ ?Ak
 case Aa=>intro x;simp only[e6,Act.put,uL,l9]<;>rfl
 case Ac=>
  intro x o m;simp only[e5,j8,uV];go_wp2_with fail
  refine a0e ?_ rfl (a9.refl _);rfl
 case Ah=>
  intro x o m;simp only[e5,j8,uV];rintro⟨cq,A,ao⟩;simp only[A];go_wp2_with fail
  refine a0e ?_ rfl (a9.refl _);rfl
 case Aj=>
  intro x o m;simp only[e5,j8,uV];repeat(intro d;try simp only[d])
  go_wp2_with fail
  refine a0e ?_ rfl (a9.refl _);rfl
 case Ab=>
  intro x o m;simp only[e5,j8,uV];go_wp2_with(go_at_call 111;apply(bw o).mono;rintro e et⟨g,b,c,rfl,al,du⟩)
  refine a0e ?_ rfl (du);exact⟨_,_,_,rfl,al⟩
 case Ad=>
  intro x o m;simp only[e5,j8,uV];intro ae;simp only[ae];have cm:=(aa.h m).cell 3;go_wp2_with fail
  refine a0e ?_ rfl (a9.refl _);rfl
 case Ae=>
  intro x o m;simp only[e5,j8,uV];rintro⟨cr,G,cm,ad,an⟩ af;simp only[ad,af];obtain⟨dq,dr⟩:=bx _ _ _ _ an;go_wp2_with(refine A4 rfl _ _ 198 9 196 rfl underlying198 underlying9 Nf (by intro w;kernel_rfl) cr _ rfl an.m key rfl ?_;rw[dq])
  refine a0e ?_ rfl (a9.refl _);exact⟨_,rfl,dr⟩
 case Af=>
  intro x o m;simp only[e5,j8,uV];rintro⟨dm,ag,bc⟩;simp only[ag];go_wp2_with fail
  refine a0e ?_ rfl (a9.refl _);exact⟨_,rfl,bc⟩
 case Ag=>
  intro x o m;simp only[e5,j8,uV];rintro⟨cq,A,ao⟩;simp only[A];go_wp2_with fail
  refine a0e ?_ rfl (a9.refl _);exact⟨_,rfl,ao⟩
 case Ai=>
  intro x o m;simp only[e5,j8,uV];rintro⟨dn,ah,bd⟩;simp only[ah];go_wp2_with fail
  refine a0e ?_ rfl (a9.refl _);exact⟨_,rfl,bd⟩
 case Ak=>
  intro x o m;simp only[l8,e5,j8,uV];rintro⟨cr,G,cm,ad,an⟩ ae af⟨dm,ag,bc⟩⟨cq,A,ao⟩⟨dn,ah,bd⟩ cn⟨ek,co,cz⟩ cp;simp only[ad,ae,af,ag,A,ah,cn,co,cp];clear ad ae af ag A ah cn co cp;have dl:=(aa.h m).cell 4;obtain⟨ar,O1,bm,T,ab,bv⟩:=jX (bt.h m) (E.h m) (aa.h m) (bs.h m) (ca.trans m) cz;clear an bc ao bd cz m bt E aa bs ca bw bx;rcases z with _|_
  ·obtain⟨rfl,rfl⟩:=bz rfl
   have ap:=O1.one;go_wp2_with(first|(refine i8 rfl 39 (Tm 2) rfl w 39 _ _ rfl ar underlying39 rfl (by kernel_rfl) ?_)|(refine c7 rfl 39 (Tm 4) (Tm 21) rfl (w+2) _ _ _ rfl rfl T (by kernel_rfl) (by kernel_rfl) ap ?_;intro df dh cu))
   exact Bp (h7 rfl _ _ _ _ _ _ rfl dh underlying39 rfl (by kernel_rfl)) rfl ⟨_,_,_,_,_,rfl,O1.grown T (by decide) cu,by exact e4.nil _ _ _ _,ab.f cu (fun k e=>by cases e;omega)⟩
  ·obtain⟨f,cap,rfl,ej,P⟩:=bv rfl
   have bu:=a6 (P o w w dx dz eb ed (a9.refl _) ar O1 ab.size);clear P bv bz;go_wp2_with fail
   apply bu.mono;rintro e df⟨dy,ea,ec,ee,bf,rfl,b3,da,be,ai⟩;obtain⟨An,ac,rfl⟩:=be.b;have dt:∀i,i<3→i≠0→w+i≠w.heap.size:=fun i _ aj e=>aj (by omega)
   have bn:=bm.grown ai (by simp);have bp:=T.grown ai (by simp);have ck:=ab.f ai (fun k e=>by cases e;exact a7 _);obtain⟨aw,ax,cc,av,F,s⟩:=jX bn bp ck b3 da be;clear bn bp ck b3 da be ai bm T ab ar O1 dl bu dt;go_wp2_with fail
   go_loopg [28] h.length (fun dp dw wr=>∃k:Nat,k≤h.length∧h.length-k≤dp∧dw=I M k∧e4 wr w 73 g6 (Z An h.length ac) ((h.take k).map (E0 ⟨j,l,sec,key,val⟩)++h.drop k)∧df.grownBy wr (Z An h.length ac).ownBlock)
   case atStart=>exact⟨0,i5 _,by omega,rfl,by simpa using s.out,World.grownBy.refl _ _⟩
   case round=>
    obtain⟨k,ak,el,rfl,N,r⟩:=hrel;by_cases cv:k<h.length
    ·have ds:((h.take k).map (E0 ⟨j,l,sec,key,val⟩)++h.drop k).length=h.length:=by simp;omega
     obtain⟨C,cs,Jq,rfl,-,ct,B,P,al,bb,D⟩:=N.blk (by omega);have bo:=aw.grown r (fun e=>s.ne aw (by decide) e.symm);obtain⟨eh,ei⟩:=bo.c2;have cx:g6.row ((h.take k).map (E0 ⟨j,l,sec,key,val⟩)++h.drop k)++Jq=g6.row ((h.take k).map (E0 ⟨j,l,sec,key,val⟩))++ Y h[k].file::I M h[k].line::([I M h[k].err,Y h[k].text]++(g6.row (h.drop (k+1))++Jq)):=by
      rw[List.drop_eq_getElem_cons cv,g6.row_append,g6.row_cons];simp[g6]
     have L:(g6.row ((h.take k).map (E0 ⟨j,l,sec,key,val⟩))).length=k*4:=by rw[g6.row_length,a32,a4C,Nat.min_eq_left ak];rfl
     have ba:g6.row ((h.take (k+1)).map (E0 ⟨j,l,sec,key,val⟩)++h.drop (k+1))++Jq=g6.row ((h.take k).map (E0 ⟨j,l,sec,key,val⟩))++ Y j::I M l::([I M h[k].err,Y h[k].text]++(g6.row (h.drop (k+1))++Jq)):=by
      rw[a4a cv,a4F,g6.row_append,g6.row_append];simp[g6,p6.row,E0]
     have az:((h.take (k+1)).map (E0 ⟨j,l,sec,key,val⟩)++h.drop (k+1)).length=h.length:=by simp;omega
     rw[cx]at D;generalize h[k]=x at*;generalize g6.row ((h.take k).map (E0 ⟨j,l,sec,key,val⟩))=ef at*;generalize g6.row (h.drop (k+1))++Jq=eg at*;have en:wr.cell? ⟨C,k*4,J⟩=So (Y x.file):=by rw[B.cell,←Array.getElem?_toList,D,List.getElem?_append_right (by omega),L,Nat.sub_self];rfl
     have eo:wr.cell? ⟨C,k*4+1,J⟩=So (I M x.line):=by rw[B.cell,←Array.getElem?_toList,D,List.getElem?_append_right (by omega),L,Nat.add_sub_cancel_left];rfl
     have eu:=B.frozen (k*4);have ev:=B.frozen (k*4+1);have k0:(0:Int)≤k:=by omega
     have k1:(k:Int)<h.length:=by omega
     have ch:=(B.f (k*4) (Y j)).f (k*4+1) (I M l);have ci:=(B.f (k*4+1) (I M l)).f (k*4) (Y j);have db:((cs.setIfInBounds (k*4) (Y j)).setIfInBounds (k*4+1) (I M l)).toList=g6.row ((h.take (k+1)).map (E0 ⟨j,l,sec,key,val⟩)++h.drop (k+1))++Jq:=by
      rw[ba,Array.toList_setIfInBounds,Array.toList_setIfInBounds,D,←L,a40]
     have dc:((cs.setIfInBounds (k*4+1) (I M l)).setIfInBounds (k*4) (Y j)).toList=g6.row ((h.take (k+1)).map (E0 ⟨j,l,sec,key,val⟩)++h.drop (k+1))++Jq:=by
      rw[ba,Array.toList_setIfInBounds,Array.toList_setIfInBounds,D,←L,a4Z]
     have bq:=(r.trans (x4 wr C (k*4) (Y j))).trans (x4 _ C (k*4+1) (I M l));have br:=(r.trans (x4 wr C (k*4+1) (I M l))).trans (x4 _ C (k*4) (Y j));obtain⟨cd,ce⟩:=i6 (And.intro (e4.mk2 (base:=w) (c:=ac) (n:=h.length) ct ch az P al (by simpa using bb) db) bq) (And.intro (e4.mk2 (base:=w) (c:=ac) (n:=h.length) ct ci az P al (by simpa using bb) dc) br);clear ch ci db dc bq br N r cx ba D L ds az B bb bo;go_wp2_with fail
     go_region
     all_goals
      go_wp2_with fail
      go_roundg (h.length-(k+1))
      case measure=>omega
      case rel=>first|exact⟨k+1,by omega,by omega,by go_num,cd.1.h (a9.refl _).drew,cd.2.trans (s6 (B1 _) _)⟩|exact⟨k+1,by omega,by omega,by go_num,ce.1.h (a9.refl _).drew,ce.2.trans (s6 (B1 _) _)⟩
    ·obtain rfl:k=h.length:=by omega
     rw[List.take_length,List.drop_length,List.append_nil]at N;have cg:r6 wr w p' dy ea ec ee:=⟨F.a.apart s (by decide) r,F.f.apart s (by decide) r,F.l.apart s (by decide) r,F.m.apart s (by decide) r⟩;have dg:=av.grown r (fun e=>s.ne av (by decide) e.symm);have au:=ax.grown r (fun e=>s.ne ax (by decide) e.symm);have dk:=cc.f r (fun k e=>(s.lt e).1);have dv:=cg.one;have E:=a6 N;clear N r s aw ax cc av F;go_wp2_with(first|(refine i8 rfl 39 (Tm 2) rfl w 39 _ _ rfl dg underlying39 rfl (by kernel_rfl) ?_)|(refine c7 rfl 39 (Tm 4) (Tm 44) rfl (w+2) _ _ _ rfl rfl au (by kernel_rfl) (by kernel_rfl) dv ?_;intro es di ay))
     exact Bp (h7 rfl _ _ _ _ _ _ rfl di underlying39 rfl (by kernel_rfl)) rfl ⟨_,_,_,_,_,rfl,cg.grown au (by decide) ay,by exact E.kept ay (.inr (E.ne au (by decide))),dk.f ay (fun k e=>by cases e;omega)⟩
def Q5(p:i1)(a:m6):i1×List i0:=
 if a.key==qH then({p with fm:=(J3 p.fm p.fc a.val Bt).1,fc:=(J3 p.fm p.fc a.val Bt).2.1},eO a (J3 p.fm p.fc a.val Bt).2.2)
 else if a.key==qG then({p with lm:=(J3 p.lm p.lc a.val Bf).1,lc:=(J3 p.lm p.lc a.val Bf).2.1},eO a (J3 p.lm p.lc a.val Bf).2.2)
 else if a.key==qI then({p with dy:=CT p.dy a.val},eO a (qU a.val))
 else(p,[])
theorem iF(m:Int)(xs:List o8)(s:ByteArray)(q:Bool):(J3 m xs s q).2.2.length≤s.size+1∧(J3 m xs s q).2.1.length≤max xs.length 41:=by
 have b:=C9 (l6 s).1;have c:=H7 s;unfold J3;split
 ·split
  ·exact⟨i5 _,i5 _⟩
  ·have a:=kC (dH m (l6 s).2) (l6 s).2 q (o6 (l6 s).1) (xs,[])
   dsimp only at a⊢;exact⟨by simp at a;omega,a.1⟩
 ·exact⟨i5 _,Nat.le_max_left _ _⟩
theorem a4b(p:i1)(a:m6)(d h i f:Va)(w:Wd)(l:p.small)(E:a.val.size≤50000)(A:0≤p.fm)(B:0≤p.lm)(t:R3 w p d h i f):
  Ca prog 64 #[Ag (i4 p d h i f),Ag (Q8.c a).toArray] w fun e x=>∃va' y z vm' j,e=X (Tp #[Ag (i4 (Q5 p a).1 va' y z vm'),j])∧r6 x w (Q5 p a).1 va' y z vm'∧e4 x w 73 g6 j (Q5 p a).2∧a9 w x:=by
 have F:=(iF p.fm p.fc a.val Bt).1;have G:=(iF p.lm p.lc a.val Bf).1;have H:(qU a.val).length≤1:=by unfold qU;split<;>simp
 have C:=l.f;have D:=l.l;unfold Q5;cases k1:a.key==qH
 ·cases k2:a.key==qG
  ·cases k3:a.key==qI
   ·exact nW p p a d h i f w l t Bf [] (by decide) (fun u g b c k=>⟨by rw[D5];simp[k1,k2,k3],fun e=>by cases e⟩) (fun _=>⟨rfl,rfl⟩)
   ·exact nW p _ a d h i f w l t Bt _ (by omega) (fun u g b c k=>⟨by rw[D5];simp[k1,k2,k3],fun _=>⟨162,#[],by rw[D5,k1,k2,k3];rfl,Eo func162 (by kernel_rfl) rfl,fun W n base d h i f m o r s=>(a5s p d h i f n base a.val W (by omega) o r s).mono fun e W'⟨j,q⟩=>⟨d,h,i,f,j,q⟩⟩⟩) (fun e=>by cases e)
  ·obtain⟨ar,fm,fc,dy,lm,lc,fa,am,sp,we,pe,rt,np⟩:=p
   exact nW _ _ a d h i f w l t Bt _ (by omega) (fun u g b c k=>⟨by rw[D5];simp[k1,k2],fun _=>⟨223,#[K (So ⟨c,0,J⟩),K (c+1:Nat)],by rw[D5,k1,k2];rfl,Eo func223 (by kernel_rfl) rfl,fun W n base d h i f m o r s=>(a5q ar fm fc dy lm lc fa am sp we pe rt np d h i f n c base a.val W (by omega) B D o r s (k.bc.h m) (k.bd.h m)).mono fun e W'⟨v,j,q⟩=>⟨d,h,v,f,j,q⟩⟩⟩) (fun e=>by cases e)
 ·obtain⟨ar,fm,fc,dy,lm,lc,fa,am,sp,we,pe,rt,np⟩:=p
  exact nW _ _ a d h i f w l t Bt _ (by omega) (fun u g b c k=>⟨by rw[D5];simp[k1],fun _=>⟨223,#[K (So ⟨b,0,J⟩),K (b+1:Nat)],by rw[D5,k1];rfl,Eo func223 (by kernel_rfl) rfl,fun W n base d h i f m o r s=>(a5r ar fm fc dy lm lc fa am sp we pe rt np d h i f n b base a.val W (by omega) A C o r s (k.ba.h m) (k.bb.h m)).mono fun e W'⟨v,j,q⟩=>⟨d,v,i,f,j,q⟩⟩⟩) (fun e=>by cases e)
def P7(p:i1)(a:m6):i1×List i0:=
 if a.key==WI then({p with ar:=(Q9 p.ar [] a a.val).1},(Q9 p.ar [] a a.val).2)
 else if a.key==WP then({p with am:=(cI p.am p.fa [] a a.val).1,fa:=(cI p.am p.fa [] a a.val).2.1},(cI p.am p.fa [] a a.val).2.2)
 else if a.key==WO then({p with sp:=(lP p.sp [] a a.val).1},(lP p.sp [] a a.val).2)
 else if a.key==WR then({p with we:=(E7 p.we [] a a.val).1},(E7 p.we [] a a.val).2)
 else if a.key==WT then({p with pe:=(E7 p.pe [] a a.val).1},(E7 p.pe [] a a.val).2)
 else if a.key==WJ then({p with rt:=(E7 p.rt [] a a.val).1},(E7 p.rt [] a a.val).2)
 else if a.key==WQ then({p with np:=(E7 p.np [] a a.val).1},(E7 p.np [] a a.val).2)
 else(p,[])
theorem D3(s:ByteArray):H0 T3 s=if s==WI then So (yM 167)else if s==WP then So (yM 168)else if s==WO then So (yM 169)else if s==WR then So (yM 170)
  else if s==WT then So (yM 171)else if s==WJ then So (yM 172)else if s==WQ then So (yM 173)else J:=by
 unfold H0 T3;simp only[cN];cases s==WI<;>cases s==WP<;>cases s==WO<;>cases s==WR<;>cases s==WT<;>cases s==WJ<;>cases s==WQ<;>rfl
theorem a3n(p:i1)(a:m6)(b c d f:Va)(w:Wd)(l:p.small)(o:a.val.size≤50000)(v:p.ar.length≤1000)(x:p.fa.length≤1000)(j:R3 w p b c d f):
  Ca prog 66 #[Ag (i4 p b c d f),Ag (Q8.c a).toArray] w fun e q=>∃va' r s vm' u,e=X (Tp #[Ag (i4 (P7 p a).1 va' r s vm'),u])∧r6 q w (P7 p a).1 va' r s vm'∧e4 q w 73 g6 u (P7 p a).2∧a9 w q:=by
 have m:([]:List i0).length+1≤1000000:=by decide
 have n:([]:List i0).length+a.val.size+2≤1000000:=by simp;omega
 unfold P7;cases k1:a.key==WI
 ·cases k2:a.key==WP
  ·cases k3:a.key==WO
   ·cases k4:a.key==WR
    ·cases k5:a.key==WT
     ·cases k6:a.key==WJ
      ·cases k7:a.key==WQ
       ·exact X1 p p a b c d f w l j 0 Bf (fun e=>by cases e) (by rw[D3];simp[k1,k2,k3,k4,k5,k6,k7]) _ ⟨rfl,rfl⟩
       ·
        exact X1 p _ a b c d f w l j 173 Bt (fun _=>Eo func173 (by kernel_rfl) rfl) (by rw[D3];simp[k1,k2,k3,k4,k5,k6,k7]) _ (fun W g base b c d f k=>(a4Y k m a.val).mono fun e W'⟨h,i,k2,t⟩=>⟨h,_,_,_,_,i,k2,t⟩)
      ·
       exact X1 p _ a b c d f w l j 172 Bt (fun _=>Eo func172 (by kernel_rfl) rfl) (by rw[D3];simp[k1,k2,k3,k4,k5,k6]) _ (fun W g base b c d f k=>(a4W k m a.val).mono fun e W'⟨h,i,k2,t⟩=>⟨h,_,_,_,_,i,k2,t⟩)
     ·
      exact X1 p _ a b c d f w l j 171 Bt (fun _=>Eo func171 (by kernel_rfl) rfl) (by rw[D3];simp[k1,k2,k3,k4,k5]) _ (fun W g base b c d f k=>(a4X k m a.val).mono fun e W'⟨h,i,k2,t⟩=>⟨h,_,_,_,_,i,k2,t⟩)
    ·
     exact X1 p _ a b c d f w l j 170 Bt (fun _=>Eo func170 (by kernel_rfl) rfl) (by rw[D3];simp[k1,k2,k3,k4]) _ (fun W g base b c d f k=>(a4V k m a.val).mono fun e W'⟨h,i,k2,t⟩=>⟨h,_,_,_,_,i,k2,t⟩)
   ·
    exact X1 p _ a b c d f w l j 169 Bt (fun _=>Eo func169 (by kernel_rfl) rfl) (by rw[D3];simp[k1,k2,k3]) _ (fun W g base b c d f k=>(a0C k a.val o n).mono fun e W'⟨h,i,k2,t⟩=>⟨h,_,_,_,_,i,k2,t⟩)
  ·
   exact X1 p _ a b c d f w l j 168 Bt (fun _=>Eo func168 (by kernel_rfl) rfl) (by rw[D3];simp[k1,k2]) _ (fun W g base b c d f k=>(a0D k a.val o n (by omega)).mono fun e W'⟨h,vm',i,k2,t⟩=>⟨h,_,_,_,vm',i,k2,t⟩)
 ·
  exact X1 p _ a b c d f w l j 167 Bt (fun _=>Eo func167 (by kernel_rfl) rfl) (by rw[D3];simp[k1]) _ (fun W g base b c d f k=>(MU k a.val o n (by omega)).mono fun e W'⟨h,va',i,k2,t⟩=>⟨h,va',_,_,_,i,k2,t⟩)
def a2w(s:ByteArray):Bool:=s.toList==[83,101,114,118,105,99,101]
def wD(s:ByteArray):Bool:=(H0 T3 s).isSome
def KY(p:i1)(a:m6):i1×List i0:=
 if a2w a.sec then(if jF a.key then Q5 p a else if wD a.key then P7 p a else(p,[⟨a.file,a.line,100,j9 a.key⟩]))else(p,[⟨a.file,a.line,100,j9 a.sec⟩])
theorem LH.b{b:Type}{w:Wd}{E:p6 b}{v:Va}{xs:List b}(d:LH w E v xs):∃a n c,v=Z a n c:=let⟨a,c,e,_⟩:=d;⟨a,_,c,e⟩
theorem R3.one{w:Wd}{p:i1}{b g h i:Va}(a:R3 w p b g h i):∀v∈(i4 p b g h i).toList,v.oneCell'=Bt:=by
 obtain⟨l,n,c,q⟩:=a.a.b;obtain⟨B,m,d,r⟩:=a.f.b;obtain⟨C,k,e,s⟩:=a.l.b;obtain⟨o,j,f,t⟩:=a.m.b;exact AC p ⟨l,n,c,B,m,d,C,k,e,o,j,f,q,r,s,t⟩
def fD{g:Nat}{c:Ti}{n:Nat}{fin:Array Va}(lo:Nat)(cs:Array Va):VR (GS g c n fin):=
 ⟨fun u d=>∃a,u=Z (So ⟨a,0,J⟩) 1 1∧b9 d a 73 cs∧lo≤a∧a≠g,fun _ _ _⟨a,f,h,i,b⟩ r=>⟨a,f,h.grown r.gr (fun e=>b (by injection e)),i,b⟩⟩
theorem a48(p:i1)(a:m6)(i j l m:Va)(w:Wd)(bg:p.small)(y:a.val.size≤50000)(bc:0≤p.fm∧0≤p.lm)(bd:p.ar.length≤1000∧p.fa.length≤1000)(base:Nat)(bn:base≤w)(av:r6 w base p i j l m):
  Ca prog 35 #[.agg (i4 p i j l m),.agg (Q8.c a).toArray] w fun e ao=>∃va' bo bp vm' bq,e=X (Tp #[.agg (i4 (KY p a).1 va' bo bp vm'),bq])∧r6 ao base (KY p a).1 va' bo bp vm'∧e4 ao w 73 g6 bq (KY p a).2∧a9 w ao:=by
 obtain⟨bt,bv,bs,bu⟩:=J5 (fun W(x:a9 w W)=>a4b p a i j l m W bg y bc.1 bc.2 (av.rd.h x)) (fun W(x:a9 w W)=>a3n p a i j l m W bg y bd.1 bd.2 (av.rd.h x)) (fun W=>a4c a.key W) (fun W=>show Ca prog 65 #[Y a.key] W fun e ao=>e=X (O (wD a.key))∧a9 W ao from a3o a.key W);obtain⟨R,q⟩:∃R,R=KY p a:=⟨_,rfl⟩;rw[←q];unfold KY at q;have H:=a6 av;obtain⟨g,h,sec,key,val⟩:=a;dsimp only[Q8]at*;have bl:Hid (a2w sec=(sec.toList==[83,101,114,118,105,99,101])):=a6 rfl;generalize Q5 p ⟨g,h,sec,key,val⟩=cp at*;generalize P7 p ⟨g,h,sec,key,val⟩=cq at*;generalize jF key=bz at*;generalize wD key=ca at*;have aw:∀o,a9 w (((w.alloc (U (i4 p i j l m) 39)).alloc (U #[Y g,I M h,Y sec,Y key,Y val] 88)).alloc (U o 39)):=fun o=>(((a9.refl w).alloc _).alloc _).alloc _
 have au:∀o,b9 (((w.alloc (U (i4 p i j l m) 39)).alloc (U #[Y g,I M h,Y sec,Y key,Y val] 88)).alloc (U o 39)) w 39 (i4 p i j l m):=fun o=>((b9.new w _ _).alloc _).alloc _
 have b1:∀o,b9 (((w.alloc (U (i4 p i j l m) 39)).alloc (U #[Y g,I M h,Y sec,Y key,Y val] 88)).alloc (U o 39)) (w+1) 88 #[Y g,I M h,Y sec,Y key,Y val]:=fun o=>(b9.b (by simp)).alloc _
 have b2:∀o,b9 (((w.alloc (U (i4 p i j l m) 39)).alloc (U #[Y g,I M h,Y sec,Y key,Y val] 88)).alloc (U o 39)) (w+2) 39 o:=fun o=>b9.b (by simp)
 have k3:=fun o=>(b1 o).cell 3
 have k2:=fun o=>(b1 o).cell 2
 clear av bg y bc bd;show Ca prog 35 #[.agg (i4 p i j l m),.agg #[Y g,I M h,Y sec,Y key,Y val]] w _;go_in;rcases bm:sec.toList==[83,101,114,118,105,99,101]with _|_
 ·have y:=bl.out
  rw[bm]at y;rw[y,if_neg (by decide)]at q;have r:=a6 q;clear q y;go_wp2_with fail
  have u:=au #[Z J 0 0,I U8 0,Z J 0 0,I V 0,I U8 0,Z J 0 0,Z J 0 0,I U8 0,I U6 0,O Bf,O Bf,O Bf,O Bf];have t:=b1 #[Z J 0 0,I U8 0,Z J 0 0,I V 0,I U8 0,Z J 0 0,Z J 0 0,I U8 0,I U6 0,O Bf,O Bf,O Bf,O Bf];have v:=b2 #[Z J 0 0,I U8 0,Z J 0 0,I V 0,I U8 0,Z J 0 0,Z J 0 0,I U8 0,I U6 0,O Bf,O Bf,O Bf,O Bf];have s:=aw #[Z J 0 0,I U8 0,Z J 0 0,I V 0,I U8 0,Z J 0 0,Z J 0 0,I U8 0,I U6 0,O Bf,O Bf,O Bf,O Bf];clear au b1 b2 aw k3 k2;have cb:0≤min (sec.size:Int) 60:=by omega
  have cc:min (sec.size:Int) 60≤sec.size:=by omega
  have cd:(min (sec.size:Int) 60).toNat=min sec.size 60:=by omega
  obtain⟨ay,az,L,N⟩:=J5 (fun Yq(D:GS (w+1+1) 39 13 (i4 p i j l m) _ Yq)=>u.grown D.gr (fun e=>by injection e with e;omega)) (fun Yq(D:GS (w+1+1) 39 13 (i4 p i j l m) _ Yq)=>t.grown D.gr (fun e=>by injection e with e;omega)) v s;clear u t v s;refine wpIn_wide.1 (R8 (n:=1) (R:=(GS (w+1+1) 39 13 (i4 p i j l m))) (fun _=>trivial) rfl [.is (.agg (i4 p i j l m)),.is ?Bg,.is (Y g),.is ?Bh,.is (I M h),.is ?Bi,.is ?Bj,.is ?Bk,.is ?Bl,.is (Y (j9 sec)),.is (.agg #[Y g,I M h,I M 100,Y (j9 sec)]),(fD w #[Y g,I M h,I M 100,Y (j9 sec)]),a1K,(fD w #[Y g,I M h,I M 100,Y (j9 sec)])] (by kernel_rfl) ?Bm ?Aa ⟨?Ab,?Ac,?Ad,?Ae,?Af,?Ag,?Ah,?Ai,?Aj,?Ak,?Al,?Am,?An,?Ao,trivial⟩ ?Ap)
  case Aa=>intro x;simp only[e6,Act.put,uL,l9]<;>rfl
  case Ac|Ad|Ae|Af|Ag|Ah|Ai|Aj|Ak|Al=>
   intro x f b;simp only[e5,g1,uV,fD];repeat(intro d;try simp only[d])
   obtain⟨bw,co⟩:=(az f b).c2;gi_wp2_with fail
   refine a0e ?_ rfl (fT.refl _);rfl
  case Ab=>
   intro x f b;simp only[e5,g1,uV,fD];gi_wp2_with(refine W5 rfl 39 _ rfl w _ _ _ rfl (ay f b) underlying39 rfl (by kernel_rfl) ?_)
   refine a0e ?_ rfl (fT.refl _);rfl
  case Am=>
   intro x f b;simp only[e5,g1,uV,fD];intro A;simp only[A];gi_wp2_with fail
   refine a0e ?_ rfl (GS.f ((a9.refl f).alloc _));exact⟨f,rfl,b9.new _ _ _,by have:=N.size;have:=b.gr.size;omega,by have:=L.lt;have:=b.gr.size;omega⟩
  case An=>
   intro x f b;simp only[e5,g1,uV,fD];intro z;simp only[z];obtain⟨cs,bb,be⟩:=b.sz _ L (by kernel_rfl);gi_wp2_with(refine A5 rfl 39 _ _ rfl (w+1+1) 39 cs _ rfl rfl bb (by rw[be];rfl) (by kernel_rfl) H.one ?_;intro cn P bf)
   refine a0e ?_ rfl (GS.store bf P rfl);exact P
  case Ao=>
   intro x f b;simp only[e5,g1,uV,fD];rintro⟨ah,B,ak,aj,al⟩;simp only[B];gi_wp2_with fail
   refine a0e ?_ rfl (fT.refl _);exact⟨ah,rfl,ak,aj,al⟩
  case Ap=>
   intro x f b;simp only[l8,e5,g1,uV,fD];rintro z Q T aa ab ac ad ae af ag A⟨ah,B,ak,aj,al⟩ bi⟨bx,S,bj,bh,ce⟩;simp only[z,Q,T,aa,ab,ac,ad,ae,af,ag,A,B,S];clear z Q T aa ab ac ad ae af ag A B S;go_wp2_with fail
   have ai:a9 w f:=N.f b.gr (fun k e=>by cases e;omega);exact Bp (h7 rfl _ _ _ _ _ _ rfl bi underlying39 rfl (by kernel_rfl)) rfl ⟨_,_,_,_,_,by rw[r.out],by rw[r.out];exact H.h ai,by rw[r.out];exact e4.mk2 (Jq:=[]) (c:=1) (E:=g6) (xs:=[⟨g,h,100,j9 sec⟩]) bh bj rfl (a7 _) (by decide) rfl rfl,ai⟩
 ·have y:=bl.out
  rw[bm]at y;rw[y,if_pos rfl]at q;clear y;go_wp2_with fail
  apply(bs _).mono;rintro e cr⟨rfl,ap⟩;have u:=(au _).h ap;have t:=(b1 _).h ap;have v:=(b2 _).h ap;have s:=(aw _).trans ap;clear au b1 b2 aw k3 k2 ap;rcases bz with _|_
  ·rw[if_neg (by decide)]at q
   have k3:=t.cell 3;go_wp2_with fail
   apply(bu _).mono;rintro e br⟨rfl,aq⟩;replace u:=u.h aq;replace t:=t.h aq;replace v:=v.h aq;replace s:=s.trans aq;clear aq k3;rcases ca with _|_
   ·rw[if_neg (by decide)]at q
    have r:=a6 q;clear q;go_wp2_with fail
    have cb:0≤min (key.size:Int) 60:=by omega
    have cc:min (key.size:Int) 60≤key.size:=by omega
    have cd:(min (key.size:Int) 60).toNat=min key.size 60:=by omega
    obtain⟨ay,az,L,N⟩:=J5 (fun Yq(D:GS (w+1+1) 39 13 (i4 p i j l m) br Yq)=>u.grown D.gr (fun e=>by injection e with e;omega)) (fun Yq(D:GS (w+1+1) 39 13 (i4 p i j l m) br Yq)=>t.grown D.gr (fun e=>by injection e with e;omega)) v s;clear u t v s;refine wpIn_wide.1 (R8 (n:=1) (R:=(GS (w+1+1) 39 13 (i4 p i j l m))) (fun _=>trivial) rfl [.is (.agg (i4 p i j l m)),.is ?Bn,.is (Y g),.is ?Bo,.is (I M h),.is ?Bp,.is ?Bq,.is ?Br,.is ?Bs,.is (Y (j9 key)),.is (.agg #[Y g,I M h,I M 100,Y (j9 key)]),(fD w #[Y g,I M h,I M 100,Y (j9 key)]),a1K,(fD w #[Y g,I M h,I M 100,Y (j9 key)])] (by kernel_rfl) ?Bt ?Aq ⟨?Ar,?As,?At,?Au,?Av,?Aw,?Ax,?Ay,?Az,?Ba,?Bb,?Bc,?Bd,?Be,trivial⟩ ?Bf)
    case Aq=>intro x;simp only[e6,Act.put,uL,l9]<;>rfl
    case As|At|Au|Av|Aw|Ax|Ay|Az|Ba|Bb=>
     intro x f b;simp only[e5,g1,uV,fD];repeat(intro d;try simp only[d])
     obtain⟨bw,co⟩:=(az f b).c2;gi_wp2_with fail
     refine a0e ?_ rfl (fT.refl _);rfl
    case Ar=>
     intro x f b;simp only[e5,g1,uV,fD];gi_wp2_with(refine W5 rfl 39 _ rfl w _ _ _ rfl (ay f b) underlying39 rfl (by kernel_rfl) ?_)
     refine a0e ?_ rfl (fT.refl _);rfl
    case Bc=>
     intro x f b;simp only[e5,g1,uV,fD];intro A;simp only[A];gi_wp2_with fail
     refine a0e ?_ rfl (GS.f ((a9.refl f).alloc _));exact⟨f,rfl,b9.new _ _ _,by have:=N.size;have:=b.gr.size;omega,by have:=L.lt;have:=b.gr.size;omega⟩
    case Bd=>
     intro x f b;simp only[e5,g1,uV,fD];intro z;simp only[z];obtain⟨cs,bb,be⟩:=b.sz _ L (by kernel_rfl);gi_wp2_with(refine A5 rfl 39 _ _ rfl (w+1+1) 39 cs _ rfl rfl bb (by rw[be];rfl) (by kernel_rfl) H.one ?_;intro cn P bf)
     refine a0e ?_ rfl (GS.store bf P rfl);exact P
    case Be=>
     intro x f b;simp only[e5,g1,uV,fD];rintro⟨ah,B,ak,aj,al⟩;simp only[B];gi_wp2_with fail
     refine a0e ?_ rfl (fT.refl _);exact⟨ah,rfl,ak,aj,al⟩
    case Bf=>
     intro x f b;simp only[l8,e5,g1,uV,fD];rintro z Q T aa ab ac ad ae af ag A⟨ah,B,ak,aj,al⟩ bi⟨bx,S,bj,bh,ce⟩;simp only[z,Q,T,aa,ab,ac,ad,ae,af,ag,A,B,S];clear z Q T aa ab ac ad ae af ag A B S;go_wp2_with fail
     have ai:a9 w f:=N.f b.gr (fun k e=>by cases e;omega);exact Bp (h7 rfl _ _ _ _ _ _ rfl bi underlying39 rfl (by kernel_rfl)) rfl ⟨_,_,_,_,_,by rw[r.out],by rw[r.out];exact H.h ai,by rw[r.out];exact e4.mk2 (Jq:=[]) (c:=1) (E:=g6) (xs:=[⟨g,h,100,j9 key⟩]) bh bj rfl (a7 _) (by decide) rfl rfl,ai⟩
   ·rw[if_pos rfl]at q
    have r:=a6 q;clear q;go_wp2_with(first
     |(refine i8 rfl 39 (Tm 2) rfl w 39 _ _ rfl u underlying39 rfl (by kernel_rfl) ?_)
     |(refine i8 rfl 88 (Tm 3) rfl (w+1) 88 _ _ rfl t underlying88 rfl (by kernel_rfl) ?_))
    apply(bv _ s).mono;rintro e ck⟨cf,cg,ch,ci,cj,rfl,an,am,G⟩;have C:=v.h G;have ba:=s.trans G;have bk:=an.one;have ar:=s.size;clear u t v s G;go_wp2_with(refine c7 rfl 39 (Tm 4) (Tm 31) rfl (w+2) _ _ _ rfl rfl C (by kernel_rfl) (by kernel_rfl) bk ?_;intro cm ax F)
    exact Bp (h7 rfl _ _ _ _ _ _ rfl ax underlying39 rfl (by kernel_rfl)) rfl ⟨_,_,_,_,_,by rw[r.out],by rw[r.out];exact(an.grown C (by decide) F).mono (c8 bn ar),by rw[r.out];exact(am.kept F (.inr (am.ne C (by decide)))).mono ar,ba.f F (fun k e=>by cases e;omega)⟩
  ·rw[if_pos rfl]at q
   have r:=a6 q;clear q;go_wp2_with(first
    |(refine i8 rfl 39 (Tm 2) rfl w 39 _ _ rfl u underlying39 rfl (by kernel_rfl) ?_)
    |(refine i8 rfl 88 (Tm 3) rfl (w+1) 88 _ _ rfl t underlying88 rfl (by kernel_rfl) ?_))
   apply(bt _ s).mono;rintro e ck⟨cf,cg,ch,ci,cj,rfl,an,am,G⟩;have C:=v.h G;have ba:=s.trans G;have bk:=an.one;have ar:=s.size;clear u t v s G;go_wp2_with(refine c7 rfl 39 (Tm 4) (Tm 22) rfl (w+2) _ _ _ rfl rfl C (by kernel_rfl) (by kernel_rfl) bk ?_;intro cm ax F)
   exact Bp (h7 rfl _ _ _ _ _ _ rfl ax underlying39 rfl (by kernel_rfl)) rfl ⟨_,_,_,_,_,by rw[r.out],by rw[r.out];exact(an.grown C (by decide) F).mono (c8 bn ar),by rw[r.out];exact(am.kept F (.inr (am.ne C (by decide)))).mono ar,ba.f F (fun k e=>by cases e;omega)⟩
def lK:List Int:=[0,1,2,3,4,5]
def KX:List Int:=j0.map (·.2)
structure ED(T l:List Int):Prop where
 n:l.Nodup
 m:∀x∈l,x∈T
theorem ED.len{T l:List Int}(h:ED T l):l.length≤T.length:=aJ l T h.n h.m
theorem ED.nil(T:List Int):ED T []:=⟨List.nodup_nil,fun x h=>by cases h⟩
theorem ED.withT{c l:List Int}(e:ED c l)(n:Int)(inn:Bool)(h:n∈c):ED c (withT l n inn):=by
 have d:ED c (x9 l n):=⟨e.n.filter _,fun x b=>e.m x (List.mem_filter.1 b).1⟩;have g:n∉x9 l n:=fun b=>by simpa using(List.mem_filter.1 b).2
 unfold Go.Proofs.YtiomenjfmagknaaGreat.withT;split
 ·have f:(V8 (x9 l n) (EC (x9 l n) n) n).Perm (n::x9 l n):=by
   unfold V8;have:=List.perm_middle (a:=n) (l₁:=(x9 l n).take (EC (x9 l n) n)) (l₂:=(x9 l n).drop (EC (x9 l n) n));rwa[List.take_append_drop]at this
  exact⟨f.nodup_iff.2 (List.nodup_cons.2 ⟨g,d.n⟩),fun x b=>by
   rcases List.mem_cons.1 (f.mem_iff.1 b)with rfl|b
   ·exact h
   ·exact d.m x b⟩
 ·exact d
theorem sM(s:ByteArray)(b:(n7 s).2=0):(n7 s).1∈lK:=by
 unfold n7 at b⊢;split at b
 ·rename_i c;rw[if_pos c];decide
 ·rename_i c
  rw[if_neg c];dsimp only at b⊢;rcases kU (fun a:DW=>a.1.toList==s.toList) r5 0 with⟨k,d,e,-,-⟩|⟨e,-⟩
  ·rw[e,if_neg (by omega)]
   have d:k<6:=d;have:k=0∨k=1∨k=2∨k=3∨k=4∨k=5:=by omega
   rcases this with rfl|rfl|rfl|rfl|rfl|rfl<;>decide
  ·rw[e]at b;exact absurd b (by decide)
theorem PM(l:List Nm)(s:ByteArray)(c:Int)(e:c≠0)(b:(a03 l s c).2=0):(a03 l s c).1∈l.map (·.2):=by
 unfold a03 at b⊢;cases d:l.find? fun a=>a.1.toList==s.toList with
 |none=>rw[d]at b;exact absurd b e
 |some a=>exact List.mem_map.2 ⟨a,List.mem_of_find?_eq_some d,rfl⟩
structure jV(p:i1):Prop where
 a:ED lK p.ar
 m:ED KX p.fa
 f:p.fc.length≤41
 l:p.lc.length≤41
 fm:0≤p.fm
 lm:0≤p.lm
theorem jV.lens{p:i1}(h:jV p):p.ar.length≤6∧p.fa.length≤8:=⟨h.a.len,h.m.len⟩
theorem jV.small{p:i1}(h:jV p):p.small:=⟨by have:=h.lens;omega,by have:=h.f;omega,by have:=h.l;omega,by have:=h.lens;omega⟩
theorem qL{d σ:Type}(f:σ→d→σ)(a:σ→Prop)(c:∀s b,a s→a (f s b)):∀(l:List d)(s:σ),a s→a (l.foldl f s)
 |[],s,h=>h
 |b::l,s,h=>qL f a c l (f s b) (c s b h)
theorem IF{ar:List Int}(b:ED lK ar)(d:List i0)(a:m6)(val:ByteArray):ED lK (Q9 ar d a val).1:=by
 unfold Q9;refine qL (B3 a) (fun σ=>ED lK σ.1) (fun σ w k=> ?_) _ _ ?_
 ·unfold B3
  split
  ·rename_i c;have:=k.withT (n7 w).1 Bt (sM w c);exact this
  ·exact k
 ·dsimp only
  split
  ·exact .nil _
  ·exact b
theorem XT{fa:List Int}(b:ED KX fa)(am:Int)(d:List i0)(a:m6)(val:ByteArray):ED KX (cI am fa d a val).2.1:=by
 unfold cI;split
 ·exact .nil _
 ·split
  ·exact .nil _
  ·refine qL (gX a _) (fun σ=>ED KX σ.1) (fun σ w k=> ?_) _ _ b
   unfold gX;split
   ·rename_i c;exact k.withT _ _ (PM _ w 180 (by decide) c)
   ·exact k
theorem NY{m:Int}(h:0≤m)(t:Bool):0≤dH m t:=by unfold dH;split<;>(try split)<;>omega
theorem zH{m:Int}(h:0≤m)(xs:List o8)(s:ByteArray)(q:Bool):0≤(J3 m xs s q).1:=by
 unfold J3;split
 ·split
  ·exact Int.le_refl _
  ·exact NY h _
 ·exact h
theorem eN(cur:Bool)(a:m6)(val:ByteArray):(E7 cur [] a val).2.length≤1:=by
 unfold E7;split
 ·exact i5 _
 ·split
  ·exact i5 _
  ·exact a7 _
theorem FL{p:i1}(b:jV p)(a:m6):jV (P7 p a).1∧(P7 p a).2.length≤a.val.size+2:=by
 have g:=C9 a.val;have h:=C9 (l6 a.val).1;have i:=H7 a.val;unfold P7;split
 ·refine⟨⟨IF b.a _ _ _,b.m,b.f,b.l,b.fm,b.lm⟩,?_⟩
  have:=(dR (B3 a) (mR a) (o6 a.val) (if(o6 a.val).length=0 then []else p.ar,[])).2;unfold Q9;simp at this⊢;omega
 ·split
  ·refine⟨⟨b.a,XT b.m _ _ _ _,b.f,b.l,b.fm,b.lm⟩,?_⟩
   show(cI p.am p.fa [] a a.val).2.2.length≤_;unfold cI;split
   ·exact i5 _
   ·split
    ·exact i5 _
    ·have:=(dR (gX a ((l6 a.val).2==(AX p.am (l6 a.val).2==2))) (CQ a _) (o6 (l6 a.val).1) (p.fa,[])).2
     simp at this⊢;omega
  ·split
   ·refine⟨⟨b.a,b.m,b.f,b.l,b.fm,b.lm⟩,?_⟩
    show(lP p.sp [] a a.val).2.length≤_;unfold lP;split
    ·exact i5 _
    ·split
     ·exact i5 _
     ·have:=oW a (o6 (l6 a.val).1) ⟨0,Bt,[]⟩
      simp at this⊢;omega
   ·have c:=eN p.we a a.val
    have d:=eN p.pe a a.val;have e:=eN p.rt a a.val;have f:=eN p.np a a.val;split
    ·exact⟨⟨b.a,b.m,b.f,b.l,b.fm,b.lm⟩,by dsimp only;omega⟩
    ·split
     ·exact⟨⟨b.a,b.m,b.f,b.l,b.fm,b.lm⟩,by dsimp only;omega⟩
     ·split
      ·exact⟨⟨b.a,b.m,b.f,b.l,b.fm,b.lm⟩,by dsimp only;omega⟩
      ·split
       ·exact⟨⟨b.a,b.m,b.f,b.l,b.fm,b.lm⟩,by dsimp only;omega⟩
       ·exact⟨b,i5 _⟩
theorem HF{p:i1}(b:jV p)(a:m6):jV (Q5 p a).1∧(Q5 p a).2.length≤a.val.size+2:=by
 have g:=iF p.fm p.fc a.val Bt;have h:=iF p.lm p.lc a.val Bf;have e:=b.f;have f:=b.l;have d:∀c:List i0,(eO a c).length=c.length:=fun c=>by simp[eO]
 unfold Q5;split
 ·exact⟨⟨b.a,b.m,by dsimp only;omega,b.l,zH b.fm _ _ _,b.lm⟩,by rw[d];omega⟩
 ·split
  ·exact⟨⟨b.a,b.m,b.f,by dsimp only;omega,b.fm,zH b.lm _ _ _⟩,by rw[d];omega⟩
  ·split
   ·refine⟨⟨b.a,b.m,b.f,b.l,b.fm,b.lm⟩,?_⟩
    rw[d];unfold qU;split<;>simp
   ·exact⟨b,i5 _⟩
theorem YA{p:i1}(h:jV p)(a:m6):jV (KY p a).1∧(KY p a).2.length≤a.val.size+2:=by
 unfold KY;split
 ·split
  ·exact HF h a
  ·split
   ·exact FL h a
   ·exact⟨h,by simp⟩
 ·exact⟨h,by simp⟩
def C3(σ:i1×List i0)(a:m6):i1×List i0:=((KY σ.1 a).1,σ.2++(KY σ.1 a).2)
def pH(l:List m6):i1×List i0:=l.foldl C3 (M7 2147483648,[])
def i9(l:List m6):i1×List i0:=if r0 (pH l).2 then(M7 0,(pH l).2)else pH l
def x1(l:List m6):Nat:=(l.map fun a=>a.val.size+2).sum
theorem wQ(dy:Int):jV (M7 dy):=⟨.nil _,.nil _,i5 _,i5 _,Int.le_refl _,Int.le_refl _⟩
theorem bG:∀(l:List m6)(σ:i1×List i0),jV σ.1→jV (l.foldl C3 σ).1∧(l.foldl C3 σ).2.length≤σ.2.length+x1 l
 |[],σ,h=>⟨h,a7 _⟩
 |a::l,σ,h=>by
  obtain⟨b,f⟩:=YA h a;obtain⟨c,g⟩:=bG l (C3 σ a) b;refine⟨c,?_⟩;have e:(C3 σ a).2.length=σ.2.length+(KY σ.1 a).2.length:=a2e;have d:x1 (a::l)=a.val.size+2+x1 l:=by simp[x1]
  simp only[List.foldl_cons];omega
theorem a2N(l:List m6)(k:Nat):x1 (l.take k)≤x1 l:=by
 have:x1 l=x1 (l.take k)+x1 (l.drop k):=by unfold x1;rw[←List.sum_append,←a4F,List.take_append_drop]
 omega
theorem eL{P:Pg}{d:Array Oper}{b:Oper}{a:Act}{w:Wd}{c:Act→Wd→Prop}{Q:Exit→Act→Wd→Prop}{E:Prop}(f:b.guard=J)(e:b.wp P a w c Q):if Region.wanted b (yielded d a.tmps)=Bt then Oper.wp P b a w c Q else E:=by
 have g:Region.wanted b (yielded d a.tmps)=Bt:=by simp[Region.wanted,f]
 rw[if_pos g];exact e
theorem hX{P:Pg}{b:Oper}{a:Act}{w:Wd}{d:Act→Wd→Prop}{Q:Exit→Act→Wd→Prop}(ty:Ti)(x h:Operand)(l:b.op= .store ty x h)(g:Nat)(t:Ti)(cur cs:Array Va)(m:a.eval x=K g)(n:a.eval h=Ag cs)
  (k:b9 w g t cur) (o:cs.size=cur.size) (hi:(P.info? ty).map (·.size)=So cs.size) (j:∀v∈cs.toList,v.oneCell'=Bt) (i:∀c,b9 c g t cs→w.grownBy c (So g)→d (a.put b.dst Un) c):b.wp P a w d Q:=by
 have e:b9 w g t cur.toList.toArray:=by rw[Array.toArray_toList];exact k
 have f:=setRow_heap w g _ (splice cur.toList 0 cs.toList).toArray t _ e;rw[A6 _ _ (by simp;omega),Array.toArray_toList]at f;unfold Oper.wp execOp;simp only[l,m,n,Instr.storeAt,Instr.sureAddr,Sem.run_bind,Sem.run_pure,Result.andThen_ok,Y8 w g 0 t ty cur.toList cs e (by simp;omega) hi j];rw[A6 _ _ (by simp;omega),Array.toArray_toList];exact i _ f (E1 w g _)
theorem IX{m:Type}{P:Pg}{f:Oper}{a:Act}{w:Wd}{n:Act→Wd→Prop}{Q:Exit→Act→Wd→Prop}(s x:Operand)(t e:Ti)(G:f.op= .call {callee:= .builtin .append,args:= #[s,x],argTypes:= #[t,t]}){z:Va}{b:Nat}{E:p6 m}(d:mU P t e z E.k b)
  (base:Nat) (v:Va) (xs:List m) (L:a.eval s=v) (k:e4 w base e E v xs) (u:Va) (b2:Nat) (ys:List m) (S:a.eval x=u) (R:e4 w b2 e E u ys) (N:xs.length+ys.length≤1000000) (C:base≤w)
  (y:∀v' c,e4 c base e E v' (xs++ys)→w.grownBy c v.ownBlock→n (a.put f.dst v') c):f.wp P a w n Q:=by
 obtain⟨i,hi,h⟩:=Option.map_eq_some_iff.1 d.i;simp only[Prod.mk.injEq]at h;obtain⟨h,F,B⟩:=h;obtain⟨r,o,rfl,p⟩:=R;have key:∃v' c,(Builtin.append_ #[t,t] f.type #[v,Z r ys.length o]).run P w= .ok v' c∧e4 c base e E v' (xs++ys)∧w.grownBy c v.ownBlock:=by
  rcases p.2 with⟨l,A⟩|⟨g,cap,cur,l,_⟩
  ·have T:ys=[]:=List.eq_nil_of_length_eq_zero A
   subst T;rw[l];exact⟨v,w,eD (P:=P) w base t f.type e i E.k d.u hi v xs.length (E.row xs) k.to 0,by rw[List.append_nil];exact k,World.grownBy.refl _ _⟩
  ·cases l
   obtain⟨v',c,ab,q,ac,_⟩:=run_append_own (P:=P) w base t f.type e i z E.k b d.u hi h F B d.zs d.k0 v xs.length (E.row xs) k.to ⟨g,0,J⟩ ys.length o (E.row ys) (E.row_length ys) (fun j u D=>(X2 p).add D) (E.row_oneCell ys) (by unfold maxLen;omega) (c8 (Nat.mul_le_mul N d.b0) (by decide)) C;rw[←E.row_append,←a2e]at q;exact⟨v',c,ab,.of q,ac⟩
 obtain⟨v',c,H,W,aa⟩:=key;unfold Oper.wp;simp[execOp,G,resolve,invoke,builtin,L,S,H,Result.andThen];exact y v' c W aa
theorem FP(bz:Option Ad)(c:Nat)(l:List m6)(w:Wd)(es:l.length≤100000)(cw:h9 w bz (Q8.row l))(ar:∀a∈l,a.val.size≤50000)(el:x1 l≤900000):
  Ca prog 21 #[Z bz l.length c] w fun e bw=>∃F G H L m,e=X (Tp #[Ag (i4 (i9 l).1 F G H L),m])∧r6 bw w (i9 l).1 F G H L∧e4 bw w 73 g6 m (i9 l).2∧a9 w bw:=by
 obtain⟨R,ap⟩:∃R,R=i9 l:=⟨_,rfl⟩;rw[←ap];unfold i9 at ap;obtain⟨ab,dj,dh,dn,dp,s⟩:=jX cw (fun k=>bG (l.take k) (M7 2147483648,[]) (wQ _)) (fun k=>a2N l k) (fun k(aq:k<l.length)=>show(l.take (k+1)).foldl C3 (M7 2147483648,[])=C3 ((l.take k).foldl C3 (M7 2147483648,[])) l[k] by rw[a4a aq,List.foldl_append];rfl) (fun k(aq:k<l.length)=>ar _ (a30 aq)) ap;have ct:=fun bm=>b9.new w 39 bm
 have de:=fun bm=>(a9.refl w).alloc (U bm 39)
 clear cw ar ap;go_in;go_wp2_with fail
 apply(a3x _).mono;rintro e aw⟨rfl,br⟩;have am:=(ct _).h br;have an:=(de _).trans br;clear ct de br;have av:∀v∈(i4 (M7 2147483648) M6 M6 M6 M6).toList,v.oneCell'=Bt:=by simp[i4,M7,Value.oneCell']
 go_wp2_with(refine c7 rfl 39 (Tm 4) (Tm 10) rfl aw 39 _ _ rfl rfl (b9.new aw _ _) (by kernel_rfl) (by kernel_rfl) av ?_;intro ew cj bp)
 have ck:=(am.h ((a9.refl aw).alloc (U _ 39))).grown bp (fun e=>by have:=am.lt;injection e with e;omega);have co:=(an.alloc _).f bp (fun k e=>by cases e;exact an.size);have et:=an.size;have da:=am.lt;obtain⟨dm,dq,dl⟩:=p7 ck co cj;generalize ef:aw.heap.size=u at*;clear am an ck co cj bp av ef;go_wp2_with fail
 go_loopg [5,13] l.length (fun ee ei eh wr=>∃(k:Nat)(F G H L m:Va),k≤l.length∧l.length-k≤ee∧eh=I M k∧m=ei∧b9 wr u 39 (i4 ((l.take k).foldl C3 (M7 2147483648,[])).1 F G H L)∧r6 wr w ((l.take k).foldl C3 (M7 2147483648,[])).1 F G H L∧e4 wr w 73 g6 m ((l.take k).foldl C3 (M7 2147483648,[])).2∧a9 w wr∧(∃cs,b9 wr w 39 cs∧cs.size=13))
 case atStart=>exact⟨0,M6,M6,M6,M6,_,i5 _,by omega,rfl,rfl,dl.out,⟨e4.nil _ _ _ _,e4.nil _ _ _ _,e4.nil _ _ _ _,e4.nil _ _ _ _⟩,e4.nil _ _ _ _,dq.out,⟨_,dm.out,by kernel_rfl⟩⟩
 case round=>
  obtain⟨k,F,G,H,L,m,aq,ep,rfl,rfl,af,ao,N,n,ad⟩:=hrel;obtain⟨ag,eg⟩:=dj k;rw[List.length_nil,a4E]at eg;have en:=dh k;by_cases P:k<l.length
  ·obtain⟨b,eu,rfl,ek⟩:=(ab.h n).rows (by decide) (by omega)
   have ds:=(ab.h n).b P (r:=0) rfl;have dt:=(ab.h n).b P (r:=1) rfl;have du:=(ab.h n).b P (r:=2) rfl;have dv:=(ab.h n).b P (r:=3) rfl;have dw:=(ab.h n).b P (r:=4) rfl;have bq:=dn k P;have ar:=dp k P;have eo:=YA ag l[k];simp only[Q8,a4z]at ds dt du dv dw;generalize l[k]=a at*;generalize(l.take k).foldl C3 (M7 2147483648,[])=σ at*;obtain⟨p,y⟩:=σ;dsimp only at*;have em:x1 (l.take k)≤900000:=by omega
   have xa:=(a9.refl wr).alloc (U #[Y a.file,I M a.line,Y a.sec,Y a.key,Y a.val] 88);have ca:=b9.new wr 88 #[Y a.file,I M a.line,Y a.sec,Y a.key,Y a.val];have cb:=a6 (show Ca prog 35 #[Ag (i4 p F G H L),Ag #[Y a.file,I M a.line,Y a.sec,Y a.key,Y a.val]] (wr.alloc (U #[Y a.file,I M a.line,Y a.sec,Y a.key,Y a.val] 88)) _ from a48 p a F G H L _ ag.small ar ⟨ag.fm,ag.lm⟩ (by have:=ag.lens;omega) w (c8 n.size xa.size) (ao.h xa));have cu:C3 (p,y) a=((KY p a).1,y++(KY p a).2):=rfl;rw[cu]at bq;generalize KY p a=q at*;obtain⟨T,bs⟩:=q;dsimp only at*;have bi:=af.h xa;have ch:=N.h xa;have bk:=n.trans xa;have RA:∃cs,b9 (wr.alloc (U #[Y a.file,I M a.line,Y a.sec,Y a.key,Y a.val] 88)) w 39 cs∧cs.size=13:=let⟨cs,q,z⟩:=ad;⟨cs,q.h xa,z⟩;obtain⟨dy,dz,ea,eb,ec⟩:=ca.c5;have db:m.ownBlock≠So u:=N.ne af (by decide);have ac:=a6 bq;have er:(k:Int)<l.length:=by omega
   clear af ao N n ad xa ca bq cu;go_wp2_with(refine i8 rfl 39 (Tm 4) rfl u 39 _ _ rfl bi underlying39 rfl (by kernel_rfl) ?_)
   apply cb.mono;rintro e E⟨A,B,C,D,ai,rfl,bt,au,f⟩;have bg:=bi.h f;have cg:=ch.h f;have cp:=bk.trans f;have cm:∃cs,b9 E w 39 cs∧cs.size=13:=let⟨cs,q,z⟩:=RA;⟨cs,q.h f,z⟩;replace au:=au.mono bk.size;have bu:=bt.one;clear bi ch bk RA f dy dz ea eb ec cb;go_wp2_with(refine c7 rfl 39 (Tm 8) (Tm 21) rfl E 39 _ _ rfl rfl (b9.new E _ _) (by kernel_rfl) (by kernel_rfl) bu ?_;intro o ax x)
   have aa:=(a9.refl E).alloc (U _ 39)|>.f x (fun k e=>by cases e;exact a7 _)
   have bh:=bg.h aa;have bd:=cg.h aa;have cq:=cp.trans aa;have ci:=bt.h aa;have bc:=au.h aa;have cn:∃cs,b9 o w 39 cs∧cs.size=13:=let⟨cs,q,z⟩:=cm;⟨cs,q.h aa,z⟩;have cv:E≠u:=by have:=bg.lt;omega
   have cx:m.ownBlock≠So E.heap.size:=bd.ne ax (by decide);have cy:ai.ownBlock≠So u:=bc.ne bh (by decide);obtain⟨ba,j,bb,al,di,ce⟩:=jX bh bd cq ci bc cn;obtain⟨az,ak⟩:=i6 ax (And.intro cv (And.intro db (And.intro cx cy)));clear bg cg cp bt au cm aa bh bd cq ci bc cn ax x cv db cx cy;generalize E.heap.size=bn at*;go_wp2_with fail
   have dr:b9 o.drew bn 39 (i4 T A B C D):=az.drew;have ev:b9 o.drew u 39 _:=ba.drew;have dd:e4 o.drew w 73 g6 m y:=j.h (a9.refl _).drew;have dc:e4 o.drew w 73 g6 ai bs:=di.h (a9.refl _).drew;have df:w≤o.drew.heap.size:=bb.size;refine wp_region_any (by kernel_rfl) ?_
   change wpAny _ _ _ _ _ _ _ (World.drew _)
   refine wpAny_take (i:=1) (v:=m) rfl (by kernel_rfl) (by kernel_rfl) (by kernel_rfl) (fun _ _ _ bo=>bo) (Or.inl ⟨by rfl,fun w=>by go_simp⟩) ?_;refine wpAny_take (i:=2) (v:=ai) rfl (by kernel_rfl) (by kernel_rfl) (by kernel_rfl) (fun _ _ _ bo=>bo) (Or.inl ⟨by rfl,fun w=>by go_simp⟩) ?_;refine wpAny_ready (rs:=[0,3]) (by kernel_rfl) (by simp) ?_;refine AllReady.cons rfl (fun h d=> ?_) (AllReady.cons rfl (fun h d=> ?_) AllReady.nil)
   ·
    refine eL rfl (wp_load_row 39 (Tm 8) rfl bn rfl 39 _ (0,0) _ dr underlying39 rfl (by kernel_rfl) ?_);refine d _ _ ?_;clear d h;refine wpAny_ready (rs:=[3]) (by kernel_rfl) (by simp) ?_;refine AllReady.cons rfl (fun h d=> ?_) AllReady.nil;refine eL rfl (IX (Tm 24) (Tm 25) 41 73 rfl lX w m y rfl dd ai w bs rfl dc (by omega) df ?_);intro ej bx ah g;have cr:=az.drew.grown g (fun e=>ak.2.2.1 e.symm);have S:=ba.drew.grown g (fun e=>ak.2.1 e.symm);refine d _ _ ?_;clear d h;refine wpAny_ready (rs:=[4]) (by kernel_rfl) (by simp) ?_;refine AllReady.cons rfl (fun h d=> ?_) AllReady.nil;refine eL rfl (hX 39 (Tm 4) (Tm 23) rfl u 39 _ _ rfl rfl S (by rfl) (by kernel_rfl) al.one ?_);intro W bv t;refine d _ _ ?_;clear d h;refine wpAny_ready (rs:=[5]) (by kernel_rfl) (by simp) ?_;refine AllReady.cons rfl (fun h d=> ?_) AllReady.nil
    go_simp
    refine d _ _ ?_;clear d h;refine wpAny_done (by kernel_rfl) ?_ _;have bj:∃cs,b9 W w 39 cs∧cs.size=13:=let⟨cs,q,z⟩:=ce.out;⟨cs,(q.drew.grown g (fun e=>j.ne q (by decide) e.symm)).grown t (fun e=>by have:=da;injection e with e;omega),z⟩;have bf:r6 W w T A B C D:=((fun k=>⟨k.a.apart j (by decide) g,k.f.apart j (by decide) g,k.l.apart j (by decide) g,k.m.apart j (by decide) g⟩:r6 o.drew w T A B C D→r6 bx w T A B C D) (al.h (a9.refl _).drew)).grown S (by decide) t;have be:=ah.kept t (.inr (ah.ne S (by decide)));have bl:a9 w W:=(bb.drew.f g (fun k e=>(j.lt e).1)).f t (fun k e=>by cases e;omega);go_wp2_with fail
    go_roundg (l.length-(k+1))
    case measure=>omega
    case rel=>exact⟨k+1,A,B,C,D,_,by omega,by omega,by go_num,rfl,by rw[ac.out];exact bv,by rw[ac.out];exact bf,by rw[ac.out];exact be,bl,bj⟩
   ·
    refine eL rfl (IX (Tm 24) (Tm 25) 41 73 rfl lX w m y rfl dd ai w bs rfl dc (by omega) df ?_);intro ej bx ah g;have cr:=az.drew.grown g (fun e=>ak.2.2.1 e.symm);have S:=ba.drew.grown g (fun e=>ak.2.1 e.symm);refine d _ _ ?_;clear d h;refine wpAny_ready (rs:=[0]) (by kernel_rfl) (by simp) ?_;refine AllReady.cons rfl (fun h d=> ?_) AllReady.nil;refine eL rfl (wp_load_row 39 (Tm 8) rfl bn rfl 39 _ (0,0) _ cr underlying39 rfl (by kernel_rfl) ?_);refine d _ _ ?_;clear d h;refine wpAny_ready (rs:=[4]) (by kernel_rfl) (by simp) ?_;refine AllReady.cons rfl (fun h d=> ?_) AllReady.nil;refine eL rfl (hX 39 (Tm 4) (Tm 23) rfl u 39 _ _ rfl rfl S (by rfl) (by kernel_rfl) al.one ?_);intro W bv t;refine d _ _ ?_;clear d h;refine wpAny_ready (rs:=[5]) (by kernel_rfl) (by simp) ?_;refine AllReady.cons rfl (fun h d=> ?_) AllReady.nil
    go_simp
    refine d _ _ ?_;clear d h;refine wpAny_done (by kernel_rfl) ?_ _;have bj:∃cs,b9 W w 39 cs∧cs.size=13:=let⟨cs,q,z⟩:=ce.out;⟨cs,(q.drew.grown g (fun e=>j.ne q (by decide) e.symm)).grown t (fun e=>by have:=da;injection e with e;omega),z⟩;have bf:r6 W w T A B C D:=((fun k=>⟨k.a.apart j (by decide) g,k.f.apart j (by decide) g,k.l.apart j (by decide) g,k.m.apart j (by decide) g⟩:r6 o.drew w T A B C D→r6 bx w T A B C D) (al.h (a9.refl _).drew)).grown S (by decide) t;have be:=ah.kept t (.inr (ah.ne S (by decide)));have bl:a9 w W:=(bb.drew.f g (fun k e=>(j.lt e).1)).f t (fun k e=>by cases e;omega);go_wp2_with fail
    go_roundg (l.length-(k+1))
    case measure=>omega
    case rel=>exact⟨k+1,A,B,C,D,_,by omega,by omega,by go_num,rfl,by rw[ac.out];exact bv,by rw[ac.out];exact bf,by rw[ac.out];exact be,bl,bj⟩
  ·obtain rfl:k=l.length:=by omega
   rw[List.take_length]at*;have Q:=s.out;unfold pH at Q;generalize l.foldl C3 (M7 2147483648,[])=σ at*;obtain⟨p,y⟩:=σ;dsimp only at*;obtain⟨dg,dx,rfl⟩:=N.b;obtain⟨cc,dk,cd,aj,cf⟩:=gP (kL dg y.length dx y wr rfl (by omega) N.i.1) af ao N n;obtain⟨cs,ad,cz⟩:=ad;have ae:=a6 ad;generalize r0 y=ed at*;clear af ao N n ad;rcases ed with _|_
   ·rw[if_neg (by decide)]at Q
    have s:=a6 Q;clear Q;go_wp2_with fail
    apply cc.mono;rintro e E⟨rfl,f⟩;have bu:=cd.one;go_wp2_with(first|(refine i8 rfl 39 (Tm 4) rfl u 39 _ _ rfl (dk.h f) underlying39 rfl (by kernel_rfl) ?_)|(refine c7 rfl 39 (Tm 2) (Tm 32) rfl w _ cs _ rfl rfl (ae.h f) (by rw[cz];rfl) (by kernel_rfl) bu ?_;intro o ay x))
    exact Bp (h7 rfl _ _ _ _ _ _ rfl ay underlying39 rfl (by kernel_rfl)) rfl ⟨_,_,_,_,_,by rw[s.out],by rw[s.out];exact(cd.h f).grown (ae.h f) (by decide) x,by rw[s.out];exact(aj.h f).kept x (.inr ((aj.h f).ne (ae.h f) (by decide))),(cf.trans f).f x (fun k e=>by cases e;exact a7 _)⟩
   ·rw[if_pos rfl]at Q
    have s:=a6 Q;have av:∀v∈(i4 (M7 0) M6 M6 M6 M6).toList,v.oneCell'=Bt:=by simp[i4,M7,Value.oneCell']
    clear Q;go_wp2_with fail
    apply cc.mono;rintro e E⟨rfl,f⟩;go_wp2_with(refine c7 rfl 39 (Tm 2) (Tm 30) rfl w _ cs (i4 (M7 0) M6 M6 M6 M6) rfl rfl (ae.h f) (by rw[cz];rfl) (by kernel_rfl) av ?_;intro o ay x)
    exact Bp (h7 rfl _ _ _ _ _ _ rfl ay underlying39 rfl (by kernel_rfl)) rfl ⟨_,_,_,_,_,by rw[s.out],by rw[s.out];exact⟨e4.nil _ _ _ _,e4.nil _ _ _ _,e4.nil _ _ _ _,e4.nil _ _ _ _⟩,by rw[s.out];exact(aj.h f).kept x (.inr ((aj.h f).ne (ae.h f) (by decide))),(cf.trans f).f x (fun k e=>by cases e;exact a7 _)⟩
end Go.Proofs.YtiomenjfmagknaaGreat
