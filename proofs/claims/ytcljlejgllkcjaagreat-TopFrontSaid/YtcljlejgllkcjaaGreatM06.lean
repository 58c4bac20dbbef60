/- A part of the proof of TopFront: lemmas on the walks of its calls. -/
import Derived.StillTailTactics
import Derived.Test.YtcljlejgllkcjaaGreatM05
set_option maxHeartbeats 12000000
set_option linter.all false
set_option maxRecDepth 100000
namespace Go.Proofs.YtcljlejgllkcjaaGreat
open Go.RowKit Go.ChangeShapes Go.WideShapes Tryz
open Bool renaming true→Bt,false→Bf
open Decidable renaming decide→Dc
open Ending renaming returned→X
open Go renaming World→Wd,Value→Va,Calls→Ca,callsIn_wide→Cw,undef→Un,bodyPost_ret→Bp,TypeId→Ti,Addr→Ad,Program→Pg,strOfNums→Sn,results_none→Rz,wpListIn→Wl,callsIn_of_wp_marks→Cm,callsIn_of_wp→Co,CallsIn→Ci,wpList→Wp
open Go.Proofs renaming enters_of→Eo
open IntKind renaming i64→M,u32→V,u16→U1,u8→U8
open IntWalk renaming i64_in→h7
open List renaming getD_eq_getElem?_getD→b9,getElem?_eq_getElem→e9,length_append→g1,getElem_mem→g3,take_succ_eq_append_getElem→g2,length_cons→i4,length_take→m4,append_assoc→p6,length→D
open Nat renaming le_refl→a7,le_trans→b6,zero_le→c6,add_zero→j8
open Obj renaming cells→U
open Operand renaming tmp→Tm
open Option renaming none→J,some→So
open Value renaming int→I,slice→Z,string→Y,pointer→K,bool→O,func→Fc,tuple→Tp,agg→Ag
section
attribute [local go_sem] Oper.semAt_some
structure PU(g:Nat)(ob:Option Nat)(W W':Wd):Prop where
 os:W'.os=W.os
 tape:W'.tape=W.tape
 output:W'.output=W.output
 size:W<=W'.heap.size
 keep:∀b,b<W.heap.size->b≠g->ob≠So b->W'.heap[b]? =W.heap[b]?
structure RA(ob:Option Nat)(base:Nat)(v:Va)(n:Nat)(xs ys:List Va)(W W':Wd):Prop where
 g:W.grownBy W' ob
 old:W.ownsRow base 141 4 v n xs->W'.ownsRow base 141 4 v n xs
 new:∀v',W.ownsRow base 141 4 v' (n+1) (xs++ys)->W'.ownsRow base 141 4 v' (n+1) (xs++ys)
theorem y7{W W':Wd}(a:W.grownBy W' J)(d:Option Nat):W.grownBy W' d:=⟨a.os,a.tape,a.output,a.size,λb c _=>a.block b c ZH⟩
theorem RA.h{c:Option Nat}{base:Nat}{v:Va}{n:Nat}{xs ys:List Va}{W W':Wd}(b:W.grownBy W' J):RA c base v n xs ys W W':=
 have k:∀a j zs,W.ownsRow base 141 4 a j zs->W'.ownsRow base 141 4 a j zs:=λa j zs q=>q.kept b (by cases a.ownBlock;exact .inl rfl;exact .inr ZH)
 ⟨y7 b c,k _ _ _,λ_=>k _ _ _⟩
instance (d:Option Nat)(base:Nat)(v:Va)(n:Nat)(xs ys:List Va):L6 (RA d base v n xs ys) where
 refl W:=RA.h ⟨rfl,rfl,rfl,a7 _,λ_ _ _=>rfl⟩
 trans a b c h k:=⟨h.g.trans k.g,λq=>k.old (h.old q),λv' q=>k.new v' (h.new v' q)⟩
 drew W:=RA.h (E4 W)
theorem E1{W:Wd}{base n:Nat}{e t:Ti}{i:Nat}{v:Va}{xs:List Va}{g:Nat}{cs:Array Va}(d:W.ownsRow base e i v n xs)(k:e7 W g t cs)(h:e≠t):v.ownBlock≠So g:=λa=>by
 rcases d.2 with⟨b,_⟩|⟨c,cap,cur,b,_,f,_⟩
 rw[b]at a;cases a;rw[b]at a;injection a with a
 have a:c=g:=a;subst a;unfold e7 at k;rw[f]at k;injection k with k
 injection k with _ k2
 exact h k2
def pL{c:Option Nat}{base:Nat}{v:Va}{n:Nat}{xs ys:List Va}(cs:Array Va):VR (RA c base v n xs ys):=
 ⟨λu d=>∃a,u=Z (So ⟨a,0,J⟩) 1 1/\e7 d a 141 cs/\c≠So a,λ_ _ _⟨a,f,g,b⟩ e=>⟨a,f,g.grown e.g (λq=>b q.symm),b⟩⟩
def zG{c:Option Nat}{base:Nat}{v:Va}{n:Nat}{xs ys:List Va}(z:Nat):VR (RA c base v n xs ys):=
 ⟨λu d=>d.ownsRow base 141 4 u (n+1) (xs++ys)/\(u.ownBlock=c\/∀b,u.ownBlock=So b->z<=b),λ_ _ _ a e=>⟨e.new _ a.1,a.2⟩⟩
structure a6a(w:Wd)(z gk:Nat)(pv:Va)(far:Int)(bk:List B7)(v:Va)(base:Nat)(A:p1)(m c:Nat)(xs:List B7)(pre:R8)(W:Wd):Prop where
 ex:∃v',e7 W gk 337 #[v',pv,I M far]/\W.ownsRow base 141 4 v' (D bk+D pre) (pc (bk++pre.map λi=>xs.getD i a39))/\(v'.ownBlock=v.ownBlock\/∀b,v'.ownBlock=So b->w.heap.size<=b)
 box:e7 W w 333 #[K gk]
 box2:e7 W (w+1) 74 #[Z A m c]
 pu:PU gk v.ownBlock w W
 z:z<=W
theorem PU.r{g z:Nat}{f:Option Nat}{w W W':Wd}{row:Option Nat}(a:PU g f w W)(k:w<=z)(c:W.grownBy W' row)(j:∀r,row=So r->z<=r):PU g f w W':=
 ⟨c.os.trans a.os,c.tape.trans a.tape,c.output.trans a.output,b6 a.size c.size,λb d h i=>(c.block b (Nat.lt_of_lt_of_le d a.size) (λe=>by have:=j b e.symm;omega)).trans (a.keep b d h i)⟩
theorem ZA(w:Wd)(z j:Nat)(p:w<=z)(q:Va)(i:Int)(h:List B7)(v:Va)(base:Nat)(g:p1)(m c:Nat)(xs:List B7):OwnFrom z (a6a w z j q i h v base g m c xs):=λpre W W' row b a f=>by
 have d:∀r,row=So r->∃o:Obj,W.heap[r]? =So o/\o.isCells=Bf:=λr e=>(f r e).2
 obtain⟨v',k,l,n⟩:=b.ex;exact⟨⟨v',i2 k a d,Q8 l a d,n⟩,i2 b.box a d,i2 b.box2 a d,b.pu.r p a (λr e=>(f r e).1),b6 b.z a.size⟩
def a5j(b:Nat)(a:p1)(m c z:Nat)(g x:Nat)(co e d kk:Int):Act:=
 {tmps:= #[K b,Z a m c,K z,Un,Un,K g,Z a m c,Fc (.func 454) #[] #[K (z+1:Nat)],I M x,Ag #[I U1 co,I U8 e,I U8 d,I V kk],Un,Un,Un,Un,Un,Un,Un,Un,Un,Un],defers:=[]}
def a61(f:Nat)(d:p1)(m c z:Nat)(xs:List B7)(x h:Nat)(e:Act)(W:Wd):Prop:=
 ∃g co b a kk,h<=g/\xs.getD x a39=⟨co,b,a,kk⟩/\e=a5j f d m c z g x co b a kk/\e7 W g 141 #[I U1 co,I U8 b,I U8 a,I V kk]
theorem a3x(d:Nat)(an:Va)(ah:Int)(s:List B7)(v:Va)(base:Nat)(n:p1)(m c:Nat)(xs:List B7)(da:D xs=m)(dz:m<=3)(t:D s<=500000)(w:Wd)(dw:base<=w)
 (bp:e7 w d 337 #[v,an,I M ah]) (ak:w.ownsRow base 141 4 v (D s) (pc s)) (ck:i5 w n (pc xs)) (cj:∀a,n=So a->a.block<w/\a.block≠d/\v.ownBlock≠So a.block):
 Ci .wide 3 prog 396 #[K d,Z n m c] w λe ao=>(∃u,e=X u)/\∃v',e7 ao d 337 #[v',an,I M ah]/\ao.ownsRow base 141 4 v' (D s+m) (pc (s++xs.reverse))/\
 PU d v.ownBlock w ao/\(v'.ownBlock=v.ownBlock\/∀b,v'.ownBlock=So b->w.heap.size<=b):=by
 have ba:=a6 da;refine Cm func396 rfl trivial ?_ rfl;simp only[ntmps396,uE,Nat.reduceAdd,Nat.reduceSub];gi_wp2_with(refine⟨trivial,?_⟩;gi_at_call 439;apply(YE n m c _).mono;rintro e ao⟨rfl,rfl⟩);have bb:e7 ((w.alloc (U #[K d] 333)).alloc (U #[Z n m c] 74)) w 333 #[K d]:=(e7.new w _ _).alloc _;have ad:e7 ((w.alloc (U #[K d] 333)).alloc (U #[Z n m c] 74)) (w+1) 74 #[Z n m c]:=e7.b i3;have N:a9 w ((w.alloc (U #[K d] 333)).alloc (U #[Z n m c] 74)):=((a9.refl w).alloc _).alloc _;have eb:((w.alloc (U #[K d] 333)).alloc (U #[Z n m c] 74)).heap.size=w.heap.size+2:=i3;generalize(w.alloc (U #[K d] 333)).alloc (U #[Z n m c] 74)=w0 at*;have bm:i5 w0 n (pc xs):=ck.h N;have dx:d<w.heap.size:=bp.lt;refine A4 rfl e6 (gf:=454) (lb:= #[K (w+1:Nat)]) rfl trivial (Eo func454 g6 rfl)
  (CV (w+1) m c n xs ba a8 w0 ad.lt (by rw[ad.cell];rfl) bm) (λB k=>B.trans k)
  (λW l o ac _ T S _=>⟨λay=>cell_kept ay (grownBy_putObj' W l ac) (λr e=>by cases e;exact⟨o,T,S⟩),λay j u ax=>by
   obtain⟨b,az,e,aw⟩:=ay j u ax
   exact⟨b,az,e,cell_kept aw (grownBy_putObj' W l ac) (λr e=>by cases e;exact⟨o,T,S⟩)⟩⟩) (Below.refl _ _) (λ_=>rfl)
  (λx W l o ac bk _ _=>bk)
  (a6a w w0 d an ah s v base n m c xs) (ZA w w0 d a8 an ah s v base n m c xs)
  ⟨⟨v,bp.h N,by simpa using eH ak N,.inl rfl⟩,bb,ad,⟨N.os,N.tape,N.output,N.size,λb t _ _=>N.block t⟩,a7 _⟩
  (a61 d n m c w xs)
  (λx dl ce W l o ac⟨g,co,G,F,kk,h,L,av,ci⟩ T S=>⟨g,co,G,F,kk,h,L,av,i2 ci (grownBy_putObj' W l ac) (λr e=>by cases e;exact⟨o,T,S⟩)⟩)
  (λ_ _ _ B _=>B) (λW W' e=>⟨λB=>e.cell B,λB=>B.h e⟩) ?Aa ?Ab ?An
 case Aa=>intro l x W dm bk aa;obtain⟨⟨co,G,F,kk⟩,ai⟩:∃E,xs.getD x a39=E:=⟨_,rfl⟩;simp only[ai,B7.val,B7.cells];gi_wp2;exact aa _ _ ((a9.refl W).alloc _) ⟨W,co,G,F,kk,a7 _,ai,rfl,e7.new _ _ _⟩
 case Ab=>
  rintro l pre de dn W ce bl p ea⟨g,co,G,F,kk,ec,ai,rfl,cp⟩ bj dy;obtain⟨v',Q,y,al⟩:=p.ex;obtain⟨H,bq,bt,_⟩:=bl.ex;have ch:H=v':=by
   have h:=bj _ _ bq rfl;unfold e7 at Q;rw[Q]at h;injection h with h
   injection h with h
   injection h with h
   injection h with h
   exact h.symm
  subst ch;have cy:H.ownBlock≠So g:=λe=>by have:=(bt.lt g e).2;omega
  have br:H.ownBlock≠So w.heap.size:=E1 y p.box e6;have bs:H.ownBlock≠So d:=E1 y Q e6;have cw:H.ownBlock≠So (w.heap.size+1):=E1 y p.box2 e6;have bn:=p.box;have dc:=p.z;obtain⟨A,cv⟩:∃A,D s+D pre=A:=⟨_,rfl⟩;obtain⟨ys,ab⟩:∃ys,pc (s++pre.map λi=>xs.getD i a39)=ys:=⟨_,rfl⟩;rw[cv,ab]at y;have cm:A+1<=maxLen:=by unfold maxLen;omega
  have cn:(A+1)*8<=140737488355328:=a8;obtain⟨dd,hi,bu,bv,bw⟩:=info_parts WL;have ca:=a6 hi;have cb:=a6 bu;have cc:=a6 bv;have cd:=a6 bw;have cz:w<=W.heap.size:=p.pu.size;clear hi bu bv bw bb ad bm bt bq bl bj;unfold a5j;gi_wp2_with fail;refine fN (R:=(RA H.ownBlock base H A ys [I U1 co,I U8 G,I U8 F,I V kk])) (λ_=>trivial) rfl [.is (K d),.is (K d),.is (K d),.is (K d),.is H,.is (.agg #[I U1 co,I U8 G,I U8 F,I V kk]),(pL #[I U1 co,I U8 G,I U8 F,I V kk]),(zG w),.is (K d),.is (K d)] g6 ?Ao ?Ac ⟨?Ad,?Ae,?Af,?Ag,?Ah,?Ai,?Aj,?Ak,?Al,?Am,trivial⟩ _ rfl rfl ?Ap
  case Ac=>intro x;simp only[qM,Act.put,uL,Nat.reduceAdd]<;>rfl
  case Ad|Ae|Af|Ag|Ah|Ai|Al|Am=>
   intro x P f;simp only[g0,g5,uV,pL,zG];repeat(intro cg;try simp only[cg])
   have dp:=(bn.grown f.g (λe=>br e.symm)).cell 0;have dl:=(Q.grown f.g (λe=>bs e.symm)).cell 0;have cf:=cp.grown f.g (λe=>cy e.symm);obtain⟨ef,dq,dr,ds⟩:=cf.c4;gi_wp2_with fail;refine e8 ?_ rfl (L6.refl _);rfl
  case Aj=>intro x P f;simp only[g0,g5,uV,pL,zG];intro af;simp only[af];gi_wp2_with fail;refine e8 ?_ rfl (RA.h (j4 ((a9.refl P).alloc _) J));exact⟨P,rfl,e7.new _ _ _,λe=>by have:=((f.old y).lt _ e).2;omega⟩
  case Ak=>intro x P f;simp only[g0,g5,uV,pL,zG];rintro ae⟨au,ag,bx,df⟩;simp only[ae,ag];gi_wp2_with(gi_at_builtin;refine cL _ rfl _ _ 74 rfl base 141 dd _ 4 8 underlying74 ca cb cc cd rfl e6 H A ys rfl (f.old y) ⟨au,0,J⟩ 1 1 [I U1 co,I U8 G,I U8 F,I V kk] rfl rfl (λj u cs=>(i5.f bx rfl:i5 _ au [I U1 co,I U8 G,I U8 F,I V kk]).add cs) nA cm cn (by have:=f.g.size;omega) ?_;intro ed ee dg dh di dj dk);refine e8 ?_ rfl (⟨dh,λ_=>di,dj⟩);exact⟨dg,dk.imp id (λq b t=>by have:=q b t;have:=f.g.size;omega)⟩
  intro x P f;simp only[n9,g0,g5,uV,pL,zG];rintro bc bd be bf ae af⟨au,ag,bx,df⟩⟨am,bz⟩ bg bh;simp only[bc,bd,be,bf,ae,af,ag,bg,bh];clear bc bd be bf ae af ag bg bh;obtain⟨ar,aq,bi⟩:=ownsRow_succ am;rw[bi]at am bz;have aj:=Q.grown f.g (λe=>bs e.symm);have dt:=aj.cell 0;have du:=aj.frozen 0;simp only[bi];gi_wp2_with fail;have C:=grownBy_setCell' P d (Z ar (A+1) aq);have cx:=E1 am aj e6;have cq:=(bn.grown f.g (λe=>br e.symm)).grown C (λe=>by injection e;omega);have bo:=(p.box2.grown f.g (λe=>cw e.symm)).grown C (λe=>by injection e;omega);have keep:∀b,b<w.heap.size->b≠d->v.ownBlock≠So b->(P.setCell ⟨d,0,J⟩ (Z ar (A+1) aq)).heap[b]? =W.heap[b]? :=λb t h L=>
   (C.block b (by have:=f.g.size;omega) (λe=>by injection e with e;exact h e)).trans (f.g.block b a8 (λe=>by
    rcases al with q|q
    ·rw[q]at e;exact L e.symm
    ·have:=q b e.symm;omega))
  refine⟨KeepsFrom.trans (KeepsOthers.from (KeepsOthers.of_grownBy f.g ?_) _) ((KeepsOthers.setCell _ _ _).from _),⟨λ_=>by rw[bo.cell];rfl,λB j u ax=> ?_⟩,⟨⟨Z ar (A+1) aq,aj.f 0 _,?_,?_⟩,cq,bo,?_,b6 dc (b6 f.g.size C.size)⟩⟩;intro j o e ak;rcases y.2 with⟨rfl,_⟩|⟨g,cap,cur,rfl,_,cr,_⟩
  cases e;cases e;rw[cr]at ak;cases ak;rfl;obtain⟨b,az,e,aw⟩:=B j u ax;obtain⟨h,L,av⟩:=cj _ e;refine⟨b,az,e,?_⟩;have:=keep b h L av;rw[<-aw];unfold World.cell?;simp only;rw[this];have ct:=am.kept C (.inr cx);rw[show D s+D (pre++[de])=A+1 by rw[g1];simp;omega,List.map_append,<-p6,MK,ab];simp only[List.map_cons,List.map_nil,ai];exact ct;rcases bz with q|q
  rcases al with r|r
  exact .inl (q.trans r);exact .inr λb t=>r b (q.symm.trans t)
  exact .inr q;exact⟨C.os.trans (f.g.os.trans p.pu.os),C.tape.trans (f.g.tape.trans p.pu.tape),C.output.trans (f.g.output.trans p.pu.output),b6 cz (b6 f.g.size C.size),λb t h L=>(keep b t h L).trans (p.pu.keep b t h L)⟩
 rintro ap ys W dv ab p aa;obtain⟨v',Q,y,al⟩:=p.ex;have T:D ys=m:=by rw[ab];simp
 have S:(ys.map λi=>xs.getD i a39)=xs.reverse:=by have db:=ba.O;rw[ab,List.map_reverse,<-db,EP]
 rw[T,S]at y;gi_wp2;refine⟨i3,.inl ⟨_,_,rfl,run_takeDeferred aa,?_⟩⟩;have cu:∀r,So ap=So r->∃o:Obj,W.heap[r]? =So o/\o.isCells=Bf:=λr e=>by cases e;exact⟨_,aa,rfl⟩
 exact⟨_,Rz rfl _ _ _,⟨_,rfl⟩,v',i2 Q (grownBy_putObj' W ap _) cu,ownsRow_putObj y _ aa rfl,p.pu.r (z:=w) (a7 _) (grownBy_putObj' W ap _) (λr e=>by cases e;omega),al⟩
theorem a5Y(w d n nb G:Nat)(F:p1)(Q:Int)(a:o5)(R:D a=n)(t:Nat)(ac:t<n)(ab:n<=200000)(aa:nb<=500000)(B:∀x∈a,0<=x/\x<=nb)(W:Wd)
 (z:e7 W w 337 #[Z F nb G,Z d n n,I M Q]) (C:e7 W d 3 (l8 M a).toArray):
 Ca prog 397 #[K w,I M t] W λe S=>e=X (I M ((nb:Int)-a.getD t 0))/\a9 W S:=by
 have b:t<D a:=a8;have E:=(C.cell t).trans (show((l8 M a).toArray)[t]? =So (I M (a.getD t 0))from by rw[List.getElem?_toArray,Q9 b,b9,e9 b];rfl)
 have A:=B _ (g3 b);have y:a[t]=a.getD t 0:=by rw[b9,e9 b];rfl
 rw[y]at A;have ad:(0:Int)<=t:=a8;have ae:(t:Int)<n:=a8;generalize a.getD t 0=p at*;have af:IntKind.i64.wrap ((nb:Int)-p)=nb-p:=h7 _ a8;obtain⟨H,L⟩:=j0 z E;clear z C E B y A b R;go_in;go_wp2_with fail;refine y2 rfl [.is ?Ap,.is ?Aq,.is ?Ar,.is (Z F nb G),.is ?As,.is ?At,.is ?Au,.is ?Av,.is (Z d n n),.is ?Aw,.is ?Ax,.is (I M p),.is (I M ((nb:Int)-p)),.is (I M ((nb:Int)-p))] g6 ?Ay ?Aa ⟨?Ab,?Ac,?Ad,?Ae,?Af,?Ag,?Ah,?Ai,?Aj,?Ak,?Al,?Am,?An,?Ao,trivial⟩ ?Az
 case Aa=>intro x;simp only[m0,Act.put,uL,Nat.reduceAdd]<;>rfl
 case Ab|Ac|Ad|Ae|Af|Ag|Ah|Ai|Aj|Ak|Al|Am|An|Ao=>
  intro x N c;simp only[g0,o7,uV];repeat(intro P;try simp only[P])
  obtain⟨T,ag⟩:=(H.h c).c2;have ah:=c.cell L.O;go_wp2_with fail;refine e8 ?_ rfl (a9.refl _);rfl
 intro x N c;simp only[n9,g0,o7,uV];intro f g l m o q r s u v h i j k;simp only[f,g,l,m,o,q,r,s,u,v,h,i,j,k];clear f g l m o q r s u v h i j k;go_wp2;go_ret;exact⟨rfl,c⟩
def V0(nb:Nat)(a:o5)(t:Int):Int:=(nb:Int)-a.getD t.toNat 0
def eR(nb:Nat)(a:o5)(s:Sy):List B7×Int:=
 if s.code=5 then([⟨5,0,0,V0 nb a s.th⟩],0)
 else if a2L s.code=Bf then([⟨s.code,0,0,s.k⟩],0)
 else if max (V0 nb a s.th) (V0 nb a s.el)<=255 then([⟨s.code,V0 nb a s.th,V0 nb a s.el,s.k⟩],0)
 else([⟨s.code,0,1,s.k⟩,⟨5,0,0,V0 nb a s.th+1⟩,⟨5,0,0,V0 nb a s.el⟩],1)
structure LK(gk gp n base:Nat)(bk:List B7)(pl:o5)(far:Int)(v:Va)(W:Wd):Prop where
 k:e7 W gk 337 #[v,Z gp n n,I M far]
 r:W.ownsRow base 141 4 v (D bk) (pc bk)
 q:e7 W gp 3 (l8 M pl).toArray
theorem LK.h{d f n base:Nat}{b:List B7}{g:o5}{c:Int}{v:Va}{W W':Wd}(a:LK d f n base b g c v W)(e:a9 W W'):LK d f n base b g c v W':=⟨a.k.h e,eH a.r e,a.q.h e⟩
theorem LK.val{f h n base:Nat}{b:List B7}{k:o5}{e:Int}{v:Va}{W:Wd}(i:LK f h n base b k e v W):∃d c,v=Z d (D b) c:=by
 rcases i.r.2 with⟨a,j⟩|⟨g,cap,cur,a,_⟩
 exact⟨J,0,by rw[a,j]⟩;exact⟨_,_,a⟩
structure LS(gk gp n base:Nat)(bk:List B7)(pl:o5)(far:Int)(v:Va)(W W':Wd):Prop where
 ex:∃v',LK gk gp n base bk pl far v' W'/\(v'.ownBlock=v.ownBlock\/∀b,v'.ownBlock=So b->W.heap.size<=b)
 pu:PU gk v.ownBlock W W'
theorem PU.f{g:Nat}{d:Option Nat}{W W':Wd}(a:a9 W W'):PU g d W W':=⟨a.os,a.tape,a.output,a.size,λb c _ _=>a.block c⟩
theorem PU.trans{g:Nat}{e:Option Nat}{a b c:Wd}(d:PU g e a b)(k:PU g e b c):PU g e a c:=
 ⟨k.os.trans d.os,k.tape.trans d.tape,k.output.trans d.output,b6 d.size k.size,λx i f h=>(k.keep x (Nat.lt_of_lt_of_le i d.size) f h).trans (d.keep x i f h)⟩
theorem PU.of_set(g i:Nat)(c:Option Nat)(W:Wd)(u:Va):PU g c W (W.setCell ⟨g,i,J⟩ u):=⟨rfl,rfl,rfl,i3,λb _ a _=>Below.heap_setCell W ⟨g,i,J⟩ u b a⟩
theorem IM(c h n base:Nat)(f:List B7)(r:o5)(i:Int)(v:Va)(d W:Wd)(xs:List B7)(g m:Nat)(p:D xs=m)(A:m<=3)(k:D f<=500000)(B:h≠c)
 (L:LK c h n base f r i v W) (o:e7 W g 141 (pc xs).toArray) (j:PU c v.ownBlock d W) (E:∀b,v.ownBlock=So b->b<d.heap.size) (G:d<=g) (F:c<d) (z:base<=d):
 Ca prog 396 #[K c,Z g m m] W λe s=>(∃u,e=X u)/\LS c h n base (f++xs.reverse) r i v d s:=by
 apply(callsIn_wide.1 (a3x c _ i f v base g m m xs p A k W (b6 z j.size) L.k L.r (i5.f o rfl) (λa e=>by cases e;exact⟨o.lt,by show g≠c;omega,λe=>by have:=E g e;omega⟩))).mono
 rintro e s⟨t,v',w,x,l,y⟩;have C:=(l.keep h L.q.lt B (E1 L.r L.q e6)).trans L.q;refine⟨t,⟨v',⟨w,?_,C⟩,y.imp id (λq b k=>b6 j.size (q b k))⟩,j.trans l⟩;rw[g1,List.length_reverse,p];exact x
theorem a6v(g F n base:Nat)(d:List B7)(f:o5)(m:Int)(v:Va)(W:Wd)(s:Sy)(a:Int)(cp:0<=a)(bs:s.ok)(ae:N9 s a n)(ce:D f=n)(ct:n<=131072)(cq:D d<=400000)(bq:∀x∈f,0<=x/\x<=D d)
 (cr:0<=m/\m<=1000000) (av:F≠g) (bb:base<=W) (L:LK g F n base d f m v W):
 Ca prog 318 #[K g,s.val] W λe cg=>(∃u,e=X u)/\LS g F n base (d++(eR (D d) f s).1.reverse) f (m+(eR (D d) f s).2) v W cg:=by
 have bd:∀b,v.ownBlock=So b->b<W.heap.size:=λb e=>(L.r.lt b e).2
 have bc:=L.k.lt;obtain⟨ag,ah,rfl⟩:=L.val;have al:∀t:Int,0<=t->t<n->0<=V0 (D d) f t/\V0 (D d) f t<=400000:=λt bl cc=>by have bu:t.toNat<D f:=a8;have:=bq _ (g3 bu);unfold V0;rw[b9,e9 bu];simp only[Option.getD_some];omega
 have aj:=a6 (λ(t:Int)(bl:0<=t)(cc:t<n)(W':Wd)(e:a9 W W')=>by have c:=a5Y g F n (D d) ah ag m f ce t.toNat a8 a8 a8 bq W' (L.h e).k (L.h e).q;rw[Int.toNat_of_nonneg bl]at c;exact c)
 have az:=a6 L;have bp:=iK ae;have ab:=a6 (λW'=>K9 s.code W');rw[bp]at ab;obtain⟨R,bh⟩:∃R,eR (D d) f s=R:=⟨_,rfl⟩;rw[bh];have ba:=a6 bh;have cs:=bs.2.1;obtain⟨co,k,th,el⟩:=s;unfold Sy.val Sy.cells;dsimp only at*;have aw:=(a9.refl W).alloc (U #[I U1 co,I V k,I M th,I M el] 417);have bf:=e7.new W 417 #[I U1 co,I V k,I M th,I M el];clear L bs bh bp;by_cases Q:co=5
 ·subst Q;obtain⟨ax,ay⟩:0<=th/\th<n:=by
   rcases ae with⟨c,_,_,_⟩|⟨c,_,_⟩|⟨c,_,_⟩|⟨c,_,_,r⟩|⟨c,_,_⟩
   cases c;cases c;cases c;dsimp only at r;omega;rcases c with c|c|c|c<;>cases c
  have S:R=([⟨5,0,0,V0 (D d) f th⟩],0):=by rw[<-ba.O];rfl
  obtain⟨y,ad⟩:=al th ax ay;have ak:=a6 (aj th ax ay);rw[show(D d:Int)-f.getD th.toNat 0=V0 (D d) f th from rfl]at ak;clear al aj ab ae;generalize V0 (D d) f th=ac at*;have aa:IntKind.u32.wrap ac=ac:=IntWalk.u32_in _ a8;subst S;go_in;go_wp2_with fail;refine l4 (ak _ aw) λaa z=>?_;have o:=aw.trans z;go_wp2_with fail;refine(IM g F n base d f m (Z ag (D d) ah) W _ ([⟨5,0,0,ac⟩]) (aa).heap.size 1 rfl a8 a8 av (az.h ((o).alloc _)) (e7.new aa _ _) (PU.f ((o).alloc _)) bd (o).size bc bb).mono ?_;rintro e ai⟨⟨bi,rfl⟩,r⟩;go_wp2;go_end0;exact⟨⟨_,rfl⟩,by rw[Int.add_zero];exact r⟩
 have ck:(co==5)=Bf:=by simpa using Q
 rcases w:a2L co with _|_
 ·obtain⟨q,br,cu⟩:∃q:Int,(if co=32 then 1 else if co=84 then 3 else if co=6 then 5 else 4)=q/\(q !=4)=Bt:=by
   rcases ae with⟨c,_,_,_⟩|⟨c,_,_⟩|⟨c,_,_⟩|⟨c,_,_,r⟩|⟨c,_,_⟩
   exact⟨1,by rw[if_pos c],rfl⟩;dsimp only at c;exact⟨3,by rw[if_neg a8,if_pos c],rfl⟩;dsimp only at c;exact⟨5,by rw[if_neg a8,if_neg a8,if_pos c],rfl⟩;exact absurd c Q;dsimp only at c;rcases c with c|c|c|c<;>rw[c]at w<;>cases w
  rw[br]at ab;have S:R=([⟨co,0,0,k⟩],0):=by rw[<-ba.O];unfold eR;rw[if_neg Q,if_pos w]
  clear al aj ae br w Q;subst S;go_in;go_wp2_with fail;refine l4 (ab _) λaa z=>?_;have o:=aw.trans z;have A:=bf.h z;obtain⟨G,H,N,P⟩:=(A).c4;go_wp2_with fail;clear G H N P;refine(IM g F n base d f m (Z ag (D d) ah) W _ ([⟨co,0,0,k⟩]) (aa).heap.size 1 rfl a8 a8 av (az.h ((o).alloc _)) (e7.new aa _ _) (PU.f ((o).alloc _)) bd (o).size bc bb).mono ?_;rintro e ai⟨⟨bi,rfl⟩,r⟩;go_wp2;go_end0;exact⟨⟨_,rfl⟩,by rw[Int.add_zero];exact r⟩
 obtain⟨bo,ax,ay,bv,bw⟩:(if co=32 then(1:Int)else if co=84 then 3 else if co=6 then 5 else 4)=4/\0<=th/\th<n/\0<=el/\el<n:=by
  rcases ae with⟨c,_,_,_⟩|⟨c,_,_⟩|⟨c,_,_⟩|⟨c,_,_,r⟩|⟨c,cd,r⟩
  dsimp only at c;rw[c]at w;cases w;dsimp only at c;rw[c]at w;cases w;dsimp only at c;rw[c]at w;cases w;exact absurd c Q;dsimp only at c cd r;exact⟨by rw[if_neg a8,if_neg a8,if_neg a8],a8,a8,a8,a8⟩
 rw[bo]at ab;obtain⟨y,ad⟩:=al th ax ay;obtain⟨cj,b1⟩:=al el bv bw;obtain⟨ak,be⟩:=j0 (aj th ax ay) (aj el bv bw);rw[show(D d:Int)-f.getD th.toNat 0=V0 (D d) f th from rfl]at ak;rw[show(D d:Int)-f.getD el.toNat 0=V0 (D d) f el from rfl]at be;have S:R=if max (V0 (D d) f th) (V0 (D d) f el)<=255 then([⟨co,V0 (D d) f th,V0 (D d) f el,k⟩],0)else([⟨co,0,1,k⟩,⟨5,0,0,V0 (D d) f th+1⟩,⟨5,0,0,V0 (D d) f el⟩],1):=by rw[<-ba.O];unfold eR;rw[if_neg Q,if_neg (by rw[w];decide)]
 clear al aj ae bo w Q ba;generalize V0 (D d) f th=i at*;generalize V0 (D d) f el=j at*;by_cases bx:max i j<=255
 ·rw[if_pos bx]at S;have cw:i<=255:=a8;have cx:j<=255:=a8;have db:IntKind.u8.wrap i=i:=IntWalk.u8_in _ a8;have dc:IntKind.u8.wrap j=j:=IntWalk.u8_in _ a8;subst S;go_in;go_wp2_with fail;refine l4 (ab _) λaa z=>?_;have o:=aw.trans z;have A:=bf.h z;obtain⟨G,H,N,P⟩:=(A).c4;go_wp2_with fail;clear G H N P;refine y2 rfl [.is ?Aw,.is ?Ax,.is (I M th),.is (I M i),.is ?Ay,.is ?Az,.is (I M el),.is (I M j),.is (I M i),.is (I M j)] g6 ?Ba ?Aa ⟨?Ab,?Ac,?Ad,?Ae,?Af,?Ag,?Ah,?Ai,?Aj,?Ak,trivial⟩ ?Bb
  case Aa=>intro x;simp only[m0,Act.put,uL,Nat.reduceAdd]<;>rfl
  case Ab|Ac|Ad|Af|Ag|Ah|Aj|Ak=>
   intro x h l;simp only[g0,o7,uV];repeat(intro ac;try simp only[ac])
   obtain⟨cb,ci⟩:=(A.h l).d2 2 3;go_wp2_with fail;refine e8 ?_ rfl (a9.refl _);rfl
  case Ae=>intro x h l;simp only[g0,o7,uV];intro y B;simp only[y,B];go_wp2_with(refine l4 (ak _ (o.trans l)) λai af=>?_);refine e8 ?_ rfl (af);rfl
  case Ai=>intro x h l;simp only[g0,o7,uV];intro C E;simp only[C,E];go_wp2_with(refine l4 (be _ (o.trans l)) λai af=>?_);refine e8 ?_ rfl (af);rfl
  intro x h l;simp only[n9,g0,o7,uV];intro y ad B an C ao E ap aq ar;simp only[y,ad,B,an,C,ao,E,ap,aq,ar];clear y ad B an C ao E ap aq ar;have T:=o.trans l;have bg:=A.h l;have ch:Dc (max i j<=255)=Bt:=by simp;omega
  obtain⟨G,H,N,P⟩:=(bg).c4;go_wp2_with fail;clear G H N P;refine(IM g F n base d f m (Z ag (D d) ah) W _ ([⟨co,i,j,k⟩]) (h).heap.size 1 rfl a8 a8 av (az.h ((T).alloc _)) (e7.new h _ _) (PU.f ((T).alloc _)) bd (T).size bc bb).mono ?_;rintro e ai⟨⟨bi,rfl⟩,r⟩;go_wp2_with fail;refine Bp (Rz rfl _ _ _) rfl ?_;exact⟨⟨_,rfl⟩,by rw[Int.add_zero];exact r⟩
 rw[if_neg bx]at S;have cy:IntKind.u32.wrap i=i:=IntWalk.u32_in _ a8;have cz:IntKind.u32.wrap j=j:=IntWalk.u32_in _ a8;have da:IntKind.u32.wrap (i+1)=i+1:=IntWalk.u32_in _ a8;subst S;go_in;go_wp2_with fail;refine l4 (ab _) λaa z=>?_;have o:=aw.trans z;have A:=bf.h z;obtain⟨G,H,N,P⟩:=(A).c4;go_wp2_with fail;clear G H N P;refine y2 rfl [.is ?Bc,.is ?Bd,.is (I M th),.is (I M i),.is ?Be,.is ?Bf,.is (I M el),.is (I M j),.is (I M i),.is (I M j)] g6 ?Bg ?Al ⟨?Am,?An,?Ao,?Ap,?Aq,?Ar,?As,?At,?Au,?Av,trivial⟩ ?Bh
 case Al=>intro x;simp only[m0,Act.put,uL,Nat.reduceAdd]<;>rfl
 case Am|An|Ao|Aq|Ar|As|Au|Av=>
  intro x h l;simp only[g0,o7,uV];repeat(intro ac;try simp only[ac])
  obtain⟨cb,ci⟩:=(A.h l).d2 2 3;go_wp2_with fail;refine e8 ?_ rfl (a9.refl _);rfl
 case Ap=>intro x h l;simp only[g0,o7,uV];intro y B;simp only[y,B];go_wp2_with(refine l4 (ak _ (o.trans l)) λai af=>?_);refine e8 ?_ rfl (af);rfl
 case At=>intro x h l;simp only[g0,o7,uV];intro C E;simp only[C,E];go_wp2_with(refine l4 (be _ (o.trans l)) λai af=>?_);refine e8 ?_ rfl (af);rfl
 intro x h l;simp only[n9,g0,o7,uV];intro y ad B an C ao E ap aq ar;simp only[y,ad,B,an,C,ao,E,ap,aq,ar];clear y ad B an C ao E ap aq ar;have T:=o.trans l;have bg:=A.h l;have ch:Dc (max i j<=255)=Bf:=by simp;omega
 have am:=az.h T;have au:=am.k;have cn:=au.cell 2;have cm:=au.frozen 2;have ca:=bg.far (p:=⟨g,2,J⟩) (by show W≠g;omega) (I M (m+1));have bj:LK g F n base d f (m+1) (Z ag (D d) ah) (h.setCell ⟨g,2,J⟩ (I M (m+1))):=
  ⟨au.f 2 _,am.r.kept (c8 h g 2 _) (.inr (E1 am.r au e6)),am.q.far av _⟩
 have bz:=a6 bj;have cv:W<=(h.setCell ⟨g,2,J⟩ (I M (m+1))).heap.size:=by have:=T.size;simpa using this
 clear am au bj;obtain⟨G,H,N,P⟩:=(ca).c4;go_wp2_with fail;clear G H N P;have cf:PU g (Z ag (D d) ah).ownBlock W (h.setCell ⟨g,2,J⟩ (I M (m+1))):=(PU.f T).trans (PU.of_set g 2 _ h _);have bt:(h.setCell ⟨g,2,J⟩ (I M (m+1))).heap.size=h.heap.size:=i3;generalize h.setCell ⟨g,2,J⟩ (I M (m+1))=bk at*;have bn:e7 (bk.alloc (U #[I U1 co,I U8 0,I U8 1,I V k,I U1 5,I U8 0,I U8 0,I V (i+1),I U1 5,I U8 0,I U8 0,I V j] 141)) h 141 (pc [⟨co,0,1,k⟩,⟨5,0,0,i+1⟩,⟨5,0,0,j⟩]).toArray:=by rw[<-bt];exact e7.new _ _ _
 have bm:=(a9.refl bk).alloc (U #[I U1 co,I U8 0,I U8 1,I V k,I U1 5,I U8 0,I U8 0,I V (i+1),I U1 5,I U8 0,I U8 0,I V j] 141);apply(IM g F n base d f (m+1) (Z ag (D d) ah) W _ [⟨co,0,1,k⟩,⟨5,0,0,i+1⟩,⟨5,0,0,j⟩] h 3 rfl a8 a8 av (bz.h bm) bn (cf.trans (PU.f bm)) bd T.size bc bb).mono;clear bt bn;rintro e ai⟨⟨bi,rfl⟩,r⟩;go_wp2;go_end0;exact⟨⟨_,rfl⟩,r⟩
end
section
theorem c7.of{α:Type}{w:Wd}{base:Nat}{e:Ti}{E:s7 α}{v:Va}{xs:List α}(b:w.ownsRow base e E.k v (D xs) (E.row xs)):c7 w base e E v xs:=by
 have c:=b;rcases b.2 with⟨a,d⟩|⟨g,cap,cur,a,_⟩
 exact⟨J,0,by rw[a,d],c⟩;exact⟨_,cap,a,c⟩
theorem c7.to{α:Type}{w:Wd}{base:Nat}{e:Ti}{E:s7 α}{v:Va}{xs:List α}(h:c7 w base e E v xs):w.ownsRow base e E.k v (D xs) (E.row xs):=let⟨_,_,_,k⟩:=h;k
theorem cK{α:Type}{p:Fence}{n:Nat}{P:Pg}{w:Wd}{A:Array Oper}{rest:List Oper}{o:Oper}{a:Act}{Q:Exit->Act->Wd->Prop}(L:o.guard=J)(s x:Operand)(t e:Ti)
 (T:o.op= .call {callee:= .builtin .append,args:= #[s,x],argTypes:= #[t,t]}) {z:Va} {b:Nat} {E:s7 α} (f:kZ P t e z E.k b)
 (base:Nat) (v:Va) (xs:List α) (ab:a.eval s=v) (aa:c7 w base e E v xs)
 (g m r:Nat) (ys:List α) (ad:a.eval x=Z g m r) (S:D ys=m) (F:i5 w g (E.row ys)) (ac:D xs+m<=1000000) (H:base<=w)
 (C:∀v' c,c7 c base e E v' (xs++ys)->w.grownBy c v.ownBlock->c7 c base e E v xs->(∀h zs,D zs=D (xs++ys)->c7 w base e E h zs->c7 c base e E h zs\/c7 c base e E h (xs++ys))->(v'.ownBlock=v.ownBlock\/∀b,v'.ownBlock=So b->w.heap.size<=b)->Wl p n P A Q rest (a.put o.dst v') c):
 Wl p n P A Q (o::rest) a w:=by
 obtain⟨i,hi,d⟩:=Option.map_eq_some_iff.1 f.i;simp only[Prod.mk.injEq]at d;obtain⟨d,R,G⟩:=d;subst S;have l:D (xs++ys)=D xs+D ys:=g1;refine O6 w L s x t T base e i z E.k b f.u hi d R G f.zs f.k0 v (D xs) (E.row xs) ab aa.to ⟨g,0,J⟩ (D ys) r (E.row ys) ad (E.row_length ys) (λj u N=>F.add N) (E.row_oneCell ys) (by unfold maxLen;omega) (b6 (Nat.mul_le_mul ac f.b0) e6) H λv' c B ae af ag ah=> ?_
 rw[<-E.row_append,<-l]at B;refine C v' c (.of B) ae (.of af) (λh zs d k=> ?_) ah;have y:=k.to;rw[d,l]at y;rcases ag h _ y with q|q
 exact .inl (.of (by rw[d,l];exact q));exact .inr (.of (by rw[l,E.row_append];exact q))
theorem a2F{α:Type}{f:Fence}{n:Nat}{P:Pg}{w:Wd}{i:Array Oper}{rest:List Oper}{o:Oper}{a:Act}{Q:Exit->Act->Wd->Prop}(r:o.guard=J)(s x:Operand)(t e:Ti)
  (y:o.op= .call {callee:= .builtin .append,args:= #[s,x],argTypes:= #[t,t]}) {z:Va} {b:Nat} {E:s7 α} (j:kZ P t e z E.k b)
  (base:Nat) (v:Va) (xs:List α) (B:a.eval s=v) (A:c7 w base e E v xs)
  (g m h:Nat) (ys:List α) (F:a.eval x=Z g m h) (u:D ys=m) (p:i5 w g (E.row ys)) (C:D xs+m<=1000000) (q:base<=w)
  (l:∀v' c,c7 c base e E v' (xs++ys)->w.grownBy c v.ownBlock->c7 c base e E v xs->(∀d,c7 w base e E d (xs++ys)->c7 c base e E d (xs++ys))->(v'.ownBlock=v.ownBlock\/∀b,v'.ownBlock=So b->w.heap.size<=b)->Wl f n P i Q rest (a.put o.dst v') c):
  Wl f n P i Q (o::rest) a w:=
 cK r s x t e y j base v xs B A g m h ys F u p C q λv' c G H L N R=>l v' c G H L (λd k=>(N d _ rfl k).elim id id) R
structure GA{α:Type}(e:Ti)(E:s7 α)(ob:Option Nat)(base:Nat)(v:Va)(xs ys:List α)(W W':Wd):Prop where
 g:W.grownBy W' ob
 old:c7 W base e E v xs->c7 W' base e E v xs
 new:∀v',c7 W base e E v' (xs++ys)->c7 W' base e E v' (xs++ys)
section
variable {α:Type} {e:Ti} {E:s7 α} {ob:Option Nat} {base:Nat} {v:Va} {xs ys:List α} {W W':Wd}
theorem GA.h(b:W.grownBy W' J):GA e E ob base v xs ys W W':=
 have k:∀a zs,c7 W base e E a zs->c7 W' base e E a zs:=λa zs q=>q.kept b (by cases a.ownBlock;exact .inl rfl;exact .inr ZH)
 ⟨y7 b ob,k _ _,λ_=>k _ _⟩
theorem GA.f(h:a9 W W'):GA e E ob base v xs ys W W':= .h (j4 h J)
instance (e:Ti)(E:s7 α)(ob:Option Nat)(base:Nat)(v:Va)(xs ys:List α):L6 (GA e E ob base v xs ys) where
 refl W:= .h ⟨rfl,rfl,rfl,a7 _,λ_ _ _=>rfl⟩
 trans a b c h k:=⟨h.g.trans k.g,λq=>k.old (h.old q),λv' q=>k.new v' (h.new v' q)⟩
 drew W:= .h (E4 W)
def q8(cs:Array Va):VR (GA e E ob base v xs ys):=
 ⟨λu c=>∃a,u=Z (So ⟨a,0,J⟩) 1 1/\e7 c a e cs/\ob≠So a,λ_ _ _⟨a,d,f,b⟩ e=>⟨a,d,f.grown e.g (λq=>b q.symm),b⟩⟩
def q7(z:Nat):VR (GA e E ob base v xs ys):=
 ⟨λu aa=>c7 aa base e E u (xs++ys)/\(u.ownBlock=ob\/∀b,u.ownBlock=So b->z<=b),λ_ _ _ h e=>⟨e.new _ h.1,h.2⟩⟩
end
end
def a3H(a:g4)(σ:US)(l:Nat×g4):US:=
 if(a2N l.2).2=Bt then{σ with sec:=(a2N l.2).1,inn:=Bt}
 else if(x1 l.2).2.2=Bt/\σ.inn=Bt then{σ with all:=σ.all++[⟨a,l.1,σ.sec,(x1 l.2).1,(x1 l.2).2.1⟩]}
 else{σ with notes:=σ.notes++[⟨a,l.1,130,l.2.extract 0 (min l.2.size 60)⟩]}
theorem KR{w:Wd}{i l y base:Nat}{f:g4}{av aw d u:Va}{sec s k v:g4}{all:List m8}{notes:List i6}(B:UI w i l y base f av aw ⟨sec,Bt,all,notes⟩ d u)(bj:D all+1<=1000000)(n:Nat)(t:g4)
 (bf:w6 (∀W,Ca prog 143 #[Y t] W λe j=>e=X (Tp #[Y s,O Bf])/\a9 W j)) (bd:w6 (∀W,Ca prog 144 #[Y t] W λe j=>e=X (Tp #[Y k,Y v,O Bt])/\a9 W j)):
 Ci .wide 1 prog 86 #[K i,Ag #[I M n,Y t]] w λbh j=>bh=X (Tp #[])/\∃va',UI j i l y base f av aw ⟨sec,Bt,all++[⟨f,n,sec,k,v⟩],notes⟩ va' u/\MV (uO i l d u) w (uO i l va' u) j:=by
 have H:=a6 B;have bk:d.ownBlock≠So w.heap.size:=λe=>by have:=(B.a.lt e).2;omega
 clear B;refine Co func86 rfl trivial ?_ rfl;simp only[ntmps86,uE,Nat.reduceAdd,Nat.reduceSub];gi_wp2_with(first
  |(refine⟨trivial,?_⟩
    gi_at_call 143
    apply((Cw (n:=0)).2 (bf _)).mono
    rintro e bz⟨rfl,r⟩
    have bw:=((e7.new w 213 #[I M n,Y t]).h r).cell 1)
  |(refine⟨trivial,?_⟩
    gi_at_call 144
    apply((Cw (n:=0)).2 (bd _)).mono
    rintro e N⟨rfl,E⟩
    have ay:=(((a9.refl w).alloc (U #[I M n,Y t] 213)).trans r).trans E
    have P:=((e7.new w 213 #[I M n,Y t]).h r).h E
    have C:=H.h ay
    have z:=C.r.cell 2
    obtain⟨g,be,bg⟩:=r6 C P ay
    clear r E P C))
 clear z;have T:∀a,GA 89 z8 d.ownBlock base d all [⟨f,n,sec,k,v⟩] N a->e7 a i 163 #[Y f,Y sec,O Bt,d,Fc (.func 83) #[] #[K l,K y]]:=λa c=>g.r.grown c.g (λe=>by have:=(g.a.lt e.symm).1;have:=g.lr;omega)
 have S:∀a,GA 89 z8 d.ownBlock base d all [⟨f,n,sec,k,v⟩] N a->e7 a w 213 #[I M n,Y t]:=λa c=>be.grown c.g (λe=>bk e.symm)
 obtain⟨h,Q⟩:=j0 T S;clear T S;refine cB (R:=(GA 89 z8 d.ownBlock base d all [⟨f,n,sec,k,v⟩])) ?_;iterate 18 (apply D7;focus (intro x a c;simp only[g0,g5,uV];(repeat intro A;try simp only[A]);have z:=(h a c).cell 3;have bo:=(h a c).cell 0;have bp:=(Q a c).cell 0;have bq:=(h a c).cell 1;gi_wp2_with fail;exact dn rfl rfl (L6.refl _)))
 refine r7 ((q8 #[Y f,I M n,Y sec,Y k,Y v])) ?_ ?_;·intro x a c;simp only[g0,g5,uV,q8,q7];intro m;simp only[m];gi_wp2_with fail;refine e8 ?_ rfl (GA.f ((a9.refl a).alloc _));exact⟨a,rfl,e7.new _ _ _,λe=>by have:=((c.old g.a).lt e).2;omega⟩
 refine r7 ((q7 N)) ?_ ?_;·intro x a c;simp only[g0,g5,uV,q8,q7];rintro p⟨ax,o,ba,bl⟩;simp only[p,o];gi_wp2_with(gi_at_builtin;refine a2F rfl _ _ 58 89 rfl a1W base d all rfl (c.old g.a) ax 1 1 [⟨f,n,sec,k,v⟩] rfl rfl (i5.f ba rfl) bj (b6 g.hb c.g.size) ?_;intro bx ca G L bc bm bn);refine e8 ?_ rfl (⟨L,λ_=>bc,bm⟩);exact⟨G,bn.imp id (λq b bi=>by have:=q b bi;have:=c.g.size;omega)⟩
 iterate 2 (apply D7;focus (intro x a c;simp only[g0,g5,uV];(repeat intro A;try simp only[A]);have z:=(h a c).cell 3;have bo:=(h a c).cell 0;have bp:=(Q a c).cell 0;have bq:=(h a c).cell 1;gi_wp2_with fail;exact dn rfl rfl (L6.refl _)))
 intro x a c;simp only[n9,g0,g5,uV,q8,q7];rintro aa ab aj am p an ao ap aq ar ac ad ae af ag ah ai m⟨ax,o,ba,bl⟩⟨F,bb⟩ ak al;simp only[aa,ab,aj,am,p,an,ao,ap,aq,ar,ac,ad,ae,af,ag,ah,ai,m,o,ak,al];clear aa ab aj am p an ao ap aq ar ac ad ae af ag ah ai m o ak al;obtain⟨br,bv,bs,au⟩:=F.f;rw[au]at F bb;have az:=h a c;have bt:=az.cell 3;have bu:=az.frozen 3;simp only[au];gi_wp2_with fail;obtain⟨G,L,bc⟩:=g.mvA c.g F bb;go_end0;exact⟨rfl,_,G,(MV.f bg.O).trans L⟩
theorem QY{w:Wd}{m x aa base:Nat}{A:g4}{ab ac p B:Va}{σ:US}(o:UI w m x aa base A ab ac σ p B)(ae:D σ.notes+1<=1000000)(al:D σ.all+1<=1000000)(n:Nat)(t:g4)(af:t.size<=1000000):
 Ca prog 86 #[K m,Ag #[I M n,Y t]] w λak ah=>ak=X (Tp #[])/\∃va' ag,UI ah m x aa base A ab ac (a3H A σ (n,t)) va' ag/\MV (uO m x p B) w (uO m x va' ag) ah:=by
 obtain⟨u,r⟩:=j0 (yK t af) (oF t af);obtain⟨R,d⟩:∃R,R=a3H A σ (n,t):=⟨_,rfl⟩;rw[<-d];unfold a3H at d;dsimp only at d;generalize a2N t=S at*;generalize x1 t=ai at*;obtain⟨s,b⟩:=S;obtain⟨k,v,am⟩:=ai;dsimp only at*;obtain⟨sec,inn,all,notes⟩:=σ;dsimp only at*;have H:=a6 o;cases b
 ·cases am
  ·have h:=a6 (d.trans ((if_neg i3).trans (if_neg i3)));clear d o;go_in;go_wp2_with fail;refine l4 (u _) λW c=>?_;have an:=((e7.new w 213 #[I M n,Y t]).h c).cell 1;go_wp2_with fail;refine l4 (r _) λq i=>?_;have f:=(((a9.refl w).alloc (U #[I M n,Y t] 213)).trans c).trans i;have l:=((e7.new w 213 #[I M n,Y t]).h c).h i;obtain⟨Q,T⟩:=l.d2 1 0;have a:=H.h f;obtain⟨y,z,E,F,G⟩:=a.r.d5 2 4 1 0 3;have C:=a6 a;clear c i l a;go_wp2_with fail;have L:0<=min (t.size:Int) 60:=a8;have N:min (t.size:Int) 60<=t.size:=a8;have P:(min (t.size:Int) 60).toNat=min t.size 60:=a8;go_still_tail 13,g6
   change Wp _ _ _ _ _ q.drew;clear L N P Q T y z E F G;go_wp2_with fail;apply(TT (C.h (a9.refl q).drew) ae n 130 _).mono;rintro e ao⟨rfl,v',g,j⟩;go_wp2_with fail;refine Bp (Rz rfl _ _ _) rfl ⟨rfl,p,v',?_,(MV.f f.drew).trans j⟩;rw[h.O];exact g
  cases inn
  ·have h:=a6 (d.trans ((if_neg i3).trans (if_neg i3)));clear d o;go_in;go_wp2_with fail;refine l4 (u _) λW c=>?_;have an:=((e7.new w 213 #[I M n,Y t]).h c).cell 1;go_wp2_with fail;refine l4 (r _) λq i=>?_;have f:=(((a9.refl w).alloc (U #[I M n,Y t] 213)).trans c).trans i;have l:=((e7.new w 213 #[I M n,Y t]).h c).h i;obtain⟨Q,T⟩:=l.d2 1 0;have a:=H.h f;obtain⟨y,z,E,F,G⟩:=a.r.d5 2 4 1 0 3;have C:=a6 a;clear c i l a;go_wp2_with fail;have L:0<=min (t.size:Int) 60:=a8;have N:min (t.size:Int) 60<=t.size:=a8;have P:(min (t.size:Int) 60).toNat=min t.size 60:=a8;go_still_tail 13,g6
   change Wp _ _ _ _ _ q.drew;clear L N P Q T y z E F G;go_wp2_with fail;apply(TT (C.h (a9.refl q).drew) ae n 130 _).mono;rintro e ao⟨rfl,v',g,j⟩;go_wp2_with fail;refine Bp (Rz rfl _ _ _) rfl ⟨rfl,p,v',?_,(MV.f f.drew).trans j⟩;rw[h.O];exact g
  have h:=a6 (d.trans ((if_neg i3).trans (if_pos ⟨rfl,rfl⟩)));clear d o;rw[h.O];apply(callsIn_wide.1 (KR H al n t u r)).mono;rintro e W⟨rfl,va',g,j⟩;exact⟨rfl,va',B,g,j⟩
 have h:=a6 (d.trans (if_pos rfl));clear d r o;go_in;go_wp2_with fail;refine l4 (u _) λW c=>?_;have f:=((a9.refl w).alloc (U #[I M n,Y t] 213)).trans c;have a:=H.h f;obtain⟨g,j⟩:=a.mvS s;have y:=a.r.cell 1;have ap:=a.r.frozen 1;have ad:=a.r.f 1 (Y s);have aq:=ad.frozen 2;have z:=ad.cell 2;have aj:=a6 g;clear a g c;go_wp2_with fail;refine Bp (Rz rfl _ _ _) rfl ?_;exact⟨rfl,p,B,by rw[h.O];exact aj.O,(MV.f f).trans j⟩
theorem NS(a:g4)(σ:US)(l:Nat×g4):D (a3H a σ l).notes<=D σ.notes+1/\D (a3H a σ l).all<=D σ.all+1:=by unfold a3H;split;exact⟨Nat.le_succ _,Nat.le_succ _⟩;split;simp;simp
theorem kM(a:g4):∀(b:List (Nat×g4))(σ:US),D (b.foldl (a3H a) σ).notes<=D σ.notes+D b/\D (b.foldl (a3H a) σ).all<=D σ.all+D b
 |[],σ=>⟨a7 _,a7 _⟩
 |x::r,σ=>by have c:=NS a σ x;have d:=kM a r (a3H a σ x);simp only[List.foldl_cons,i4];omega
theorem a3D{w:Wd}{a i base:Nat}{c:g4}{p q g:Va}{b:List i6}(f:e7 w a 38 #[g])(v:e7 w i 24 #[Y c,p,q])(d:c7 w base 49 h9 g b)(u:base<=w)(y:D b+1<=1000000)(n e:Int)(t:g4):
 Ca prog 83 #[I M n,I M e,Y t,K a,K i] w λo h=>o=X (Tp #[])/\∃v',e7 h a 38 #[v']/\c7 h base 49 h9 v' (b++[⟨c,n,e,t⟩])/\MV (jI a g) w (jI a v') h:=by
 have E:=f.cell 0;have F:=v.cell 0;have m:=a6 f;have r:=d;have l:=a6 d;clear f d;go_in;go_wp2_with(at_builtin;refine h8 rfl (Tm 8) (Tm 15) 38 49 rfl P0 base _ b rfl (r.h ((a9.refl _).alloc _)) _ 1 1 [⟨c,n,e,t⟩] rfl rfl (cF i3 rfl) y (b6 u i3) ?_;intro Q R j N x s;obtain⟨k,z,A,B⟩:=xT e6 (m.h ((a9.refl _).alloc _)) (l.h ((a9.refl _).alloc _)) (MV.f ((a9.refl _).alloc _)) j x s;have H:=k.cell 0;have L:=k.frozen 0;obtain⟨C,P,G,rfl⟩:=j.f);go_end0;exact⟨rfl,_,z,A,B⟩
theorem QZ{w:Wd}{g h y base:Nat}{f:g4}{z A l p:Va}{σ:US}(C:UI w g h y base f z A σ l p)(v:p1)(m c:Nat)(d:List (Nat×g4))(ae:D d=m)(F:i5 w v (G1.row d))(E:∀a,v=So a->¬uO g h l p a.block)(an:m<=100000)(al:D σ.notes<=100000)(am:D σ.all<=100000)(L:∀x∈d,x.2.size<=1000000):
 Ca prog 85 #[Z v m c,Fc (.func 86) #[K g] #[]] w λad Q=>ad=X (Tp #[])/\∃va' j,UI Q g h y base f z A (d.foldl (a3H f) σ) va' j/\MV (uO g h l p) w (uO g h va' j) Q:=by
 subst ae;obtain⟨T,W,R,H⟩:=F6 F L E C;clear C F L E;go_wp2;go_loopw [8] (λi wr=>∃(k:Nat)(va' j:Va),k<=D d/\i=I M k/\UI wr g h y base f z A ((d.take k).foldl (a3H f) σ) va' j/\MV (uO g h l p) w (uO g h va' j) wr) (λi _=>D d-(intOf i).toNat);exact⟨0,l,p,c6 _,rfl,H.O,.refl _ _⟩;obtain⟨k,va',j,ak,rfl,s,B⟩:=hrel;by_cases u:k<D d
 ·have q:=B.inM T R.O;obtain⟨b,o,rfl,aj⟩:=q.rows e6 a8;have ab:=q.l u (r:=0) rfl;have ac:=q.l u (r:=1) rfl;have G:=kM f (d.take k) σ;rw[m4]at G;have N:(d.take (k+1)).foldl (a3H f) σ=a3H f ((d.take k).foldl (a3H f) σ) d[k]:=by rw[g2 u,List.foldl_append];rfl
  have P:=W _ (g3 u);generalize d[k]=x at*;obtain⟨n,t⟩:=x;generalize(d.take k).foldl (a3H f) σ=τ at*;simp only[G1,j8]at ab ac;obtain⟨S,aa⟩:=j0 (QY (s.h ((a9.refl wr).alloc (U #[I M n,Y t] 213))) a8 a8 n t P) N;clear N G P s q;go_wp2_with fail;apply S.mono;rintro e ao⟨rfl,ah,ai,af,ag⟩;go_wp2;go_roundw;exact⟨k+1,ah,ai,a8,o3,by rw[aa.O];exact af,(B.h ((a9.refl wr).alloc _)).trans ag⟩;simp[intOf];omega
 obtain rfl:k=D d:=a8;rw[List.take_of_length_le (a7 _)]at s;go_wp2;go_end0;exact⟨rfl,va',j,s,B⟩
theorem oL:∀(n:Nat)(s:g4),(T0 n s).size<=s.size
 |0,s=>a7 _
 |n+1,s=>by unfold T0;split;exact b6 (oL n _) (by simp only[ByteArray.size_extract];omega);exact a7 _
theorem oJ:∀(n:Nat)(s:g4),(S9 n s).size<=s.size
 |0,s=>a7 _
 |n+1,s=>by unfold S9;split;exact b6 (oJ n _) (by simp only[ByteArray.size_extract];omega);exact a7 _
theorem fO(s:g4):(H6 s).size<=s.size:=b6 (oJ _ _) (oL _ _)
def L7:List (Nat×g4)->Nat
 |[]=>0
 |x::r=>x.2.size+1+L7 r
theorem fP:∀(f k:Nat)(r:g4),L7 (mO k (y5 f r))<=r.size+1
 |0,_,_=>c6 _
 |f+1,k,r=>by
  unfold y5;split;exact c6 _;rename_i b;have ih:=fP f (k+1) (H2 r 10).2.1;show(H2 r 10).1.size+1+L7 _<=_;rcases eN r 10 with⟨_,e⟩|⟨j,c,_,e⟩
  rw[e]at ih⊢;have a:∀g,y5 g (⟨#[]⟩:g4)=[]:=λg=>by cases g<;>rfl
  dsimp only at ih⊢;rw[a];show r.size+1+0<=_;omega;rw[e]at ih⊢;simp only[ByteArray.size_extract]at ih⊢;omega
def vS(σ:KJ)(b:Nat):Prop:=σ.2.2.size<=b/\∀x∈σ.1,x.2.size<=b
theorem lW(n:Nat)(t:g4):∀x∈H7 n t,x.2.size<=t.size:=λx a=>by unfold H7 at a;split at a;cases a;rw[List.mem_singleton.1 a];exact fO t
theorem zA(σ:KJ)(x:Nat×g4)(b:Nat)(e:vS σ b):vS (C6 σ x) (b+(x.2.size+1)):=by
 have d:∀c∈σ.1,c.2.size<=b+(x.2.size+1):=λc a=>by have:=e.2 c a;omega
 have f:=e.1;unfold C6;split;exact⟨a8,d⟩;split;have:=eF x.2;refine⟨?_,d⟩;simp only[ByteArray.size_append];have:(⟨#[32]⟩:g4).size=1:=rfl;omega;refine⟨c6 _,λc a=> ?_⟩;rcases List.mem_append.1 a with a|a
 exact d c a;have:=lW _ _ c a;rw[ByteArray.size_append]at this;omega
theorem lV:∀(l:List (Nat×g4))(σ:KJ)(b:Nat),vS σ b->vS (l.foldl C6 σ) (b+L7 l)
 |[],σ,b,h=>h
 |x::r,σ,b,h=>by have:=lV r _ _ (zA σ x b h);simp only[List.foldl_cons,L7];rwa[<-Nat.add_assoc]
theorem gZ(s:g4):∀x∈T2 s,x.2.size<=s.size+1:=λx a=>by
 have b:=lV (o0 s) ([],0,⟨#[]⟩) 0 ⟨a7 _,aL⟩;have c:=fP s.size 1 s;change L7 (o0 s)<=_ at c;rcases List.mem_append.1 a with a|a
 have:=b.2 x a;omega;have d:=lW _ _ x a;have:=b.1;change(s3 (o0 s)).2.2.size<=_ at this;omega
theorem LI(σ:KJ)(x:Nat×g4):D (C6 σ x).1<=D σ.1+1:=by unfold C6;split;exact Nat.le_succ _;split;exact Nat.le_succ _;have:=kP (rZ σ x) (σ.2.2++x.2);simp;omega
theorem uI:∀(l:List (Nat×g4))(σ:KJ),D (l.foldl C6 σ).1<=D σ.1+D l
 |[],σ=>a7 _
 |x::r,σ=>by have a:=LI σ x;have:=uI r (C6 σ x);simp only[List.foldl_cons,i4];omega
theorem jN(s:g4):D (y9 s).1<=1001/\∀x∈(y9 s).1,x.2.size<=65537:=by unfold y9;split;exact⟨c6 _,aL⟩;split;exact⟨c6 _,aL⟩;refine⟨?_,λx b=> ?_⟩;have a:=uI (o0 s) ([],0,⟨#[]⟩);change(s3 (o0 s)).1.length<=0+_ at a;have c:=kP (s3 (o0 s)).2.1 (s3 (o0 s)).2.2;show(T2 s).length<=_;unfold T2;rw[g1];omega;have:=gZ s x b;omega
def v6(a:g4)(b:g4):List m8×List i6:=
 let p:=y9 b
 let σ:=p.1.foldl (a3H a) ⟨⟨#[]⟩,Bf,[],[]⟩
 if p.2=0 then(if 0<D σ.notes then([],σ.notes)else(σ.all,[]))else([],[⟨a,0,p.2,⟨#[]⟩⟩])
theorem KQ(d:g4)(l:Int)(f:p1)(m c:Nat)(xs:o5)(w:Wd)(am:D xs=m)(aj:i5 w f (l8 U8 xs)):
 Ca prog 49 #[Ag #[Y d,I M l,Z f m c]] w λe T=>∃S G,e=X (Tp #[S,G])/\c7 T w 89 z8 S (v6 d (Sn xs)).1/\c7 T w 49 h9 G (v6 d (Sn xs)).2/\a9 w T:=by
 have H:e7 ((w.alloc (U #[Y d,I M l,Z f m c] 24)).alloc (U #[Z J 0 0] 38)) w 24 #[Y d,I M l,Z f m c]:=(e7.new w _ _).alloc _;have ah:e7 ((w.alloc (U #[Y d,I M l,Z f m c] 24)).alloc (U #[Z J 0 0] 38)) (w+1) 38 #[Z J 0 0]:=e7.b i3;have N:a9 w ((w.alloc (U #[Y d,I M l,Z f m c] 24)).alloc (U #[Z J 0 0] 38)):=((a9.refl w).alloc _).alloc _;have aq:((w.alloc (U #[Y d,I M l,Z f m c] 24)).alloc (U #[Z J 0 0] 38)).heap.size=w.heap.size+2:=i3;have ae:=a6 (FF f m c xs _ am (aj.h N));have ap:=jN (Sn xs);obtain⟨R,g⟩:∃R,R=v6 d (Sn xs):=⟨_,rfl⟩;rw[<-g];unfold v6 at g;generalize y9 (Sn xs)=p at*;obtain⟨Q,pe⟩:=p;dsimp only at*;obtain⟨ab,ac,ag,E⟩:=F6 H ah N aq;have bb:=H.cell 2;have ad:=a6 ap;clear H ah N aq aj am ap;by_cases C:pe=0
 ·rw[if_pos C]at g;subst C;obtain⟨σ,P⟩:∃σ,σ=Q.foldl (a3H d) ⟨⟨#[]⟩,Bf,[],[]⟩:=⟨_,rfl⟩;rw[<-P]at g;obtain⟨j,ar⟩:=j0 g P;clear g P;go_in;go_wp2_with fail;apply ae.mono;rintro e y⟨v,rfl,t,q⟩;obtain⟨B,aw,rfl,_,_,ak⟩:=t.inM;have n:=ab.h q;have s:=ac.h q;have bc:=n.cell 0;have i:UI (y.alloc (U #[Y d,Y ⟨#[]⟩,O Bf,Z J 0 0,Fc (.func 83) #[] #[K (w+1:Nat),K w]] 163)) y (w+1) w (y+1) d (I M l) (Z f m c) ⟨⟨#[]⟩,Bf,[],[]⟩ (Z J 0 0) (Z J 0 0):=
   ⟨e7.new _ _ _,s.alloc _,n.alloc _,c7.nil _ _ _ _,c7.nil _ _ _ _,a8,by have:=s.lt;omega,by have:=n.lt;omega,i3⟩
  have aa:=a6 (QZ i B (D Q) aw Q rfl (ak.h ((a9.refl _).alloc _)) (λa ax=>by subst ax;have be:=(t.lt (k:=a.block) (by rfl)).2;have bf:=(t.lt (k:=a.block) (by rfl)).1;have:=E.O;rintro(A|A|A|A);omega;omega;cases A;cases A) (by have:=ad.1;omega) (c6 _) (c6 _) (λx ay=>by have:=ad.2 x ay;omega))
  rw[<-ar.O]at aa;have r:=a6 q;clear i n s ak t;go_wp2_with fail;apply aa.mono;rintro e W⟨rfl,S,G,i,L⟩;obtain⟨ba,bd,rfl,_⟩:=i.m.inM;have F:a9 w W:=L.b ((ag.trans r.O).alloc _) λb h=>by
   have:=E.O;have:=r.size;rcases h with rfl|rfl|h|h
   omega;omega;cases h;cases h
  have al:w<=y.heap.size+1:=by have:=E.O;have:=r.size;omega
  have az:=i.n.cell 0;have bg:=i.r.cell 3;have af:=a6 i;clear i;by_cases u:0<D σ.notes
  ·have ai:=decide_eq_true u;have o:=j.O;rw[if_pos u]at o;have z:=a6 o;clear o j u;go_wp2_with fail;go_quiet (fail)
   go_wp2;go_ret2;exact⟨_,_,rfl,by rw[z.O];exact c7.nil _ _ _ _,by rw[z.O];exact af.m.mono al,F.drewN _⟩
  have ai:=decide_eq_false u;have o:=j.O;rw[if_neg u]at o;have z:=a6 o;clear o j u;go_wp2;go_ret2;exact⟨_,_,rfl,by rw[z.O];exact af.a.mono al,by rw[z.O];exact c7.nil _ _ _ _,F⟩
 rw[if_neg C]at g;have ai:(pe !=0)=Bt:=by simp[C]
 have j:=a6 g;clear g C;go_in;go_wp2_with fail;apply ae.mono;rintro e y⟨v,rfl,t,q⟩;have n:=ab.h q;have s:=ac.h q;obtain⟨av,r⟩:=j0 (a3D (base:=y) s n (c7.nil _ _ _ _) (a7 _) i3 0 pe ⟨#[]⟩) q;clear n s t;go_wp2_with fail;apply av.mono;rintro e W⟨rfl,G,an,ao,L⟩;have az:=an.cell 0;have F:a9 w W:=L.b (ag.trans r.O) λb h=>by
  rcases h with rfl|h
  omega;cases h
 have au:=a6 ao;clear ao an;go_wp2_with fail;go_quiet (fail)
 go_wp2;go_ret2;exact⟨_,_,rfl,by rw[j.O];exact c7.nil _ _ _ _,by rw[j.O];exact au.mono (by have:=E.O;have:=r.size;omega),F.drewN _⟩
def rE(y:Nat):Bool:=Dc (y<33)||decide (126<y)||y==47
def iT:g4:=⟨#[46,99,111,110,102]⟩
def P9(s:g4):Bool:=if s.size<6 then Bf else if 60<s.size then Bf else if Lib.hasSuffix s.data.toList iT.data.toList=Bf then Bf else !(s.data.toList.any λb=>rE b.toNat)
theorem a1C(s:g4)(ai:s.size<=1000000)(W:Wd):Ca prog 82 #[Y s] W λe aj=>e=X (O (P9 s))/\a9 W aj:=by
 obtain⟨R,d⟩:∃R,R=P9 s:=⟨_,rfl⟩;rw[<-d];unfold P9 at d;by_cases m:s.size<6
 ·rw[if_pos m]at d;subst d;have aa:Dc ((s.size:Int)<6)=Bt:=by simp;omega
  clear m;go_wp2;go_ret;exact⟨rfl,a9.refl _⟩
 rw[if_neg m]at d;have aa:Dc ((s.size:Int)<6)=Bf:=by simp;omega
 by_cases n:60<s.size
 ·rw[if_pos n]at d;subst d;have ab:Dc ((60:Int)<s.size)=Bt:=by simp;omega
  clear m n;go_wp2;go_ret;exact⟨rfl,a9.refl _⟩
 rw[if_neg n]at d;have ab:Dc ((60:Int)<s.size)=Bf:=by simp;omega
 have p:=a6 (λW=>vO s iT ai W);have an:(⟨#[46,99,111,110,102]⟩:g4)=iT:=rfl;generalize iT=C at*;rcases j:Lib.hasSuffix s.data.toList C.data.toList with _|_
 ·rw[if_pos j]at d;rw[j]at p;subst d;clear j;go_in;go_wp2_with fail;apply(p _).mono;rintro e ak⟨rfl,rfl⟩;go_wp2;go_ret;exact⟨rfl,a9.refl _⟩
 rw[if_neg (by rw[j];decide)]at d;rw[j]at p;obtain⟨G,c,al,ah,F,z⟩:=yV s W;obtain⟨T,Q⟩:=j0 F z;have A:D (I9 s)=s.size:=by simp[I9]
 obtain⟨y,S,P⟩:=r6 A (show∀k(r:k<D s.data.toList),(s.data.toList.drop k).any (λb=>rE b.toNat)=(rE s.data.toList[k].toNat||(s.data.toList.drop (k+1)).any (λb=>rE b.toNat))from λk r=>by rw[List.drop_eq_getElem_cons r];rfl) (λk(r:k<D s.data.toList)(n:k<D (I9 s))=>show(I9 s)[k]=(s.data.toList[k].toNat:Int) by simp[I9]);obtain⟨w,f⟩:∃w,w=s.data.toList.any (λb=>rE b.toNat):=⟨_,rfl⟩;rw[<-f]at d;have q:=a6 d;have ao:D s.data.toList=s.size:=i3;clear d z F A j m n;generalize s.data.toList=L at*;generalize I9 s=B at*;go_in;go_wp2_with fail;apply(p _).mono;rintro e ak⟨rfl,rfl⟩;go_wp2_with fail;clear ah;go_loopw [21] (λi wr=>∃k:Nat,k<=s.size/\i=I M k/\w=(L.drop k).any (λb=>rE b.toNat)/\a9 W wr/\a9 al wr) (λi _=>s.size-(intOf i).toNat);exact⟨0,a8,rfl,f,T.O,a9.refl _⟩;clear f;obtain⟨k,r,rfl,f,o,H⟩:=hrel;by_cases E:k<s.size
 ·have ag:=(Q.h H).cell (k:=k) (u:=I U8 (B[k]'(by rw[y.O];exact E))) (Q9 (by rw[y.O];exact E));rw[P k a8,Nat.zero_add]at ag;rw[S k a8]at f;generalize af:L[k]' a8=b at*;generalize b.toNat=a at*;clear af b;have k0:(0:Int)<=k:=a8;have k1:(k:Int)<s.size:=a8;have g:rE a=(Dc ((a:Int)<33)||decide ((126:Int)<a)||((a:Int)==47)):=by
   unfold rE;have ac:Dc ((a:Int)<33)=Dc (a<33):=decide_eq_decide.2 a8;have ad:Dc ((126:Int)<a)=Dc (126<a):=decide_eq_decide.2 a8;have ae:((a:Int)==47)=(a==47):=by rw[Bool.eq_iff_iff];simp;omega
   rw[ac,ad,ae]
  cases t:rE a
  ·rw[t]at f g;have v:Dc ((a:Int)<33)=Bf:=by revert g;cases Dc ((a:Int)<33)<;>simp
   have x:Dc ((126:Int)<a)=Bf:=by revert g;rw[v];cases Dc ((126:Int)<a)<;>simp
   have am:((a:Int)==47)=Bf:=by revert g;rw[v,x];cases((a:Int)==47)<;>simp
   have N:=a6 f;clear f g t;go_wp2;go_roundw;exact⟨k+1,a8,o3,by rw[N.O];rfl,o,H⟩;simp[intOf];omega
  rw[t]at f g;have h:=q.O;rw[f]at h;have l:=a6 h;clear h f q t;cases v:Dc ((a:Int)<33)
  ·cases x:Dc ((126:Int)<a)
   ·have am:((a:Int)==47)=Bt:=by rw[v,x]at g;exact g.symm
    clear g;go_wp2;go_ret;exact⟨by rw[l.O];rfl,o⟩
   clear g;go_wp2;go_ret;exact⟨by rw[l.O];rfl,o⟩
  clear g;go_wp2;go_ret;exact⟨by rw[l.O];rfl,o⟩
 obtain rfl:k=s.size:=a8;have h:=q.O;rw[f,List.drop_eq_nil_of_le a8]at h;have l:=a6 h;clear h f q;go_wp2;go_ret;exact⟨by rw[l.O];rfl,o⟩
structure s8 where
 name:g4
 dir:Int
 A:p1
 n:Nat
 c:Nat
def q9:s7 s8:=⟨3,λf=>[Y f.name,I M f.dir,Z f.A f.n f.c],λ_=>rfl,nA⟩
theorem GL(f:s8)(g:f.name.size<=1000000)(W:Wd):Ca prog 81 (#[Ag (q9.c f).toArray]++ #[]) W λe j=>e=X (O (!P9 f.name))/\a9 W j:=by obtain⟨nm,b,a,n,c⟩:=f;have d:=a6 (a1C nm g);have h:=(a9.refl W).alloc (U #[Y nm,I M b,Z a n c] 24);show Ca prog 81 #[Ag #[Y nm,I M b,Z a n c]] W _;dsimp only;generalize P9 nm=m at*;go_in;go_wp2_with fail;refine l4 (d _) λk i=>?_;go_wp2;go_ret;exact⟨rfl,h.trans i⟩
def fM(a:List s8):Int:=Q0 (λf=> !P9 f.name) a 0
theorem uP(b:p1)(n c:Nat)(a:List s8)(w:Wd)(h:D a=n)(j:n<=1000000)(g:i5 w b (q9.row a))(i:∀f∈a,f.name.size<=1000000):
 Ca prog 48 #[Z b n c] w λe d=>e=X (I M (fM a))/\a9 w d:=by
 have H:=a6 (show Ca prog 80 #[Z b n c,Fc (.func 81) #[] #[]] w λe d=>e=X (I M (fM a))/\a9 w d from hX a1c q9 e6 isAgg24 sizeOf24 (λf=> !P9 f.name) 81 #[] (Eo func81 g6 rfl) b n c a w (λf k W _=>GL f (i f k) W) h j g);generalize fM a=R at*;clear g i h;go_in;go_wp2_with fail;refine l4 H λm l=>?_;go_wp2;go_ret;exact⟨rfl,l⟩
def u8E:s7 Int:=⟨1,λx=>[I U8 x],λ_=>rfl,nA⟩
theorem vG:∀xs:o5,u8E.row xs=l8 U8 xs
 |[]=>rfl
 |x::r=>by rw[s7.row_cons,vG r];rfl
theorem u8T:kZ prog 22 5 (I U8 0) 1 1:=⟨underlying22,g6,rfl,e6,e6⟩
theorem GM(nm:g4)(b:Int)(a:p1)(n c:Nat)(xs:o5)(w:Wd)(S:D xs=n)(R:n<=1000000)(s:i5 w a (l8 U8 xs)):
 Ca prog 74 #[Ag #[Y nm,I M b,Z a n c]] w λe C=>∃v,e=X (Ag #[Y nm,I M b,v])/\c7 C w 5 u8E v xs/\a9 w C:=by
 subst S;have j:e7 ((w.alloc (U #[Y nm,I M b,Z a (D xs) c] 24)).alloc (U #[Y ⟨#[]⟩,I M 0,Z J 0 0] 24)) w 24 #[Y nm,I M b,Z a (D xs) c]:=(e7.new w _ _).alloc _;have r:e7 ((w.alloc (U #[Y nm,I M b,Z a (D xs) c] 24)).alloc (U #[Y ⟨#[]⟩,I M 0,Z J 0 0] 24)) (w+1) 24 #[Y ⟨#[]⟩,I M 0,Z J 0 0]:=e7.b i3;have m:a9 w ((w.alloc (U #[Y nm,I M b,Z a (D xs) c] 24)).alloc (U #[Y ⟨#[]⟩,I M 0,Z J 0 0] 24)):=((a9.refl w).alloc _).alloc _;have z:((w.alloc (U #[Y nm,I M b,Z a (D xs) c] 24)).alloc (U #[Y ⟨#[]⟩,I M 0,Z J 0 0] 24)).heap.size=w.heap.size+2:=i3;have L:=a6 (show Ca prog 132 #[Z a (D xs) c] _ _ from clE a1h u8E u8T sizeOf5 a c xs _ R (by rw[vG];exact s.h m));have T:=j.cell 2;obtain⟨h,N,P,q⟩:=F6 j r m z;clear s j r m z;go_in;go_wp2_with fail;apply L.mono;rintro e E⟨v,rfl,l,d⟩;obtain⟨B,f,rfl⟩:=l.b;have F:=(h.h d).f 2 (Z B (D xs) f);have ai:w+1≠w.heap.size:=a8;have G:=(N.h d).grown (c8 _ w 2 (Z B (D xs) f)) (λe=>by injection e;omega);have ad:=(h.h d).frozen 2;obtain⟨ae,af,ag⟩:=(h.h d).c3;obtain⟨aa,ab,ac⟩:=F.c3;have aj:w+2<=E.heap.size:=by rw[<-q.O];exact d.size
 have t:∀{W:Wd}(g i:Nat)(u:Va),g<w.heap.size+2->c7 W (w+2) 5 u8E (Z B (D xs) f) xs->c7 (W.setCell ⟨g,i,J⟩ u) (w+2) 5 u8E (Z B (D xs) f) xs:=λg i u ah k=>k.kept (c8 _ _ _ u) (.inr λe=>by have:=(k.lt e).1;omega)
 have A:=t w 2 (Z B (D xs) f) a8 (l.mono (by rw[q.O];exact a7 _));have y:a9 w (E.setCell ⟨w,2,J⟩ (Z B (D xs) f)):=(P.trans d).set (p:=⟨w,2,J⟩) (a7 _) _;obtain⟨o,Q⟩:=j0 A y;clear A y t l d;go_wp2_with(refine q6 G ?_;intro ak H x);refine F9 H underlying24 ⟨_,rfl,(o.kept x (.inr λe=> ?_)).mono a8,Q.grown x (λk e=>by cases e;omega)⟩;have:=(o.lt e).1;omega
end Go.Proofs.YtcljlejgllkcjaaGreat
