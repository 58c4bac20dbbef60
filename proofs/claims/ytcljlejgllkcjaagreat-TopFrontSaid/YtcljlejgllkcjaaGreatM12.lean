/- A part of the proof of TopFront: lemmas on the walks of its calls. -/
import Derived.Test.YtcljlejgllkcjaaGreatM11
set_option maxHeartbeats 12000000
set_option linter.all false
set_option maxRecDepth 100000
namespace Go.Proofs.YtcljlejgllkcjaaGreat
open Go.RowKit Go.ChangeShapes Go.WideShapes Tryz
open Bool renaming true→Bt,false→Bf
open Decidable renaming decide→Dc
open Ending renaming returned→X
open Go renaming World→Wd,Value→Va,Calls→Ca,callsIn_wide→Cw,bodyPost_ret→Bp,TypeId→Ti,Addr→Ad,results_none→Rz,callsIn_of_wp→Co
open IntKind renaming i64→M,u32→V,u64→U6,u16→U1,u8→U8
open List renaming getElem?_eq_getElem→e9,length_append→g1,getElem_mem→g3,take_succ_eq_append_getElem→g2,length_map→i1,length_cons→i4,length_take→m4,append_assoc→p6,length→D
open Nat renaming le_refl→a7,le_trans→b6,zero_le→c6,add_zero→j8
open Obj renaming cells→U
open Operand renaming tmp→Tm
open Option renaming none→J,some→So
open Value renaming int→I,slice→Z,string→Y,pointer→K,bool→O,func→Fc,tuple→Tp,agg→Ag,nilFunc→Nf
def CpS(i:FuncId):Prop:=∀(p:j2)(a b d g:Va)(w:Wd),p.small->R7 w p a b d g->Ca prog i #[Ag (i7 p a b d g)] w λe h=>∃va' c f vm',e=X (Ag (i7 p va' c f vm'))/\m7 h w p va' c f vm'/\a9 w h
theorem tJ:CpS 146/\CpS 148:=by
 constructor<;>(
  intro p cc cd ce cf w x c
  obtain⟨bb,bg,bh,bi⟩:=F6 (λa(i:a9 w a)=>show Ca prog 217 #[cc] a _ from N3 VW B6 gB sizeOf3 (by have:=x.a;omega) (c.a.h i)) (λa(i:a9 w a)=>show Ca prog 219 #[cd] a _ from N3 wW a2J PY sizeOf94 (by have:=x.f;omega) (c.f.h i)) (λa(i:a9 w a)=>show Ca prog 219 #[ce] a _ from N3 wW a2J PY sizeOf94 (by have:=x.l;omega) (c.l.h i)) (λa(i:a9 w a)=>show Ca prog 218 #[cf] a _ from N3 VV F4 RB sizeOf32 (by have:=x.m;omega) (c.m.h i))
  obtain⟨S,ab,rfl,-,-⟩:=c.a
  obtain⟨T,ac,rfl,-,-⟩:=c.f
  obtain⟨W,ad,rfl,-,-⟩:=c.l
  obtain⟨aa,ae,rfl,-,-⟩:=c.m
  clear c x
  obtain⟨ar,fm,fc,dy,lm,lc,fa,am,sp,we,pe,rt,np⟩:=p
  dsimp only[i7]at*
  have af:∀L,e7 ((w.alloc (U #[Z S (D ar) ab,I U8 fm,Z T (D fc) ac,I V dy,I U8 lm,Z W (D lc) ad,Z aa (D fa) ae,I U8 am,I U6 sp,O we,O pe,O rt,O np] 36)).alloc (U L 36)) w 36 #[Z S (D ar) ab,I U8 fm,Z T (D fc) ac,I V dy,I U8 lm,Z W (D lc) ad,Z aa (D fa) ae,I U8 am,I U6 sp,O we,O pe,O rt,O np]:=λL=>(e7.new w _ _).alloc _
  have ay:=λL=>(af L).cell 0
  have bf:=a6 af
  clear af
  first
   |go_in
   |go_in
  go_wp2_with fail
  refine(bb _ (((a9.refl w).alloc _).alloc _)).mono ?_
  rintro e dc⟨cy,rfl,z,ag⟩
  have H:=(bf _).h ag
  have aw:=(((a9.refl w).alloc _).alloc _).trans ag
  have av:=(e7.b (w:=w.alloc (U #[Z S (D ar) ab,I U8 fm,Z T (D fc) ac,I V dy,I U8 lm,Z W (D lc) ad,Z aa (D fa) ae,I U8 am,I U6 sp,O we,O pe,O rt,O np] 36)) (t:=36) (g:=w+1) i3).h ag
  replace z:=z.mono (b2:=w+2) i3
  obtain⟨G,Q,N,rfl⟩:=z.f
  have bv:=H.frozen 0
  have ah:=H.f 0 (Z G Q N)
  obtain⟨k1,bz⟩:=H.d2 6 0
  obtain⟨bc,al,bk,ap⟩:=F6 ah (av.far (p:=⟨w,0,J⟩) i3 (Z G Q N)) (z.low (b:=w) a8 0 (Z G Q N)) (aw.set (p:=⟨w,0,J⟩) (a7 _) (Z G Q N))
  clear H ah aw av z ay
  go_wp2_with fail
  apply(bi _ ap.O).mono
  rintro e dd⟨cz,rfl,A,R⟩
  have r:=bc.h R
  replace A:=A.mono (b2:=w+2) (by have:=(al.O).lt;simp at this⊢;omega)
  obtain⟨q,y,u,rfl⟩:=A.f
  have bw:=r.frozen 6
  have ca:=r.cell 6
  have ai:=r.f 6 (Z q y u)
  have k2:=r.cell 2
  obtain⟨bd,an,bl,bo,aq⟩:=Y2 ai ((al.h R).far (p:=⟨w,6,J⟩) i3 (Z q y u)) (A.low (b:=w) a8 6 (Z q y u)) ((bk.h R).low (b:=w) a8 6 (Z q y u)) ((ap.trans R).set (p:=⟨w,6,J⟩) (a7 _) (Z q y u))
  clear r ai A k1 bv bz
  go_wp2_with fail
  apply(bg _ aq.O).mono
  rintro e de⟨da,rfl,B,F⟩
  have s:=bd.h F
  replace B:=B.mono (b2:=w+2) (by have:=(an.O).lt;simp at this⊢;omega)
  obtain⟨j,n,m,rfl⟩:=B.f
  have bx:=s.frozen 2
  have cb:=s.cell 2
  have aj:=s.f 2 (Z j n m)
  have k3:=s.cell 5
  obtain⟨be,ao,bm,bp,br,au⟩:=dK aj ((an.h F).far (p:=⟨w,2,J⟩) i3 (Z j n m)) (B.low (b:=w) a8 2 (Z j n m)) ((bo.h F).low (b:=w) a8 2 (Z j n m)) ((bl.h F).low (b:=w) a8 2 (Z j n m)) ((aq.trans F).set (p:=⟨w,2,J⟩) (a7 _) (Z j n m))
  clear s aj B k2 bw ca
  go_wp2_with fail
  apply(bh _ au.O).mono
  rintro e cg⟨db,rfl,C,o⟩
  have l:=be.h o
  replace C:=C.mono (b2:=w+2) (by have:=(ao.O).lt;simp at this⊢;omega)
  obtain⟨d,h,f,rfl⟩:=C.f
  have cj:=l.frozen 5
  have ck:=l.cell 5
  have ak:=l.f 5 (Z d h f)
  obtain⟨ay,cm,cq,cr,cs,ct,cu,cv,cw⟩:=(l).c9
  obtain⟨cx,cn,co,cp⟩:=(l).d4 9 10 11 12
  obtain⟨ci,bj,bn,bq,bs,bt⟩:=dK ak ((ao.h o).far (p:=⟨w,5,J⟩) i3 (Z d h f)) (C.low (b:=w) a8 5 (Z d h f)) ((bp.h o).low (b:=w) a8 5 (Z d h f)) ((br.h o).low (b:=w) a8 5 (Z d h f)) ((bm.h o).low (b:=w) a8 5 (Z d h f))
  have bu:=a6 ((au.trans o).set (p:=⟨w,5,J⟩) (a7 _) (Z d h f))
  clear l ak C k3 bx cb
  go_wp2_with(refine q6 bj.O ?_;intro ch ba ax)
  have P:∀{v:Va}{az:Type}{e:Ti}{E:s7 az}{xs:List az},c7 ((cg.setCell ⟨w,5,J⟩ (Z d h f))) (w+2) e E v xs->c7 ch w e E v xs:=λk=>(k.kept ax (.inr λe=>by have:=(k.lt e).1;omega)).mono a8
  exact F9 ba underlying36 ⟨_,_,_,_,rfl,⟨P bq.O,P bt.O,P bn.O,P bs.O⟩,bu.f ax (λk e=>by cases e;omega)⟩)
def v7(s:g4):Int×Int:=if s.toList==[]||s.toList==[107,105,108,108]then(2147483648,0)else if(w8 s).2=0 then(bits .or V 327680 (w8 s).1,0)else(0,(w8 s).2)
theorem XH(s:g4)(l:s.size<=1000000)(W:Wd):Ca prog 216 #[Y s] W λe m=>e=X (Tp #[I V (v7 s).1,I M (v7 s).2])/\a9 W m:=by
 have g:=a6 (IW s l);obtain⟨R,d⟩:∃R,R=v7 s:=⟨_,rfl⟩;rw[<-d];unfold v7 at d;generalize w8 s=q at*;obtain⟨n,k⟩:=q;dsimp only at d g;have b:=a6 d;clear d;go_in;rcases h:s.toList==[]with _|_
 ·rcases j:s.toList==[107,105,108,108]with _|_
  ·have a:=b.O;rw[h,j,if_neg e6]at a;by_cases f:k=0;·subst f;have c:=a6 (a.trans (if_pos rfl));clear a b;go_wp2_with fail;refine l4 (g _) λo i=>?_;go_wp2;go_ret2;exact⟨by rw[c.O];rfl,i⟩
   have c:=a6 (a.trans (if_neg f));have p:(k !=0)=Bt:=by simp[f]
   clear a b f;go_wp2_with fail;refine l4 (g _) λo i=>?_;go_wp2;go_ret2;exact⟨by rw[c.O];rfl,i⟩
  have a:=b.O;rw[h,j,if_pos e6]at a;have c:=a6 a;clear a b;go_wp2;go_ret2;exact⟨by rw[c.O];rfl,a9.refl _⟩
 have a:=b.O;rw[h,if_pos i3]at a;have c:=a6 a;clear a b;go_wp2;go_ret2;exact⟨by rw[c.O];rfl,a9.refl _⟩
section
def aR:s7 Sy:=⟨4,λs=>[I U1 s.code,I V s.k,I M s.th,I M s.el],λ_=>rfl,nA⟩
theorem a6r:kZ prog 180 417 (Ag #[I U1 0,I V 0,I M 0,I M 0]) 4 24:=⟨underlying180,g6,rfl,e6,e6⟩
def W2:List Ti:=[324,417]
structure sL(w:Wd)(g base:Nat)(vl vt:Va)(rs:List Sy):Prop where
 b:e7 w g 324 #[vl,vt]
 o:c7 w base 417 aR vl rs
 hg:base<=g
 hs:base<=w
section
variable {w w':Wd} {g base:Nat} {vl vt:Va} {rs:List Sy}
theorem sL.h(h:sL w g base vl vt rs)(x:a9 w w'):sL w' g base vl vt rs:=⟨h.b.h x,h.o.h x,h.hg,b6 h.hs x.size⟩
end
theorem KB{w:Wd}{g base:Nat}{vl vt:Va}{rs:List Sy}(b:sL w g base vl vt rs)(f:p1)(n c:Nat)(xs:List Sy)(p:D xs=n)(o:D rs+n<=1000000)(m:i5 w f (aR.row xs)):
 Ca prog 314 #[K g,Z f n c] w λe w'=>e=X (Tp #[])/\∃r,sL w' g base r vt (rs++xs)/\Tv base W2 w w':=by
 have t:=b.b.cell 0;have H:=a6 b;clear b;go_in;go_wp2_with(at_builtin;refine h8 rfl (Tm 8) (Tm 9) 180 417 rfl a6r base vl rs rfl H.o _ _ _ xs rfl p m o H.hs ?_;intro z s d y h x;have a:=H.b.grown h (λe=>H.o.ne H.b e6 e.symm);have v:=a.frozen 0;have u:=a.cell 0;have i:Tv base W2 w s:= .ofOwn H.o h (a7 _) e6;obtain⟨k,q,l,rfl⟩:=d.f);go_end0;have j:=Tv.r a H.hg (S:=W2) e6 0 (Z k q l);exact⟨rfl,_,⟨a.f 0 _,d.kept (c8 _ g 0 _) (.inr (d.ne a e6)),H.hg,by have:=H.hs;have:=i.size;have:=j.size;omega⟩,i.trans j⟩
theorem qX{w W:Wd}{g base:Nat}{vl vt:Va}{rs:List Sy}(d:sL w g base vl vt rs)(s:Sy)(k:D rs+1<=1000000)(c:a9 w W)(b:Nat)(i:e7 W b 417 #[I U1 s.code,I V s.k,I M s.th,I M s.el]):
  Ca prog 314 #[K g,Z b 1 1] W λe w'=>e=X (Tp #[])/\∃a,sL w' g base a vt (rs++[s])/\Tv base W2 w w':=
 (KB (d.h c) _ 1 1 [s] rfl k (i5.f i rfl)).mono λe w'⟨j,a,f,h⟩=>⟨j,a,f,(Tv.f c).trans h⟩
theorem a1G{w:Wd}{g base:Nat}{vl vt:Va}{rs:List Sy}(b:sL w g base vl vt rs)(k:Int)(h:D rs+1<=1000000):
 Ca prog 245 #[K g,I V k] w λe w'=>e=X (Tp #[])/\∃a,sL w' g base a vt (rs++[⟨6,k,0,0⟩])/\Tv base W2 w w':=by
 have c:=a6 (qX b ⟨6,k,0,0⟩ h ((a9.refl w).alloc (U #[I U1 6,I V k,I M 0,I M 0] 417)) w (e7.new w _ _));clear b;go_in;go_wp2_with fail;apply c.mono;rintro e i⟨rfl,a,d,f⟩;go_wp2;go_end0;exact⟨rfl,a,d,f⟩
theorem XQ{w:Wd}{g base:Nat}{vl vt:Va}{rs:List Sy}(b:sL w g base vl vt rs)(k:Int)(h:D rs+1<=1000000):
 Ca prog 241 #[K g,I V k] w λe w'=>e=X (Tp #[])/\∃a,sL w' g base a vt (rs++[⟨32,k,0,0⟩])/\Tv base W2 w w':=by
 have c:=a6 (qX b ⟨32,k,0,0⟩ h ((a9.refl w).alloc (U #[I U1 32,I V k,I M 0,I M 0] 417)) w (e7.new w _ _));clear b;go_in;go_wp2_with fail;apply c.mono;rintro e i⟨rfl,a,d,f⟩;go_wp2;go_end0;exact⟨rfl,a,d,f⟩
theorem XS{w:Wd}{g base:Nat}{vl vt:Va}{rs:List Sy}(a:sL w g base vl vt rs)(lb:Nat)(v:Int)(d:e7 w lb 327 #[I M v])(k:base<=lb):
 Ca prog 244 #[K g,K lb] w λe w'=>e=X (Tp #[])/\sL w' g base vl vt rs/\e7 w' lb 327 #[I M (D rs)]/\w.grownBy w' (So lb):=by
 have f:=a.b.cell 0;have i:=d.cell 0;have j:=d.frozen 0;obtain⟨H,b⟩:=j0 a d;obtain⟨h,c,e,_⟩:=a.o.inM;rw[e]at f;clear a e;go_wp2;go_end0;exact⟨rfl,⟨H.b.grown (c8 _ lb 0 _) (λe=>by injection e with e;exact H.b.ne b e6 e),H.o.kept (c8 _ lb 0 _) (.inr (H.o.ne b e6)),H.hg,b6 H.hs (c8 _ lb 0 (I M (D rs))).size⟩,b.f 0 _,c8 _ _ _ _⟩
end
section
attribute [local go_sem] Oper.semAt_some
structure ZN where
 bt:Nat
 bw:Nat
 ba:Nat
 bc:Nat
 be:Nat
def a09(l:ZN):Va:=Fc (.func 315) #[] #[K l.bt,K l.bw,K l.ba,K l.bc,K l.be]
def wV:s7 ZN:=⟨1,λl=>[a09 l],λ_=>rfl,by simp[a09,Value.oneCell']⟩
theorem a6D:kZ prog 322 1 Nf 1 8:=⟨underlying322,g6,rfl,e6,e6⟩
def W3:List Ti:=[324,417,1]
theorem XR{w:Wd}{g base:Nat}{L d:Va}{rs:List Sy}{m:List ZN}(s:sL w g base L d rs)(B:c7 w base 1 wV d m)(co k:Int)(th:Nat)(el:p1)(be:D rs+1<=1000000)(bf:D m+1<=1000000):
 Ca prog 243 #[K g,I U1 co,I V k,K th,K el] w λe i=>e=X (Tp #[])/\∃bo ar,sL i g base bo ar (rs++[⟨co,k,0,0⟩])/\c7 i base 1 wV ar (m++[⟨w+2,w,w+4,w+1,w+3⟩])/\
 e7 i w 321 #[K g]/\e7 i (w+1) 139 #[I U1 co]/\e7 i (w+2) 325 #[K th]/\e7 i (w+3) 325 #[K el]/\e7 i (w+4) 3 #[I M (D rs)]/\Tv base W3 w i:=by
 refine(Cw (n:=1)).1 ?_;obtain⟨H,aw⟩:=j0 s B;have F:w.cell? ⟨g,0,J⟩=So L:=s.b.cell 0;obtain⟨au,ax,G,_⟩:=s.o.inM;rw[G]at F;have br:=s.b.lt;have ay:((((w.alloc (U #[K g] 321)).alloc (U #[I U1 co] 139)).alloc (U #[K th] 325)).alloc (U #[K el] 325)).cell? ⟨g,0,J⟩=So (Z au (D rs) ax):=by have q:((((w.alloc (U #[K g] 321)).alloc (U #[I U1 co] 139)).alloc (U #[K th] 325)).alloc (U #[K el] 325)).cell? ⟨g,0,J⟩=So L:=((((s.b.alloc _).alloc _).alloc _).alloc _).cell 0;rw[q,G]
 clear s B G;refine Co func243 rfl trivial ?_ rfl;simp only[ntmps243,uE,Nat.reduceAdd,Nat.reduceSub];gi_wp2_with fail;have P:a9 w (((((w.alloc (U #[K g] 321)).alloc (U #[I U1 co] 139)).alloc (U #[K th] 325)).alloc (U #[K el] 325)).alloc (U #[I M (D rs)] 3)):=(((((a9.refl w).alloc _).alloc _).alloc _).alloc _).alloc _;have k0:e7 (((((w.alloc (U #[K g] 321)).alloc (U #[I U1 co] 139)).alloc (U #[K th] 325)).alloc (U #[K el] 325)).alloc (U #[I M (D rs)] 3)) w 321 #[K g]:=((((e7.new w _ _).alloc _).alloc _).alloc _).alloc _;have k1:e7 (((((w.alloc (U #[K g] 321)).alloc (U #[I U1 co] 139)).alloc (U #[K th] 325)).alloc (U #[K el] 325)).alloc (U #[I M (D rs)] 3)) (w+1) 139 #[I U1 co]:=(((e7.b i3).alloc _).alloc _).alloc _;have k2:e7 (((((w.alloc (U #[K g] 321)).alloc (U #[I U1 co] 139)).alloc (U #[K th] 325)).alloc (U #[K el] 325)).alloc (U #[I M (D rs)] 3)) (w+1+1) 325 #[K th]:=((e7.b i3).alloc _).alloc _;have k3:e7 (((((w.alloc (U #[K g] 321)).alloc (U #[I U1 co] 139)).alloc (U #[K th] 325)).alloc (U #[K el] 325)).alloc (U #[I M (D rs)] 3)) (w+1+1+1) 325 #[K el]:=(e7.b i3).alloc _;have k4:e7 (((((w.alloc (U #[K g] 321)).alloc (U #[I U1 co] 139)).alloc (U #[K th] 325)).alloc (U #[K el] 325)).alloc (U #[I M (D rs)] 3)) (w+1+1+1+1) 3 #[I M (D rs)]:=e7.b i3;have bg:(((((w.alloc (U #[K g] 321)).alloc (U #[I U1 co] 139)).alloc (U #[K th] 325)).alloc (U #[K el] 325)).alloc (U #[I M (D rs)] 3)).heap.size=w.heap.size+1+1+1+1+1:=i3;generalize(((((w.alloc (U #[K g] 321)).alloc (U #[I U1 co] 139)).alloc (U #[K th] 325)).alloc (U #[K el] 325)).alloc (U #[I M (D rs)] 3))=w5 at*;have kn:=e7.new w5 417 #[I U1 co,I V k,I M 0,I M 0];have f:=(a9.refl w5).alloc (U #[I U1 co,I V k,I M 0,I M 0] 417);have W:=a6 (KB ((H.h P).h f) w5 1 1 [⟨co,k,0,0⟩] rfl be (i5.f kn rfl));rw[bg]at W;refine⟨trivial,?_⟩;gi_at_call 314
 apply((Cw (n:=0)).2 W.O).mono;rintro e p⟨rfl,N,ac,h⟩;have O1:=h.own ((aw.h P).h f) e6;have E:=h.blk (k0.h f) (.inr e6);have b1:=h.blk (k1.h f) (.inr e6);have b2:=h.blk (k2.h f) (.inr e6);have b3:=h.blk (k3.h f) (.inr e6);have b4:=h.blk (k4.h f) (.inr e6);have r:Tv base W2 w p:=(Tv.f (P.trans f)).trans h;have bs:w+5<=p.heap.size:=by have:=h.size;have:=f.size;omega
 obtain⟨v,j⟩:=j0 ac O1;have aa:∀a,GA 1 wV d.ownBlock base d m [⟨w+1+1,w,w+1+1+1+1,w+1,w+1+1+1⟩] p a->e7 a g 324 #[N,d]:=λa c=>v.b.grown c.g (λe=>j.ne v.b e6 e.symm)
 have ab:∀a,GA 1 wV d.ownBlock base d m [⟨w+1+1,w,w+1+1+1+1,w+1,w+1+1+1⟩] p a->e7 a w 321 #[K g]:=λa c=>E.grown c.g (λe=>j.ne E e6 e.symm)
 obtain⟨T,av⟩:=j0 aa ab;clear aa ab ac O1 k0 k1 k2 k3 k4 F ay;gi_wp2_with fail;refine cB (R:=(GA 1 wV d.ownBlock base d m [⟨w+1+1,w,w+1+1+1+1,w+1,w+1+1+1⟩])) ?_;repeat
  first
   |(apply D7;focus (intro x a c;simp only[g0,g5,uV];(repeat intro az;try simp only[az]);have F:=(av a c).cell 0;have bv:a.cell? ⟨g,1,J⟩=So d:=(T a c).cell 1;gi_wp2_with fail;exact dn rfl rfl (L6.refl _)))
   |(refine r7 ((q8 #[a09 ⟨w+1+1,w,w+1+1+1+1,w+1,w+1+1+1⟩])) ?_ ?_
     ·intro x a c
      simp only[g0,g5,uV,q8,q7]
      intro z
      simp only[z]
      gi_wp2_with fail
      refine e8 ?_ rfl (GA.f ((a9.refl a).alloc _))
      exact⟨a,rfl,e7.new _ _ _,λe=>by have:=((c.old j.O).lt e).2;omega⟩)
   |(refine r7 ((q7 p)) ?_ ?_
     ·intro x a c
      simp only[g0,g5,uV,q8,q7]
      rintro y⟨am,A,an,bh⟩
      simp only[y,A]
      gi_wp2_with(gi_at_builtin;refine a2F rfl _ _ 322 1 rfl a6D base d m rfl (c.old j.O) am 1 1 [⟨w+1+1,w,w+1+1+1+1,w+1,w+1+1+1⟩] rfl rfl (i5.f an rfl) bf (b6 v.hs c.g.size) ?_;intro bt bu bj bk bl bm bn)
      refine e8 ?_ rfl (⟨bk,λ_=>bl,bm⟩)
      exact⟨bj,bn.imp id (λq b bc=>by have:=q b bc;have:=c.g.size;omega)⟩)
 intro x a c;simp only[n9,g0,g5,uV,q8,q7];rintro ae af ag ah y z⟨am,A,an,bh⟩⟨C,bi⟩ ai aj;simp only[ae,af,ag,ah,y,z,A,ai,aj];clear ae af ag ah y z A ai aj;obtain⟨Q,ao,ad,ak⟩:=C.f;rw[ak]at C bi;have l:=T a c;have bq:=l.frozen 1;have bp:a.cell? ⟨g,1,J⟩=So d:=l.cell 1;have row:c7 a base 417 aR N (rs++[⟨co,k,0,0⟩]):=v.o.apart j e6 c.g;have al:∀(b:Nat)(t:Ti)(cs:Array Va),e7 p b t cs->t≠1->t≠324->e7 (a.setCell ⟨g,1,J⟩ (Z Q ao ad)) b t cs:=λb t cs k ba bb=>by have k2:=k.grown c.g (λe=>j.ne k (λq=>ba q.symm) e.symm);exact k2.grown (c8 _ g 1 _) (λe=>by injection e with e;exact k2.ne l bb e)
 have u:=a6 al;clear al;simp only[ak];gi_wp2_with fail;go_end0;have ap:Tv base W3 p a:= .ofOwn j c.g (a7 _) e6;have aq:=Tv.r l H.hg (S:=W3) e6 1 (Z Q ao ad);refine⟨rfl,N,_,⟨l.f 1 _,row.kept (c8 _ g 1 _) (.inr (row.ne l e6)),H.hg,?_⟩,C.kept (c8 _ g 1 _) (.inr (C.ne l e6)),u _ _ _ E e6 e6,u _ _ _ b1 e6 e6,u _ _ _ b2 e6 e6,u _ _ _ b3 e6 e6,u _ _ _ b4 e6 e6,?_⟩;have:=H.hs;have:=r.size;have:=ap.size;have:=aq.size;omega;refine Tv.trans ⟨r.os,r.tape,r.output,r.size,λb o B bd=>r.keep b o B (bd.imp id λq=> ?_)⟩ (ap.trans aq);cases o<;>first|rfl|(simp[sT,W2,W3]at q⊢;omega)|(simp[sT,W2,W3]at q⊢;exact⟨q.1,q.2.1⟩)
end
section
attribute [local go_sem] Oper.semAt_some
theorem s7.row_set{b:Type}{E:s7 b}:∀(xs:List b)(j r:Nat)(c:j<D xs)(u:Va)(a:b),r<E.k->(E.c xs[j]).set r u=E.c a->(E.row xs).set (j*E.k+r) u=E.row (xs.set j a)
 |x::xs,0,r,_,u,a,hr,hy=>by rw[E.row_cons,Nat.zero_mul,Nat.zero_add,List.set_append_left _ _ (by rw[E.len];exact hr),List.set_cons_zero,E.row_cons];congr 1
 |x::xs,j+1,r,c,u,a,hr,hy=>by
  have d:j<D xs:=by simpa using c
  rw[E.row_cons,List.set_append_right _ _ (by rw[E.len,Nat.succ_mul];omega),E.len,show(j+1)*E.k+r-E.k=j*E.k+r by rw[Nat.succ_mul];omega,s7.row_set xs j r d u a hr (by simpa using hy),List.set_cons_succ,E.row_cons]
theorem c7.setF{b:Type}{w:Wd}{base g cap:Nat}{e:Ti}{E:s7 b}{xs:List b}(f:c7 w base e E (Z g (D xs) cap) xs)(j r:Nat)(i:j<D xs)(l:r<E.k)(u:Va)(a:b)(n:(E.c xs[j]).set r u=E.c a):
 c7 (w.setCell ⟨g,j*E.k+r,J⟩ u) base e E (Z g (D xs) cap) (xs.set j a)/\w.grownBy (w.setCell ⟨g,j*E.k+r,J⟩ u) (So g):=by
 obtain⟨o,c,m,k⟩:=f;cases m;obtain⟨d,h⟩:=k.stored (j*E.k+r) u;rw[s7.row_set xs j r i u a l n]at d;exact⟨⟨_,cap,by rw[List.length_set],by rw[List.length_set];exact d⟩,h⟩
def qJ(rs:List Sy)(a:Nat)(co b E:Int):List Sy:=match rs[a]? with
 |none=>rs
 |some s=>rs.set a ⟨s.code,s.k,b,if co=5 then s.el else E⟩
def m2(co:Int)(el:Nat):p1:=if co=5 then J else So ⟨el,0,J⟩
structure rQ(w:Wd)(l:ZN)(g:Nat)(co:Int)(at_:Nat)(th el:Nat)(T E:Int):Prop where
 bt:e7 w l.bt 325 #[K th]
 bw:e7 w l.bw 321 #[K g]
 ba:e7 w l.ba 3 #[I M at_]
 bc:e7 w l.bc 139 #[I U1 co]
 be:e7 w l.be 325 #[K (m2 co el)]
 th:e7 w th 327 #[I M T]
 el:e7 w el 327 #[I M E]
theorem rQ.h{w d:Wd}{l:ZN}{g:Nat}{co:Int}{c th el:Nat}{b E:Int}(a:rQ w l g co c th el b E)(x:a9 w d):rQ d l g co c th el b E:=⟨a.bt.h x,a.bw.h x,a.ba.h x,a.bc.h x,a.be.h x,a.th.h x,a.el.h x⟩
theorem rQ.row{w c:Wd}{l:ZN}{g:Nat}{co:Int}{h th el:Nat}{d E:Int}(a:rQ w l g co h th el d E){base:Nat}{v:Va}{rs:List Sy}(o:c7 w base 417 aR v rs)(x:w.grownBy c v.ownBlock):rQ c l g co h th el d E:=
 have f:∀b t cs,e7 w b t cs->417≠t->e7 c b t cs:=λb t cs k i=>k.grown x (λe=>o.ne k i e.symm)
 ⟨f _ _ _ a.bt e6,f _ _ _ a.bw e6,f _ _ _ a.ba e6,f _ _ _ a.bc e6,f _ _ _ a.be e6,f _ _ _ a.th e6,f _ _ _ a.el e6⟩
theorem rQ.be5{w:Wd}{l:ZN}{g:Nat}{co:Int}{b th el:Nat}{a E:Int}(c:rQ w l g co b th el a E)(d:¬co=5):w.cell? ⟨l.be,0,J⟩=So (K el):=by have:=c.be.cell 0;unfold m2 at this;rwa[if_neg d]at this
theorem a1H{w:Wd}{g base:Nat}{G ai:Va}{rs:List Sy}(N:sL w g base G ai rs)(l:ZN)(co:Int)(a th el:Nat)(b E:Int)(W:rQ w l g co a th el b E)(k:a<D rs)(bc:D rs<=1000000):
 Ca prog 315 #[K l.bt,K l.bw,K l.ba,K l.bc,K l.be] w λe aj=>e=X (Tp #[])/\sL aj g base G ai (qJ rs a co b E)/\w.grownBy aj G.ownBlock:=by
 refine(Cw (n:=1)).1 ?_;obtain⟨gb,cap,rfl⟩:∃gb cap,G=Z (So ⟨gb,0,J⟩) (D rs) cap:=by
  obtain⟨P,c,C,q⟩:=N.o;rcases q.2 with⟨af,ba⟩|⟨gb,cap,cur,af,_⟩
  omega;exact⟨gb,cap,af⟩
 obtain⟨s,B⟩:∃s,s=rs[a]:=⟨_,rfl⟩;have bb:(a:Int)<D rs:=a8;obtain⟨H,m⟩:=j0 N W;clear N W;refine Co func315 rfl trivial ?_ rfl;simp only[ntmps315,uE,Nat.reduceAdd,Nat.reduceSub];gi_wp2_with fail;refine aO ?_;repeat(apply D7;focus (intro x f d;simp only[g0,g5,uV];(repeat intro h;try simp only[h]);have ap:=(m.h d).bw.cell 0;have au:f.cell? ⟨g,0,J⟩=So (Z (So ⟨gb,0,J⟩) (D rs) cap):=(H.h d).b.cell 0;have av:=(m.h d).ba.cell 0;have aw:=(m.h d).bt.cell 0;have ax:=(m.h d).th.cell 0;gi_wp2_with fail;exact dn rfl rfl (a9.refl _)))
 intro x f d;simp only[n9,g0,o7,uV];repeat(intro h;try simp only[h];clear h)
 have i:=H.h d;have S:=m.h d;have ab:f.frozen? ⟨gb,a*4+2,J⟩=Bf:=by obtain⟨P,c,C,q⟩:=i.o;cases C;exact q.frozenAt (a*4+2)
 obtain⟨ak,ao,ev,_,_,F⟩:=i.o.inM;cases ev;have aq:f.cell? ⟨gb,a*4+2,J⟩=So (I M s.th):=F.elt0 k (r:=2) (by rw[<-B];rfl);obtain⟨t,o⟩:=i.o.setF a 2 k e6 (I M b) ⟨s.code,s.k,b,s.el⟩ (by rw[<-B];rfl);have v:=S.row i.o o;have b2:=i.b.grown o (λe=>i.o.ne i.b e6 e.symm);have ah:=v.bc.cell 0;change f.grownBy (f.setCell ⟨gb,a*4+2,J⟩ (I M b)) (So gb)at o;change c7 (f.setCell ⟨gb,a*4+2,J⟩ (I M b)) _ _ _ _ _ at t;change rQ (f.setCell ⟨gb,a*4+2,J⟩ (I M b)) _ _ _ _ _ _ _ _ at v;change e7 (f.setCell ⟨gb,a*4+2,J⟩ (I M b)) _ _ _ at b2;change(f.setCell ⟨gb,a*4+2,J⟩ (I M b)).cell? _=_ at ah;have z:w.grownBy (f.setCell ⟨gb,a*4+2,J⟩ (I M b)) (So gb):=(j4 d (So gb)).trans o;have ad:=H.hs;by_cases j:co=5
 ·have ar:(co !=5)=Bf:=by simp[j]
  have p:qJ rs a co b E=rs.set a ⟨s.code,s.k,b,s.el⟩:=by unfold qJ;rw[e9 k,<-B];show rs.set a ⟨s.code,s.k,b,if co=5 then s.el else E⟩=_;rw[if_pos j]
  have L:=a6 p;clear j p;gi_wp2_with fail;go_end0;exact⟨rfl,⟨b2,by rw[L.O];exact t,H.hg,b6 ad z.size⟩,z⟩
 have ar:(co !=5)=Bt:=by simp[j]
 have p:qJ rs a co b E=(rs.set a ⟨s.code,s.k,b,s.el⟩).set a ⟨s.code,s.k,b,E⟩:=by unfold qJ;rw[e9 k,<-B];show rs.set a ⟨s.code,s.k,b,if co=5 then s.el else E⟩=_;rw[if_neg j,List.set_set]
 have L:=a6 p;have A:D (rs.set a ⟨s.code,s.k,b,s.el⟩)=D rs:=List.length_set;have al:=a6 j;have ae:(rs.set a ⟨s.code,s.k,b,s.el⟩)[a]'(by rw[A];exact k)=⟨s.code,s.k,b,s.el⟩:=i3;clear j p;gi_wp2_with fail;generalize f.setCell ⟨gb,a*4+2,J⟩ (I M b)=ay at*;rw[<-A]at t;obtain⟨R,an,u,am⟩:=F6 b2 t v z;clear i S ab aq o F ah b2 t v z d;refine aO ?_;repeat(apply D7;focus (intro x f d;simp only[g0,g5,uV];(repeat intro h;try simp only[h]);have ap:=(u.h d).bw.cell 0;have au:f.cell? ⟨g,0,J⟩=So (Z (So ⟨gb,0,J⟩) (D rs) cap):=(R.h d).cell 0;have av:=(u.h d).ba.cell 0;have aw:=(u.h d).be5 al.O;have ax:=(u.h d).el.cell 0;gi_wp2_with fail;exact dn rfl rfl (a9.refl _)))
 intro x f d;simp only[n9,g0,o7,uV];repeat(intro h;try simp only[h];clear h)
 have y:=an.h d;have Q:=R.h d;have aa:a<D (rs.set a ⟨s.code,s.k,b,s.el⟩):=by rw[A];exact k
 have ab:f.frozen? ⟨gb,a*4+3,J⟩=Bf:=by obtain⟨P,c,C,q⟩:=y;cases C;exact q.frozenAt (a*4+3)
 obtain⟨ak,ao,ev,_,_,F⟩:=y.inM;cases ev;have az:f.cell? ⟨gb,a*4+3,J⟩=So (I M s.el):=F.elt0 aa (r:=3) (by rw[ae];rfl);obtain⟨ag,T⟩:=y.setF a 3 aa e6 (I M E) ⟨s.code,s.k,b,E⟩ (by rw[ae];rfl);have b3:=Q.grown T (λe=>y.ne Q e6 e.symm);have ac:=(am.trans (j4 d (So gb))).trans T;rw[A]at ag;gi_wp2_with fail;go_end0;exact⟨rfl,⟨b3,by rw[L.O];exact ag,H.hg,b6 ad ac.size⟩,ac⟩
end
structure ZE where
 l:ZN
 co:Int
 at_:Nat
 th:Nat
 el:Nat
 T:Int
 E:Int
def mU(rs:List Sy)(x:ZE):List Sy:=qJ rs x.at_ x.co x.T x.E
theorem XB(rs:List Sy)(a:Nat)(co T E:Int):D (qJ rs a co T E)=D rs:=by unfold qJ;split<;>simp
theorem BS:∀(xs:List ZE)(rs:List Sy),D (xs.foldl mU rs)=D rs
 |[],_=>rfl
 |x::xs,rs=>by rw[List.foldl_cons,BS xs,mU,XB]
theorem XU{w:Wd}{g base:Nat}{a f:Va}{rs:List Sy}(l:sL w g base a f rs)(xs:List ZE)(n:c7 w base 1 wV f (xs.map (·.l)))(t:∀x∈xs,rQ w x.l g x.co x.at_ x.th x.el x.T x.E/\x.at_<D rs)(ab:D rs<=1000000)(al:D xs<=1000000):
 Ca prog 246 #[K g] w λe z=>e=X a/\c7 z base 417 aR a (xs.foldl mU rs)/\w.grownBy z a.ownBlock:=by
 obtain⟨A,L,j,_,_,ac⟩:=n.inM;rw[i1]at j;have N:w.cell? ⟨g,1,J⟩=So f:=l.b.cell 1;rw[j]at N;obtain⟨H,C,B⟩:=r6 l (show c7 w base 1 wV (Z A (D xs) L) (xs.map (·.l)) by rw[<-j];exact n) t;clear n ac t l;go_wp2;go_loopg [4,10] (D xs) (λP ar ad wr=>∃k:Nat,k<=D xs/\D xs-k<=P/\ad=I M k/\sL wr g base a f ((xs.take k).foldl mU rs)/\w.grownBy wr a.ownBlock);exact⟨0,c6 _,a8,rfl,H.O,World.grownBy.refl w _⟩;obtain⟨k,ak,aj,rfl,c,d⟩:=hrel;by_cases m:k<D xs
 ·have T:(k:Int)<D xs:=a8;have W:k<D (xs.map (·.l)):=by simpa using m
  have aa:=g3 m;obtain⟨u,R⟩:=B _ aa;have y:(xs.take (k+1)).foldl mU rs=mU ((xs.take k).foldl mU rs) xs[k]:=by rw[g2 m,List.foldl_append];rfl
  have v:D ((xs.take k).foldl mU rs)=D rs:=BS _ _;have Oq:=C.apart H.o e6 d;obtain⟨ae,ah,s,_,_,p⟩:=Oq.inM;rw[i1]at s;cases s;obtain⟨b,o,rfl,ai⟩:=p.rows e6 G6;have i:=p.l W (r:=0) rfl;obtain⟨h,F⟩:=j0 (a1H c xs[k].l xs[k].co xs[k].at_ xs[k].th xs[k].el xs[k].T xs[k].E (u.row H.o d) (by rw[v];exact R) (by rw[v];exact ab)) y;have q:qJ ((xs.take k).foldl mU rs) xs[k].at_ xs[k].co xs[k].T xs[k].E=mU ((xs.take k).foldl mU rs) xs[k]:=rfl;rw[q]at h;simp only[List.getElem_map]at i;generalize xs[k]=x at*;obtain⟨⟨am,an,ao,ap,aq⟩,co,ag,th,el,af,E⟩:=x;simp only[wV,a09,j8,Nat.mul_one]at i;dsimp only at h;clear y Oq p u q;go_wp2_with fail;apply h.mono;rintro e au⟨rfl,Q,S⟩;go_wp2;go_roundg (D xs-(k+1));exact⟨k+1,a8,a8,o3,by rw[F.O];exact Q,d.trans S⟩;omega
 obtain rfl:k=D xs:=a8;rw[List.take_length]at c;have T:Dc ((D xs:Int)<D xs)=Bf:=i3;have i:wr.cell? ⟨g,0,J⟩=So a:=c.b.cell 0;have G:=a6 c;clear c;go_wp2;go_ret;exact⟨rfl,G.o,d⟩
def T5:List It->List Sy
 |[]=>[]
 | .put s::r=>s::T5 r
 | .jmp c k _ _::r=>⟨c,k,0,0⟩::T5 r
 | .here _::r=>T5 r
def N4:List It->Nat->List (Nat×Int×Nat×Nat)
 |[],_=>[]
 | .put _::r,n=>N4 r (n+1)
 | .jmp c _ t e::r,n=>(n,c,t,e)::N4 r (n+1)
 | .here _::r,n=>N4 r n
def OR(a:Nat->Nat)(r:List Sy)(j:Nat×Int×Nat×Nat):List Sy:=qJ r j.1 j.2.1 (a j.2.2.1) (a j.2.2.2)
theorem iO(a:Nat->Nat):∀(d:List It)(pre:List Sy),(N4 d (D pre)).foldl (OR a) (pre++T5 d)=pre++d.flatMap (a1p a)
 |[],pre=>by simp[N4,T5]
 | .put s::r,pre=>by have b:=iO a r (pre++[s]);rw[g1,List.length_singleton,p6,p6]at b;exact b
 | .here x::r,pre=>iO a r pre
 | .jmp c k t e::r,pre=>by
  have b:=iO a r (pre++[⟨c,k,(a t:Int),if c=5 then 0 else(a e:Int)⟩]);rw[g1,List.length_singleton,p6,p6]at b;have f:OR a (pre++T5 (.jmp c k t e::r)) (D pre,c,t,e)=pre++([⟨c,k,(a t:Int),if c=5 then 0 else(a e:Int)⟩]++T5 r):=by
   unfold OR qJ;have g:(pre++T5 (.jmp c k t e::r))[D pre]? =So ⟨c,k,0,0⟩:=by rw[List.getElem?_append_right (a7 _),Nat.sub_self];rfl
   rw[g];show(pre++(⟨c,k,0,0⟩::T5 r)).set (D pre) ⟨c,k,(a t:Int),if c=5 then 0 else(a e:Int)⟩=_;rw[List.set_append_right _ _ (a7 _),Nat.sub_self];rfl
  show((D pre,c,t,e)::N4 r (D pre+1)).foldl (OR a) _=_;rw[List.foldl_cons,f];exact b
theorem a1x(T:List It):(N4 T 0).foldl (OR λx=>Z3 T 0 x 0) (T5 T)=O5 T:=iO _ T []
theorem Y9:∀A B:List It,T5 (A++B)=T5 A++T5 B
 |[],B=>rfl
 | .put s::A,B=>by simp[T5,Y9 A B]
 | .jmp c k t e::A,B=>by simp[T5,Y9 A B]
 | .here x::A,B=>by simp[T5,Y9 A B]
theorem G0:∀A:List It,D (T5 A)=r0 A
 |[]=>rfl
 | .put s::A=>by simp[T5,r0,It.n,G0 A];omega
 | .jmp c k t e::A=>by simp[T5,r0,It.n,G0 A];omega
 | .here x::A=>by simp[T5,r0,It.n,G0 A]
theorem L0:∀(A B:List It)(n:Nat),N4 (A++B) n=N4 A n++N4 B (n+r0 A)
 |[],B,n=>rfl
 | .put s::A,B,n=>by simp only[List.cons_append,N4,L0 A B (n+1),r0,It.n];congr 2;omega
 | .jmp c k t e::A,B,n=>by simp only[List.cons_append,N4,L0 A B (n+1),r0,It.n];congr 3;omega
 | .here x::A,B,n=>by simp only[List.cons_append,N4,L0 A B n,r0,It.n];congr 2;omega
section
structure JZ where
 l:ZN
 at_:Nat
 c:Int
 t:Nat
 e:Nat
def JZ.num(z:JZ):Nat×Int×Nat×Nat:=(z.at_,z.c,z.t,z.e)
structure JB(w:Wd)(g:Nat)(lab:Nat->Nat)(z:JZ):Prop where
 bt:e7 w z.l.bt 325 #[K (lab z.t:Nat)]
 bw:e7 w z.l.bw 321 #[K g]
 ba:e7 w z.l.ba 3 #[I M z.at_]
 bc:e7 w z.l.bc 139 #[I U1 z.c]
 be:e7 w z.l.be 325 #[K (m2 z.c (lab z.e))]
structure WS(w:Wd)(g base:Nat)(vl vt:Va)(T:List It)(lab:Nat->Nat)(N:Nat):Prop where
 wri:sL w g base vl vt (T5 T)
 zs:∃zs:List JZ,zs.map JZ.num=N4 T 0/\c7 w base 1 wV vt (zs.map (·.l))/\∀z∈zs,JB w g lab z
 labs:∀x,x<N->e7 w (lab x) 327 #[I M (Z3 T 0 x 0:Nat)]/\base<=lab x
 inj:∀x y,x<N->y<N->lab x=lab y->x=y
section
variable {w w':Wd} {g base N:Nat} {vl vt:Va} {T:List It} {lab:Nat->Nat} {z:JZ}
theorem JB.tv{S:List Ti}(a:JB w g lab z)(t:Tv base S w w')(b:S.contains 325=Bf/\S.contains 321=Bf/\S.contains 3=Bf/\S.contains 139=Bf):JB w' g lab z:=
 ⟨t.blk a.bt (.inr b.1),t.blk a.bw (.inr b.2.1),t.blk a.ba (.inr b.2.2.1),t.blk a.bc (.inr b.2.2.2),t.blk a.be (.inr b.1)⟩
theorem WS.h(d:WS w g base vl vt T lab N)(x:a9 w w'):WS w' g base vl vt T lab N:=
 ⟨d.wri.h x,let⟨zs,a,b,c⟩:=d.zs;⟨zs,a,b.h x,λz h=>(c z h).tv (base:=0) (S:=[]) (.f x) ⟨rfl,rfl,rfl,rfl⟩⟩,λf e=>⟨(d.labs f e).1.h x,(d.labs f e).2⟩,d.inj⟩
theorem WS.put{f:Va}(d:WS w g base vl vt T lab N)(s:Sy)(k:sL w' g base f vt (T5 T++[s]))(t:Tv base W2 w w'):WS w' g base f vt (T++[.put s]) lab N:=by obtain⟨zs,a,b,c⟩:=d.zs;refine⟨by rw[Y9];exact k,⟨zs,by rw[L0,a];simp[N4],t.own b e6,λz h=>(c z h).tv t e6⟩,λx e=>⟨?_,(d.labs x e).2⟩,d.inj⟩;rw[aX];exact t.blk (d.labs x e).1 (.inr e6)
end
theorem dI:∀(T:List It)(n:Nat),D (N4 T n)<=r0 T
 |[],_=>a7 _
 | .put s::r,n=>by have:=dI r (n+1);simp only[N4,r0,It.n];omega
 | .jmp c k t e::r,n=>by have:=dI r (n+1);simp only[N4,r0,It.n,i4];omega
 | .here x::r,n=>by have:=dI r n;simp only[N4,r0,It.n];omega
theorem a2T{w:Wd}{g base N:Nat}{vl vt:Va}{T:List It}{lab:Nat->Nat}(f:WS w g base vl vt T lab N)(co k:Int)(t e:Nat)(p:r0 T+1<=1000000):
 Ca prog 243 #[K g,I U1 co,I V k,K (lab t:Nat),K (m2 co (lab e))] w λl w'=>l=X (Tp #[])/\∃i j,WS w' g base i j (T++[.jmp co k t e]) lab N/\Tv base W3 w w':=by
 obtain⟨zs,a,b,c⟩:=f.zs;have d:D zs<=r0 T:=by have:=dI T 0;rw[<-a,i1]at this;exact this
 apply(XR f.wri b co k (lab t) (m2 co (lab e)) (by rw[G0];exact p) (by rw[i1];omega)).mono;rintro l w'⟨o,i,j,k1,k2,n,b1,b2,b3,b4,h⟩;refine⟨o,i,j,⟨by rw[Y9];exact k1,⟨zs++[⟨⟨w+2,w,w+4,w+1,w+3⟩,r0 T,co,t,e⟩],?_,by rw[List.map_append];exact k2,λz d=> ?_⟩,λx m=>⟨?_,(f.labs x m).2⟩,f.inj⟩,h⟩;rw[List.map_append,a,L0,Nat.zero_add];rfl;rcases List.mem_append.1 d with d|d
 exact(c z d).tv h e6;rw[List.mem_singleton.1 d];exact⟨b2,n,by rw[G0]at b4;exact b4,b1,b3⟩;rw[aX];exact h.blk (f.labs x m).1 (.inr e6)
def W4:List Ti:=[324,417,1,327]
theorem Tv.more{B:Nat}{S c:List Ti}{w w':Wd}(a:Tv B S w w')(f:∀t,c.contains t=Bf->S.contains t=Bf):Tv B c w w':=
 ⟨a.os,a.tape,a.output,a.size,λb o e d=>a.keep b o e (d.imp id λq=>by cases o<;>first|rfl|exact f _ q)⟩
theorem a2U{w:Wd}{g base N:Nat}{vl vt:Va}{T:List It}{lab:Nat->Nat}(d:WS w g base vl vt T lab N)(x:Nat)(p:x<N):
 Ca prog 244 #[K g,K (lab x:Nat)] w λo w'=>o=X (Tp #[])/\WS w' g base vl vt (T++[.here x]) lab N/\Tv base W4 w w':=by
 obtain⟨zs,a,b,c⟩:=d.zs;obtain⟨i,h⟩:=d.labs x p;apply(XS d.wri (lab x) _ i h).mono;rintro o w'⟨r,k1,k2,j⟩;have t:Tv base W4 w w':= .l j λk l=>by cases l;exact⟨h,_,i,rfl⟩
 have q:Tv base [327] w w':= .l j λk l=>by cases l;exact⟨h,_,i,rfl⟩
 refine⟨r,⟨by rw[Y9];simpa[T5]using k1,⟨zs,by rw[L0,a];simp[N4],q.own b e6,λz s=>(c z s).tv q e6⟩,λf n=>⟨?_,(d.labs f n).2⟩,d.inj⟩,t⟩;rw[aX,Nat.zero_add];show e7 w' (lab f) _ #[I M ((if x=f then r0 T else Z3 T 0 f 0:Nat):Int)];by_cases m:x=f;subst m;rw[if_pos rfl];rw[G0]at k2;exact k2;rw[if_neg m];exact(d.labs f n).1.grown j (λe=>by injection e with e;exact m (d.inj x f p n e.symm))
def wK(T:List It)(N:Nat):Prop:=(∀x∈P5 T,x<N)/\∀j∈N4 T 0,j.2.2.1<N/\j.2.2.2<N
def aP(lab:Nat->Nat)(N b y:Nat):Nat:=if y=N then b else lab y
theorem s9(lab:Nat->Nat)(N b:Nat):aP lab N b N=b:=if_pos rfl
theorem F7(lab:Nat->Nat){N y:Nat}(b:Nat)(h:y<N):aP lab N b y=lab y:=if_neg a8
theorem WS.add{w:Wd}{g base N b:Nat}{vl vt:Va}{T:List It}{lab:Nat->Nat}(f:WS w g base vl vt T lab N)(l:wK T N)(o:e7 w b 327 #[I M 0])(n:base<=b)(m:∀d,d<N->lab d≠b):WS w g base vl vt T (aP lab N b) (N+1):=by
 obtain⟨zs,a,bo,c⟩:=f.zs;refine⟨f.wri,⟨zs,a,bo,λz j=> ?_⟩,λd r=> ?_,λd z r j e=> ?_⟩;have p:z.num∈N4 T 0:=by rw[<-a];exact List.mem_map.2 ⟨z,j,rfl⟩
 obtain⟨i,h⟩:=l.2 _ p;have q:=c z j;refine⟨?_,q.bw,q.ba,q.bc,?_⟩;rw[F7 lab b (show z.t<N from i)];exact q.bt;rw[F7 lab b (show z.e<N from h)];exact q.be;by_cases s:d=N;subst s;rw[s9,iC T 0 d 0 (λk=>by have:=l.1 d k;omega)];exact⟨o,n⟩;rw[F7 lab b a8];exact f.labs d a8;by_cases i:d=N;by_cases h:z=N;omega;rw[i,s9,F7 lab b a8]at e;exact absurd e.symm (m z a8);by_cases h:z=N;rw[h,s9,F7 lab b a8]at e;exact absurd e (m d a8);rw[F7 lab b a8,F7 lab b a8]at e;exact f.inj d z a8 a8 e
theorem WS.label{w w':Wd}{g base N b:Nat}{vl vt:Va}{T:List It}{lab:Nat->Nat}(a:WS w g base vl vt T lab N)(c:wK T N)(x:a9 w w')(d:e7 w' b 327 #[I M 0])(f:w<=b):WS w' g base vl vt T (aP lab N b) (N+1):=
 (a.h x).add c d (b6 a.wri.hs f) λi h e=>by have:=(a.labs i h).1.lt;omega
end
theorem BR(a:List It)(b:Nat->Nat):∀(zs:List JZ)(rs:List Sy),(zs.map λz=>(⟨z.l,z.c,z.at_,b z.t,b z.e,(Z3 a 0 z.t 0:Nat),(Z3 a 0 z.e 0:Nat)⟩:ZE)).foldl mU rs=(zs.map JZ.num).foldl (OR λx=>Z3 a 0 x 0) rs
 |[],_=>rfl
 |z::zs,rs=>BR a b zs _
theorem nR:∀(T:List It)(n:Nat),∀j∈N4 T n,j.1<n+r0 T
 | .put s::r,n,j,h=>by have:=nR r (n+1) j h;simp only[r0,It.n];omega
 | .here x::r,n,j,h=>by have:=nR r n j h;simp only[r0,It.n];omega
 | .jmp c k t e::r,n,j,h=>by
  rcases List.mem_cons.1 h with h|h
  rw[h];simp only[r0,It.n];omega;have:=nR r (n+1) j h;simp only[r0,It.n];omega
theorem QM{w:Wd}{g base N:Nat}{h s:Va}{d:List It}{i:Nat->Nat}(f:WS w g base h s d i N)(o:wK d N)(p:r0 d<=1000000):
 Ca prog 246 #[K g] w λe l=>e=X h/\c7 l base 417 aR h (O5 d)/\w.grownBy l h.ownBlock:=by
 obtain⟨zs,a,b,c⟩:=f.zs;have t:D zs<=r0 d:=by have:=dI d 0;rw[<-a,i1]at this;exact this
 have:=XU f.wri (zs.map λz=>(⟨z.l,z.c,z.at_,i z.t,i z.e,(Z3 d 0 z.t 0:Nat),(Z3 d 0 z.e 0:Nat)⟩:ZE)) (by rw[List.map_map];exact b) (λx r=>by
  obtain⟨z,k,rfl⟩:=List.mem_map.1 r;have j:z.num∈N4 d 0:=by rw[<-a];exact List.mem_map.2 ⟨z,k,rfl⟩
  obtain⟨m,n⟩:=o.2 _ j;have q:=c z k;refine⟨⟨q.bt,q.bw,q.ba,q.bc,q.be,(f.labs _ m).1,(f.labs _ n).1⟩,?_⟩;rw[G0];have:=nR d 0 _ j;rwa[Nat.zero_add]at this) (by rw[G0];exact p) (by rw[i1];omega)
 rw[BR,a,a1x]at this;exact this
theorem a4P{w:Wd}{g base N:Nat}{l h:Va}{a:List It}{f:Nat->Nat}(d:WS w g base l h a f N)(k:Int)(j:r0 a+1<=1000000):
  Ca prog 245 #[K g,I V k] w λe c=>e=X (Tp #[])/\∃b,WS c g base b h (a++[.put ⟨6,k,0,0⟩]) f N/\Tv base W2 w c:=
 (a1G d.wri k (by rw[G0];exact j)).mono λe c⟨i,b,k1,t⟩=>⟨i,b,d.put _ k1 t,t⟩
theorem a2S{w:Wd}{g base N:Nat}{l h:Va}{a:List It}{f:Nat->Nat}(d:WS w g base l h a f N)(k:Int)(j:r0 a+1<=1000000):
  Ca prog 241 #[K g,I V k] w λe c=>e=X (Tp #[])/\∃b,WS c g base b h (a++[.put ⟨32,k,0,0⟩]) f N/\Tv base W2 w c:=
 (XQ d.wri k (by rw[G0];exact j)).mono λe c⟨i,b,k1,t⟩=>⟨i,b,d.put _ k1 t,t⟩
section
def B4{α:Type}(w:Wd)(e:Ti)(E:s7 α)(v:Va)(xs:List α):Prop:=∃A c,v=Z A (D xs) c/\i5 w A (E.row xs)/\∀a,A=So a->a.spot=J/\∃cs,e7 w a.block e cs
section
variable {α:Type} {w w':Wd} {e:Ti} {E:s7 α} {v:Va} {xs:List α} {A:Option Ad} {n c:Nat}
theorem B4.rd(b:B4 w e E v xs):yH w E v xs:=let⟨A,c,hv,hM,hA⟩:=b;⟨A,c,hv,hM,λa d=>(hA a d).1⟩
theorem B4.h(b:B4 w e E v xs)(x:a9 w w'):B4 w' e E v xs:=let⟨A,c,hv,hM,hA⟩:=b;⟨A,c,hv,hM.h x,λa d=>let⟨h1,cs,h2⟩:=hA a d;⟨h1,cs,h2.h x⟩⟩
theorem B4.kept(k:B4 w e E v xs)(i:∀b cs,e7 w b e cs->e7 w' b e cs):B4 w' e E v xs:=by obtain⟨A,c,p,l,h⟩:=k;refine⟨A,c,p,λj u o=> ?_,λa d=>let⟨h1,cs,h2⟩:=h a d;⟨h1,cs,i _ _ h2⟩⟩;obtain⟨b,q,d,m⟩:=l j u o;obtain⟨_,cs,f⟩:=h _ d;have g:=i _ _ f;refine⟨b,q,d,?_⟩;rw[<-m];unfold e7 at f g;simp only at f g;unfold World.cell?;simp only[g,f]
theorem B4.tv{B:Nat}{S:List Ti}(a:B4 w e E v xs)(t:Tv B S w w')(d:S.contains e=Bf):B4 w' e E v xs:=a.kept λb cs k=>t.blk k (.inr d)
theorem B4.ne{g:Nat}{t:Ti}{cs:Array Va}(b:B4 w e E (Z A n c) xs)(k:e7 w g t cs)(i:e≠t):∀a,A=So a->a.block≠g:=λa f j=>by obtain⟨_,_,l,_,d⟩:=b;cases l;obtain⟨_,m,h⟩:=d a f;exact h.ne k i j
theorem c7.ty{base:Nat}(h:c7 w base e E v xs):B4 w e E v xs:=by
 obtain⟨A,c,f,j,i⟩:=h.rd;refine⟨A,c,f,j,λa b=>⟨i a b,?_⟩⟩;obtain⟨m,o,p,l⟩:=h;rcases l.2 with⟨d,_⟩|⟨g,cap,cur,d,_,k,_⟩
 rw[f]at d;injection d with h1;rw[h1]at b;cases b
 rw[f]at d;injection d with h1;rw[h1]at b;cases b
 exact⟨_,k⟩
theorem B4.nil(w:Wd)(e:Ti)(E:s7 α):B4 w e E (Z J 0 0) []:=⟨J,0,rfl,i5.nil _ _,aL⟩
theorem s7.row_pre(E:s7 α)(xs:List α)(k:Nat):E.row (xs.take k)=(E.row xs).take (D (E.row (xs.take k))):=by
 conv=>rhs;rw[<-E.row_take xs k]
 simp
theorem B4.take(b:B4 w e E (Z A n c) xs)(k a:Nat)(g:k<=D xs):B4 w e E (Z A k a) (xs.take k):=by obtain⟨A,c,h,f,d⟩:=b;cases h;exact⟨A,a,by rw[m4,Nat.min_eq_left g],by rw[E.row_pre];exact f.take _,d⟩
theorem B4.len(a:B4 w e E (Z A n c) xs):n=D xs:=by obtain⟨_,_,b,_⟩:=a;cases b;rfl
theorem B4.mem(a:B4 w e E (Z A n c) xs):i5 w A (E.row xs):=by obtain⟨_,_,b,a,_⟩:=a;cases b;exact a
end
end
section
structure St(w:Wd)(g base:Nat)(T:List It)(lab:Nat->Nat)(N:Nat):Prop where
 ex:∃vl vt,WS w g base vl vt T lab N
 ok:wK T N
section
variable {w w' W:Wd} {g base N:Nat} {T:List It} {lab:Nat->Nat}
theorem St.h(h:St w g base T lab N)(x:a9 w w'):St w' g base T lab N:=let⟨vl,vt,k⟩:=h.ex;⟨⟨vl,vt,k.h x⟩,h.ok⟩
theorem wK.put(h:wK T N)(s:Sy):wK (T++[.put s]) N:=by unfold wK at*;rw[r4,L0];simpa[P5,N4]using h
theorem wK.here(b:wK T N){x:Nat}(c:x<N):wK (T++[.here x]) N:=by
 unfold wK at*;rw[r4,L0];refine⟨λd a=> ?_,by simpa[N4]using b.2⟩;rcases List.mem_append.1 a with a|a
 exact b.1 d a;rw[List.mem_singleton.1 a];exact c
theorem wK.jmp(b:wK T N){c k:Int}{t e:Nat}(f:t<N)(d:e<N):wK (T++[.jmp c k t e]) N:=by
 unfold wK at*;rw[r4,L0];refine⟨by simpa[P5]using b.1,λj a=> ?_⟩;rcases List.mem_append.1 a with a|a
 exact b.2 j a;rw[List.mem_singleton.1 a];exact⟨f,d⟩
theorem wK.more(a:wK T N){c:Nat}(b:N<=c):wK T c:=⟨λx e=>Nat.lt_of_lt_of_le (a.1 x e) b,λj d=>⟨Nat.lt_of_lt_of_le (a.2 j d).1 b,Nat.lt_of_lt_of_le (a.2 j d).2 b⟩⟩
theorem St.label(a:St w g base T lab N)(x:a9 w w'){b:Nat}(c:e7 w' b 327 #[I M 0])(d:w<=b):St w' g base T (aP lab N b) (N+1):=
 let⟨vl,vt,k⟩:=a.ex;⟨⟨vl,vt,k.label a.ok x c d⟩,a.ok.more (Nat.le_succ N)⟩
def Sp(w:Wd)(g base:Nat)(T:List It)(lab:Nat->Nat)(N:Nat)(e:Ending)(w':Wd):Prop:=e= .returned (Tp #[])/\St w' g base T lab N/\Tv base W4 w w'
theorem Tv.w4{S:List Ti}(a:Tv base S w w')(b:S=W2\/S=W3):Tv base W4 w w':=a.more λt q=>by
 simp only[W4,List.contains_cons,Bool.or_eq_false_iff]at q;rcases b with rfl|rfl
 simp only[W2,List.contains_cons,Bool.or_eq_false_iff];exact⟨q.1,q.2.1,q.2.2.2.2⟩;simp only[W3,List.contains_cons,Bool.or_eq_false_iff];exact⟨q.1,q.2.1,q.2.2.1,q.2.2.2.2⟩
theorem a29(a:St w g base T lab N)(s:Sy)(f:r0 T+1<=1000000)(h:a9 w W)(b:Nat)(c:e7 W b 417 #[I U1 s.code,I V s.k,I M s.th,I M s.el]):
  Ca prog 314 #[K g,Z b 1 1] W (Sp w g base (T++[.put s]) lab N):=
 let⟨vl,vt,k⟩:=a.ex
 (qX k.wri s (by rw[G0];exact f) h b c).mono λe w'⟨d,i,k1,t⟩=>⟨d,⟨⟨i,vt,k.put s k1 t⟩,a.ok.put s⟩,t.w4 (.inl rfl)⟩
theorem sY(a:St w g base T lab N)(k:Int)(c:r0 T+1<=1000000):
  Ca prog 245 #[K g,I V k] w (Sp w g base (T++[.put ⟨6,k,0,0⟩]) lab N):=
 let⟨vl,vt,q⟩:=a.ex
 (a4P q k c).mono λe w'⟨b,d,k1,t⟩=>⟨b,⟨⟨d,vt,k1⟩,a.ok.put _⟩,t.w4 (.inl rfl)⟩
theorem jM(a:St w g base T lab N)(k:Int)(c:r0 T+1<=1000000):
  Ca prog 241 #[K g,I V k] w (Sp w g base (T++[.put ⟨32,k,0,0⟩]) lab N):=
 let⟨vl,vt,q⟩:=a.ex
 (a2S q k c).mono λe w'⟨b,d,k1,t⟩=>⟨b,⟨⟨d,vt,k1⟩,a.ok.put _⟩,t.w4 (.inl rfl)⟩
theorem a3a(a:St w g base T lab N)(c k:Int)(t e:Nat)(h:t<N)(d:e<N)(f:r0 T+1<=1000000):
  Ca prog 243 #[K g,I U1 c,I V k,K (lab t:Nat),K (m2 c (lab e))] w (Sp w g base (T++[.jmp c k t e]) lab N):=
 let⟨vl,vt,q⟩:=a.ex
 (a2T q c k t e f).mono λm w'⟨b,j,l,k1,i⟩=>⟨b,⟨⟨j,l,k1⟩,a.ok.jmp h d⟩,i.w4 (.inr rfl)⟩
theorem a3b(a:St w g base T lab N)(x:Nat)(b:x<N):
  Ca prog 244 #[K g,K (lab x:Nat)] w (Sp w g base (T++[.here x]) lab N):=
 let⟨vl,vt,q⟩:=a.ex
 (a2U q x b).mono λe w'⟨c,k1,d⟩=>⟨c,⟨⟨vl,vt,k1⟩,a.ok.here b⟩,d⟩
end
structure J9(w:Wd)(g base:Nat)(T:List It)(lab:Nat->Nat)(N:Nat)(Xa:List It)(N':Nat)(lab':Nat->Nat)(w':Wd):Prop where
 st:St w' g base (T++Xa) lab' N'
 old:∀y,y<N->lab' y=lab y
 tv:Tv base W4 w w'
 le:N<=N'
def Rn(w:Wd)(g base:Nat)(T:List It)(lab:Nat->Nat)(N:Nat)(Xa:List It)(a:Nat)(e:Ending)(w':Wd):Prop:=e= .returned (Tp #[])/\∃b,J9 w g base T lab N Xa a b w'
section
variable {w w1 w' W:Wd} {g base N N1 N2:Nat} {T Xa Xb:List It} {lab lab1 lab2:Nat->Nat}
theorem J9.refl(h:St w g base T lab N):J9 w g base T lab N [] N lab w:=⟨by rw[List.append_nil];exact h,λ_ _=>rfl,Tv.refl _ _ _,a7 _⟩
theorem J9.trans(a:J9 w g base T lab N Xa N1 lab1 w1)(k:J9 w1 g base (T++Xa) lab1 N1 Xb N2 lab2 w'):J9 w g base T lab N (Xa++Xb) N2 lab2 w':=
 ⟨by rw[<-p6];exact k.st,λc b=>(k.old c (Nat.lt_of_lt_of_le b a.le)).trans (a.old c b),a.tv.trans k.tv,b6 a.le k.le⟩
theorem J9.step(h:J9 w g base T lab N Xa N1 lab1 w1)(k:St w' g base (T++Xa++Xb) lab1 N1)(t:Tv base W4 w1 w'):J9 w g base T lab N (Xa++Xb) N1 lab1 w':=h.trans ⟨k,λ_ _=>rfl,t,a7 _⟩
theorem J9.label(a:J9 w g base T lab N Xa N1 lab1 w1)(x:a9 w1 w'){b:Nat}(c:e7 w' b 327 #[I M 0])(d:w1<=b):J9 w g base T lab N Xa (N1+1) (aP lab1 N1 b) w':=by have:=a.trans (Xb:=[]) ⟨by rw[List.append_nil];exact a.st.label x c d,λf e=>if_neg a8,Tv.f x,Nat.le_succ _⟩;rwa[List.append_nil]at this
theorem J9.h(h:J9 w g base T lab N Xa N1 lab1 w1)(x:a9 w1 w'):J9 w g base T lab N Xa N1 lab1 w':=⟨h.st.h x,h.old,h.tv.h x,h.le⟩
end
theorem I5{w:Wd}{g base N:Nat}{T:List It}{lab:Nat->Nat}(a:St w g base T lab N)(c k:Int)(t e:Nat)(h:t<N)(b:e<N)(d:r0 T+1<=1000000){ta:Nat}(i:lab t=ta){pe:p1}(f:m2 c (lab e)=pe):
 Ca prog 243 #[K g,I U1 c,I V k,K ta,K pe] w (Sp w g base (T++[.jmp c k t e]) lab N):=by
 subst i;subst f;exact a3a a c k t e h b d
theorem C8{w:Wd}{g base N:Nat}{T:List It}{lab:Nat->Nat}(a:St w g base T lab N)(x:Nat)(b:x<N){xa:Nat}(c:lab x=xa):
 Ca prog 244 #[K g,K xa] w (Sp w g base (T++[.here x]) lab N):=by
 subst c;exact a3b a x b
theorem T7{c:Int}(h:¬c=5)(b:Nat):m2 c b=So ⟨b,0,J⟩:=if_neg h
theorem WR(b a:Int):r0 ([It.put ⟨32,b,0,0⟩]++if a=4294967295 then []else [.put ⟨84,a,0,0⟩])<=2:=by split<;>simp[r0,It.n]
theorem QL{w:Wd}{g base N:Nat}{T:List It}{lab:Nat->Nat}(j:St w g base T lab N)(c a i:Int)(h:Nat)(R:h<N){fa:Nat}(H:lab h=fa)(S:r0 T+4<=1000000):
 Ca prog 413 #[K g,I V c,I V a,I V i,K fa] w (Rn w g base T lab N (xA N c a i h) (jH N a)):=by
 unfold xA jH;by_cases d:a=0
 ·rw[if_pos d,if_pos d];have C:(a==0)=Bt:=by simp[d]
  clear d;go_in;go_wp2_with fail;exact Bp (Rz rfl _ _ _) rfl ⟨rfl,lab,J9.refl j⟩
 rw[if_neg d,if_neg d];have C:(a==0)=Bf:=by simp[d]
 have s:([It.put ⟨32,c,0,0⟩]++if a=4294967295 then []else [.put ⟨84,a,0,0⟩])++[.jmp 21 i N h]++[.here N]= .put ⟨32,c,0,0⟩::((if a=4294967295 then []else [.put ⟨84,a,0,0⟩])++[.jmp 21 i N h,.here N]):=i3;have G:=WR c a;have o:=a6 (jM j c a8);have l:=J9.refl j;rw[<-s];obtain⟨Xa,b⟩:∃Xa,Xa=[It.put ⟨32,c,0,0⟩]++if a=4294967295 then []else [.put ⟨84,a,0,0⟩]:=⟨_,rfl⟩
 rw[<-b]at G⊢;have A:=a6 b;clear d j s b;go_in;go_wp2_with fail;apply o.mono;rintro e w1⟨rfl,q,t⟩;have k:=l.step (Xb:=[.put ⟨32,c,0,0⟩]) (by simpa using q) t;clear l o q t;go_upto_if 17 with fail;go_cut [] (λQ=>J9 w g base T lab N Xa N lab Q)
 ·have b:=A.O;by_cases f:a=4294967295
  ·have E:(a !=4294967295)=Bf:=by simp[f]
   rw[if_pos f,List.append_nil]at b;clear f;go_wp2;go_meet;rw[b];exact k
  have E:(a !=4294967295)=Bt:=by simp[f]
  rw[if_neg f]at b;obtain⟨y,B⟩:=j0 (a29 k.st ⟨84,a,0,0⟩ (by simp only[l7,List.nil_append,r0,It.n];omega) ((a9.refl w1).alloc (U #[I U1 84,I V a,I M 0,I M 0] 417)) w1 (e7.new w1 _ _)) b;clear f b;go_wp2_with fail;apply y.mono;rintro e aa⟨rfl,f,L⟩;have v:=k.step f L;go_wp2;go_meet;rw[B.O];exact v
 have m:=hcut.label ((a9.refl wc).alloc (U #[I M 0] 327)) (e7.new wc _ _) (a7 _);have p:=a6 (I5 m.st 21 i N h a8 a8 (by rw[l7];omega) (s9 lab N _) ((T7 e6 _).trans (by rw[F7 lab _ a8,H])));go_wp2_with fail;apply p.mono;rintro e ab⟨rfl,r,u⟩;have n:=m.step r u;have z:=a6 (C8 n.st N a8 (s9 lab N _));clear p r u;go_wp2_with fail;apply z.mono;rintro e ac⟨rfl,F,P⟩;have x:=n.step F P;go_wp2;go_end0;exact⟨rfl,_,x⟩
theorem a2Q{w:Wd}{g base N:Nat}{T:List It}{lab:Nat->Nat}(C:St w g base T lab N)(t:p3)(j:kY t.mask)(k:kY t.value)(au:r0 T+8<=1000000):
 Ca prog 328 #[K g,Ag #[I M t.arg,I U6 t.mask,I U6 t.value,I V t.act]] w (Rn w g base T lab N (RE N t) (vH N t)):=by
 obtain⟨arg,a,b,d⟩:=t;dsimp only at j k⊢;have P:=(a9.refl w).alloc (U #[I M arg,I U6 a,I U6 b,I V d] 435);have n:=e7.new w 435 #[I M arg,I U6 a,I U6 b,I V d];have R:=(J9.refl C).h P;generalize l:w.alloc (U #[I M arg,I U6 a,I U6 b,I V d] 435)=w1 at*;have aj:w1=w.heap.size+1:=by rw[<-l];simp
 have o:=n.alloc (U #[I M 0] 327);have h:=R.label ((a9.refl w1).alloc (U #[I M 0] 327)) (e7.new w1 _ _) (a7 _);have aq:=wZ (N+1) (gQ arg 0) (lo a) (lo b) N;have ar:=wZ (jH (N+1) (lo a)) (gQ arg 4) (hi a) (hi b) N;have av:=dJ (N+1) (lo a);have aw:=dJ (jH (N+1) (lo a)) (hi a);have e:(([]++xA (N+1) (gQ arg 0) (lo a) (lo b) N)++xA (jH (N+1) (lo a)) (gQ arg 4) (hi a) (hi b) N)++[.put ⟨6,d,0,0⟩]++[.here N]=RE N ⟨arg,a,b,d⟩:=by simp[RE]
 obtain⟨i,v,x,z,A⟩:=Y2 (QL h.st (gQ arg 0) (lo a) (lo b) N a8 (s9 lab N _) (by rw[List.append_nil];omega)) (a03 arg) (WO arg) (λw=>xB a w j) (λw=>xB b w k);obtain⟨ac,ad,ae⟩:=o.c3;rw[<-e];show Ca prog _ _ w (Rn w g base T lab N _ (jH (jH (N+1) (lo a)) (hi a)));rw[aj]at i h;have y:=a6 l;clear l C j k P n e;generalize gQ arg 0=ak at*;generalize gQ arg 4=H at*;generalize lo a=F at*;generalize hi a=G at*;generalize lo b=an at*;generalize hi b=L at*;generalize xA (N+1) ak F an N=ao at*;generalize jH (N+1) F=N1 at*;generalize E:xA N1 H G L N=ap at*;have ab:=a6 E;clear E;go_in;go_wp2_with fail;apply(v _).mono;rintro e m⟨rfl,rfl⟩;go_wp2_with fail;apply(x _).mono;rintro e m⟨rfl,rfl⟩;go_wp2_with fail;apply(z _).mono;rintro e m⟨rfl,rfl⟩;go_wp2_with fail;apply(A _).mono;rintro e m⟨rfl,rfl⟩;go_wp2_with fail;rw[y.O];apply i.mono;rintro e az⟨rfl,ax,c⟩;have B:=(c.old N a8).trans (s9 lab N _);have p:=h.trans c;have Q:=c.tv.blk o (.inr e6);have s:=a6 (QL p.st H G L N (by have:=c.le;omega) B (by simp only[l7,List.nil_append];omega));clear i v x z A ac ad ae y;go_wp2_with fail;apply s.mono;rintro e ba⟨rfl,ay,f⟩;rw[ab.O]at f;have q:=p.trans f;have ag:=(f.old N (by have:=c.le;omega)).trans B;have af:=(f.tv.blk Q (.inr e6)).cell 3;have u:=a6 (sY q.st d (by simp only[l7,List.nil_append];omega));clear s;go_wp2_with fail;apply u.mono;rintro e bb⟨rfl,ah,al⟩;have r:=q.step ah al;have aa:=a6 (C8 r.st N (by have:=c.le;have:=f.le;omega) ag);clear u af;go_wp2_with fail;apply aa.mono;rintro e bc⟨rfl,ai,am⟩;have S:=r.step ai am;go_wp2;go_end0;exact⟨rfl,_,by simpa using S⟩
theorem a2R{w:Wd}{g base N:Nat}{T:List It}{lab:Nat->Nat}(C:St w g base T lab N)(s f:Int)(o:p1)(c:Nat)(ts:List p3)(E:B4 w 435 y4 (Z o (D ts) c) ts)(p:∀t∈ts,vK t)(y:r0 T+8*D ts+8<=1000000):
 Ca prog 256 #[K g,Ag #[I V s,Z o (D ts) c,I V f]] w (Rn w g base T lab N (zH N ts f) (lI N ts)):=by
 have z:=(a9.refl w).alloc (U #[I V s,Z o (D ts) c,I V f] 254);have A:=e7.new w 254 #[I V s,Z o (D ts) c,I V f];have P:=(J9.refl C).h z;have S:=E.h z;generalize ar:w.alloc (U #[I V s,Z o (D ts) c,I V f] 254)=w1 at*;have ak:=A.cell 1;obtain⟨R,Q⟩:=j0 p y;clear C E p y z;go_wp2;go_loopw [9] (λi wr=>∃(k N1:Nat)(Xa:List It)(lab1:Nat->Nat),k<=D ts/\i=I M k/\r0 Xa<=7*k/\J9 w g base T lab N Xa N1 lab1 wr/\zH N ts f=Xa++zH N1 (ts.drop k) f/\lI N ts=lI N1 (ts.drop k)/\Tv base W4 w1 wr) (λi _=>D ts-(intOf i).toNat);exact⟨0,N,[],lab,c6 _,rfl,a7 _,P,rfl,rfl,.refl _ _ _⟩;obtain⟨k,N1,Xa,lab1,ap,rfl,ao,G,a,d,x⟩:=hrel;have y:=Q.O;by_cases n:k<D ts
 ·have m:=S.tv x e6;obtain⟨b,au,rfl,an⟩:=m.mem.rows e6 a8;have ae:=m.mem.l n (r:=0) rfl;have af:=m.mem.l n (r:=1) rfl;have ag:=m.mem.l n (r:=2) rfl;have ah:=m.mem.l n (r:=3) rfl;have p:=R _ (g3 n);rw[List.drop_eq_getElem_cons n]at a d;change zH N ts f=Xa++(RE N1 ts[k]++if ts[k].mask=0 then []else zH (vH N1 ts[k]) (ts.drop (k+1)) f)at a;change lI N ts=if ts[k].mask=0 then vH N1 ts[k]else lI (vH N1 ts[k]) (ts.drop (k+1))at d
  simp only[y4,j8]at ae af ag ah;have aq:=RD N1 ts[k];generalize ts[k]=t at*;have F:=(a9.refl wr).alloc (U #[I M t.arg,I U6 t.mask,I U6 t.value,I V t.act] 435);have L:=e7.new wr 435 #[I M t.arg,I U6 t.mask,I U6 t.value,I V t.act];have q:=G.h F;obtain⟨v,h,j⟩:=r6 (a2Q q.st t p.2.1 p.2.2.1 (by rw[l7];omega)) a d;clear a d m;go_wp2_with fail;apply v.mono;rintro e aj⟨rfl,ad,u⟩;have B:=q.trans u;have aa:=(x.h F).trans u.tv;have am:=(u.tv.blk L (.inr e6)).cell 1;by_cases l:t.mask=0
  ·have ab:(t.mask==0)=Bt:=by simp[l]
   have a:=h.O;have d:=j.O;rw[if_pos l,List.append_nil]at a;rw[if_pos l]at d;obtain⟨h,j⟩:=j0 a d;clear l a d;go_wp2_with fail;exact Bp (Rz rfl _ _ _) rfl ⟨rfl,_,by rw[h.O,j.O];exact B⟩
  have ab:(t.mask==0)=Bf:=by simp[l]
  have a:=h.O;have d:=j.O;rw[if_neg l,<-p6]at a;rw[if_neg l]at d;obtain⟨h,j⟩:=j0 a d;clear l a d;go_wp2;go_roundw;exact⟨k+1,_,_,ad,a8,o3,by rw[l7];omega,B,h.O,j.O,aa⟩;simp[intOf];omega
 obtain rfl:k=D ts:=a8;rw[List.drop_length]at a d;have H:=x.blk A (.inr e6);have al:=H.cell 2;obtain⟨v,h,j⟩:=r6 (sY G.st f (by rw[l7];omega)) a d;clear a d;go_wp2_with fail;apply v.mono;rintro e aj⟨rfl,ac,ai⟩;have q:=G.step ac ai;go_wp2;go_end0;exact⟨rfl,_,by rw[h.O,j.O];exact q⟩
end
end Go.Proofs.YtcljlejgllkcjaaGreat
