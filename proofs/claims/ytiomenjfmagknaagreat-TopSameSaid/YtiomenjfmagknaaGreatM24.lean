/- The law TopSame: for every input the call returns true, and each argument reads afterwards as it read before. No condition. -/
import Derived.Test.YtiomenjfmagknaaGreatM23
import Derived.Test.YtiomenjfmagknaaGreatRows
set_option maxHeartbeats 12000000
set_option linter.all false
set_option maxRecDepth 100000
namespace Go.Proofs.YtiomenjfmagknaaGreat
open Go.RowKit Go.ChangeShapes Go.WideShapes Go.Proofs.Tryz Go.Proofs.YtiomenjfmagknaaGreat.Tryz
open Bool renaming true→Bt,false→Bf
open Decidable renaming decide→Dc
open Ending renaming returned→X
open Go renaming World→Wd,Value→Va,Calls→Ca,callsIn_wide→Cw,bodyPost_ret→Bp,TypeId→Ti,Addr→Ad,callsIn_of_wp_marks→Cm,callsIn_of_wp→Co,CallsIn→Ci,rounds_succ→Rs
open Go.Proofs renaming enters_of→Eo
open IntKind renaming i64→M,u32→V,u64→U6,u8→U8
open IntWalk renaming i64_in→a37
open Lib renaming hid→a6
open List renaming length_append→a2e,range→q5,length_cons→a3W,getElem_mem→a30,length_map→a32,take_succ_eq_append_getElem→a4a,length_take→a4C,map_append→a4F
open Nat renaming le_refl→a7,le_trans→c8,reduceAdd→l9,zero_le→i5,add_zero→a4z,reduceSub→a4D
open Obj renaming cells→U
open Operand renaming tmp→Tm
open Option renaming none→J,some→So
open Value renaming int→I,slice→Z,string→Y,pointer→K,bool→O,func→Fc,tuple→Tp,agg→Ag
def ZE(u:a1f):i0:=⟨u.name,0,2,⟨#[]⟩⟩
theorem FN(g base:Nat)(p:i1)(m o r s ah h:Va)(u:a1f)(ag:Va)(y:Bool)(af:Va)(l:List i0)(w:Wd)(ba:b9 w g 58 (bN p m o r s ah h u ag y af))
  (bn:p.small) (bj:0≤p.fm∧0≤p.lm) (bc:R3 w p m o r s) (be:y9 p=Bf) (bb:e4 w base 73 g6 h l) (ae:base≤w) (cd:l.length≤900000) (bd:base≤g):
  Ca prog 14 #[K g] w fun e ai=>e=X (O Bf)∧∃bi,b9 ai g 58 (bN p m o r s (Z J 0 0) bi u ag y af)∧e4 ai base 73 g6 bi (l++[ZE u])∧Tv base [73,58] w ai:=by
 refine(Cw (n:=1)).1 ?_;have am:=a6 (fun c(a:a9 w c)=>EW p m o r s y c bn bj (bc.h a) be);unfold i4 at am;obtain⟨f,an⟩:=i6 ba bb;clear ba bc bb be;refine Co func14 rfl trivial ?_ rfl;simp only[ntmps14,uE,l9,a4D];gi_wp2_with fail
 refine K0 (fun _=>trivial) rfl [.is ?Bl,.is ?Bm,.is ?Bn,.is ?Bo,.is (.agg #[m,I U8 p.fm,o,I V p.dy,I U8 p.lm,r,s,I U8 p.am,I U6 p.sp,O p.we,O p.pe,O p.rt,O p.np]),.is ?Bp,.is ?Bq,.is ?Br,.is (O y),.is (Tp #[Z J 0 0,I M 2]),.is ?Bs,.is ?Bt,.is ?Bu,.is ?Bv,.is ?Bw] (by kernel_rfl) ?Bx ?Aa ⟨?Ab,?Ac,?Ad,?Ae,?Af,?Ag,?Ah,?Ai,?Aj,?Ak,?Al,?Am,?An,?Ao,?Ap,trivial⟩ ?Aq
 case Aa=>intro x;simp only[e6,Act.put,uL,l9]<;>rfl
 case Ab|Ac|Ad|Ae|Af|Ag|Ah|Ai|Aj|Ak|Al|Am|An|Ao|Ap=>
  intro x c a;simp only[e5,g1,uV];repeat(intro d;try simp only[d])
  have ce:c.cell? ⟨g,0,J⟩=So m:=(f.h a).cell 0;have cf:c.cell? ⟨g,1,J⟩=So (I U8 p.fm):=(f.h a).cell 1;have ck:c.cell? ⟨g,2,J⟩=So o:=(f.h a).cell 2;have cm:c.cell? ⟨g,3,J⟩=So (I V p.dy):=(f.h a).cell 3;have cn:c.cell? ⟨g,4,J⟩=So (I U8 p.lm):=(f.h a).cell 4;have co:c.cell? ⟨g,5,J⟩=So r:=(f.h a).cell 5;have cp:c.cell? ⟨g,6,J⟩=So s:=(f.h a).cell 6;have cq:c.cell? ⟨g,7,J⟩=So (I U8 p.am):=(f.h a).cell 7;have cr:c.cell? ⟨g,8,J⟩=So (I U6 p.sp):=(f.h a).cell 8;have cs:c.cell? ⟨g,9,J⟩=So (O p.we):=(f.h a).cell 9;have cg:c.cell? ⟨g,10,J⟩=So (O p.pe):=(f.h a).cell 10;have ch:c.cell? ⟨g,11,J⟩=So (O p.rt):=(f.h a).cell 11;have ci:c.cell? ⟨g,12,J⟩=So (O p.np):=(f.h a).cell 12;have cj:c.cell? ⟨g,19,J⟩=So (O y):=(f.h a).cell 19;gi_wp2_with(refine⟨trivial,?_⟩;gi_at_call 22;apply((Cw (n:=0)).2 (am c a)).mono;rintro e bv⟨rfl,bo⟩)
  refine a0e ?_ rfl (by first|exact bo|exact a9.refl _);rfl
 case Aq=>
  intro x c a;simp only[l8,e5,j8,uV];intro z A D E F k G H L N B C i j au;simp only[z,A,D,E,F,k,G,H,L,N,B,C,i,j,au];clear z A D E F k G H L N B C i j au;have aj:=f.h a;have aq:=an.h a;obtain⟨al,S,ao⟩:=p7 aj aq a;have ap:∀ad,GA 73 g6 h.ownBlock base h l [ZE u] c ad→b9 ad g 58 (bN p m o r s ah h u ag y af):=fun ad bk=>al.grown bk.g (fun e=>S.ne al (by decide) e.symm)
  have ab:=a6 ap;have bm:l.length+1≤1000000:=by omega
  have bl:base≤c.heap.size:=c8 ae a.size;clear aj aq ap a f an;gi_wp2_with fail
  refine s8 (R:=(GA 73 g6 h.ownBlock base h l [ZE u])) (fun _=>trivial) rfl [.is ?By,.is ?Bz,.is ?Ca,.is ?Cb,.is ?Cc,.is h,.is ?Cd,.is ?Ce,.is ?Cf,.is ?Cg,.is (Y u.name),.is ?Ch,.is (.agg #[Y u.name,I M 0,I M 2,Y ⟨#[]⟩]),(D4 #[Y u.name,I M 0,I M 2,Y ⟨#[]⟩]),(D1 w),.is ?Ci,.is ?Cj,.is ?Ck] (by kernel_rfl) ?Cl ?Ar ⟨?As,?At,?Au,?Av,?Aw,?Ax,?Ay,?Az,?Ba,?Bb,?Bc,?Bd,?Be,?Bf,?Bg,?Bh,?Bi,?Bj,trivial⟩ _ rfl rfl ?Bk
  case Ar=>intro x;simp only[e6,Act.put,uL,l9]<;>rfl
  case As|At|Au|Av|Aw|Ax|Ay|Az|Ba|Bb|Bc|Bd|Be|Bh|Bi|Bj=>
   intro x c a;simp only[e5,g1,uV,D4,D1];repeat(intro d;try simp only[d])
   have bw:c.cell? ⟨g,14,J⟩=So h:=(ab c a).cell 14;have bx:c.cell? ⟨g,15,J⟩=So (Y u.name):=(ab c a).cell 15;gi_wp2_with fail
   refine a0e ?_ rfl (fT.refl _);rfl
  case Bf=>
   intro x c a;simp only[e5,g1,uV,D4,D1];intro i;simp only[i];gi_wp2_with fail
   refine a0e ?_ rfl (GA.f ((a9.refl c).alloc _));exact⟨c,rfl,b9.new _ _ _,fun e=>by have:=((a.old S.out).lt e).2;omega⟩
  case Bg=>
   intro x c a;simp only[e5,g1,uV,D4,D1];rintro k⟨az,j,bf,bp⟩;simp only[k,j];gi_wp2_with(gi_at_builtin;go_loud (refine o9 rfl _ _ 41 73 rfl lX base h l rfl (a.old S.out) az 1 1 [ZE u] rfl rfl (h9.f bf rfl) bm (c8 bl a.g.size) ?_;intro ct bv bq br bs bt bu))
   refine a0e ?_ rfl (⟨br,fun _=>bs,bt⟩);exact⟨bq,bu.imp id (fun q b ae=>by have:=q b ae;have:=a.g.size;have:=ao.size;omega)⟩
  case Bk=>
   intro x c a;simp only[l8,e5,g1,uV,D4,D1];rintro z A D E F k G H L N B C i⟨az,j,bf,bp⟩⟨P,bg⟩ av aw ax;simp only[z,A,D,E,F,k,G,H,L,N,B,C,i,j,av,aw,ax];clear z A D E F k G H L N B C i j av aw ax;obtain⟨Q,W,T,ay⟩:=P.f;rw[ay]at P bg;have v:=ab _ a;have ca:c.cell? ⟨g,14,J⟩=So h:=v.cell 14;have cc:=v.frozen 14;have t:=v.f 14 (Z Q W T);have cb:=t.frozen 13;have bz:(c.setCell ⟨g,14,J⟩ (Z Q W T)).cell? ⟨g,13,J⟩=So ah:=t.cell 13;have ac:=P.kept (x4 _ g 14 (Z Q W T)) (.inr (P.ne v (by decide)));have ar:=ac.kept (x4 _ g 13 (Z J 0 0)) (.inr (ac.ne t (by decide)));have ak:=t.f 13 (Z J 0 0);have bh:Tv base [73,58] w ((c.setCell ⟨g,14,J⟩ (Z Q W T)).setCell ⟨g,13,J⟩ (Z J 0 0)):=(((Tv.f ao.out).trans (.ofOwn S a.g (a7 _) (by decide))).trans (.r v bd (by decide) 14 _)).trans (.r t bd (by decide) 13 _);have aa:=a6 (And.intro ak (And.intro ar bh));clear ac ar ak bh t v P bg;simp only[ay];gi_wp2_with fail
   go_ret;exact⟨rfl,_,aa.1,aa.2.1,aa.2.2⟩
def a5Q(w:Wd)(q:List J1×List i0)(e:Ending)(c:Wd):Prop:=∃p d f g h b a,e=X (Ag (aF p d f g h b a))∧eF c b q.1∧e4 c w 73 g6 a q.2∧a9 w c∧∀v∈(aF p d f g h b a).toList,v.oneCell'=Bt
theorem oU(w:Wd):eF w (Z J 0 0) []:=⟨[],s7.nil _ _ _,fun x h=>(by cases h),rfl⟩
theorem EV{w a:Wd}{v:Va}{l:List J1}{g:Nat}{cs:Array Va}(c:eF w v l)(k:b9 w g 43 cs)(q:w.grownBy a (So g)):eF a v l:=
 let⟨xs,h1,h2,h3⟩:=c.ex
 ⟨xs,h1.kept fun b cs r=>r.grown q (fun e=>by injection e with e;exact r.ne k (by decide) e),fun f d=>(h2 f d).kept fun b cs r=>r.grown q (fun e=>by injection e with e;exact r.ne k (by decide) e),h3⟩
theorem a3w{l:List m6}(h:r0 (i9 l).2=Bf):jV (i9 l).1:=by
 have k:=(bG l (M7 2147483648,[]) (wQ _)).1;unfold i9 at h⊢;split
 ·rename_i q
  rw[if_pos q]at h;rw[h]at q;cases q
 ·exact k
theorem pI(u:PF)(n:Option Ad)(c:Nat)(ds:List PF)(l:Bool)(w:Wd)(cc:h9 w n (q7.row (ds.map (·.1))))(ck:F7 w u)(ce:∀p∈ds,F7 w p)(ch:IN u)(cg:∀p∈ds,IN p)(dr:ds.length≤1000000)(em:(l4 u).data.length+j1 (ds.map l4)≤40000):
  Ca prog 6 #[o4 u.1,Z n ds.length c,O l] w (a5Q w (z6 l (l4 u) (ds.map l4))):=by
 obtain⟨dm,dn,cf⟩:=pX (l4 u) (ds.map l4);have bg:=(b9.new w 24 #[Y u.1.name,I M u.1.dir,Z u.1.A u.1.n u.1.c]).alloc (U #[Z J 0 0,I U8 0,Z J 0 0,I V 0,I U8 0,Z J 0 0,Z J 0 0,I U8 0,I U6 0,O Bf,O Bf,O Bf,O Bf,Z J 0 0,Z J 0 0] 43);have ar:=(((a9.refl w).alloc (U #[Y u.1.name,I M u.1.dir,Z u.1.A u.1.n u.1.c] 24)).alloc (U #[Z J 0 0,I U8 0,Z J 0 0,I V 0,I U8 0,Z J 0 0,Z J 0 0,I U8 0,I U6 0,O Bf,O Bf,O Bf,O Bf,Z J 0 0,Z J 0 0] 43)).alloc (U #[Z J 0 0,I U8 0,Z J 0 0,I V 0,I U8 0,Z J 0 0,Z J 0 0,I U8 0,I U6 0,O Bf,O Bf,O Bf,O Bf,Z J 0 0,Z J 0 0,Y u.1.name,I M u.1.dir,Z u.1.A u.1.n u.1.c,Z n ds.length c,O l,Z J 0 0] 58);have bh:b9 (((w.alloc (U #[Y u.1.name,I M u.1.dir,Z u.1.A u.1.n u.1.c] 24)).alloc (U #[Z J 0 0,I U8 0,Z J 0 0,I V 0,I U8 0,Z J 0 0,Z J 0 0,I U8 0,I U6 0,O Bf,O Bf,O Bf,O Bf,Z J 0 0,Z J 0 0] 43)).alloc (U #[Z J 0 0,I U8 0,Z J 0 0,I V 0,I U8 0,Z J 0 0,Z J 0 0,I U8 0,I U6 0,O Bf,O Bf,O Bf,O Bf,Z J 0 0,Z J 0 0,Y u.1.name,I M u.1.dir,Z u.1.A u.1.n u.1.c,Z n ds.length c,O l,Z J 0 0] 58)) (w+1) 43 #[Z J 0 0,I U8 0,Z J 0 0,I V 0,I U8 0,Z J 0 0,Z J 0 0,I U8 0,I U6 0,O Bf,O Bf,O Bf,O Bf,Z J 0 0,Z J 0 0]:=(b9.b (by simp)).alloc _;have bf:b9 (((w.alloc (U #[Y u.1.name,I M u.1.dir,Z u.1.A u.1.n u.1.c] 24)).alloc (U #[Z J 0 0,I U8 0,Z J 0 0,I V 0,I U8 0,Z J 0 0,Z J 0 0,I U8 0,I U6 0,O Bf,O Bf,O Bf,O Bf,Z J 0 0,Z J 0 0] 43)).alloc (U #[Z J 0 0,I U8 0,Z J 0 0,I V 0,I U8 0,Z J 0 0,Z J 0 0,I U8 0,I U6 0,O Bf,O Bf,O Bf,O Bf,Z J 0 0,Z J 0 0,Y u.1.name,I M u.1.dir,Z u.1.A u.1.n u.1.c,Z n ds.length c,O l,Z J 0 0] 58)) (w+1+1) 58 (bN (M7 0) (Z J 0 0) (Z J 0 0) (Z J 0 0) (Z J 0 0) (Z J 0 0) (Z J 0 0) u.1 (Z n ds.length c) l (Z J 0 0)):=b9.b (by simp);have C:=a6 (TM (w+1+1) (M7 0) _ _ _ _ _ _ u n c ds l _ _ bf dr ch cg fun ee dk=>by
  have e:=ar.grown dk (fun k e=>by cases e;omega);exact⟨cc.h e,ck.h e,fun p dt=>(ce p dt).h e⟩)
 have bq:=a6 (show(((w.alloc (U #[Y u.1.name,I M u.1.dir,Z u.1.A u.1.n u.1.c] 24)).alloc (U #[Z J 0 0,I U8 0,Z J 0 0,I V 0,I U8 0,Z J 0 0,Z J 0 0,I U8 0,I U6 0,O Bf,O Bf,O Bf,O Bf,Z J 0 0,Z J 0 0] 43)).alloc (U #[Z J 0 0,I U8 0,Z J 0 0,I V 0,I U8 0,Z J 0 0,Z J 0 0,I U8 0,I U6 0,O Bf,O Bf,O Bf,O Bf,Z J 0 0,Z J 0 0,Y u.1.name,I M u.1.dir,Z u.1.A u.1.n u.1.c,Z n ds.length c,O l,Z J 0 0] 58)).heap.size=w.heap.size+3 by simp);have cd:z6 l (l4 u) (ds.map l4)=if(l5 (l4 u) (ds.map l4)).2.length=0 then(if r0 (i9 (l5 (l4 u) (ds.map l4)).1).2 then([],(i9 (l5 (l4 u) (ds.map l4)).1).2)else if y9 (i9 (l5 (l4 u) (ds.map l4)).1).1 then(z8 l (i9 (l5 (l4 u) (ds.map l4)).1).1,(i9 (l5 (l4 u) (ds.map l4)).1).2)else([],(i9 (l5 (l4 u) (ds.map l4)).1).2++[ZE u.1]))else([],(l5 (l4 u) (ds.map l4)).2):=rfl
 obtain⟨R,ai⟩:∃R,R=z6 l (l4 u) (ds.map l4):=⟨_,rfl⟩;rw[←ai];rw[cd]at ai;obtain⟨an,bp,bi⟩:=p7 ai ar bh;clear cc ck ce ch cg bh bf ar ai cd;obtain⟨⟨S,av⟩,ci⟩:∃q,q=l5 (l4 u) (ds.map l4):=⟨_,rfl⟩;rw[←ci]at C an dm dn cf;clear ci;dsimp only at*;have ef:=Eo (P:=prog) func12 (by kernel_rfl) rfl;have eg:=Eo (P:=prog) func13 (by kernel_rfl) rfl;have eh:=Eo (P:=prog) func14 (by kernel_rfl) rfl;have ei:∀(g:Nat)(W:Wd),(Instr.index 59 (Ag #[Fc (.func 12) #[K (So ⟨g,0,J⟩)] #[],Fc (.func 13) #[K (So ⟨g,0,J⟩)] #[],Fc (.func 14) #[K (So ⟨g,0,J⟩)] #[]]) (I M 0)).run prog W= .ok (Fc (.func 12) #[K (So ⟨g,0,J⟩)] #[]) W:=fun g W=>by kernel_rfl
 have ej:∀(g:Nat)(W:Wd),(Instr.index 59 (Ag #[Fc (.func 12) #[K (So ⟨g,0,J⟩)] #[],Fc (.func 13) #[K (So ⟨g,0,J⟩)] #[],Fc (.func 14) #[K (So ⟨g,0,J⟩)] #[]]) (I M 1)).run prog W= .ok (Fc (.func 13) #[K (So ⟨g,0,J⟩)] #[]) W:=fun g W=>by kernel_rfl
 have ek:∀(g:Nat)(W:Wd),(Instr.index 59 (Ag #[Fc (.func 12) #[K (So ⟨g,0,J⟩)] #[],Fc (.func 13) #[K (So ⟨g,0,J⟩)] #[],Fc (.func 14) #[K (So ⟨g,0,J⟩)] #[]]) (I M 2)).run prog W= .ok (Fc (.func 14) #[K (So ⟨g,0,J⟩)] #[]) W:=fun g W=>by kernel_rfl
 unfold o4;obtain⟨bw,bx,bz⟩:=bg.c3;clear bg;go_in;go_wp2_with fail
 refine wp_loop_rounds 4 ?_;rw[Rs];by_cases aj:av.length=0
 ·have au:Dc (av.length=0)=Bt:=by simp[aj]
  rw[au]at C;have h:=an.out;rw[if_pos aj]at h;have bl:=a6 h;clear h;go_wp2_with fail
  apply C.mono;rintro e bd⟨eb,ec,rfl,ae,O1,D,G⟩;have ah:=bp.grown G (fun k e=>by cases e;omega);have ag:=bi.grown G (fun e=>by injection e with e;omega);have dw:=G.size;rw[bq.out]at dw;obtain⟨cr,dc,rfl⟩:=O1.b;obtain⟨N,bo,bn⟩:=p7 (FM (w+1+1) (M7 0) _ _ _ _ _ _ u.1 (Z n ds.length c) l cr dc S bd ae (by omega) O1.i.1 (fun a dl=>by have:=cf a dl;omega) (by omega)) ah ag;clear ah ag ae O1 D bw bx bz C;go_wp2_with fail
  rw[Rs];cases aa:r0 (i9 S).2
  ·have y:=a3w aa
   rw[aa]at N;have h:=bl.out;rw[aa,if_neg (by decide)]at h;have bm:=a6 h;clear h;have el:=T1 S;generalize i9 S=aw at*;obtain⟨q,cm⟩:=aw;dsimp only at*;go_wp2_with fail
   apply N.mono;rintro e am⟨ay,az,ba,bb,bc,rfl,z,s,r,H⟩;have F:=bo.grown H (fun k e=>by cases e;omega);have E:=bn.grown H (fun e=>by injection e with e;omega);have en:=H.size;have dp:∀x∈q.ar,0≤x∧x<6:=fun x du=>by
    have:=y.a.m x du;simp only[lK,List.mem_cons,List.not_mem_nil,or_false]at this;omega
   clear N;go_wp2_with fail
   rw[Rs];cases ak:y9 q
   ·have af:=a6 (FN (w+1+1) w q ay az ba bb _ bc u.1 (Z n ds.length c) l _ cm am z y.small ⟨y.fm,y.lm⟩ s.rd ak (r.mono (by omega)) (by omega) (by omega) (by omega))
    have h:=bm.out;rw[ak,if_neg (by decide)]at h;obtain⟨o,ao,aq⟩:=p7 h E F;clear h z s r F E;go_wp2_with fail
    apply af.mono;rintro e i⟨rfl,ff,B,br,ax⟩;have cy:=ax.b aq (a7 _);have cx:=ax.blk ao (.inr (by decide));clear ax;obtain⟨L,ab,T,rfl⟩:=(br).f;have bv:(i).cell? ⟨w+1+1,14,J⟩=So (Z L ab T):=(B).cell 14;obtain⟨v,Q,t⟩:=p7 br cy cx;go_wp2_with(refine c7 rfl 43 (Tm 6) (Tm 33) rfl (w+1) _ _ _ rfl rfl t rfl (by kernel_rfl) (by simp[Value.oneCell']) ?_;intro be A m)
    exact Bp (g0 rfl _ _ _ _ _ _ rfl A underlying43 rfl (by kernel_rfl)) rfl ⟨M7 0,_,_,_,_,_,_,rfl,by rw[o.out];exact oU _,by rw[o.out];exact v.kept m (.inr (v.ne t (by decide))),Q.grown m (fun k e=>by cases e;omega),by simp[aF,Value.oneCell']⟩
   ·have af:=a6 (zW (w+1+1) q ay az ba bb _ bc u.1 (Z n ds.length c) l _ am z y.small ⟨y.fm,y.lm⟩ dp y.lens.1 s.rd ak)
    have h:=bm.out;rw[ak,if_pos rfl]at h;have o:=a6 h;obtain⟨co,dx,cz,df⟩:=s.a.f;obtain⟨cp,dy,da,dg⟩:=s.f.f;obtain⟨cq,dz,db,dh⟩:=s.l.f;obtain⟨cs,nm,dd,di⟩:=s.m.f;obtain⟨ct,ea,de,dj⟩:=r.f;subst df dg dh di dj;obtain⟨bj,cu,ao,aq⟩:=J5 (r.mono (b2:=w) (by omega)) z E F;clear h z s r F E;go_wp2_with fail
    apply af.mono;rintro e fg⟨rfl,i,fe,ad,rfl,cn⟩;obtain⟨b,al,cj,dq⟩:=cn.ex;obtain⟨d,f,rfl,ca,cb⟩:=al;have al:s7 i 51 fM (Z d b.length f) b:=⟨d,f,rfl,ca,cb⟩;have B:=cu.h ad;have ac:Tv w [58] i (i.setCell ⟨w+1+1,13,J⟩ (Z d b.length f)):= .r B (by omega) (by decide) 13 _;have j:=B.f 13 (Z d b.length f);have bu:=ac.b (aq.trans ad) (a7 _);have bt:=ac.blk (ao.h ad) (.inr (by decide));have bs:=(bj.h ad).kept (x4 _ (w+1+1) 13 (Z d b.length f)) (.inr ((bj.h ad).ne B (by decide)));have S4:eF (i.setCell ⟨w+1+1,13,J⟩ (Z d b.length f)) (Z d b.length f) (z8 l q):=⟨b,al.tv ac (by decide),fun ed dv=>(cj ed dv).tv ac (by decide),dq⟩;obtain⟨ap,cw,bk,cv⟩:=J5 bt bu bs S4;have eo:(i.setCell ⟨w+1+1,13,J⟩ (Z d b.length f)).cell? ⟨w+1+1,0,J⟩=So (Z co dx cz):=j.cell 0;have ep:(i.setCell ⟨w+1+1,13,J⟩ (Z d b.length f)).cell? ⟨w+1+1,1,J⟩=So (I U8 q.fm):=j.cell 1;have ew:(i.setCell ⟨w+1+1,13,J⟩ (Z d b.length f)).cell? ⟨w+1+1,2,J⟩=So (Z cp dy da):=j.cell 2;have ex:(i.setCell ⟨w+1+1,13,J⟩ (Z d b.length f)).cell? ⟨w+1+1,3,J⟩=So (I V q.dy):=j.cell 3;have ey:(i.setCell ⟨w+1+1,13,J⟩ (Z d b.length f)).cell? ⟨w+1+1,4,J⟩=So (I U8 q.lm):=j.cell 4;have ez:(i.setCell ⟨w+1+1,13,J⟩ (Z d b.length f)).cell? ⟨w+1+1,5,J⟩=So (Z cq dz db):=j.cell 5;have fa:(i.setCell ⟨w+1+1,13,J⟩ (Z d b.length f)).cell? ⟨w+1+1,6,J⟩=So (Z cs nm dd):=j.cell 6;have fb:(i.setCell ⟨w+1+1,13,J⟩ (Z d b.length f)).cell? ⟨w+1+1,7,J⟩=So (I U8 q.am):=j.cell 7;have fc:(i.setCell ⟨w+1+1,13,J⟩ (Z d b.length f)).cell? ⟨w+1+1,8,J⟩=So (I U6 q.sp):=j.cell 8;have fd:(i.setCell ⟨w+1+1,13,J⟩ (Z d b.length f)).cell? ⟨w+1+1,9,J⟩=So (O q.we):=j.cell 9;have er:(i.setCell ⟨w+1+1,13,J⟩ (Z d b.length f)).cell? ⟨w+1+1,10,J⟩=So (O q.pe):=j.cell 10;have es:(i.setCell ⟨w+1+1,13,J⟩ (Z d b.length f)).cell? ⟨w+1+1,11,J⟩=So (O q.rt):=j.cell 11;have et:(i.setCell ⟨w+1+1,13,J⟩ (Z d b.length f)).cell? ⟨w+1+1,12,J⟩=So (O q.np):=j.cell 12;have eu:(i.setCell ⟨w+1+1,13,J⟩ (Z d b.length f)).cell? ⟨w+1+1,13,J⟩=So (Z d b.length f):=j.cell 13;have ev:(i.setCell ⟨w+1+1,13,J⟩ (Z d b.length f)).cell? ⟨w+1+1,14,J⟩=So (Z ct ea de):=j.cell 14;clear bt bu bs S4 B j ac al ca cb cj cn af;go_wp2_with fail
    rw[Rs];go_wp2_with(refine c7 rfl 43 (Tm 6) (Tm 38) rfl (w+1) _ _ _ rfl rfl ap rfl (by kernel_rfl) (by simp[Value.oneCell']) ?_;intro be A m)
    exact Bp (g0 rfl _ _ _ _ _ _ rfl A underlying43 rfl (by kernel_rfl)) rfl ⟨q,_,_,_,_,_,_,rfl,by rw[o.out];exact EV cv ap m,by rw[o.out];exact bk.kept m (.inr (bk.ne ap (by decide))),cw.grown m (fun k e=>by cases e;omega),by simp[aF,Value.oneCell']⟩
  ·rw[aa]at N
   have h:=bl.out;rw[aa,if_pos rfl]at h;have o:=a6 h;clear h;generalize i9 S=aw at*;obtain⟨q,cm⟩:=aw;dsimp only at*;go_wp2_with fail
   apply N.mono;rintro e am⟨ay,az,ba,bb,bc,rfl,z,s,r,H⟩;have F:=bo.grown H (fun k e=>by cases e;omega);have E:=bn.grown H (fun e=>by injection e with e;omega);have r:=r.mono (b2:=w) (by omega);clear s;obtain⟨L,ab,T,rfl⟩:=(r).f;have bv:(am).cell? ⟨w+1+1,14,J⟩=So (Z L ab T):=(z).cell 14;obtain⟨v,Q,t⟩:=p7 r F E;go_wp2_with(refine c7 rfl 43 (Tm 6) (Tm 33) rfl (w+1) _ _ _ rfl rfl t rfl (by kernel_rfl) (by simp[Value.oneCell']) ?_;intro be A m)
   exact Bp (g0 rfl _ _ _ _ _ _ rfl A underlying43 rfl (by kernel_rfl)) rfl ⟨M7 0,_,_,_,_,_,_,rfl,by rw[o.out];exact oU _,by rw[o.out];exact v.kept m (.inr (v.ne t (by decide))),Q.grown m (fun k e=>by cases e;omega),by simp[aF,Value.oneCell']⟩
 ·have au:Dc (av.length=0)=Bf:=by simp[aj]
  rw[au]at C;have h:=an.out;rw[if_neg aj]at h;have o:=a6 h;clear h;go_wp2_with fail
  apply C.mono;rintro e bd⟨eb,ec,rfl,ae,O1,D,G⟩;have ah:=bp.grown G (fun k e=>by cases e;omega);have ag:=bi.grown G (fun e=>by injection e with e;omega);have D:=D.mono (b2:=w) (by rw[bq.out];omega);clear O1 bw bx bz;obtain⟨L,ab,T,rfl⟩:=(D).f;have bv:(bd).cell? ⟨w+1+1,14,J⟩=So (Z L ab T):=(ae).cell 14;obtain⟨v,Q,t⟩:=p7 D ah ag;go_wp2_with(refine c7 rfl 43 (Tm 6) (Tm 33) rfl (w+1) _ _ _ rfl rfl t rfl (by kernel_rfl) (by simp[Value.oneCell']) ?_;intro be A m)
  exact Bp (g0 rfl _ _ _ _ _ _ rfl A underlying43 rfl (by kernel_rfl)) rfl ⟨M7 0,_,_,_,_,_,_,rfl,by rw[o.out];exact oU _,by rw[o.out];exact v.kept m (.inr (v.ne t (by decide))),Q.grown m (fun k e=>by cases e;omega),by simp[aF,Value.oneCell']⟩
def A3(l:ByteArray):g3:=⟨a0s,0,z7 (iA l)⟩
def VT:ByteArray:=⟨#[76,111,99,107,80,101,114,115,111,110,97,108,105,116,121,61,121,101,115]⟩
def z2:ByteArray:=⟨#[83,121,115,116,101,109,67,97,108,108,70,105,108,116,101,114,61,126,112,101,114,115,111,110,97,108,105,116,121,58,69,73,79]⟩
def HN:ByteArray:=⟨#[76,111,99,107,80,101,114,115,111,110,97,108,105,116,121,61,112,101,114,104,97,112,115]⟩
def HH:r9:=⟨135,3221225534,0,0,0,0,0,0,0⟩
def XZ:r9:=⟨135,3221225534,0,8,0,0,0,0,0⟩
def sD(l:ByteArray):i1:=(i9 (l5 (A3 l) []).1).1
theorem a0G{f:C8}(b:dL f){a:Int→Int}(c:uk (a 0)):(N6 a (F6 (aX f))).1=DD a f:=by
 obtain⟨d,e⟩:=SD b.ok;have:=b.sz;rw[rK d (by omega),SE a f b.ri c]
def CS(p:i1)(d:r9):Int:=dX ((L0 p).map fun x=>DD d.word x.f)
theorem qS{p:i1}(o:y9 p=Bt)(m:p.ar.length=0)(d:r9)(f:d.ok)(e:Bool):U2 (z8 e p) d=CS p d:=by
 unfold U2 z8 CS;rw[List.map_map];refine congrArg dX (List.map_congr_left fun x h=> ?_);have r:x∈(q5 8).flatMap (pO p):=by
  unfold L0 at h;rwa[if_pos m,List.nil_append]at h
 obtain⟨k,t,b⟩:=List.mem_flatMap.1 r;obtain⟨a,n,b⟩:=List.mem_flatMap.1 b;obtain⟨rfl,rfl,c⟩:=tM b;have s:0<x.d:=by
  rcases Nat.eq_zero_or_pos x.d with q|q
  ·rw[q,VN]at c;cases c
  ·exact q
 have g:=eT o (List.mem_range.1 n) c;obtain⟨i,j,l⟩:=aP g;show(K5 d (gM e p x)).ans=DD d.word x.f;unfold gM;rw[if_neg (by omega),rF i j d (l d.word (RN f)) e];exact a0G g (RN f)
def KS(l:ByteArray):Bool:=Dc ((l5 (A3 l) []).2.length=0)&& !r0 (i9 (l5 (A3 l) []).1).2&&y9 (sD l)&&Dc ((sD l).ar.length=0)
theorem a35:KS VT=Bt:=by kernel_rfl
theorem a34:KS z2=Bt:=by kernel_rfl
theorem a4r:Dc ((l5 (A3 HN) []).2.length=0)=Bt:=by kernel_rfl
theorem a4q:r0 (i9 (l5 (A3 HN) []).1).2=Bt:=by kernel_rfl
theorem szs:(A3 VT).data.length+j1 []≤40000∧(A3 z2).data.length+j1 []≤40000∧(A3 HN).data.length+j1 []≤40000:=by decide+kernel
theorem xM:HH.ok:=by constructor<;>exact⟨by decide,by decide⟩
theorem XY:XZ.ok:=by constructor<;>exact⟨by decide,by decide⟩
theorem a5w:CS (sD VT) HH=2147418112:=by kernel_rfl
theorem a5v:CS (sD VT) XZ=327681:=by kernel_rfl
theorem a5u:CS (sD z2) HH=327685:=by kernel_rfl
def bY(d:r9):Array Va:= #[I V d.nr,I V d.arch,I U6 d.ip,I U6 d.a0,I U6 d.a1,I U6 d.a2,I U6 d.a3,I U6 d.a4,I U6 d.a5]
theorem oL(p:i1)(g h i j b W:Va)(l:List J1)(a:List i0)(d:r9)(aa:Int)(w:Wd)(A:d.ok)(E:vB l)(z:eF w b l)(ae:s7 w 73 g6 W a)(af:a.length≤1000000)(D:r0 a=Bf)(C:U2 l d=aa):
  Ca prog 10 #[Ag (aF p g h i j b W),d.val,I V aa] w fun e ag=>e=X (O Bt)∧a9 w ag:=by
 obtain⟨k,c,rfl,y,-⟩:=ae;have m:=fun ab ac=>((a9.refl w).alloc (U ab 43)).alloc (U ac 30)
 have t:=a6 (fun f(r:a9 w f)=>vT b l d f A E (z.h r));rw[C]at t;have u:=a6 (fun f(r:a9 w f)=>iM p g h i j b k c a f af (y.h r));rw[D]at u;have B:=(b9.new w 43 (aF p g h i j b (Z k a.length c))).alloc (U (bY d) 30);have q:b9 ((w.alloc (U (aF p g h i j b (Z k a.length c)) 43)).alloc (U (bY d) 30)) (w+1) 30 (bY d):=b9.b (by simp);obtain⟨v,ad⟩:=i6 (m (aF p g h i j b (Z k a.length c)) (bY d)) (And.intro B q);obtain⟨ap,an,ao,ah,ai,aj,ak,al,am⟩:=d;dsimp only[r9.val,YG,bY]at*;unfold aF at*;generalize a.length=n at*;have H:=B.cell 13;obtain⟨F,G,L,N,P,Q,R,S,T⟩:=(q).c9;clear A E z y D C m B q;go_in;go_wp2_with fail
 apply(t _ v.out).mono;rintro e ax⟨rfl,s⟩;clear H F G L N P Q R S T;have o:=ad.1.h s;obtain⟨F,G,L,N,P,Q,R,S,T⟩:=(o).c9;obtain⟨aw,aq,ar,au,H,av⟩:=(o).d6 9 10 11 12 13 14;have x:=a6 (v.trans s);clear o s;go_wp2_with fail
 apply(u _ x.out).mono;rintro e ay⟨rfl,m⟩;go_wp2_with fail
 go_ret;exact⟨by simp,x.trans m⟩
theorem bZ(a:Bool)(u:g3)(ds:List g3)(b:u.data.length+j1 ds≤40000):(z6 a u ds).2.length≤1000000:=by
 obtain⟨-,g,-⟩:=pX u ds;have c:=T1 (l5 u ds).1;have d:(l5 u ds).2.length≤17017:=by
  have e:=(eQ (x7 u ds).1).2;have f:=gF u ds;unfold l5;split
  ·simp
  ·split
   ·dsimp only;omega
   ·simp
 unfold z6;split
 ·split
  ·dsimp only;omega
  ·split
   ·dsimp only;omega
   ·rw[a2e];simp only[a3W,List.length_nil];omega
 ·dsimp only;omega
theorem uM{l:ByteArray}(a:KS l=Bt)(b:Bool):(z6 b (A3 l) []).1=z8 b (sD l)∧r0 (z6 b (A3 l) []).2=Bf∧y9 (sD l)=Bt∧(sD l).ar.length=0:=by
 unfold KS sD at a;unfold z6 sD;generalize l5 (A3 l) []=m at*;generalize i9 m.1=r at*;simp only[Bool.and_eq_true,decide_eq_true_eq,Bool.not_eq_true']at a;obtain⟨⟨⟨e,c⟩,d⟩,f⟩:=a;rw[if_pos e,if_neg (by rw[c];decide),if_pos d];exact⟨rfl,c,d,f⟩
theorem a2O(f:g3)(b:Dc ((l5 f []).2.length=0)=Bt)(a:r0 (i9 (l5 f []).1).2=Bt)(c:Bool):r0 (z6 c f []).2=Bt:=by
 unfold z6;generalize l5 f []=m at*;generalize i9 m.1=r at*;rw[if_pos (of_decide_eq_true b),if_pos a];exact a
theorem YJ(a:Bool):r0 (z6 a (A3 HN) []).2=Bt:=a2O _ a4r a4q a
theorem fZ(f:g3)(h:f.data.length+j1 []≤40000)(b:Bool)(w:Wd)(u:PF)(i:F7 w u)(g:IN u)(c:l4 u=f):
  Ca prog 6 #[o4 u.1,Z J 0 0,O b] w (a5Q w (z6 b f [])):=by
 have d:h9 w J (q7.row (([]:List PF).map (·.1))):=h9.nil _ _;have e:(l4 u).data.length+j1 (([]:List PF).map l4)≤40000:=by rw[List.map_nil,c];exact h
 have a:=pI u J 0 [] b w d i (fun p a=>by cases a) g (fun p a=>by cases a) (by simp) e;rw[c,List.map_nil,List.length_nil]at a;exact a
theorem a0q(w:Wd):Ca prog 4 #[] w fun e dj=>e=X (O Bt)∧a9 w dj:=by
 obtain⟨cv,cw,cx⟩:=p7 (fun W=>show Ca prog 9 #[Y ⟨#[76,111,99,107,80,101,114,115,111,110,97,108,105,116,121,61,121,101,115]⟩] W _ from vK VT (by decide) W) (fun W=>show Ca prog 9 #[Y ⟨#[83,121,115,116,101,109,67,97,108,108,70,105,108,116,101,114,61,126,112,101,114,115,111,110,97,108,105,116,121,58,69,73,79]⟩] W _ from vK z2 (by decide) W) (fun W=>show Ca prog 9 #[Y ⟨#[76,111,99,107,80,101,114,115,111,110,97,108,105,116,121,61,112,101,114,104,97,112,115]⟩] W _ from vK HN (by decide) W);go_in;go_wp2_with fail
 obtain⟨ba,bs,bx⟩:=p7 (show b9 ((w.alloc (U (bY HH) 30)).alloc (U (bY XZ) 30)) w 30 (bY HH)from(b9.new w _ _).alloc _) (show b9 ((w.alloc (U (bY HH) 30)).alloc (U (bY XZ) 30)) (w+1) 30 (bY XZ)from b9.b (by simp)) (show a9 w ((w.alloc (U (bY HH) 30)).alloc (U (bY XZ) 30))from((a9.refl w).alloc _).alloc _);dsimp only[bY,HH,XZ]at ba bs bx;generalize(w.alloc (U #[I V 135,I V 3221225534,I U6 0,I U6 0,I U6 0,I U6 0,I U6 0,I U6 0,I U6 0] 30)).alloc (U #[I V 135,I V 3221225534,I U6 0,I U6 8,I U6 0,I U6 0,I U6 0,I U6 0,I U6 0] 30)=w0 at*;go_loopw [3] (fun s wr=>∃k:Nat,k≤2∧s=I M k∧a9 w0 wr) (fun i _=>2-(intOf i).toNat)
 case atStart=>exact⟨0,by decide,rfl,a9.refl _⟩
 case round=>
  obtain⟨k,dn,rfl,bi⟩:=hrel;by_cases dq:k<2
  ·have dp:(k:Int)<2:=by omega
   go_wp2_with fail
   apply(cv _).mono;rintro e bl⟨bj,rfl,ag,ae,ah,aq⟩;obtain⟨a,ai⟩:∃a,a=((k:Int)==1):=⟨_,rfl⟩;have n:=a6 (fZ (A3 VT) szs.1 a bl bj ag ae ah);rw[ai]at n;go_wp2_with fail
   apply n.mono;rintro e l⟨p,ak,al,am,an,ao,bk,rfl,S,N,ar,one⟩;rw[←ai]at S N;obtain⟨bd,cb,be,bf⟩:=uM a35 a;have bh:=nZ a (A3 VT) [];have bg:=bZ a (A3 VT) [] szs.1;have cd:U2 (z6 a (A3 VT) []).1 HH=2147418112:=by rw[bd,qS be bf HH xM a];exact a5w
   have ce:U2 (z6 a (A3 VT) []).1 XZ=327681:=by rw[bd,qS be bf XZ XY a];exact a5v
   clear bd be bf;generalize z6 a (A3 VT) []=aj at*;obtain⟨bu,bv,af⟩:=p7 (fun g(h:a9 l g)=>oL p ak al am an ao bk aj.1 aj.2 HH 2147418112 g xM bh (S.h h) (N.ty.h h) bg cb cd) (fun g(h:a9 l g)=>oL p ak al am an ao bk aj.1 aj.2 XZ 327681 g XY bh (S.h h) (N.ty.h h) bg cb ce) (bi.trans (aq.trans ar));clear bh bg cd ce S N aq ar bi n ag ae ah;go_wp2_with(refine c7 rfl 43 (Tm 4) (Tm 17) rfl l _ _ _ rfl rfl (b9.new _ _ _) rfl (by kernel_rfl) one ?_;intro co bm cg)
   have cp:a9 l co:=((a9.refl l).alloc _).grown cg (fun k e=>by cases e;exact a7 _);obtain⟨br,m⟩:=i6 bm cp;clear bm cg cp one;apply(cw _).mono;rintro e dk⟨dc,rfl,ca,bq,cc,cq⟩;have az:=a6 (fZ (A3 z2) szs.2.1 a dk dc ca bq cc);rw[ai]at az;go_wp2_with fail
   apply az.mono;rintro e ap⟨db,dd,de,df,dg,di,dh,rfl,bc,bb,cr,da⟩;rw[←ai]at bc bb;obtain⟨b1,b2,b3,b4⟩:=uM a34 a;have cm:=nZ a (A3 z2) [];have cj:=bZ a (A3 z2) [] szs.2.1;have cf:U2 (z6 a (A3 z2) []).1 HH=327685:=by rw[b1,qS b3 b4 HH xM a];exact a5u
   clear b1 b3 b4;generalize z6 a (A3 z2) []=cn at*;obtain⟨bw,f⟩:=i6 (fun g(h:a9 ap g)=>oL db dd de df dg di dh cn.1 cn.2 HH 327685 g xM cm (bc.h h) (bb.ty.h h) cj b2 cf) (cq.trans cr);clear cm cj cf bc bb cq cr az ca bq cc;dsimp only[r9.val,YG,HH,XZ]at bu bv bw;unfold aF at*;go_wp2_with(refine c7 rfl 43 (Tm 5) (Tm 21) rfl ap _ _ _ rfl rfl (b9.new _ _ _) rfl (by kernel_rfl) da ?_;intro dl bn ch;have au:a9 ap dl:=((a9.refl ap).alloc _).grown ch (fun k e=>by cases e;exact a7 _);have b:=(br.h f.out).h au;have d:=((ba.h af.out).h (m.trans f.out)).h au;have C:=(b).cell 0;have D:=(b).cell 1;have P:=(b).cell 2;have Q:=(b).cell 3;have R:=(b).cell 4;have T:=(b).cell 5;have aa:=(b).cell 6;have ab:=(b).cell 7;have ac:=(b).cell 8;have ad:=(b).cell 9;have E:=(b).cell 10;have F:=(b).cell 11;have G:=(b).cell 12;have H:=(b).cell 13;have L:=(b).cell 14;have r:=(d).cell 0;have t:=(d).cell 1;have u:=(d).cell 2;have v:=(d).cell 3;have x:=(d).cell 4;have y:=(d).cell 5;have z:=(d).cell 6;have A:=(d).cell 7;have B:=(d).cell 8;have j:=a6 au;have cu:=a6 bn;clear b d bn ch au)
   apply(bu _ (m.trans (f.trans j.out))).mono;rintro e dr⟨rfl,av⟩;clear C D P Q R T aa ab ac ad E F G H L r t u v x y z A B;have ax:=((br.h f.out).h j.out).h av;have bo:=(((bs.h af.out).h (m.trans f.out)).h j.out).h av;obtain⟨C,D,P,Q,R,T,aa,ab,ac⟩:=(ax).c9;obtain⟨ad,E,F,G,H,L⟩:=(ax).d6 9 10 11 12 13 14;obtain⟨r,t,u,v,x,y,z,A,B⟩:=(bo).c9;have o:=a6 av;clear ax bo av;go_wp2_with fail
   refine(bv _ ((m.trans (f.trans j.out)).trans o.out)).mono ?_;rintro e ds⟨rfl,aw⟩;clear C D P Q R T aa ab ac ad E F G H L r t u v x y z A B;have ay:=(cu.h o.out).h aw;have bp:=((((ba.h af.out).h (m.trans f.out)).h j.out).h o.out).h aw;obtain⟨C,D,P,Q,R,T,aa,ab,ac⟩:=(ay).c9;obtain⟨ad,E,F,G,H,L⟩:=(ay).d6 9 10 11 12 13 14;obtain⟨r,t,u,v,x,y,z,A,B⟩:=(bp).c9;have bz:=a6 aw;clear ay bp aw;go_wp2_with fail
   apply(bw _ ((j.trans o.out).trans bz.out)).mono;rintro e dt⟨rfl,cs⟩;clear C D P Q R T aa ab ac ad E F G H L r t u v x y z A B;have cz:=((((af.trans (m.trans f.out)).trans j.out).trans o.out).trans bz.out).trans cs;clear cs;go_wp2_with fail
   go_roundw
   case rel=>exact⟨k+1,by omega,by go_num,cz⟩
   case measure=>simp[intOf];omega
  ·obtain rfl:k=2:=by omega
   go_wp2_with fail
   apply(cx _).mono;rintro e bl⟨bj,rfl,ag,ae,ah,aq⟩;have n:=a6 (fZ (A3 HN) szs.2.2 Bt bl bj ag ae ah);go_wp2_with fail
   apply n.mono;rintro e l⟨p,ak,al,am,an,ao,bk,rfl,S,N,ar,one⟩;have ck:=bZ Bt (A3 HN) [] szs.2.2;have ci:=YJ Bt;generalize z6 Bt (A3 HN) []=q at*;obtain⟨ct,c,rfl⟩:=N.b;have bt:=a6 (iM p ak al am an ao ct c q.2 l ck N.i.1);rw[ci]at bt;have cy:=a6 ((bx.trans bi).trans (aq.trans ar));clear S N one ck ci;go_wp2_with fail
   apply bt.mono;rintro e co⟨rfl,dm⟩;go_wp2_with fail
   go_ret;exact⟨rfl,cy.trans dm⟩
def x5(f:g3):Bool:=Dc (70000<f.data.length)||decide (200<f.name.size)
def bT(u:g3)(ds:List g3):Bool:=x5 u||decide (20<ds.length)||ds.any x5||decide (100000<u.data.length+j1 ds)
def X7(u:g3)(ds:List g3):Bool:=bT u ds||decide (6000<u.data.length+j1 ds)
theorem qE(x:PF)(i:x.2.length=x.1.n)(w:Wd):Ca prog 19 #[o4 x.1] w fun e p=>e=X (O (x5 (l4 x)))∧a9 w p:=by
 obtain⟨⟨nm,d,b,n,c⟩,xs⟩:=x;have j:=(a9.refl w).alloc (U #[Y nm,I M d,Z b n c] 24);have a:=a6 j;have h:x5 (l4 (⟨nm,d,b,n,c⟩,xs))=(Dc (70000<n)||decide (200<nm.size)):=by unfold x5 l4;dsimp only at i⊢;rw[i]
 rw[h];clear j h;unfold o4;go_in;by_cases f:70000<n
 ·have k:Dc ((70000:Int)<n)=Bt:=decide_eq_true (by omega)
  have l:Dc (70000<n)=Bt:=decide_eq_true f;go_wp2_with fail
  go_ret;exact⟨rfl,a.out⟩
 ·have k:Dc ((70000:Int)<n)=Bf:=decide_eq_false (by omega)
  have l:Dc (70000<n)=Bf:=decide_eq_false f;by_cases g:200<nm.size
  ·have m:Dc ((200:Int)<nm.size)=Bt:=decide_eq_true (by omega)
   have o:Dc (200<nm.size)=Bt:=decide_eq_true g;go_wp2_with fail
   go_ret;exact⟨rfl,a.out⟩
  ·have m:Dc ((200:Int)<nm.size)=Bf:=decide_eq_false (by omega)
   have o:Dc (200<nm.size)=Bf:=decide_eq_false g;go_wp2_with fail
   go_ret;exact⟨rfl,a.out⟩
theorem dQ{f:g3}(h:x5 f=Bf):f.data.length≤70000:=by
 unfold x5 at h;rw[Bool.or_eq_false_iff]at h;have:=of_decide_eq_false h.1;omega
theorem lS:∀(l:List g3),(∀f∈l,x5 f=Bf)→j1 l≤70000*l.length
 |[],_=>i5 _
 |f::l,h=>by
  have b:=dQ (h f List.mem_cons_self);have c:=lS l (fun g a=>h g (List.mem_cons_of_mem _ a));rw[K3,a3W];omega
theorem GN(u:PF)(N:Option Ad)(c:Nat)(ds:List PF)(w:Wd)(ae:h9 w N (q7.row (ds.map (·.1))))(ah:u.2.length=u.1.n)(ag:∀p∈ds,p.2.length=p.1.n):
  Ca prog 11 #[o4 u.1,Z N ds.length c] w fun e bd=>e=X (O (bT (l4 u) (ds.map l4)))∧a9 w bd:=by
 have P:=b9.new w 24 #[Y u.1.name,I M u.1.dir,Z u.1.A u.1.n u.1.c];have aj:=(a9.refl w).alloc (U #[Y u.1.name,I M u.1.dir,Z u.1.A u.1.n u.1.c] 24);obtain⟨R,h⟩:∃R,R=bT (l4 u) (ds.map l4):=⟨_,rfl⟩;rw[←h];unfold bT at h;rw[a32]at h;obtain⟨s,t,D,am,an⟩:=gP (qE u ah) ae aj P ag;have ai:(l4 u).data.length=u.1.n:=ah;rw[ai]at h;have H:=fun l=>dQ (f:=l4 u) l
 rw[ai]at H;generalize x5 (l4 u)=aw at*;have v:=a6 h;clear ae aj P ag h;unfold o4 at s⊢;go_in;rcases aw with _|_
 ·by_cases ad:20<ds.length
  ·have ar:Dc ((20:Int)<ds.length)=Bt:=decide_eq_true (by omega)
   have e:=v.out;rw[decide_eq_true ad]at e;simp at e;subst e;go_wp2_with fail
   apply(s _).mono;rintro e L⟨rfl,d⟩;go_wp2_with fail
   go_ret;exact⟨rfl,D.trans d⟩
  ·have ar:Dc ((20:Int)<ds.length)=Bf:=decide_eq_false (by omega)
   have z:=v.out;rw[decide_eq_false ad]at z;simp only[Bool.false_or,Bool.or_false]at z;have Q:=a6 z;clear z v;have bk:=H rfl;clear H;go_wp2_with fail
   apply(s _).mono;rintro e L⟨rfl,d⟩;have ap:=a6 (D.trans d);have S:=am.h d;have j:=S.cell 2;clear d;go_wp2_with fail
   go_loopg [5,6] ds.length (fun av bb bc wr=>∃k:Nat,k≤ds.length∧ds.length-k≤av∧bb=I M (u.1.n+j1 ((ds.take k).map l4):Nat)∧bc=I M k∧(∀f∈(ds.take k).map l4,x5 f=Bf)∧a9 w wr)
   case atStart=>exact⟨0,i5 _,by omega,by simp[j1],rfl,fun f o=>by simp at o,ap.out⟩
   case round=>
    clear S j;obtain⟨k,bi,bh,rfl,rfl,n,a⟩:=hrel;have az:=lS _ n;rw[a32,a4C]at az;by_cases y:k<ds.length
    ·have ax:Dc ((k:Int)<ds.length)=Bt:=decide_eq_true (by omega)
     have G:k<(ds.map (·.1)).length:=by simpa using y
     obtain⟨b,bm,rfl,bg⟩:=(t.h a).rows (by decide) (by simp;omega);have T:=(t.h a).b G (r:=0) rfl;have W:=(t.h a).b G (r:=1) rfl;have j:=(t.h a).b G (r:=2) rfl;have F:=an _ (a30 y);have ac:(ds.take (k+1)).map l4=(ds.take k).map l4++[l4 ds[k]]:=by rw[a4a y,a4F];rfl
     have ay:l4 ds[k]∈ds.map l4:=List.mem_map.2 ⟨_,a30 y,rfl⟩;have g:=a6 (qE ds[k] F);have al:=dQ (f:=l4 ds[k]);simp only[List.getElem_map]at T W j;generalize ds[k]=x at*;obtain⟨⟨nm,ab,B,m,aa⟩,xs⟩:=x;simp only[q7,a4z]at T W j;have ak:(l4 (⟨nm,ab,B,m,aa⟩,xs)).data.length=m:=F;unfold o4 at g;dsimp only at g;obtain⟨i,ao⟩:=i6 ac n;rw[ak]at al;clear ac n F;generalize l4 (⟨nm,ab,B,m,aa⟩,xs)=E at*;rcases q:x5 E with _|_
     ·rw[q]at g
      have bl:=al q;have L:IntKind.i64.wrap (((u.1.n+j1 ((ds.take k).map l4):Nat):Int)+m)=((u.1.n+j1 ((ds.take (k+1)).map l4):Nat):Int):=by
       rw[i.out,I0,a37 _ (by omega)];have:j1 [E]=m:=by simp[j1,ak]
       omega
      generalize bj:u.1.n+j1 ((ds.take k).map l4)=C at*;generalize ba:u.1.n+j1 ((ds.take (k+1)).map l4)=bn at*;go_wp2_with fail
      apply(g _).mono;rintro e be⟨rfl,A⟩;have aq:=a.trans A;have bf:=A.cell j;go_wp2_with fail
      go_roundg (ds.length-(k+1))
      case measure=>omega
      case rel=>exact⟨k+1,by omega,by omega,by rw[ba],by go_num,by rw[i.out];exact fun f o=>(List.mem_append.1 o).elim (fun l=>ao f l) (fun l=>by rw[List.mem_singleton.1 l];exact q),aq⟩
     ·rw[q]at g
      have e:=Q.out;rw[List.any_eq_true.2 ⟨E,ay,q⟩,Bool.true_or]at e;subst e;go_wp2_with fail
      apply(g _).mono;rintro e be⟨rfl,A⟩;go_wp2_with fail
      go_ret;exact⟨rfl,a.trans A⟩
    ·obtain rfl:k=ds.length:=by omega
     rw[List.take_length]at n⊢;have ax:Dc ((ds.length:Int)<ds.length)=Bf:=by simp
     have e:=Q.out;rw[List.any_eq_false.2 (fun f o=>by rw[n f o];simp),Bool.false_or]at e;generalize u.1.n+j1 (ds.map l4)=C at*;have i:=a6 e;clear e;by_cases af:100000<C
     ·have au:Dc ((100000:Int)<C)=Bt:=decide_eq_true (by omega)
      go_wp2_with fail
      go_ret;exact⟨by rw[i.out,decide_eq_true af];rfl,a⟩
     ·have au:Dc ((100000:Int)<C)=Bf:=decide_eq_false (by omega)
      go_wp2_with fail
      go_ret;exact⟨by rw[i.out,decide_eq_false af];rfl,a⟩
 ·have e:=v.out
  simp at e;subst e;go_wp2_with fail
  apply(s _).mono;rintro e L⟨rfl,d⟩;go_wp2_with fail
  go_ret;exact⟨rfl,D.trans d⟩
theorem mH{u:g3}{ds:List g3}(a:bT u ds=Bf):x5 u=Bf∧ds.length≤20∧(∀f∈ds,x5 f=Bf)∧u.data.length+j1 ds≤100000:=by
 unfold bT at a;simp only[Bool.or_eq_false_iff,decide_eq_false_iff_not]at a;obtain⟨⟨⟨b,e⟩,c⟩,g⟩:=a;exact⟨b,by omega,fun f d=>by have:=List.any_eq_false.1 c f d;simpa using this,by omega⟩
theorem FC(l:List g3)(k:Nat):j1 (l.take k)≤j1 l:=by
 have:j1 l=j1 (l.take k)+j1 (l.drop k):=by rw[←I0,List.take_append_drop]
 omega
theorem GM(u:PF)(i:Option Ad)(c:Nat)(ds:List PF)(w:Wd)(n:h9 w i (q7.row (ds.map (·.1))))(L:u.2.length=u.1.n)(o:∀p∈ds,p.2.length=p.1.n):
  Ca prog 5 #[o4 u.1,Z i ds.length c] w fun e an=>e=X (O (X7 (l4 u) (ds.map l4)))∧a9 w an:=by
 have y:=b9.new w 24 #[Y u.1.name,I M u.1.dir,Z u.1.A u.1.n u.1.c];have t:=(a9.refl w).alloc (U #[Y u.1.name,I M u.1.dir,Z u.1.A u.1.n u.1.c] 24);obtain⟨R,a⟩:∃R,R=X7 (l4 u) (ds.map l4):=⟨_,rfl⟩;rw[←a];unfold X7 at a;obtain⟨j,A,D,P,Q⟩:=gP (GN u i c ds _ (n.h t) L o) n t y o;have ak:(l4 u).data.length=u.1.n:=L;have s:=fun ad=>mH (u:=l4 u) (ds:=ds.map l4) ad
 rw[ak]at s a;generalize bT (l4 u) (ds.map l4)=ac at*;have C:=a6 a;clear n t y o a;unfold o4 at j⊢;go_in;rcases ac with _|_
 ·obtain⟨_,ah,_,ar⟩:=s rfl
  rw[a32]at ah;clear s;go_wp2_with fail
  apply j.mono;rintro e N⟨rfl,f⟩;have S:=a6 (D.trans f);have E:=P.h f;have g:=E.cell 2;clear f;go_wp2_with fail
  go_loopg [5,6] ds.length (fun ab al am wr=>∃k:Nat,k≤ds.length∧ds.length-k≤ab∧al=I M (u.1.n+j1 ((ds.map l4).take k):Nat)∧am=I M k∧a9 w wr)
  case atStart=>exact⟨0,i5 _,by omega,by simp[j1],rfl,S.out⟩
  case round=>
   clear E g;obtain⟨k,aq,ap,rfl,rfl,d⟩:=hrel;by_cases q:k<ds.length
   ·have ae:Dc ((k:Int)<ds.length)=Bt:=decide_eq_true (by omega)
    have ag:k<(ds.map (·.1)).length:=by simpa using q
    obtain⟨b,av,rfl,ao⟩:=(A.h d).rows (by decide) (by simp;omega);have g:=(A.h d).b ag (r:=2) rfl;have G:=Q _ (a30 q);have af:k<(ds.map l4).length:=by simpa using q
    have l:(ds.map l4).take (k+1)=(ds.map l4).take k++[l4 ds[k]]:=by rw[a4a af];simp
    have H:=FC (ds.map l4) (k+1);simp only[List.getElem_map]at g;generalize ds[k]=x at*;obtain⟨⟨nm,aa,B,m,T⟩,xs⟩:=x;simp only[q7,a4z]at g;have v:j1 [l4 (⟨nm,aa,B,m,T⟩,xs)]=m:=by simp only[j1,List.map_cons,List.map_nil,List.sum_cons,List.sum_nil];exact G
    rw[l,I0,v]at H;have N:IntKind.i64.wrap (((u.1.n+j1 ((ds.map l4).take k):Nat):Int)+m)=((u.1.n+j1 ((ds.map l4).take (k+1)):Nat):Int):=by
     rw[l,I0,v,a37 _ (by omega)];omega
    clear l H G v;generalize au:u.1.n+j1 ((ds.map l4).take k)=h at*;generalize ai:u.1.n+j1 ((ds.map l4).take (k+1))=aw at*;go_wp2_with fail
    go_roundg (ds.length-(k+1))
    case measure=>omega
    case rel=>exact⟨k+1,by omega,by omega,by rw[ai],by go_num,d⟩
   ·obtain rfl:k=ds.length:=by omega
    have aj:(ds.map l4).take ds.length=ds.map l4:=List.take_of_length_le (by simp);rw[aj];have ae:Dc ((ds.length:Int)<ds.length)=Bf:=by simp
    have e:=C.out;rw[Bool.false_or]at e;generalize u.1.n+j1 (ds.map l4)=h at*;have z:=a6 e;clear e;by_cases F:6000<h
    ·have W:Dc ((6000:Int)<h)=Bt:=decide_eq_true (by omega)
     go_wp2_with fail
     go_ret;exact⟨by rw[z.out,decide_eq_true F];rfl,d⟩
    ·have W:Dc ((6000:Int)<h)=Bf:=decide_eq_false (by omega)
     go_wp2_with fail
     go_ret;exact⟨by rw[z.out,decide_eq_false F];rfl,d⟩
 ·have e:=C.out
  simp at e;subst e;go_wp2_with fail
  apply j.mono;rintro e N⟨rfl,f⟩;go_wp2_with fail
  go_ret;exact⟨rfl,D.trans f⟩
theorem tU{u:PF}(a:x5 (l4 u)=Bf)(b:u.2.length=u.1.n):IN u:=by
 unfold x5 l4 at a;simp only[Bool.or_eq_false_iff,decide_eq_false_iff_not]at a;exact⟨by omega,by omega⟩
theorem tT{u:g3}{ds:List g3}(a:X7 u ds=Bf):x5 u=Bf∧ds.length≤20∧(∀f∈ds,x5 f=Bf)∧u.data.length+j1 ds≤6000:=by
 unfold X7 at a;simp only[Bool.or_eq_false_iff,decide_eq_false_iff_not]at a;obtain⟨b,c,d,-⟩:=mH a.1;exact⟨b,c,d,by omega⟩
structure RpI(w:Wd)(g:Nat)(q:List J1×List i0)(p:i1)(va vf vl vm vp:Va)(An:Option Ad)(cn:Nat)(W:Wd):Prop where
 b:b9 W g 43 (aF p va vf vl vm vp (Z An q.2.length cn))
 s:eF W vp q.1
 n:s7 W 73 g6 (Z An q.2.length cn) q.2
theorem RpI.h{w W W':Wd}{g:Nat}{q:List J1×List i0}{p:i1}{d e f h i:Va}{b:Option Ad}{c:Nat}(a:RpI w g q p d e f h i b c W)(x:a9 W W'):RpI w g q p d e f h i b c W':=⟨a.b.h x,a.s.h x,a.n.h x⟩
theorem RpI.tv{w W W':Wd}{g:Nat}{q:List J1×List i0}{p:i1}{d e f h i:Va}{b:Option Ad}{c B:Nat}(a:RpI w g q p d e f h i b c W)(t:Tv B [30] W W'):RpI w g q p d e f h i b c W':=
 ⟨t.blk a.b (.inr (by decide)),let⟨xs,h1,h2,h3⟩:=a.s.ex;⟨xs,h1.tv t (by decide),fun k j=>(h2 k j).tv t (by decide),h3⟩,a.n.tv t (by decide)⟩
theorem vL(u:PF)(bn:Option Ad)(c:Nat)(ds:List PF)(d:r9)(dn:Int)(w:Wd)(dj:h9 w bn (q7.row (ds.map (·.1))))(ca:F7 w u)(bz:∀p∈ds,F7 w p)(gs:d.ok)(ix:B4 dn):
  Ca prog 3 #[o4 u.1,Z bn ds.length c,d.val,I V dn] w fun e ja=>e=X (O Bt)∧a9 w ja:=by
 have cp:=a6 (fun b(a:a9 w b)=>GM u bn c ds b (dj.h a) ca.1 fun p G=>(bz p G).1);have bs:=a6 (fun(dl:X7 (l4 u) (ds.map l4)=Bf)(iz:Bool) b(a:a9 w b)=>by
  obtain⟨it,iu,iv,jt⟩:=tT dl;exact pI u bn c ds iz b (dj.h a) (ca.h a) (fun p G=>(bz p G).h a) (tU it ca.1) (fun p G=>tU (iv _ (List.mem_map_of_mem G)) (bz p G).1) (by rw[a32]at iu;omega) (by omega))
 have ff:=a6 (fun(dl:X7 (l4 u) (ds.map l4)=Bf)=>show(l4 u).data.length+j1 (ds.map l4)≤40000 by have:=(tT dl).2.2.2;omega);have C:=((a9.refl w).alloc (U #[Y u.1.name,I M u.1.dir,Z u.1.A u.1.n u.1.c] 24)).alloc (U (bY d) 30);have eo:=(b9.new w 24 #[Y u.1.name,I M u.1.dir,Z u.1.A u.1.n u.1.c]).alloc (U (bY d) 30);have en:b9 ((w.alloc (U #[Y u.1.name,I M u.1.dir,Z u.1.A u.1.n u.1.c] 24)).alloc (U (bY d) 30)) (w+1) 30 (bY d):=b9.b (by simp);obtain⟨cv,br,ez⟩:=p7 C (And.intro eo en) gs;generalize X7 (l4 u) (ds.map l4)=ip at*;unfold o4 at cp bs⊢;clear dj ca bz C eo en gs;dsimp only[r9.val,YG,bY]at cv br⊢;go_in;go_wp2_with fail
 apply(a0q _).mono;rintro e ks⟨rfl,cf⟩;have cj:=br.1.h cf;obtain⟨bf,bg,bh⟩:=cj.c3;obtain⟨fd,cw,ew⟩:=p7 cj (cv.trans cf) (br.2.h cf);clear cj cf cv br;go_wp2_with fail
 apply(cp _ cw.out).mono;rintro e kt⟨rfl,C⟩;obtain⟨P,ex⟩:=i6 (cw.trans C) (ew.h C);have bp:=fd.h C;clear bf bg bh C cw ew fd;cases ip
 ·have bf:=bp.cell 0
  obtain⟨bg,bh⟩:=bp.d2 1 2;obtain⟨fe,eu,ev⟩:=p7 bp (bs rfl Bf) (bs rfl Bt);have gz:=ff rfl;obtain⟨he,gw⟩:=QC (l4 u) (ds.map l4);have gx:=nZ Bf (l4 u) (ds.map l4);have gy:=nZ Bt (l4 u) (ds.map l4);have gv:=bZ Bf (l4 u) (ds.map l4) gz;generalize z6 Bf (l4 u) (ds.map l4)=t at*;generalize z6 Bt (l4 u) (ds.map l4)=B at*;have g:=a6 (And.intro he (And.intro gw (And.intro gx (And.intro gy gv))));clear bp bs ff cp he gw gx gy gv gz;go_wp2_with fail
  apply(eu _ P.out).mono;rintro e bk⟨p,hf,hh,hk,hm,kq,ko,rfl,S,N,ho,one⟩;obtain⟨An,dh,rfl⟩:=N.b;obtain⟨cs,cx⟩:=i6 (And.intro S N.ty) ho;clear S N ho bf bg bh eu;go_wp2_with(refine c7 rfl 43 (Tm 9) (Tm 24) rfl bk _ _ _ rfl rfl (b9.new _ _ _) rfl (by kernel_rfl) one ?_;intro jb ej gq;have bm:a9 bk jb:=((a9.refl bk).alloc _).grown gq (fun k e=>by cases e;exact a7 _);have bq:=(fe.h cx.out).h bm;have bf:=bq.cell 0;have bg:=bq.cell 1;have bh:=bq.cell 2;have v:=a6 (RpI.mk (w:=w) ej (cs.1.h bm) (cs.2.h bm));have bt:=a6 (cx.trans bm);clear bq ej gq bm)
  apply(ev _ (P.trans bt.out)).mono;rintro e bl⟨j,hg,hj,hl,hn,kr,kp,rfl,S,N,hp,hc⟩;obtain⟨ci,di,rfl⟩:=N.b;obtain⟨ct,fh⟩:=i6 (And.intro S N.ty) hp;clear S N hp bf bg bh ev cs one fe;go_wp2_with(refine c7 rfl 43 (Tm 10) (Tm 27) rfl bl _ _ _ rfl rfl (b9.new _ _ _) rfl (by kernel_rfl) hc ?_;intro eh ek gr;have cg:a9 bl eh:=((a9.refl bl).alloc _).grown gr (fun k e=>by cases e;exact a7 _);have L:=a6 (RpI.mk (w:=w) ek (ct.1.h cg) (ct.2.h cg));have bu:=a6 (fh.trans cg);clear ek gr cg)
  have l:=(v.h bu.out);obtain⟨v,ep,fl⟩:=p7 l ((ex.h bt.out).h bu.out) ((P.trans bt.out).trans bu.out);clear l ct hc P cx bt fh bu ex;obtain⟨xa,ii,ij,cz⟩:=v.s.ex;obtain⟨Ap,m,rfl,fi,-⟩:=ii;obtain⟨f,ik,il,da⟩:=L.s.ex;obtain⟨Aq,n,rfl,fj,-⟩:=ik;have ha:xa.length=t.1.length:=by rw[←cz,a32]
  have hb:f.length=B.1.length:=by rw[←da,a32]
  have jy:xa.length≤43:=by have:=g.2.2.1.len;omega
  have gu:f.length=xa.length:=by rw[ha,hb];exact g.1.len
  have gk:((xa.length:Int) !=(f.length:Int))=Bf:=by simp;omega
  have gl:((t.2.length:Int) !=(B.2.length:Int))=Bf:=by rw[g.2.1];simp
  obtain⟨A,dk⟩:∃A,A= !r0 t.2:=⟨_,rfl⟩;have gm:(A !=A)=Bf:=by simp
  obtain⟨cq,cr⟩:=i6 (fun b(a:a9 eh b)=>iM p hf hh hk hm (Z Ap xa.length m) An dh t.2 b g.2.2.2.2 (v.n.mem.h a)) (fun b(a:a9 eh b)=>iM j hg hj hl hn (Z Aq f.length n) ci di B.2 b (by rw[←g.2.1];exact g.2.2.2.2) (L.n.mem.h a));rw[←dk]at cq;rw[show(!r0 B.2)=A by rw[dk,g.2.1]]at cr;have el:=v.b;have em:=L.b;unfold aF at*;obtain⟨ck,cm,cu⟩:=p7 el em (And.intro fi (And.intro fj (And.intro cz (And.intro da gu))));clear el em fi fj ij il cz da ha hb dk gu;refine e7 rfl [.is (.agg #[hf,I U8 p.fm,hh,I V p.dy,I U8 p.lm,hk,hm,I U8 p.am,I U6 p.sp,O p.we,O p.pe,O p.rt,O p.np,Z Ap xa.length m,Z An t.2.length dh]),.is (O A),.is (.agg #[hg,I U8 j.fm,hj,I V j.dy,I U8 j.lm,hl,hn,I U8 j.am,I U6 j.sp,O j.we,O j.pe,O j.rt,O j.np,Z Aq f.length n,Z ci B.2.length di]),.is (O A),.is ?Cu,.is ?Cv,.is ?Cw,.is (Z Ap xa.length m),.is ?Cx,.is ?Cy,.is (Z Aq f.length n),.is ?Cz,.is ?Da,.is ?Db,.is ?Dc,.is ?Dd,.is (Z An t.2.length dh),.is ?De,.is ?Df,.is (Z ci B.2.length di),.is ?Dg,.is ?Dh,.is ?Di] (by kernel_rfl) ?Dj ?Aa ⟨?Ab,?Ac,?Ad,?Ae,?Af,?Ag,?Ah,?Ai,?Aj,?Ak,?Al,?Am,?An,?Ao,?Ap,?Aq,?Ar,?As,?At,?Au,?Av,?Aw,?Ax,trivial⟩ ?Ay
  case Aa=>intro x;simp only[e6,Act.put,uL,l9]<;>rfl
  case Ab|Ac|Ad|Af|Ag|Ah|Ai|Aj|Ak|Al|Am|An|Ao|Ap|Aq|Ar|As|At|Au|Av|Aw|Ax=>
   intro x b a;simp only[e5,j8,uV];repeat(intro d;try simp only[d])
   try refine g9 (by first|rfl|simp) ?_
   obtain⟨ka,kb,kg,kh,ki,kj,kk,kl,km⟩:=(ck.h a).c9;obtain⟨kn,kc,kd,ke,ce,kf⟩:=(ck.h a).d6 9 10 11 12 13 14;obtain⟨jh,ji,jj,jk,jl,jm,jn,jo,la⟩:=(cm.h a).c9;obtain⟨lb,kv,kw,kx,ky,kz⟩:=(cm.h a).d6 9 10 11 12 13 14;go_wp2_with(go_at_call 7;apply(cq b a).mono;rintro e jd⟨rfl,dm⟩)
   refine a0e ?_ rfl (by first|exact dm|exact a9.refl _);rfl
  case Ae=>
   intro x b a;simp only[e5,j8,uV];intro y;simp only[y];go_wp2_with(go_at_call 7;apply(cr b a).mono;rintro e jd⟨rfl,dm⟩)
   refine a0e ?_ rfl (dm);rfl
  case Ay=>
   intro x b a;simp only[l8,e5,j8,uV];intro ag ah y ax ay az ba bb F bc ai aj ak al am an ao ap aq ar au av aw;simp only[ag,ah,y,ax,ay,az,ba,bb,F,bc,ai,aj,ak,al,am,an,ao,ap,aq,ar,au,av,aw];clear ag ah y ax ay az ba bb F bc ai aj ak al am an ao ap aq ar au av aw;obtain⟨hz,ia,fa,im,jr⟩:=gP (v.h a) (L.h a) (ep.h a) (fl.trans a) (And.intro (cu.1.h a) (cu.2.1.h a));clear v L ep fl ck cm cq cr gk gl gm a;go_wp2_with fail
   obtain⟨iy,bd,be,T,aa,ab,ac,ad,ae⟩:=d;dsimp only at*;obtain⟨k0,k1,k2,k3,k4,k5,k6,k7,k8⟩:=ez.out;obtain⟨cn,hy⟩:=i6 (fun(x:Int)(H:B4 x)=>show(⟨x,bd,be,T,aa,ab,ac,ad,ae⟩:r9).ok from⟨H,k1,k2,k3,k4,k5,k6,k7,k8⟩) k0;clear k0 k1 k2 k3 k4 k5 k6 k7 k8 ez;go_loopw [11] (fun s wr=>∃(k:Nat)(x:Int),k≤2∧s=I M k∧B4 x∧b9 wr (w+1) 30 #[I V x,I V bd,I U6 be,I U6 T,I U6 aa,I U6 ab,I U6 ac,I U6 ad,I U6 ae]∧Tv w [30] b wr) (fun i _=>2-(intOf i).toNat)
   case atStart=>exact⟨0,iy,by decide,rfl,hy.out,fa.out,.refl _ _ _⟩
   case round=>
    clear fa;obtain⟨k,x,jw,rfl,H,bw,bx⟩:=hrel;have l:=hz.tv bx;have R:=ia.tv bx;obtain⟨fg,hw,es⟩:=p7 bx l R;clear bx;by_cases iw:k<2
    ·have jx:(k:Int)<2:=by omega
     obtain⟨fc,co⟩:=i6 (fun W(h:a9 wr W)=>vT (Z Ap xa.length m) t.1 ⟨x,bd,be,T,aa,ab,ac,ad,ae⟩ W (cn x H) g.2.2.1 (l.s.h h)) (fun W(h:a9 wr W)=>vT (Z Aq f.length n) B.1 ⟨x,bd,be,T,aa,ab,ac,ad,ae⟩ W (cn x H) g.2.2.2.1 (R.s.h h));rw[g.1.ev _ (cn x H)]at co;generalize U2 t.1 ⟨x,bd,be,T,aa,ab,ac,ad,ae⟩=z at*;have js:(z !=z)=Bf:=by simp
     have ce:wr.cell? ⟨bk,13,J⟩=So (Z Ap xa.length m):=l.b.cell 13;have fb:=a6 bw;dsimp only[r9.val,YG]at fc co;obtain⟨dr,dt,du,dv,dw,dx,dy,dz,ea⟩:=(bw).c9;clear l R bw;go_wp2_with fail
     apply(fc _ (a9.refl _)).mono;rintro e jc⟨rfl,ch⟩;clear ce dr dt du dv dw dx dy dz ea;have er:=fb.h ch;have ce:jc.cell? ⟨bl,13,J⟩=So (Z Aq f.length n):=(es.b.h ch).cell 13;obtain⟨dr,dt,du,dv,dw,dx,dy,dz,ea⟩:=(er).c9;have cy:=a6 ch;clear er ch;go_wp2_with fail
     apply(co _ cy.out).mono;rintro e ku⟨rfl,ei⟩;have bo:=(fb.h cy.out).h ei;have f8:=bo.frozen 0;have F:=bo.cell 0;obtain⟨ey,ic⟩:=i6 bo (cy.trans ei);clear ce dr dt du dv dw dx dy dz ea bo ei;go_wp2_with fail
     go_roundw
     case rel=>exact⟨k+1,dn,by omega,by go_num,ix,ey.f 0 _,(fg.h ic.out).trans (.r ey (by omega) (by decide) 0 _)⟩
     case measure=>simp[intOf];omega
    ·obtain rfl:k=2:=by omega
     have fk:=fg.b im (a7 _);have bv:wr.cell? ⟨bk,13,J⟩=So (Z Ap xa.length m):=hw.b.cell 13;have af:wr.cell? ⟨bl,13,J⟩=So (Z Aq f.length n):=es.b.cell 13;obtain⟨D,db,-,dc⟩:=l.s.ex;obtain⟨E,dd,-,de⟩:=R.s.ex;have cc:D.length=xa.length:=db.len.symm;have cd:E.length=f.length:=dd.len.symm;obtain⟨ig,ih⟩:=i6 db.mem dd.mem;have cb:=cu.2.2.2.2;have ib:=a6 (fun(i:Nat)(iq:i<D.length)(ir:i<E.length)=>show E[i].p.ins.length≤D[i].p.ins.length∧D[i].p.d=E[i].p.d∧D[i].p.a=E[i].p.a by
      have q:=g.1.at_ i (by rw[←dc,a32];exact iq) (by rw[←de,a32];exact ir);simp only[←dc,←de,List.getElem_map]at q;exact q)
     obtain⟨et,hx,ie⟩:=p7 (And.intro bv af) (And.intro cc (And.intro cd cb)) fk;clear l R db dd dc de cc cd cb fk bw H;go_wp2_with fail
     go_loopw [16] (fun s W=>∃i:Nat,i≤xa.length∧s=I M i∧a9 wr W) (fun s _=>xa.length-(intOf s).toNat)
     case atStart=>exact⟨0,i5 _,rfl,a9.refl _⟩
     case round=>
      clear bv af;obtain⟨i,hi,rfl,h⟩:=hrel;have bv:=h.cell et.1;have af:=h.cell et.2;by_cases iw:i<xa.length
      ·obtain⟨cc,cd,cb⟩:=hx.out
       have bi:i<D.length:=by omega
       have bj:i<E.length:=by omega
       have Q:=ig.h h;have MB:=ih.h h;obtain⟨df,dp,rfl,_⟩:=Q.rows (by decide) (by omega);obtain⟨dg,dq,rfl,_⟩:=MB.rows (by decide) (by omega);have eb:=Q.b bi (r:=0) rfl;have ec:=Q.b bi (r:=1) rfl;have ed:=Q.b bi (r:=2) rfl;have ee:=MB.b bj (r:=0) rfl;have ef:=MB.b bj (r:=1) rfl;have eg:=MB.b bj (r:=2) rfl;simp only[fM,PR.v,a4z]at eb ec ed ee ef eg;obtain⟨io,gn,gp⟩:=ib i bi bj;generalize D[i]=je at*;generalize E[i]=z at*;obtain⟨⟨hq,hr,hs⟩,jf,jg⟩:=je;obtain⟨⟨ht,hu,hv⟩,jp,jq⟩:=z;dsimp only at*;have gk:Dc (hs.length<hv.length)=Bf:=decide_eq_false (by omega);have gl:(hq !=ht)=Bf:=by simp[gn]
       have gm:(hr !=hu)=Bf:=by simp[gp]
       have jv:(i:Int)<xa.length:=by omega
       have ju:(i:Int)<f.length:=by omega
       have jz:(0:Int)≤i:=by omega
       have o:=a6 (And.intro bv (And.intro af (And.intro eb (And.intro ec (And.intro ed (And.intro ee (And.intro ef eg)))))));clear io gn gp Q MB eb ec ed ee ef eg af cc cd cb bi bj;go_wp2_with fail
       refine e7 rfl ((.is ?Dk:VP)::(.is (Z (So ⟨dg,dq,J⟩) f.length n):VP)::(.is ?Dl:VP)::(.is ?Dm:VP)::(.is ?Dn:VP)::(.is (Z jp hv.length jq):VP)::(.is ?Do:VP)::(.is ?Dp:VP)::(.is (Z (So ⟨df,dp,J⟩) xa.length m):VP)::(.is ?Dq:VP)::(.is ?Dr:VP)::(.is ?Ds:VP)::(.is (Z jf hs.length jg):VP)::(.is ?Dt:VP)::(.is ?Du:VP)::(.is ?Dv:VP)::(.is ?Dw:VP)::(.is (Z (So ⟨df,dp,J⟩) xa.length m):VP)::(.is ?Dx:VP)::(.is ?Dy:VP)::(.is ?Dz:VP)::(.is (I M hq):VP)::(.is ?Ea:VP)::(.is (Z (So ⟨dg,dq,J⟩) f.length n):VP)::(.is ?Eb:VP)::(.is ?Ec:VP)::(.is ?Ed:VP)::(.is (I M ht):VP)::(.is ?Ee:VP)::(.is ?Ef:VP)::(.is ?Eg:VP)::(.is ?Eh:VP)::(.is (Z (So ⟨df,dp,J⟩) xa.length m):VP)::(.is ?Ei:VP)::(.is ?Ej:VP)::(.is ?Ek:VP)::(.is (I M hr):VP)::(.is ?El:VP)::(.is (Z (So ⟨dg,dq,J⟩) f.length n):VP)::(.is ?Em:VP)::(.is ?En:VP)::(.is ?Eo:VP)::(.is (I M hu):VP)::(.is ?Ep:VP)::(.is ?Eq:VP)::[]) (by kernel_rfl) ?Er ?Az ⟨?Ba,?Bb,?Bc,?Bd,?Be,?Bf,?Bg,?Bh,?Bi,?Bj,?Bk,?Bl,?Bm,?Bn,?Bo,?Bp,?Bq,?Br,?Bs,?Bt,?Bu,?Bv,?Bw,?Bx,?By,?Bz,?Ca,?Cb,?Cc,?Cd,?Ce,?Cf,?Cg,?Ch,?Ci,?Cj,?Ck,?Cl,?Cm,?Cn,?Co,?Cp,?Cq,?Cr,?Cs,trivial⟩ ?Ct
       case Az=>intro x;simp only[e6,Act.put,uL,l9]<;>rfl
       case Ba|Bb|Bc|Bd|Be|Bf|Bg|Bh|Bi|Bj|Bk|Bl|Bm|Bn|Bo|Bp|Bq|Br|Bs|Bt|Bu|Bv|Bw|Bx|By|Bz|Ca|Cb|Cc|Cd|Ce|Cf|Cg|Ch|Ci|Cj|Ck|Cl|Cm|Cn|Co|Cp|Cq|Cr|Cs=>
        intro x b a;simp only[e5,j8,uV];repeat(intro d;try simp only[d])
        try refine g9 (by first|rfl|simp) ?_
        have jh:=a.cell o.2.1;have ji:=a.cell o.2.2.2.2.2.2.2;have jj:=a.cell o.1;have jk:=a.cell o.2.2.2.2.1;have jl:=a.cell o.2.2.1;have jm:=a.cell o.2.2.2.2.2.1;have jn:=a.cell o.2.2.2.1;have jo:=a.cell o.2.2.2.2.2.2.1;go_wp2_with fail
        refine a0e ?_ rfl (a9.refl _);rfl
       case Ct=>
        intro x b a;simp only[l8,e5,j8,uV];intro ag ah y ax ay az ba bb F bc ai aj ak al am an ao ap aq ar au av aw fm fn fo fp fq fr fs ft fu fv fw fx fy fz ga gb gc gd gf gg gh gj;simp only[ag,ah,y,ax,ay,az,ba,bb,F,bc,ai,aj,ak,al,am,an,ao,ap,aq,ar,au,av,aw,fm,fn,fo,fp,fq,fr,fs,ft,fu,fv,fw,fx,fy,fz,ga,gb,gc,gd,gf,gg,gh,gj];clear ag ah y ax ay az ba bb F bc ai aj ak al am an ao ap aq ar au av aw fm fn fo fp fq fr fs ft fu fv fw fx fy fz ga gb gc gd gf gg gh gj;go_wp2_with fail
        go_roundw
        case rel=>exact⟨i+1,by omega,by go_num,h.trans a⟩
        case measure=>simp[intOf];omega
      ·obtain rfl:i=xa.length:=by omega
       go_wp2_with fail
       go_ret;exact⟨rfl,ie.trans h⟩
 ·go_wp2_with fail
  go_ret;exact⟨rfl,P.out⟩
section
namespace topSame
open Go.ChangeAt
theorem k0:((Rows.topSameRow).wf (OpenSpec.ofChange Rows.topSameSpec))=Bt:=by kernel_rfl
theorem k1:(laidOutB checked.prog)=Bt:=by kernel_rfl
theorem k2:(mapsRowed checked.prog)=Bt:=by kernel_rfl
theorem k3:(f3.params.all (checked.prog.readableRec ·))=Bt:=by kernel_rfl
theorem k4:(namedTie checked.prog Rows.topSameRow.named Rows.topSameSpec.vars)=Bt:=by kernel_rfl
theorem k5:((Rows.topSameRow.stops==[]))=Bt:=by kernel_rfl
theorem k6:((checked.prog.stops==[]))=Bt:=by kernel_rfl
theorem k7:((Rows.topSameRow.knobs==[]))=Bt:=by kernel_rfl
theorem k8:((checked.prog.stopKnobs==[]))=Bt:=by kernel_rfl
theorem k9:((Rows.topSameRow.inPlace==checked.prog.inPlace 3))=Bt:=by kernel_rfl
theorem k10:((Rows.topSameRow.unfollowed==checked.prog.unfollowed 3))=Bt:=by kernel_rfl
theorem k11:((Rows.topSameRow.recurses==checked.prog.recurses 3))=Bt:=by kernel_rfl
theorem k12:((Rows.topSameRow.named==checked.prog.varsNamed 3))=Bt:=by kernel_rfl
theorem k13:((Rows.topSameRow.maps==(f3.params.toList++Rows.topSameSpec.plain.varTypes checked.prog).any (checked.prog.mapsRec ·)))=Bt:=by kernel_rfl
theorem k14:((Rows.topSameRow.ifaces==(f3.params.toList++Rows.topSameSpec.plain.varTypes checked.prog).any (checked.prog.ifacesRec ·)))=Bt:=by kernel_rfl
theorem k15:((Rows.topSameRow.mapsOut==checked.prog.mapsAmong f3.resultTypes.toList))=Bt:=by kernel_rfl
theorem k16:((Rows.topSameRow.loops==(f3.params.toList++Rows.topSameSpec.plain.varTypes checked.prog).any (checked.prog.loopsFrom ·)))=Bt:=by kernel_rfl
theorem k17:((Rows.topSameRow.wideKeys==(f3.params.toList++Rows.topSameSpec.plain.varTypes checked.prog++f3.resultTypes.toList).any (checked.prog.wideKeysFrom ·)))=Bt:=by kernel_rfl
theorem k18:(Rows.topSameSpec.vars.all (checked.prog.varReadable ·))=Bt:=by kernel_rfl
theorem k19:(f3.resultTypes.all (fun t=>checked.prog.readableRec t&&Dc (t<checked.prog.types.size)))=Bt:=by kernel_rfl
theorem k20:((Rows.topSameRow.ifacesOut==f3.resultTypes.toList.any (checked.prog.ifacesRec ·)))=Bt:=by kernel_rfl
theorem k21:((Rows.topSameRow.loopsOut==f3.resultTypes.toList.any (checked.prog.loopsFrom ·)))=Bt:=by kernel_rfl
theorem k22:((Rows.topSameRow.plainKeys==checked.prog.plainKeys))=Bt:=by kernel_rfl
theorem k23:(Rows.topSameRow.shortTexts.isNone)=Bt:=by kernel_rfl
theorem k24:(checked.prog.stopsHeard)=Bt:=by kernel_rfl
theorem k25:(checked.prog.mayEnter)=Bt:=by kernel_rfl
theorem k26:((Rows.topSameRow.lifted==checked.prog.liftsFinal))=Bt:=by kernel_rfl
theorem k27:((checked.prog.make==So Rows.topSameRow.make))=Bt:=by kernel_rfl
theorem k28:((Rows.topSameRow.kinds==(if Rows.topSameRow.domain.isEmpty then []else f3.params.toList.map fun t=>match checked.prog.underlying t with|some (.int k)=>So k|_=>J)))=Bt:=by kernel_rfl
theorem k29:((Rows.topSameRow.pinned==Rows.topSameRow.pinnedBy))=Bt:=by kernel_rfl
theorem k30:((Rows.topSameRow.veiled==(f3.params.toList++Rows.topSameSpec.plain.varTypes checked.prog++f3.resultTypes.toList).any (checked.prog.veiledRec ·)))=Bt:=by kernel_rfl
theorem k31:(Rows.topSameRow.veiledFits checked.prog f3.params.toList (f3.params.toList++Rows.topSameSpec.plain.varTypes checked.prog++f3.resultTypes.toList))=Bt:=by kernel_rfl
theorem a4o:joinedFacts checked.prog 3 f3 Rows.topSameSpec Rows.topSameRow=Bt:=by
 unfold joinedFacts;exact(Bool.and_eq_true_iff.2 ⟨(Bool.and_eq_true_iff.2 ⟨(Bool.and_eq_true_iff.2 ⟨(Bool.and_eq_true_iff.2 ⟨(Bool.and_eq_true_iff.2 ⟨(Bool.and_eq_true_iff.2 ⟨(Bool.and_eq_true_iff.2 ⟨(Bool.and_eq_true_iff.2 ⟨(Bool.and_eq_true_iff.2 ⟨(Bool.and_eq_true_iff.2 ⟨(Bool.and_eq_true_iff.2 ⟨(Bool.and_eq_true_iff.2 ⟨(Bool.and_eq_true_iff.2 ⟨(Bool.and_eq_true_iff.2 ⟨(Bool.and_eq_true_iff.2 ⟨(Bool.and_eq_true_iff.2 ⟨(Bool.and_eq_true_iff.2 ⟨(Bool.and_eq_true_iff.2 ⟨(Bool.and_eq_true_iff.2 ⟨(Bool.and_eq_true_iff.2 ⟨(Bool.and_eq_true_iff.2 ⟨(Bool.and_eq_true_iff.2 ⟨(Bool.and_eq_true_iff.2 ⟨(Bool.and_eq_true_iff.2 ⟨(Bool.and_eq_true_iff.2 ⟨(Bool.and_eq_true_iff.2 ⟨(Bool.and_eq_true_iff.2 ⟨(Bool.and_eq_true_iff.2 ⟨(Bool.and_eq_true_iff.2 ⟨(Bool.and_eq_true_iff.2 ⟨(Bool.and_eq_true_iff.2 ⟨k0,k1⟩),k2⟩),k3⟩),k4⟩),k5⟩),k6⟩),k7⟩),k8⟩),k9⟩),k10⟩),k11⟩),k12⟩),k13⟩),k14⟩),k15⟩),k16⟩),k17⟩),k18⟩),k19⟩),k20⟩),k21⟩),k22⟩),k23⟩),k24⟩),k25⟩),k26⟩),k27⟩),k28⟩),k29⟩),k30⟩),k31⟩)
theorem named:checked.prog.funcNamed Rows.topSameRow.func=So 3:=by kernel_rfl
theorem a6B:f3.isInstance checked.prog Rows.topSameRow.origin Rows.topSameRow.targs:=of_decide_eq_true (by kernel_rfl)
theorem wrap:f3.isWrapper checked.prog Rows.topSameRow.wrapper Rows.topSameRow.mainSum:=by unfold Func.isWrapper;first|(rw[if_pos (by decide+kernel)];kernel_rfl)|(rw[if_neg (by decide+kernel)];exact⟨rfl,rfl⟩)
theorem over(b:∀(os:Os)(a:os.Started)(H:Type)(enc:Ti×Va→H),
  ReturnsInHanded {} checked os 3 .any (Rows.topSameSpec.pre6 enc prog f3 Rows.topSameRow.domain Bf) (Rows.topSameSpec.post enc prog f3 Bf Bt Bf Bf)):Rows.topSameRow.holds pinned (OpenSpec.ofChange Rows.topSameSpec):=
 OpenClaim.holds_of_wide 3 f3 rfl rfl rfl rfl rfl rfl rfl ⟨rfl,rfl,rfl,rfl,rfl⟩ rfl rfl rfl rfl rfl named func3 a4o a6B wrap
  (fun os a H enc _=>b os a H enc)
end topSame
end
section
namespace topSame
open Go.ChangeAt
theorem lifted(os:Os)(ae:os.Started)(H:Type)(enc:Ti×Va→H):
  ReturnsInHanded {} checked os 3 .any (Rows.topSameSpec.pre6 enc prog f3 Rows.topSameRow.domain Bf) (Rows.topSameSpec.post enc prog f3 Bf Bt Bf Bf):=by
 refine returnsInHanded_of_change (C:=checked) UC ae (by kernel_rfl) func3
  (ChangeSpec.witness6 (enc:=enc) (C:=checked) Bf ⟨#[],#[Ag #[Y ByteArray.empty,I M 0,Z J 0 0],Z J 0 0,Ag #[I V 0,I V 0,I U6 0,I U6 0,I U6 0,I U6 0,I U6 0,I U6 0,I U6 0],I V 0],[]⟩ 8 (by kernel_rfl) (by kernel_rfl) (by kernel_rfl) (by kernel_rfl)) ?_
 intro W base args ds av ak r o ax _;have b:∀(j:Nat) t v,f3.params[j]? =So t→args[j]? =So v→Value.okWide prog W .any base t v:=r;have R:=o;obtain⟨p,q,n,Q,rfl,ay,az⟩:=o;have l:DataW.TrodAll enc prog W 0 (fun _=>Bt) Bt f3.params.toList args.toList ds p:=n;rw[params3]at l b;obtain⟨s,bi,al,ap,ba,be,aw,rfl,rfl,g,aa⟩:=trodAll_cons l;obtain⟨w,bj,am,aq,bb,bf,rfl,rfl,rfl,h,ab⟩:=trodAll_cons aa;obtain⟨y,bk,an,ar,bc,bg,rfl,rfl,rfl,i,ac⟩:=trodAll_cons ab;obtain⟨z,bl,ao,au,bd,bh,rfl,rfl,rfl,k,ad⟩:=trodAll_cons ac;obtain⟨rfl,rfl,rfl⟩:=trodAll_nil ad;obtain rfl:args= #[s,w,y,z]:=by cases args;simp_all
 obtain⟨rfl,rfl⟩:=trodVars_none Q;have f:∀{t v d p},DataW.Trod enc prog W 0 (fun _=>Bt) Bt t v d p→∀x∈p,x.block<W.heap.size:=fun⟨m,T⟩=>DataW.trod_lt m _ _ _ T
 obtain⟨u,E,af⟩:=NP (b 0 24 s rfl rfl) g;obtain⟨A,c,N,F,ag,aj⟩:=FV (b 1 25 w rfl rfl) h;obtain⟨B,G,ah⟩:=NQ (b 2 30 y rfl rfl) i;obtain⟨D,L,_,_,ai⟩:=open_int underlying26 (b 3 26 z rfl rfl) k;subst E F G L;clear n r;refine(vL u A c N B D W ag af aj ah (RS ai)).mono fun e W'⟨S,a⟩=> ?_
 subst S;exact⟨_,rfl,_,_,_,[],_,[],R,trodAll_mk1 (shut_bool underlying4 _),(trodAll_cons_mk (Below.trod iZ (by kernel_rfl) (of_decide_eq_true (by kernel_rfl)) g a (f g)) (trodAll_cons_mk (Below.trod iZ (by kernel_rfl) (of_decide_eq_true (by kernel_rfl)) h a (f h)) (trodAll_cons_mk (Below.trod iZ (by kernel_rfl) (of_decide_eq_true (by kernel_rfl)) i a (f i)) (trodAll_cons_mk (Below.trod iZ (by kernel_rfl) (of_decide_eq_true (by kernel_rfl)) k a (f k)) trodAll_mk0)))),rfl,Below.frame a _,fun P=>by cases P⟩
theorem proved:Rows.TopSameSaid:=over lifted
end topSame
end
end Go.Proofs.YtiomenjfmagknaaGreat
