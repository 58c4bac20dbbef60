/- A part of the proof of TopSame: lemmas on the walks of its calls. -/
import Derived.Test.YtiomenjfmagknaaGreatM18
set_option maxHeartbeats 12000000
set_option linter.all false
set_option maxRecDepth 100000
namespace Go.Proofs.YtiomenjfmagknaaGreat
open Go.RowKit Go.ChangeShapes Go.WideShapes Tryz
open Bool renaming true→Bt,false→Bf
open Ending renaming returned→X
open Go renaming World→Wd,Value→Va,Calls→Ca,callsIn_wide→Cw,undef→Un,bodyPost_ret→Bp,TypeId→Ti,Addr→Ad,callsIn_of_wp_marks→Cm,callsIn_of_wp→Co,CallsIn→Ci,rounds_succ→Rs
open Go.Proofs renaming enters_of→Eo
open Int renaming toNat_natCast→a4A
open IntKind renaming i64→M,u32→V,u64→U6,u16→U1,u8→U8
open Lib renaming hid→a6
open List renaming getD_eq_getElem?_getD→a8,getElem?_eq_getElem→e9,length_append→a2e,replicate→a2A,range→q5,length_cons→a3W,getElem_mem→a30,length_map→a32,take_succ_eq_append_getElem→a4a,append_assoc→a4s,length_take→a4C,map_append→a4F
open Nat renaming le_refl→a7,le_trans→c8,reduceAdd→l9,zero_le→i5,add_zero→a4z,reduceSub→a4D,zero_add→a4E
open Obj renaming cells→U
open Operand renaming tmp→Tm
open Option renaming none→J,some→So
open Value renaming int→I,slice→Z,string→Y,pointer→K,bool→O,func→Fc,tuple→Tp,agg→Ag
section
attribute [local go_sem] Oper.semAt_some
def a4S(b:Option Ad)(n c a g e f d:Nat)(co kk th el:Int):Act:=
 {tmps:= #[Z b n c,Un,Z J 0 0,K a,K (a+1:Nat),I M d,K f,Z b n c,Z g n e,Fc (.func 343) #[] #[K a],Z b n c,Fc (.func 337) #[] #[K (a+1+1:Nat)],I M d,Ag #[I U1 co,I V kk,I M th,I M el],Un,Un,Un,Un,Un,Un,Un,Un,Un,Un,Un,Un,Un,Un,Un,Un,Un,Un,Un,Un,Un,Un,Un,Un,Un,Un,Un,Un,Un],defers:=[]}
def a6H(b:Option Ad)(n c h g e:Nat)(ps:List Sy)(x f:Nat)(d:Act)(W:Wd):Prop:=
 ∃a co kk th el,f≤a∧ps.getD x c6=⟨co,kk,th,el⟩∧d=a4S b n c h g e a x co kk th el∧b9 W a 374 #[I U1 co,I V kk,I M th,I M el]
structure a5N(w:Wd)(A:Option Ad)(n c z1 g c':Nat)(ps:List Sy)(more:List Va)(pre:List Nat)(W:Wd):Prop where
 q:b9 W g 374 (sc (p8 ps pre)++more).toArray
 b3:b9 W z1 159 #[Z g n c']
 b4:b9 W (z1+1) 413 #[Fc (.func 343) #[] #[K z1]]
 b5:b9 W (z1+1+1) 159 #[Z A n c]
 h:a9 w W
 z:z1+3≤W
theorem ZO(w:Wd)(j:Option Ad)(n c f g k:Nat)(m:w≤f)(ps:List Sy)(l:List Va):OwnFrom (f+3) (a5N w j n c f g k ps l):=fun o W W' row a b h=>by
 have d:∀r,row=So r→∃i:Obj,W.heap[r]? =So i∧i.isCells=Bf:=fun r e=>(h r e).2
 exact⟨e8 a.q b d,e8 a.b3 b d,e8 a.b4 b d,e8 a.b5 b d,a.h.grown b (fun r e=>by have:=(h r e).1;omega),c8 a.z b.size⟩
theorem iB(ps:List Sy):∀(a:List Nat)(q:List Sy),(a.foldl (eI ps) q).length=q.length
 |[],q=>rfl
 |i::a,q=>by rw[List.foldl_cons,iB ps a];unfold eI;rw[List.length_set]
theorem a1w{s:Sy}{a n:Int}(f:Int→Int)(h:H5 s a n):∃g i,H5 (mv f s) g i:=by
 rcases h with⟨b,d,c,e⟩|⟨b,d,c⟩|⟨b,d,c⟩|⟨b,e,c,d⟩|⟨b,d,c⟩
 ·rw[r8 f (.inl b)];exact⟨0,0,.ld b d c e⟩
 ·rw[r8 f (.inr (.inl b))];exact⟨0,0,.an b d c⟩
 ·rw[r8 f (.inr (.inr b))];exact⟨0,0,.re b d c⟩
 ·rw[lZ f b];exact⟨f s.th-1,f s.th+1,.ja b e c ⟨by dsimp only;omega,by dsimp only;omega⟩⟩
 ·rw[Q1 f (a0h.2 b)]
  exact⟨min (f s.th) (f s.el)-1,max (f s.th) (f s.el)+1,.as b ⟨by dsimp only;omega,by dsimp only;omega⟩ ⟨by dsimp only;omega,by dsimp only;omega⟩⟩
theorem M8{W W':Wd}{g:Nat}{c:Ti}{cs:Array Va}(d:W.grownBy W' (So g))(b:b9 W g c cs)(B:Nat):KeepsFrom B W W':=
 KeepsOthers.from (KeepsOthers.of_grownBy d (fun j f e a=>by
  injection e with e
  subst e;unfold b9 at b;rw[b]at a;injection a with a
  subst a;rfl)) B
theorem eU{W W':Wd}(a:a9 W W')(B:Nat):KeepsFrom B W W':=KeepsOthers.from ⟨a.size,fun k c b _=>(a.block (Array.getElem?_eq_some_iff.1 b).1).trans b⟩ B
theorem zB(b m n c:Nat)(ps:List Sy)(w:Wd)(ba:ps.length=n)(bx:m9 ps)(bw:h9 w (So ⟨b,m,J⟩) (sc ps)):
  Ci .wide 3 prog 260 #[Z (So ⟨b,m,J⟩) n c] w fun e ci=>∃g y F,e=X (Z (So ⟨g,0,J⟩) n y)∧b9 ci g 374 (sc (D7 ps)++F).toArray∧w.heap.size≤g∧a9 w ci:=by
 have fs:1≤n:=by have:=bx.l1;omega
 have fg:n≤131072:=by have:=bx.l2;omega
 obtain⟨ao,ef,an,ei⟩:=J5 ba (YQ b m n c ps w ba fs fg bw) bw (show D7 ps=p8 ps (q5 n).reverse from by unfold D7;rw[ba]);clear ba bw;refine Cm func260 rfl trivial ?_ rfl;simp only[ntmps260,uE,l9,a4D];gi_wp2_with(first
  |(refine⟨trivial,?_⟩;gi_at_call 342;apply((Cw (n:=2)).2 ef.out).mono;rintro e H⟨g,y,F,rfl,dd,fd,cf⟩)
  |(refine⟨trivial,?_⟩;gi_at_call 257;apply(DQ (So ⟨b,m,J⟩) n c _).mono;rintro e ci⟨rfl,rfl⟩))
 generalize bb:H.heap.size=a at*;have ex:b9 (((H.alloc (U #[Z (So ⟨g,0,J⟩) n y] 159)).alloc (U #[Fc (.func 343) #[] #[K a]] 413)).alloc (U #[Z (So ⟨b,m,J⟩) n c] 159)) a 159 #[Z (So ⟨g,0,J⟩) n y]:=((b9.b bb.symm).alloc _).alloc _;have ey:b9 (((H.alloc (U #[Z (So ⟨g,0,J⟩) n y] 159)).alloc (U #[Fc (.func 343) #[] #[K a]] 413)).alloc (U #[Z (So ⟨b,m,J⟩) n c] 159)) (a+1) 413 #[Fc (.func 343) #[] #[K a]]:=(b9.b (by simp[bb])).alloc _;have bu:b9 (((H.alloc (U #[Z (So ⟨g,0,J⟩) n y] 159)).alloc (U #[Fc (.func 343) #[] #[K a]] 413)).alloc (U #[Z (So ⟨b,m,J⟩) n c] 159)) (a+1+1) 159 #[Z (So ⟨b,m,J⟩) n c]:=b9.b (by simp[bb]);have bv:a9 H (((H.alloc (U #[Z (So ⟨g,0,J⟩) n y] 159)).alloc (U #[Fc (.func 343) #[] #[K a]] 413)).alloc (U #[Z (So ⟨b,m,J⟩) n c] 159)):=(((a9.refl H).alloc _).alloc _).alloc _;have cg:(((H.alloc (U #[Z (So ⟨g,0,J⟩) n y] 159)).alloc (U #[Fc (.func 343) #[] #[K a]] 413)).alloc (U #[Z (So ⟨b,m,J⟩) n c] 159)).heap.size=a+3:=by simp[bb]
 generalize((H.alloc (U #[Z (So ⟨g,0,J⟩) n y] 159)).alloc (U #[Fc (.func 343) #[] #[K a]] 413)).alloc (U #[Z (So ⟨b,m,J⟩) n c] 159)=w0 at*;have ez:h9 w0 (So ⟨b,m,J⟩) (sc ps):=(an.h cf).h bv;have gl:g<a:=by have:=dd.lt;omega
 have fl:w≤a:=by have:=cf.size;omega
 refine s5 rfl (by decide) (gf:=337) (lb:= #[K (a+1+1:Nat)]) rfl trivial (Eo func337 (by kernel_rfl) rfl)
  (mP (a+1+1) n c (So ⟨b,m,J⟩) ps ao (by omega) w0 bu.lt (by rw[bu.cell];rfl) ez) (fun G k=>G.trans k)
  (fun W l m aj _ az ay _=>⟨fun ce=>cell_kept ce (grownBy_putObj' W l aj) (fun r e=>by cases e;exact⟨m,az,ay⟩),fun ce j u fk=>by
   obtain⟨b,ft,e,fc⟩:=ce j u fk;exact⟨b,ft,e,cell_kept fc (grownBy_putObj' W l aj) (fun r e=>by cases e;exact⟨m,az,ay⟩)⟩⟩) (Below.refl _ _) (fun _=>rfl)
  (fun x W l m aj cy _ _=>cy)
  (a5N w (So ⟨b,m,J⟩) n c a g y ps F) (by rw[cg];exact ZO w (So ⟨b,m,J⟩) n c a g y fl ps F)
  ⟨dd.h bv,ex,ey,bu,cf.trans bv,by omega⟩
  (a6H (So ⟨b,m,J⟩) n c a g y ps)
  (fun x hb en W l m aj⟨g,co,fr,fq,kk,eu,ev,bs,ew⟩ az ay=>⟨g,co,fr,fq,kk,eu,ev,bs,e8 ew (grownBy_putObj' W l aj) (fun r e=>by cases e;exact⟨m,az,ay⟩)⟩)
  (fun _ _ _ G _=>G) (fun W W' e=>⟨fun G=>e.cell G,fun G=>G.h e⟩) ?Aa ?Ab ?Ac
 case Aa=>
  intro l x W ga cy D;obtain⟨⟨co,kk,th,el⟩,T⟩:∃E,ps.getD x c6=E:=⟨_,rfl⟩;simp only[T,Sy.val,Sy.cells]
  gi_wp2
  exact D _ _ ((a9.refl W).alloc _) ⟨W,co,kk,th,el,a7 _,T,rfl,b9.new _ _ _⟩
 case Ab=>
  rintro l ad p gb W en cz L fn⟨Q,co,kk,th,el,fp,T,rfl,df⟩ _ gm;have fe:p<ps.length:=by rw[ao.out];exact fn
  have D:=a0P (bx.one p fe);rw[T,ao.out]at D;have fi:(p8 ps ad).length=n:=(iB ps ad ps).trans ao.out;have dq:p8 ps (ad++[p])=(p8 ps ad).set p (V4 (C1 (p8 ps ad)) ⟨co,kk,th,el⟩):=by
   rw[fI];unfold eI;rw[T]
  have gk:a+3≤Q:=c8 cz.z fp;have ab:=L.q;generalize p8 ps ad=f at*;have ca:p<f.length:=by omega
  have dp:V4 (C1 f) ⟨co,kk,th,el⟩=if l0 co=Bt∧C1 f th=C1 f el then⟨5,0,C1 f th,0⟩else mv (C1 f) ⟨co,kk,th,el⟩:=vM _ _
  have dk:=I2 (C1 f) ⟨co,kk,th,el⟩;obtain⟨gc,gw,db⟩:=a1w (C1 f) D;have dj:l0 co=Bt→mv (C1 f) ⟨co,kk,th,el⟩=⟨co,kk,C1 f th,C1 f el⟩:=fun G=>Q1 (s:=⟨co,kk,th,el⟩) _ G
  have cm:=a6 (fun(A:Wd)(o:a9 W A)(ai:Nat)(bs:b9 A ai 374 #[I U1 co,I V kk,I M th,I M el])=>
   pV.1 a (C1 f) (fun t=>0≤t∧t<n) ai 0 1 1 [⟨co,kk,th,el⟩] A rfl (a7 _) (by omega) (h9.f bs rfl)
    (fun i hi=>by
     obtain rfl:i=0:=by omega
     exact⟨_,_,D⟩)
    (fun i hi t cd=>by
     obtain rfl:i=0:=by omega
     have:=ES D cd;omega)
    (fun em t dc cd=>a0r a g n y f F fi em (L.b3.h (o.trans dc)) (ab.h (o.trans dc)) t cd))
  simp only[List.map_cons,List.map_nil]at cm;generalize ff:mv (C1 f) ⟨co,kk,th,el⟩=s' at*;obtain⟨v,C,z,B⟩:=s';dsimp only at dk;subst dk;have am:=a6 (fun W'=>DV db W');dsimp only[Sy.val,Sy.cells]at am;have gs:(0:Int)≤p:=by omega
  have gu:(p:Int)<n:=by omega
  obtain⟨eh,P,ck,bl,ag,bi⟩:=jX ab L df dq dp dj;clear ab L df dq dp dj D db T ff cz;unfold a4S;gi_wp2_with fail
  refine g4 (fun _=>trivial) rfl [.is (Z (So ⟨g,0,J⟩) n y),.is ?Ao,.is (.agg #[I U1 v,I V kk,I M th,I M el]),VP.blk 1 374 #[I U1 v,I V kk,I M th,I M el],.is (Fc (.func 343) #[] #[K a]),VP.row 1 (sc [⟨v,C,z,B⟩]),VP.ptrm (sc [⟨v,C,z,B⟩]),.is (.agg #[I U1 v,I V C,I M z,I M B]),.is (K (So ⟨g,p*4,J⟩))] (by kernel_rfl) ?Ap ?Ad ⟨?Ae,?Af,?Ag,?Ah,?Ai,?Aj,?Ak,?Al,?Am,trivial⟩ _ rfl rfl ?An
  case Ad=>intro x;simp only[e6,Act.put,uL,l9]<;>rfl
  case Af|Ag|Am=>
   intro x A o;simp only[e5,g1,uV,VP.ptrm];repeat(intro d;try simp only[d])
   have eo:=ck.h o;obtain⟨ak,bc,bd,be⟩:=eo.c4;gi_wp2_with fail
   refine a0e ?_ rfl (a9.refl _);rfl
  case Ae=>
   intro x A o;simp only[e5,g1,uV,VP.ptrm];have br:=(P.b3.h o).cell 0;simp only[List.getElem?_toArray,List.getElem?_cons_zero]at br;gi_wp2_with fail
   refine a0e ?_ rfl (a9.refl _);rfl
  case Ah=>
   intro x A o;simp only[e5,g1,uV,VP.ptrm];intro ar;simp only[ar];gi_wp2_with fail
   refine a0e ?_ rfl ((a9.refl _).alloc _);exact⟨_,rfl,b9.new _ _ _⟩
  case Ai=>
   intro x A o;simp only[e5,g1,uV,VP.ptrm];have br:=(P.b4.h o).cell 0;simp only[List.getElem?_toArray,List.getElem?_cons_zero]at br;gi_wp2_with fail
   refine a0e ?_ rfl (a9.refl _);rfl
  case Aj=>
   intro x A o;simp only[e5,g1,uV,VP.ptrm];rintro⟨ai,au,dt⟩ av;simp only[au,av];gi_wp2_with(refine⟨trivial,?_⟩;gi_at_call 340;refine(CallsIn.inRound l ((Cw (n:=0)).2 (cm A o ai dt))).mono ?_;rintro e ha⟨es,ep,gv,rfl,fb,gj,fm⟩)
   refine a0e ?_ rfl (fm);exact⟨So ⟨es,0,J⟩,ep,rfl,(h9.f fb rfl).prefix_⟩
  case Ak=>
   intro x A o;simp only[e5,g1,uV,VP.ptrm];rintro⟨dw,er,aw,ch⟩;simp only[aw];obtain⟨gd,gx,rfl,_⟩:=ch.some_ (Nat.zero_lt_succ 3);gi_wp2_with fail
   refine a0e ?_ rfl (a9.refl _);exact⟨_,rfl,ch⟩
  case Al=>
   intro x A o;simp only[e5,g1,uV,VP.ptrm];rintro⟨et,ax,ac⟩;simp only[ax];obtain⟨gg,gy,rfl,_⟩:=ac.some_ (Nat.zero_lt_succ 3);have ak:=ac.cell (k:=0) rfl;have bc:=ac.cell (k:=1) rfl;have bd:=ac.cell (k:=2) rfl;have be:=ac.cell (k:=3) rfl;simp only[a4z]at ak;gi_wp2_with fail
   refine a0e ?_ rfl (a9.refl _);rfl
  case An=>
   intro x A o;simp only[l8,e5,j8,uV,VP.ptrm];rintro cs ct ar⟨ai,au,dt⟩ av⟨dw,er,aw,ch⟩⟨et,ax,ac⟩ cu cv;simp only[cs,ct,ar,au,av,aw,ax,cu,cv];clear cs ct ar au av aw ax cu cv;have bt:=eh.h o;have dh:p*4+4≤(sc f++F).length:=by rw[a2e,K4];omega
   refine m3 rfl 374 (Tm 22) (Tm 21) rfl g (p*4) 374 (sc f++F) #[I U1 v,I V C,I M z,I M B] rfl rfl bt dh (by kernel_rfl) (by simp[Value.oneCell']) ?_;intro dv de S;have cc:=rG (s':=⟨v,C,z,B⟩) ca de;have da:=KeepsFrom.trans (eU o (a+3)) (M8 S bt (a+3));have cx:a9 w dv:=(P.h.trans o).grown S (fun r e=>by injection e with e;omega);have bp:=(P.b3.h o).grown S (fun e=>by injection e with e;omega);have cp:=(P.b4.h o).grown S (fun e=>by injection e with e;omega);have cr:=(P.b5.h o).grown S (fun e=>by injection e with e;omega);have bq:=(ck.h o).grown S (fun e=>by injection e with e;omega);have ds:W≤dv.heap.size:=c8 o.size S.size;have cb:p<(f.set p ⟨v,C,z,B⟩).length:=by rw[List.length_set];exact ca
   obtain⟨fu,fv,fw,fx⟩:=fA cc cb (List.getElem_set_self ..);have aq:=bp.cell 0;simp only[List.getElem?_toArray,List.getElem?_cons_zero]at aq;obtain⟨dx,dy,dz,ea,ee,ek⟩:=jX bp cp cr cc cx da;clear de bt dh bp cp cr cc cx da;have eg:=a6 (show p*4+4≤(sc (f.set p ⟨v,C,z,B⟩)++F).length from by rw[a2e,K4];omega);have gn:a≠Q:=by omega
   have gp:a+1≠Q:=by omega
   have gq:a+1+1≠Q:=by omega
   have gr:g≠Q:=by omega
   by_cases R:l0 v=Bt
   rotate_left
   focus
    have cw:l0 v=Bf:=by simpa using R
    have ah:=a6 (ag.trans (if_neg (fun q=>R q.1)));rw[cw]at am;clear R cw bi ag
   rotate_right
   have fj:=bi R;injection fj with e0 e1 e2 e3
   rw[R]at am;obtain⟨bj,ah,bm,cn⟩:=J5 (fun(e:C1 f th=C1 f el)=>ag.trans (if_pos ⟨R,e⟩)) (fun(e:¬C1 f th=C1 f el)=>ag.trans (if_neg (fun q=>e q.2))) e2 e3;clear e0 e1 e2 e3 R bi ag;rcases dr:(z==B)with _|_
   rotate_left
   focus
    have dg:C1 f th=C1 f el:=by rw[←bm.out,←cn.out];simpa using dr
    have bk:=a6 (bj dg);have cb:p<(f.set p ⟨v,C,z,B⟩).length:=by rw[List.length_set];exact ca
    clear dg bj ah
   rotate_right
   have dl:¬(C1 f th=C1 f el):=by rw[←bm.out,←cn.out];simpa using dr
   have bk:=a6 (ah dl);clear dl bj ah;all_goals
    gi_wp2_with(first
     |(refine m3 rfl 374 (Tm 6) (Tm 26) rfl Q 0 374 [I U1 v,I V kk,I M th,I M el] #[I U1 v,I V C,I M z,I M B] rfl rfl bq (by simp) (by kernel_rfl) (by simp[Value.oneCell']) ?_
       intro du bz di;have ap:b9 du Q 374 #[I U1 v,I V C,I M z,I M B]:=by
        rw[A6 _ _ (by simp)]at bz;exact bz
       obtain⟨ak,bc,bd⟩:=ap.c3;have be:=ap.cell 3)
     |(refine⟨trivial,?_⟩
       gi_at_call 344
       refine(CallsIn.inRound l ((Cw (n:=0)).2 (am _))).mono ?_;rintro e gz⟨rfl,h⟩;obtain⟨N,eb,ed,ej⟩:=J5 di ap bq ds;obtain⟨al,bf,ae,bg,af,bo⟩:=jX (dx.grown N (fun e=>by injection e with e;omega)) (dy.grown N (fun e=>by injection e with e;omega)) (dz.grown N (fun e=>by injection e with e;omega)) (ea.grown N (fun e=>by injection e with e;omega)) (ee.grown N (fun r e=>by injection e with e;omega)) (KeepsFrom.trans ek (M8 N ed (a+3)));have bn:=a6 (show a+3≤du from by have:=P.z;have:=N.size;have:=ej.out;omega);clear di bz ap bq ds ak bc bd be fu fv fw fx aq;have ec:=a6 (eb.h h);obtain⟨ak,bc,bd,be⟩:=ec.c4;have aq:=(al.h h).cell 0;simp only[List.getElem?_toArray,List.getElem?_cons_zero]at aq;have dm:=bg.h h)
     |(refine m3 rfl 374 (Tm 41) (Tm 40) rfl g (p*4) 374 (sc (f.set p ⟨v,C,z,B⟩)++F) #[I U1 5,I V 0,I M z,I M 0] rfl rfl dm eg (by kernel_rfl) (by simp[Value.oneCell']) ?_
       intro fz fa aa))
   ·refine⟨by(try rw[cg]);exact KeepsFrom.trans bo (eU h (a+3)),⟨fun _=>by rw[(ae.h h).cell];rfl,fun _=>an.h (af.trans h)⟩,⟨by rw[bl.out,bk.out];exact bg.h h,al.h h,bf.h h,ae.h h,af.trans h,by have:=h.size;have:=bn.out;omega⟩⟩
   ·have dn:=rG (s':=⟨5,0,z,0⟩) cb fa
    rw[List.set_set]at dn;have cj:a9 w fz:=(af.trans h).grown aa (fun r e=>by injection e with e;omega);have cq:=(ae.h h).grown aa (fun e=>by injection e with e;omega);refine⟨KeepsFrom.trans bo (KeepsFrom.trans (eU h (a+3)) (M8 aa dm (a+3))),⟨fun _=>by rw[cq.cell];rfl,fun _=>an.h cj⟩,⟨by rw[bl.out,bk.out,←bm.out];exact dn,(al.h h).grown aa (fun e=>by injection e with e;omega),(bf.h h).grown aa (fun e=>by injection e with e;omega),cq,cj,by have:=h.size;have:=bn.out;have:=aa.size;omega⟩⟩
   ·refine⟨by(try rw[cg]);exact KeepsFrom.trans bo (eU h (a+3)),⟨fun _=>by rw[(ae.h h).cell];rfl,fun _=>an.h (af.trans h)⟩,⟨by rw[bl.out,ah.out];exact bg.h h,al.h h,bf.h h,ae.h h,af.trans h,by have:=h.size;have:=bn.out;omega⟩⟩
 case Ac=>
  rintro bh ys W gh fo L D;have fy:=L.b3.cell 0;simp only[List.getElem?_toArray,List.getElem?_cons_zero]at fy;have fh:∀r,So bh=So r→∃m:Obj,W.heap[r]? =So m∧m.isCells=Bf:=fun r e=>by cases e;exact⟨_,D,rfl⟩
  have ab:=L.q;rw[fo]at ab
  gi_wp2
  refine⟨by simp,.inl ⟨_,_,rfl,run_takeDeferred D,?_⟩⟩;exact⟨_,results_tmp rfl _ _ _,g,y,F,rfl,by rw[ei.out];exact e8 ab (grownBy_putObj' W bh _) fh,fd,L.h.grown (grownBy_putObj' W bh _) (fun r e=>by cases e;omega)⟩
end
section
open Go.Maps
theorem a5k:Keyed prog 26:=int_keyed underlying26
theorem a0f(w:Wd):(zeroValue 3).run prog w= .ok (I M 0) w:=by kernel_rfl
structure sO(W:Wd)(gm m:Nat)(ps:List Sy)(D:DataW Unit):Prop where
 own:W.ownsMap prog 26 (plainElem (H:=Unit) prog 3) gm m D
 isM:IsMap D
 at_:∀Xa:Int,D.atKey (.int .u32 Xa) (.lit (.int .i64 0))= .lit (.int .i64 ((T7 ps Xa 0 m:Nat):Int))
theorem sO.h{W W':Wd}{b m:Nat}{ps:List Sy}{a:DataW Unit}(h:sO W b m ps a)(e:a9 W W'):sO W' b m ps a:=by
 obtain⟨c,i,j⟩:=h;have n:=c.lt;obtain⟨g,f,l,d,o,k⟩:=c;exact⟨⟨g,f,(e.block n).trans l,d,o,k⟩,i,j⟩
theorem OE(w:Wd)(ps:List Sy)(a:Nat)(b:a=w):sO (w.alloc (.map #[] 0)) a 0 ps (.map []):=by
 subst b;exact⟨World.ownsMap_made _ _ _ _,isMap_empty,fun c=>rfl⟩
theorem VH{W':Wd}{c m:Nat}{ps:List Sy}{b:DataW Unit}(hi:IsMap b)(g:∀a:Int,b.atKey (.int .u32 a) (.lit (.int .i64 0))= .lit (.int .i64 ((T7 ps a 0 m:Nat):Int)))
  (f:(ps.getD m c6).code=6) (kk:Int) (d:(ps.getD m c6).k=kk) (h:W'.ownsMap prog 26 (plainElem (H:=Unit) prog 3) c (m+1) (b.put (.int .u32 kk) (.lit (.int .i64 m)))):
  sO W' c (m+1) ps (b.put (.int .u32 kk) (.lit (.int .i64 m))):=by
 refine⟨h,hi.put _ _,fun a=> ?_⟩;unfold T7;by_cases e:a=kk
 ·subst e
  rw[atKey_put_same hi (k:= .int .u32 a) True.intro,if_pos ⟨f,d⟩]
 ·rw[atKey_put_other (fun q=>e (by injection q)),if_neg (fun q=>e (by rw[←q.2];exact d)),g]
theorem OF{W:Wd}{c m:Nat}{ps:List Sy}{b:DataW Unit}(a:sO W c m ps b)(e:(ps.getD m c6).code≠6):sO W c (m+1) ps b:=
 ⟨a.own.mono (by omega),a.isM,fun d=>by
  unfold T7;rw[if_neg (fun q=>e q.1)];exact a.at_ d⟩
theorem BB{W:Wd}{b m:Nat}{ps:List Sy}{f:DataW Unit}(d:sO W b m ps f)(kk:Int)(k:0≤kk∧kk<4294967296):(Instr.lookup 451 (.map (So b)) (.int .u32 kk) Bf).run prog W= .ok (.int .i64 ((T7 ps kk 0 m:Nat):Int)) W:=by
 have j:(Lit.int .u32 kk).wf=Bt:=by
  have g:IntKind.u32.min=0:=by decide
  have h:IntKind.u32.max=4294967295:=by decide
  unfold Lit.wf;rw[Bool.and_eq_true,decide_eq_true_eq,decide_eq_true_eq,g,h];omega
 obtain⟨c,i,a,_⟩:=d.own.lookup_int a5k underlying451 underlying3 (a0f W) (keyOf_int_mk underlying26 j);rw[d.at_]at a;generalize((T7 ps kk 0 m:Nat):Int)=v at*;have e:v=c:=by
  simp only[DataW.lit.injEq,Lit.int.injEq,true_and]at a;exact a
 rw[i,e]
theorem a0B(h gb j b r n c:Nat)(ps:List Sy)(u:DataW Unit)(q:ps.length=n)(L:n≤131072)(p:∀i∈ps,i.ok)(W:Wd)(k:b9 W h 159 #[Z (So ⟨b,r,J⟩) n c])(l:b9 W gb 451 #[.map (So j)])(m:h9 W (So ⟨b,r,J⟩) (sc ps))(f:sO W j n ps u)
  (t:Int) (C:0≤t∧t<n):
  Ca prog 341 #[I M t,K h,K gb] W fun e D=>e=X (I M (E8 ps t))∧a9 W D:=by
 obtain⟨t,rfl⟩:∃x:Nat,t=x:=⟨t.toNat,by omega⟩;have d:t<ps.length:=by omega
 obtain⟨E,F,G,H⟩:=D8 m d;have o:E8 ps t=if ps[t].code=6 then((T7 ps ps[t].k 0 n:Nat):Int)else(t:Int):=by
  unfold E8;rw[a4A,show ps.getD t c6=ps[t] by simp[a8,d],q]
 rw[o];have w:=k.cell 0;have z:=l.cell 0;have N:(0:Int)≤t:=by omega
 have P:(t:Int)<n:=by omega
 have g:=(p _ (a30 d)).2.1;have A:=BB f ps[t].k g;have B:=BB (f.h (a9.refl W).drew) ps[t].k g;generalize ps[t]=s at*;obtain⟨co,kk,th,el⟩:=s;dsimp only at*;simp only[List.getElem?_toArray,List.getElem?_cons_zero]at w z;clear o m q d C f k l g p;by_cases a:co=6
 ·rw[if_pos a]
  have y:(co==6)=Bt:=by simpa using a
  generalize((T7 ps kk 0 n:Nat):Int)=v at*;clear a;go_in;go_wp2_with fail
  go_region
  all_goals
   go_wp2_with fail
   go_ret;exact⟨rfl,(a9.refl _).drew⟩
 ·rw[if_neg a]
  have y:(co==6)=Bf:=by simpa using a
  clear a A B;go_in;go_wp2_with fail
  go_ret;exact⟨rfl,a9.refl _⟩
theorem a0A(b a n c:Nat)(ps:List Sy)(w:Wd)(ao:ps.length=n)(u:m9 ps)(al:∀i∈ps,i.ok)(ae:h9 w (So ⟨b,a,J⟩) (sc ps)):
  Ca prog 259 #[.slice (So ⟨b,a,J⟩) n c] w fun e aw=>∃g D P,e= .returned (.slice (So ⟨g,0,J⟩) n D)∧b9 aw g 374 (sc (A7 ps)++P).toArray∧w.heap.size≤g∧a9 w aw:=by
 have bw:= @run_makeMap prog;have br:1≤n:=by have:=u.l1;omega
 have av:n≤131072:=by have:=u.l2;omega
 obtain⟨A,l,B,S⟩:=J5 ae ao u al;clear ae ao u al;go_in;go_wp2_with fail
 have T:=b9.new w 159 #[.slice (So ⟨b,a,J⟩) n c];have ay:=OE (w.alloc (.cells #[.slice (So ⟨b,a,J⟩) n c] 159)) ps (w+1) (by simp);have ab:b9 (((w.alloc (.cells #[.slice (So ⟨b,a,J⟩) n c] 159)).alloc (.map #[] 0)).alloc (.cells #[.map (So (w+1))] 451)) (w+1+1) 451 #[.map (So (w+1))]:=b9.b (by simp);have ac:=(((a9.refl w).alloc (.cells #[.slice (So ⟨b,a,J⟩) n c] 159)).alloc (.map #[] 0)).alloc (.cells #[.map (So (w+1))] 451);have aa:=(T.alloc (.map #[] 0)).alloc (.cells #[.map (So (w+1))] 451);have ax:=ay.h ((a9.refl _).alloc (.cells #[.map (So (w+1))] 451));have ap:(((w.alloc (.cells #[.slice (So ⟨b,a,J⟩) n c] 159)).alloc (.map #[] 0)).alloc (.cells #[.map (So (w+1))] 451)).heap.size=w.heap.size+3:=by simp
 have bi:=a6 ax;clear T ay ax;generalize((w.alloc (.cells #[.slice (So ⟨b,a,J⟩) n c] 159)).alloc (.map #[] 0)).alloc (.cells #[.map (So (w+1))] 451)=w0 at*;obtain⟨az,bb,be,bs⟩:=J5 aa ab ac ap;clear aa ab ac ap;go_loopw [9] (fun N W=>∃(k:Nat)(p:DataW Unit),k≤n∧N= .int .i64 k∧a9 w W∧Hid (sO W (w+1) k ps p)∧b9 W w 159 #[.slice (So ⟨b,a,J⟩) n c]∧b9 W (w+1+1) 451 #[.map (So (w+1))]) (fun N _=>n-(intOf N).toNat)
 case atStart=>exact⟨0,_,i5 _,rfl,be.out,bi,az.out,bb.out⟩
 case round=>
  obtain⟨k,p,bv,rfl,o,h,d,j⟩:=hrel;by_cases bp:k<n
  ·have G:k<ps.length:=by rw[l.out];exact bp
   obtain⟨ca,cb,cc,cd⟩:=D8 (A.h o) G;have ag:ps.getD k c6=ps[k]:=by simp[a8,G]
   have bz:=(S _ (a30 G)).2.1;have k1:(0:Int)≤k:=by omega
   have k2:(k:Int)<n:=by omega
   have k3:(k:Int)≤131072:=by omega
   have au:=o.alloc (.cells #[.int .u16 ps[k].code,.int .u32 ps[k].k,.int .i64 ps[k].th,.int .i64 ps[k].el] 374);have R:=a6 ag;clear ag;generalize ps[k]=s at*;obtain⟨co,kk,th,el⟩:=s;dsimp only at*;have bk:=b9.new wr 374 #[.int .u16 co,.int .u32 kk,.int .i64 th,.int .i64 el];have f:=(a9.refl wr).alloc (.cells #[.int .u16 co,.int .u32 kk,.int .i64 th,.int .i64 el] 374);obtain⟨ce,cf,cg,ch⟩:=(bk).c4;have C:=(d.h f).cell 0;have bm:=(j.h f).cell 0;simp only[List.getElem?_toArray,List.getElem?_cons_zero]at C bm;by_cases m:co=6
   ·have bl:(co==6)=Bt:=by simpa using m
    have am:=(h.h f).own;obtain⟨hi,bn⟩:=i6 h.isM h.at_;have aq:(Lit.int .u32 kk).wf=Bt:=by
     have E:IntKind.u32.min=0:=by decide
     have F:IntKind.u32.max=4294967295:=by decide
     unfold Lit.wf;rw[Bool.and_eq_true,decide_eq_true_eq,decide_eq_true_eq,E,F];omega
    have ar:(Lit.int .i64 (k:Int)).wf=Bt:=by
     have E:IntKind.i64.min= -9223372036854775808:=by decide
     have F:IntKind.i64.max=9223372036854775807:=by decide
     unfold Lit.wf;rw[Bool.and_eq_true,decide_eq_true_eq,decide_eq_true_eq,E,F];omega
    have ah:keyOf prog 26 (.int .u32 kk)=So (.int .u32 kk):=keyOf_int_mk underlying26 aq;have af:(ps.getD k c6).code=6∧(ps.getD k c6).k=kk:=by rw[R.out];exact⟨m,rfl⟩
    have Q:=a6 af;have ak:k<maxLen:=by unfold maxLen;omega
    obtain⟨bh,bf,bg,x,y⟩:=gP (plainElem_int (H:=Unit) underlying3 ar) ah ak (d.h f) (j.h f);clear aq ar af m d j h ah ak;go_wp2_with(at_mapUpdate;refine wpList_mapUpdate_own _ rfl _ _ _ 451 rfl 26 3 a5k underlying451 _ (w+1) k p rfl am bg _ _ _ rfl rfl bf _ [] bh.out ?_;intro ci an v)
    have ai:So w.heap.size≠So (w.heap.size+1):=fun e=>by injection e with e;omega
    have aj:So (w.heap.size+1+1)≠So (w.heap.size+1):=fun e=>by injection e with e;omega
    obtain⟨ba,bc,bj,z⟩:=J5 (x.grown v ai) (y.grown v aj) (au.grown v (fun r e=>by injection e with e;omega)) (VH hi bn Q.1 kk Q.2 an);clear am an v ai aj
    go_roundw
    case rel=>exact⟨k+1,_,by omega,by go_num,bj.out,z,ba.out,bc.out⟩
    case measure=>simp[intOf];omega
   ·have bl:(co==6)=Bf:=by simpa using m
    obtain⟨z,x,y⟩:=p7 (OF (h.h f) (by rw[R.out];exact m)) (d.h f) (j.h f);clear m d j h;go_wp2_with fail
    go_roundw
    case rel=>exact⟨k+1,p,by omega,by go_num,au,z,x.out,y.out⟩
    case measure=>simp[intOf];omega
  ·obtain rfl:k=n:=by omega
   have C:=d.cell 0;simp only[List.getElem?_toArray,List.getElem?_cons_zero]at C;have bx:=B.l2;have bd:=a6 (pV.2.2 w (w+1+1) (E8 ps) (fun t=>0≤t∧t<k) b a k c ps wr l br av (A.h o)
    (fun i hi=>⟨_,_,a0P (B.one i (by rw[l.out];exact hi))⟩)
    (fun i hi t L=>by
     have ad:=a0P (B.one i (by rw[l.out];exact hi));rw[l.out]at ad;have bt:=ES ad L;omega)
    (fun W t q L=>a0B w (w+1+1) (w+1) b a k c ps p l av S W (d.h q) (j.h q) (A.h (o.trans q)) (h.h q) t L))
   clear d j h;go_wp2_with fail
   apply(bd.out).mono;rintro e cj⟨g,D,P,rfl,bo,bu,bq⟩;go_wp2_with fail
   go_ret;exact⟨g,D,P,rfl,bo,by have:=o.size;omega,o.trans bq⟩
end
theorem UB{w:Wd}{base d:Nat}{e:Ti}{h n:Nat}{v:Va}{xs:List Va}(f:w.ownsRow base e h v n xs)(i:d≤base):w.ownsRow d e h v n xs:=
 ⟨f.1,f.2.imp id (fun⟨g,cap,cur,a,b,c⟩=>⟨g,cap,cur,a,c8 i b,c⟩)⟩
def JT(ps:List Sy)(k:Nat):List Int:=(q5 ps.length).map fun i=>if i<k then(j2 ps i:Int)else 0
theorem nL(ps:List Sy)(k:Nat):(JT ps k).length=ps.length:=by simp[JT]
theorem a0O(ps:List Sy)(k i:Nat)(h:i<ps.length):(JT ps k).getD i 0=if i<k then(j2 ps i:Int)else 0:=by
 simp[JT,a8,h]
theorem TR(ps:List Sy):JT ps 0=a2A ps.length 0:=by
 unfold JT;refine List.ext_getElem (by simp) fun i a b=>by simp
theorem a0N(ps:List Sy)(k:Nat)(b:k<ps.length):(JT ps k).set k (j2 ps k:Int)=JT ps (k+1):=by
 refine List.ext_getElem (by rw[List.length_set,nL,nL]) fun i c d=> ?_
 rw[List.getElem_set];simp only[JT,List.getElem_map,List.getElem_range];by_cases e:k=i
 ·subst e
  rw[if_pos rfl,if_pos (by omega)]
 ·rw[if_neg e]
  by_cases a:i<k
  ·rw[if_pos a,if_pos (by omega)]
  ·rw[if_neg a,if_neg (by omega)]
theorem hP{ps:List Sy}(b:m9 ps)(i:Nat)(a:i<ps.length):(eE ps)[i]? =So (m2 ps i):=by
 rw[IJ b];simp[a]
def I5(ps:List Sy)(m:Nat):List Sy:=((q5 m).filter (m2 ps)).map fun i=>mv (a2k ps) (ps.getD i c6)
theorem a2M(ps:List Sy)(m:Nat):(I5 ps m).length=j2 ps m:=by unfold I5 j2;rw[a32]
theorem HL(ps:List Sy)(m:Nat)(h:m2 ps m=Bt):I5 ps (m+1)=I5 ps m++[mv (a2k ps) (ps.getD m c6)]:=by
 unfold I5;rw[List.range_succ,List.filter_append,a4F];simp[h]
theorem PZ(ps:List Sy)(m:Nat)(h:m2 ps m=Bf):I5 ps (m+1)=I5 ps m:=by
 unfold I5;rw[List.range_succ,List.filter_append,a4F];simp[h]
theorem OZ:(prog.info? 3).map (fun i=>(i.zero,i.size,i.bytes))=So (So (I M 0),1,8):=by kernel_rfl
theorem FY(n:Nat):madeCells #[I M 0] n=(i3 M (a2A n 0)).toArray:=by
 apply Array.toList_inj.1;rw[toList_madeCells_one];simp[i3]
theorem a05(n:Nat)(a:n≤131072)(w:Wd):(Instr.makeSlice 33 (I M (n:Int)) (I M (n:Int))).run prog w= .ok (Z w n n) (w.alloc (U (i3 M (a2A n 0)).toArray 3)):=by
 rw[←FY];exact G9 33 3 (I M 0) 8 underlying33 OZ rfl M M n n (a7 _) (by omega) (by omega) w
theorem LF{W:Wd}{g:Nat}{l:List Int}(b:b9 W g 3 (i3 M l).toArray)(k:Nat)(a:k<l.length):W.cell? ⟨g,k,J⟩=So (I M (l.getD k 0)):=
 (b.cell k).trans (by rw[List.getElem?_toArray,M2 a,a8,e9 a];rfl)
theorem IB{W:Wd}{g:Nat}{l:List Int}(h:b9 W g 3 (i3 M l).toArray)(k:Nat)(v:Int):b9 (W.setCell ⟨g,k,J⟩ (I M v)) g 3 (i3 M (l.set k v)).toArray:=by
 have:=h.f k (I M v);rwa[show(i3 M l).toArray.setIfInBounds k (I M v)=(i3 M (l.set k v)).toArray by simp[i3,List.map_set]]at this
theorem rH{W:Wd}{g:Nat}{l:List Bool}{b:Bool}(a:b9 W g 4 (C7 l))(k:Nat)(e:l[k]? =So b):W.cell? ⟨g,k,J⟩=So (O b):=by
 obtain⟨c,d⟩:=List.getElem?_eq_some_iff.1 e;have:=(a.cell k).trans (I8 l k c);rwa[d]at this
theorem a1i(gb a n:Nat)(ps:List Sy)(h:ps.length=n)(W:Wd)(b:b9 W gb 33 #[Z a n n])(c:b9 W a 3 (i3 M (JT ps n)).toArray)(t:Int)(i:0≤t∧t<n):
  Ca prog 346 #[I M t,K gb] W fun e j=>e=X (I M (a2k ps t))∧a9 W j:=by
 obtain⟨t,rfl⟩:∃x:Nat,t=x:=⟨t.toNat,by omega⟩;have d:a2k ps t=(j2 ps t:Int):=by unfold a2k;rw[a4A]
 rw[d];have g:=LF c t (by rw[nL];omega);rw[a0O ps n t (by omega),if_pos (by omega)]at g;have f:=b.cell 0;simp only[List.getElem?_toArray,List.getElem?_cons_zero]at f;have k:(0:Int)≤t:=by omega
 have l:(t:Int)<n:=by omega
 generalize j2 ps t=x at*;clear b c h i d;go_in;go_wp2;go_ret;exact⟨rfl,a9.refl _⟩
theorem a1h(b G n c:Nat)(ps:List Sy)(w:Wd)(E:ps.length=n)(A:m9 ps)(R:h9 w (So ⟨b,G,J⟩) (sc ps)):
  Ca prog 261 #[Z (So ⟨b,G,J⟩) n c] w fun e bx=>∃af au,e=X (Z af (j2 ps n) au)∧bx.ownsRow w 374 4 (Z af (j2 ps n) au) (j2 ps n) (sc (N0 ps))∧a9 w bx:=by
 have dg:1≤n:=by have:=A.l1;omega
 have bw:n≤131072:=by have:=A.l2;omega
 have db:=a05 n bw;obtain⟨df,hi,bt,bu,bv⟩:=info_parts BV;have ck:=a6 hi;have cr:=a6 bt;have cs:=a6 bu;have ct:=a6 bv;obtain⟨aj,cm,g,x,am⟩:=gP (UG (So ⟨b,G,J⟩) n c ps w E A R) R E A (show(i3 M (a2A n 0)).toArray=(i3 M (JT ps 0)).toArray from by rw[TR,E]);clear hi bt bu bv E A R;go_in;go_wp2_with fail
 apply(aj.out).mono;rintro e a⟨rfl,ba,F⟩;have L:=a6 ba;have bq:Array.replicate n (I M 0)=(i3 M (a2A n 0)).toArray:=by simp[i3]
 have be:=(b9.new a 3 (Array.replicate n (I M 0))).alloc (U #[Z a n n] 33);have S:b9 ((a.alloc (U (Array.replicate n (I M 0)) 3)).alloc (U #[Z a n n] 33)) (a+1) 33 #[Z a n n]:=b9.b (by simp);have ak:=a6 (((a9.refl a).alloc (U (Array.replicate n (I M 0)) 3)).alloc (U #[Z a n n] 33));have bf:b9 ((a.alloc (U (Array.replicate n (I M 0)) 3)).alloc (U #[Z a n n] 33)) a 3 (i3 M (JT ps 0)).toArray:=by rw[←am.out,←bq];exact be
 obtain⟨ai,ag⟩:=i6 bf S;have bd:=S.cell 0;simp only[List.getElem?_toArray,List.getElem?_cons_zero]at bd;have dr:w≤a.heap.size:=F.size;clear ba be bf S bq aj;go_wp2_with fail
 clear bd;go_loopw [5,17] (fun v h W=>∃k:Nat,k≤n∧v=I M (j2 ps k)∧h=I M k∧a9 a W∧b9 W a 3 (i3 M (JT ps k)).toArray∧b9 W (a+1) 33 #[Z a n n]) (fun _ h _=>n-(intOf h).toNat)
 case atStart=>exact⟨0,i5 _,rfl,rfl,ak.out,ai.out,ag.out⟩
 case round=>
  obtain⟨k,dt,rfl,rfl,d,q,y⟩:=hrel;by_cases da:k<n
  ·have cx:=y.cell 0
   simp only[List.getElem?_toArray,List.getElem?_cons_zero]at cx;have ah:=a6 (y.far (p:=⟨a,k,J⟩) (by show a+1≠a.heap.size;omega) (I M (j2 ps k)));have B:k<ps.length:=by rw[g.out];exact da
   have aw:=rH (L.h d) k (hP x k B);have cy:=LF q k (by rw[nL];exact B);have dq:=q.frozen k;have ab:=IB q k (j2 ps k);rw[a0N ps k B]at ab;have dc:=aI ps k;have D:=G7 ps k;have dz:(0:Int)≤j2 ps k:=by omega
   have ea:(j2 ps k:Int)≤131072:=by omega
   have k1:(0:Int)≤k:=by omega
   have k2:(k:Int)<n:=by omega
   obtain⟨an,m⟩:=i6 ab D;have ae:=d.set (p:=⟨a,k,J⟩) (a7 _) (I M (j2 ps k));have ap:=a6 ae;have ax:=rH (L.h ae) k (hP x k B);generalize(JT ps k).getD k 0=z0 at cy;generalize j2 ps k=eb at*;clear ab D dc B q d ae;clear y;rcases f:m2 ps k with _|_
   ·rw[f]at aw ax m
    rw[if_neg (by decide)]at m;go_wp2_with fail
    go_roundw
    case rel=>exact⟨k+1,by omega,by rw[m.out];rfl,by go_num,ap.out,an.out,ah.out⟩
    case measure=>simp[intOf];omega
   ·rw[f]at aw ax m
    rw[if_pos rfl]at m;go_wp2_with fail
    go_roundw
    case rel=>exact⟨k+1,by omega,by rw[m.out];go_num,by go_num,ap.out,an.out,ah.out⟩
    case measure=>simp[intOf];omega
  ·obtain rfl:k=n:=by omega
   have P:=a6 (pV.2.1 (a+1) (a2k ps) (fun t=>0≤t∧t<k) b G k c ps wr g dg bw (cm.h (F.trans d))
    (fun i hi=>⟨_,_,a0P (x.one i (by rw[g.out];exact hi))⟩)
    (fun i hi t ac=>by
     have ay:=a0P (x.one i (by rw[g.out];exact hi));rw[g.out]at ay;have dp:=ES ay ac;omega)
    (fun W t az ac=>a1i (a+1) a k ps g W (y.h az) (q.h az) t ac))
   have ao:=a6 d;have bm:w≤wr.heap.size:=by have:=d.size;have:=F.size;omega
   obtain⟨cj,ce,ch,cf,cb,cc⟩:=jX bm (a2M ps) (HL ps) (PZ ps) (show I5 ps 0=[]from rfl) (show sc (I5 ps k)=sc (N0 ps)from by unfold I5 N0;rw[g.out]);have cn:=a6 (show(ps.map (mv (a2k ps))).length=k from by rw[a32];exact g.out);clear q y d ak ai ag db am bm;go_wp2_with fail
   apply(P.out).mono;rintro e H⟨dn,dm,dy,rfl,bg,bl,bs⟩;obtain⟨ca,Q,dl⟩:=p7 ((h9.f bg rfl).prefix_) bs bl;clear bg bl bs P;go_wp2_with fail
   go_loopw [7,35] (fun v h W=>∃(j:Nat)(l:Option Ad)(o:Nat),j≤k∧h=I M j∧(v=Z l (j2 ps j) o∧W.ownsRow H 374 4 (Z l (j2 ps j) o) (j2 ps j) (sc (I5 ps j)))∧a9 H W) (fun _ h _=>k-(intOf h).toNat)
   case atStart=>exact⟨0,J,0,i5 _,rfl,⟨rfl,by rw[cb.out];exact World.ownsRow_nil _ _ _ _⟩,a9.refl _⟩
   case round=>
    obtain⟨r,rfl⟩:∃r:Wd,r=wr:=⟨_,rfl⟩;obtain⟨j,l,o,ds,rfl,⟨rfl,C⟩,d⟩:=hrel;by_cases bo:j<k
    ·have T:j<ps.length:=by rw[g.out];exact bo
     have bn:j<(ps.map (mv (a2k ps))).length:=by rw[cn.out];exact bo
     have bi:=ch j;have bh:=cf j;have cd:=a6 (ce j);have D:=G7 ps j;have du:=aI ps j;have bk:(ps.map (mv (a2k ps)))[j]=mv (a2k ps) (ps.getD j c6):=by simp[a8,T]
     have aq:=D8 (ca.h d) bn;rw[bk]at aq;have cu:=a6 (fun W'(cw:a9 H W')=>rH (L.h ((ao.trans Q.out).trans cw)) j (hP x j T));generalize mv (a2k ps) (ps.getD j c6)=s at*;obtain⟨co,kk,th,el⟩:=s;obtain⟨dh,di,dj,dk⟩:=aq;simp only[a4E]at dh di dj dk;have dv:(0:Int)≤j:=by omega
     have dw:(j:Int)<k:=by omega
     have dx:(j:Int)≤131072:=by omega
     have ar:=b9.new r 374 #[I U1 co,I V kk,I M th,I M el];have z:=(a9.refl r).alloc (U #[I U1 co,I V kk,I M th,I M el] 374);obtain⟨ec,ed,ee,ef⟩:=(ar).c4;obtain⟨ci,cg,al,P⟩:=J5 bi bh D (rfl:(⟨co,kk,th,el⟩:Sy)=⟨co,kk,th,el⟩);have av:=cu _ (d.trans z);clear bi bh D bk T bn ar;rcases f:m2 ps j with _|_
     ·have N:=a6 (cg f)
      have u:=a6 (al.trans (by rw[f,if_neg (by decide),a4z]));rw[f]at av;have cq:=a6 (M1 C z);clear C;go_wp2_with fail
      go_roundw
      case rel=>exact⟨j+1,l,o,by omega,by go_num,⟨by rw[u.out],by rw[u.out,N.out];exact cq.out⟩,d.trans z⟩
      case measure=>simp[intOf];omega
     ·have N:=a6 (ci f)
      have u:=a6 (al.trans (by rw[f,if_pos rfl]));rw[f]at av;clear f;have cz:(sc (I5 ps j)).length=(j2 ps j)*4:=by rw[K4];have:=cd.out;omega
      have aa:=M1 C ((z).alloc (U #[I U1 co,I V kk,I M th,I M el] 374));have ad:=((d).trans z).alloc (U #[I U1 co,I V kk,I M th,I M el] 374);have br:h9 (((r.alloc (U #[I U1 co,I V kk,I M th,I M el] 374))).alloc (U #[I U1 co,I V kk,I M th,I M el] 374)) ((r+1):Nat) (sc [⟨co,kk,th,el⟩]):=h9.f (b9.b (by first|rfl|simp)) rfl;have bc:(j2 ps j)+1≤1000000:=by omega
      have bb:24≤10000:=by decide
      go_wp2_with(refine R7 rfl (Tm 44) (Tm 46) 159 rfl H 374 df _ 4 24 underlying159 ck cr cs ct rfl (by decide) l ((j2 ps j)) o (sc (I5 ps j)) rfl aa _ 1 1 (sc [⟨co,kk,th,el⟩]) rfl rfl br (TB _) bc bb ad.size ?_;intro bz cv eg bp bj de;have dd:=ad.app aa (a7 _) bj;rw[←MW]at bp;clear bj de)
      clear aa ad br cz bb bc
      go_roundw
      case rel=>exact⟨j+1,bz,cv,by omega,by go_num,⟨by rw[u.out],by rw[u.out,N.out];exact bp⟩,dd⟩
      case measure=>simp[intOf];omega
    ·obtain rfl:j=k:=by omega
     have cp:=a6 C;clear C;go_wp2_with fail
     go_ret;exact⟨l,o,rfl,by rw[←cc.out];exact UB cp (by have:=Q.size;have:=cj.out;omega),F.trans (ao.trans (Q.trans d))⟩
def ZR(m:Nat)(d:List Sy)(w:Wd)(e:Ending)(a:Wd):Prop:=∃g b c,e=X (Z (So ⟨g,0,J⟩) m b)∧b9 a g 374 (sc d++c).toArray∧w.heap.size≤g∧a9 w a
def a5M(m:Nat)(d:List Sy)(w:Wd)(e:Ending)(a:Wd):Prop:=∃g b c,e=X (Tp #[Z (So ⟨g,0,J⟩) m b,I M 0])∧b9 a g 374 (sc d++c).toArray∧w.heap.size≤g∧a9 w a
theorem LY(b a n c:Nat)(ps:List Sy)(w:Wd)(f:ps.length=n)(e:m9 ps)(d:h9 w (So ⟨b,a,J⟩) (sc ps)):Ca prog 260 #[Z (So ⟨b,a,J⟩) n c] w (ZR n (D7 ps) w):=
 callsIn_wide.1 (zB b a n c ps w f e d)
theorem a0z(b a n c:Nat)(ps:List Sy)(w:Wd)(g:ps.length=n)(e:m9 ps)(f:∀i∈ps,i.ok)(d:h9 w (So ⟨b,a,J⟩) (sc ps)):Ca prog 259 #[Z (So ⟨b,a,J⟩) n c] w (ZR n (A7 ps) w):=
 a0A b a n c ps w g e f d
theorem a1g(b a n c:Nat)(ps:List Sy)(w:Wd)(h:ps.length=n)(f:m9 ps)(j:h9 w (So ⟨b,a,J⟩) (sc ps)):Ca prog 261 #[Z (So ⟨b,a,J⟩) n c] w (ZR (N0 ps).length (N0 ps) w):=
 (a1h b a n c ps w h f j).mono fun e s⟨r,i,l,o,p⟩=>by
  have d:=(qY f).l1;rw[U5,h]at d⊢;obtain⟨g,q,rfl,k,m⟩:=JV o d;exact⟨g,i,q,l,k,m,p⟩
theorem a0R(W:Wd):Ca prog 196 #[] W fun e b=>e=X (Ag #[Fc (.func 259) #[] #[],Fc (.func 260) #[] #[],Fc (.func 261) #[] #[]])∧a9 W b:=by
 have a:=b9.new W 305 #[Fc (.func 259) #[] #[],Fc (.func 260) #[] #[],Fc (.func 261) #[] #[]];go_in;go_wp2;exact Bp (g0 rfl _ _ W 305 _ _ rfl a underlying305 rfl (by kernel_rfl)) rfl ⟨rfl,(a9.refl W).alloc _⟩
theorem a5C(b k n c y:Nat)(ps:List Sy)(w:Wd)(h:ps.length=n)(r:∀i∈ps,i.ok)(Q:n≤maxLen)(o:h9 w (So ⟨b,k,J⟩) (sc ps))(m:fE ps=Bt)
  (p:b9 w y 305 #[Fc (.func 259) #[] #[],Fc (.func 260) #[] #[],Fc (.func 261) #[] #[]]):
  Ca prog 197 #[Z (So ⟨b,k,J⟩) n c,Z y 3 3] w (a5M (Q0 ps).length (Q0 ps) w):=by
 have q:=iU m;have f:=G4 q;have z:=aZ f;have t:(A7 ps).length=n:=by rw[G5];exact h
 have A:(D7 (A7 ps)).length=n:=by rw[oM f];exact t
 have H:=a6 (LA (So ⟨b,k,J⟩) n c ps w h r Q o);rw[m]at H;obtain⟨E,B,C,D⟩:=J5 o (fun W d=>a0z b k n c ps W h q r d) (fun g l W d=>LY g 0 n l (A7 ps) W t f d) (fun g l W d=>a1g g 0 n l (D7 (A7 ps)) W A z d);clear m o r h q f z t A;go_in;go_wp2_with fail
 apply H.mono;rintro e T⟨rfl,a⟩;have u:=(p.h a).cell 0;simp only[List.getElem?_toArray,List.getElem?_cons_zero]at u;go_wp2_with fail
 refine wp_loop_rounds 4 ?_;rw[Rs];go_wp2_with fail
 apply(B T (E.h a)).mono;rintro e aj⟨ac,aa,ah,rfl,L,ae,j⟩;have v:=(p.h (a.trans j)).cell 1;simp only[List.getElem?_toArray,List.getElem?_cons_zero,List.getElem?_cons_succ]at v;clear u;go_wp2_with fail
 rw[Rs];go_wp2_with fail
 apply(C _ _ _ (h9.f L rfl).prefix_).mono;rintro e ak⟨ad,ab,ai,rfl,N,af,s⟩;have x:=(p.h ((a.trans j).trans s)).cell 2;simp only[List.getElem?_toArray,List.getElem?_cons_zero,List.getElem?_cons_succ]at x;clear v;go_wp2_with fail
 rw[Rs];go_wp2_with fail
 apply(D _ _ _ (h9.f N rfl).prefix_).mono;rintro e al⟨G,F,S,rfl,P,ag,R⟩;clear x;go_wp2_with fail
 rw[Rs];go_wp2_with fail
 go_ret2
 exact⟨G,F,S,rfl,P,by have:=a.size;have:=j.size;have:=s.size;omega,a.trans (j.trans (s.trans R))⟩
theorem LW(b d n c:Nat)(ps:List Sy)(w:Wd)(k:ps.length=n)(j:∀i∈ps,i.ok)(v:n≤maxLen)(h:h9 w (So ⟨b,d,J⟩) (sc ps))(f:fE ps=Bt):
  Ca prog 129 #[Z (So ⟨b,d,J⟩) n c] w (a5M (Q0 ps).length (Q0 ps) w):=by
 obtain⟨l,o,m⟩:=p7 (fun q W s r=>a5C b d n c q ps W k j v s f r) a0R h;clear f h j k;go_in;go_wp2_with fail
 apply(o _).mono;rintro e A⟨rfl,x⟩;have a:=x.alloc (U #[Fc (.func 259) #[] #[],Fc (.func 260) #[] #[],Fc (.func 261) #[] #[]] 305);have t:=b9.new A 305 #[Fc (.func 259) #[] #[],Fc (.func 260) #[] #[],Fc (.func 261) #[] #[]];go_wp2_with fail
 apply(l _ _ (m.h a) t).mono;rintro e C⟨g,p,z,rfl,u,B,y⟩;go_wp2_with fail
 go_ret2
 exact⟨g,p,z,rfl,u,by have:=a.size;omega,a.trans y⟩
section
def gN:p6 i2:=⟨4,fun i=>[I U1 i.code,I U8 i.jt,I U8 i.jf,I V i.k],fun _=>rfl,by simp[Value.oneCell']⟩
def WK:List Ti:=[161]
structure Wk(W0 W1:Wd)(g:Nat)(a d:Int)(vr va vl vp:Va)(wr:Wd):Prop where
 b:b9 wr g 161 #[I M a,vr,I V d,va,vl,vp]
 t:Tv W0 WK W0 wr
 hg:W0≤g
 f:W1.grownBy wr (So g)
section
variable {W0 W1 wr w':Wd} {g:Nat} {a d:Int} {vr va vl vp:Va}
theorem Wk.h(h:Wk W0 W1 g a d vr va vl vp wr)(x:a9 wr w'):Wk W0 W1 g a d vr va vl vp w':=⟨h.b.h x,h.t.h x,h.hg,h.f.trans (h8 x _)⟩
theorem Wk.set4(h:Wk W0 W1 g a d vr va vl vp wr)(v:Va):Wk W0 W1 g a d vr va v vp (wr.setCell ⟨g,4,J⟩ v):=⟨h.b.f 4 v,h.t.trans (.r h.b h.hg (by decide) 4 v),h.hg,h.f.trans (x4 _ _ _ v)⟩
theorem Wk.set5(h:Wk W0 W1 g a d vr va vl vp wr)(v:Va):Wk W0 W1 g a d vr va vl v (wr.setCell ⟨g,5,J⟩ v):=⟨h.b.f 5 v,h.t.trans (.r h.b h.hg (by decide) 5 v),h.hg,h.f.trans (x4 _ _ _ v)⟩
theorem Wk.tv(h:Wk W0 W1 g a d vr va vl vp wr)(i:Nat)(v:Va):Tv W0 WK wr (wr.setCell ⟨g,i,J⟩ v):= .r h.b h.hg (by decide) i v
structure cO(w:Wd)(v:Va)(rs:List RR):Prop where
 r:s7 w 234 x3 v rs
 t:∀r∈rs,s7 w 392 a3q r.v r.p.tests
theorem cO.tv{B:Nat}{S:List Ti}{w w':Wd}{v:Va}{rs:List RR}(b:cO w v rs)(t:Tv B S w w')(c:S.contains 234=Bf)(e:S.contains 392=Bf):cO w' v rs:=⟨b.r.tv t c,fun r f=>(b.t r f).tv t e⟩
theorem cO.h{w w':Wd}{v:Va}{rs:List RR}(b:cO w v rs)(x:a9 w w'):cO w' v rs:=⟨b.r.h x,fun r c=>(b.t r c).h x⟩
theorem YU{a:Nat}{f:Option Ad}{c:Nat}{rs:List RR}(j:Wk W0 W1 g a d (Z f rs.length c) va vl vp wr)(y:a<6)(p:dL ⟨a,d,rs.map (·.p)⟩)(k:cO wr (Z f rs.length c) rs):
  Ca prog 85 #[K g] wr fun e w'=>e=X (I M 0)∧∃v,Wk W0 W1 g a d (Z f rs.length c) va v vp w'∧s7 w' 374 bA v (F6 (aX ⟨a,d,rs.map (·.p)⟩))∧Tv W0 WK wr w':=by
 obtain⟨t,u,w⟩:=j.b.c3;obtain⟨n,o⟩:=i6 (YO a y d f c rs wr p k.r k.t) j;clear j p k;go_in;go_wp2_with fail
 apply n.mono;rintro e z⟨v,rfl,m,x⟩;obtain⟨h,l,i,rfl⟩:=m.f;have b:=o.h x;have B:=b.b.frozen 4;have A:z.cell? ⟨g,4,J⟩=So vl:=b.b.cell 4;obtain⟨q,r,s⟩:=p7 (b.set4 (Z h l i)) ((Tv.f x).trans (b.tv 4 (Z h l i))) (m.ty.tv (b.tv 4 (Z h l i)) (by decide));clear t u w b m x n o;go_wp2_with fail
 go_ret;exact⟨rfl,_,q.out,s.out,r.out⟩
theorem mN{f:Option Ad}{c:Nat}{ar:List Int}(j:Wk W0 W1 g a d vr (Z f ar.length c) vl vp wr)(u:0<ar.length)(w:ar.length≤1000)(p:∀x∈ar,0≤x∧x<6)(o:h9 wr f (i3 M ar)):
  Ca prog 81 #[K g] wr fun e w'=>e=X (I M 0)∧∃v,Wk W0 W1 g a d vr (Z f ar.length c) v vp w'∧s7 w' 374 bA v (F6 (sH (Q3 ar)))∧Tv W0 WK wr w':=by
 have t:=j.b.cell 3;obtain⟨m,n⟩:=i6 (QD f c ar wr u w p o) j;clear j o p;go_in;go_wp2_with fail
 apply m.mono;rintro e y⟨v,rfl,l,x⟩;obtain⟨h,k,i,rfl⟩:=l.f;have b:=n.h x;have A:=b.b.frozen 4;have z:y.cell? ⟨g,4,J⟩=So vl:=b.b.cell 4;obtain⟨q,r,s⟩:=p7 (b.set4 (Z h k i)) ((Tv.f x).trans (b.tv 4 (Z h k i))) (l.ty.tv (b.tv 4 (Z h k i)) (by decide));clear t b l x m n;go_wp2_with fail
 go_ret;exact⟨rfl,_,q.out,s.out,r.out⟩
theorem s7.f{f:Type}{w:Wd}{g n c:Nat}{e:Ti}{E:p6 f}{xs:List f}{j:List Va}(b:b9 w g e (E.row xs++j).toArray)(i:xs.length=n):s7 w e E (Z g n c) xs:=
 ⟨_,c,by rw[i],(h9.f b rfl).prefix_,fun a h=>by cases h;exact⟨rfl,_,b⟩⟩
theorem DJ{r:List Sy}(k:Wk W0 W1 g a d vr va vl vp wr)(h:H3 r)(u:s7 wr 374 bA vl r):
  Ca prog 83 #[K g] wr fun e w'=>e=X (I M 0)∧∃v,Wk W0 W1 g a d vr va v vp w'∧s7 w' 374 bA v (Q0 r)∧Tv W0 WK wr w':=by
 obtain⟨y,c,rfl,l,-⟩:=u;obtain⟨b,w,rfl,-⟩:=l.rows (by decide) h.may.l1;have t:=k.b.cell 4;obtain⟨m,n⟩:=i6 (LW b w r.length c r wr rfl h.ok (by have:=h.len;unfold maxLen;omega) l (KD h.may)) k;clear k l h;go_in;go_wp2_with fail
 apply m.mono;rintro e C⟨j,i,B,rfl,o,-,x⟩;have f:=n.h x;have A:=f.b.frozen 4;have z:=f.b.cell 4;obtain⟨p,q,s⟩:=p7 (f.set4 (Z j (Q0 r).length i)) ((Tv.f x).trans (f.tv 4 (Z j (Q0 r).length i))) ((s7.f (E:=bA) (c:=i) o rfl).tv (f.tv 4 (Z j (Q0 r).length i)) (by decide));clear t f o x m n;go_wp2_with fail
 go_ret;exact⟨rfl,_,p.out,s.out,q.out⟩
theorem jK{r:List Sy}(k:Wk W0 W1 g a d vr va vl vp wr)(h:H3 r)(o:s7 wr 374 bA vl r):
  Ca prog 82 #[K g] wr fun e w'=>e=X (I M 0)∧∃v,Wk W0 W1 g a d vr va vl v w'∧s7 w' 116 gN v (V5 r)∧Tv W0 WK wr w':=by
 have A:=a6 o;obtain⟨s,c,rfl,n,-⟩:=o;have y:=k.b.cell 4;have i:=a6 (VW s r.length c r wr rfl h.ok n (KD h.may) h.bk);have q:(V5 r).length=(H4 r).bk.length:=List.length_reverse;rw[show(H4 r).bk.reverse=V5 r from rfl]at i;generalize(H4 r).bk.length=m at*;have l:=a6 k;clear k n h;go_in;go_wp2_with fail
 apply i.mono;rintro e z⟨j,f,D,rfl,p,-,x⟩;have b:=l.h x;have C:=b.b.frozen 5;have B:z.cell? ⟨g,5,J⟩=So vp:=b.b.cell 5;obtain⟨t,u,w⟩:=p7 (b.set5 (Z j m f)) ((Tv.f x).trans (b.tv 5 (Z j m f))) ((s7.f (E:=gN) (c:=f) p q).tv (b.tv 5 (Z j m f)) (by decide));clear y b p x i l q;go_wp2_with fail
 go_ret;exact⟨rfl,_,t.out,w.out,u.out⟩
theorem YT{h:Option Ad}{c:Nat}{rs:List RR}(j:Wk W0 W1 g a d (Z h rs.length c) va vl vp wr)(u:dL ⟨a,d,rs.map (·.p)⟩)(l:cO wr (Z h rs.length c) rs):
  Ca prog 86 #[K g] wr fun e w'=>e=X (I M 0)∧∃m r b,Wk W0 W1 g a d (Z m (b:List RR).length r) va vl vp w'∧cO w' (Z m b.length r) b∧b.map (·.p)=w3 d rs∧Tv W0 WK wr w':=by
 obtain⟨E,F,G⟩:=j.b.c3;obtain⟨p,q⟩:=i6 (OS a d h c rs wr u l.r l.t) j;clear j u l;go_in;go_wp2_with fail
 apply p.mono;rintro e L⟨n,s,b,rfl,w,y,v,x⟩;have o:=q.h x;obtain⟨C,f,A,D⟩:=J5 (cO.mk w y) o v (Tv.f (B:=W0) (S:=WK) x);clear E F G p q w y v x o;go_wp2_with(refine y4 rfl 96 (Tm 13) (Tm 10) rfl g 0 161 [I M a,Z h rs.length c,I V d,va,vl,vp] #[I M a,Z n b.length s,I V d] rfl rfl f.b (by simp) (by kernel_rfl) (by simp[Value.oneCell']) ?_;intro N z t)
 have i:Tv W0 WK L N:= .l t fun k H=>by cases H;exact⟨f.hg,_,f.b,rfl⟩
 go_ret;exact⟨rfl,n,s,b,⟨z,f.t.trans i,f.hg,f.f.trans t⟩,C.tv i (by decide) (by decide),A.out,D.trans i⟩
end
theorem xU(g gf n s:Nat)(S:Nat→Wd→Prop)(w:Wd)(A:n≤4)(h:S 0 w)
  (l:∀k,k<n→∀W,S k W→∃b,W.cell? ⟨gf,k,J⟩=So (Fc (.func b) #[K g] #[])∧(∀args w,(callFunc b args).run prog w= .ok (.enter b args) w)∧Ca prog b #[K g] W fun e W'=>e=X (I M 0)∧S (k+1) W')
  (m:∀W,S n W→∃vp,W.cell? ⟨g,5,J⟩=So vp):
  Ca prog 80 #[K g,Z gf n s] w fun e w'=>∃vp,e=X (Tp #[vp,I M 0])∧w'.cell? ⟨g,5,J⟩=So vp∧S n w':=by
 obtain⟨p,q,o⟩:=p7 l m h;clear l m h;go_in;go_wp2_with fail
 go_loopw [11] (fun i wr=>∃k:Nat,k≤n∧i=I M k∧Hid (S k wr)) (fun i _=>n-(intOf i).toNat)
 case atStart=>exact⟨0,i5 _,rfl,o⟩
 case round=>
  obtain⟨k,y,rfl,f⟩:=hrel;by_cases t:k<n
  ·have z:(k:Int)<n:=by omega
   obtain⟨b,x,v,c⟩:=p k t wr f.out;have c:=a6 c;go_wp2_with(go_at_fn b;apply c.mono;rintro e B⟨rfl,j⟩;have r:=a6 j;clear j)
   go_roundw
   case rel=>exact⟨k+1,by omega,by go_num,r⟩
   case measure=>simp[intOf];omega
  ·obtain rfl:k=n:=by omega
   obtain⟨vp,u⟩:=q wr f.out;go_wp2_with fail
   go_ret2
   exact⟨vp,rfl,u,f.out⟩
end
section
attribute [local go_sem] Oper.semAt_some
def WM:List Ti:=[227,234]
def mkM(p:i1)(va vf vl vm:Va)(a:Nat)(vr:Va)(df:Int):Array Va:= #[va,I U8 p.fm,vf,I V p.dy,I U8 p.lm,vl,vm,I U8 p.am,I U6 p.sp,O p.we,O p.pe,O p.rt,O p.np,I M a,vr,I V df]
structure Mk(w0 w:Wd)(g:Nat)(p:i1)(va vf vl vm:Va)(a:Nat)(df:Int)(vr:Va)(rs:List RR):Prop where
 b:b9 w g 227 (mkM p va vf vl vm a vr df)
 o:e4 w w0 234 x3 vr rs
 t:∀r∈rs,s7 w 392 a3q r.v r.p.tests
 x:a9 w0 w
 hg:w0≤g
section
variable {w0 w w':Wd} {g:Nat} {p:i1} {va vf vl vm vr:Va} {a:Nat} {df:Int} {rs:List RR}
theorem Mk.h(b:Mk w0 w g p va vf vl vm a df vr rs)(x:a9 w w'):Mk w0 w' g p va vf vl vm a df vr rs:=⟨b.b.h x,b.o.h x,fun r c=>(b.t r c).h x,b.x.trans x,b.hg⟩
end
def HI(base:Nat)(ob:Option Nat)(rp:m1)(y:RR)(W:Wd):Prop:=y.p=rp∧e4 W base 392 a3q y.v y.p.tests∧(y.v.ownBlock=J∨y.v.ownBlock≠ob)
structure GR(ob:Option Nat)(base b2:Nat)(v:Va)(xs:List RR)(rp:m1)(W W':Wd):Prop where
 g:W.grownBy W' ob
 old:e4 W base 234 x3 v xs→e4 W' base 234 x3 v xs
 new:∀v' y,e4 W base 234 x3 v' (xs++[y])→HI b2 ob rp y W→∃y',e4 W' base 234 x3 v' (xs++[y'])∧HI b2 ob rp y' W'
section
variable {ob:Option Nat} {base b2:Nat} {v:Va} {xs:List RR} {rp:m1} {W W':Wd}
theorem HI.kept{y:RR}(h:HI b2 ob rp y W)(g:W.grownBy W' ob):HI b2 ob rp y W':=⟨h.1,h.2.1.kept g h.2.2,h.2.2⟩
theorem GR.h(c:W.grownBy W' J):GR ob base b2 v xs rp W W':=
 have k:∀b zs,e4 W base 234 x3 b zs→e4 W' base 234 x3 b zs:=fun b zs q=>q.kept c (by cases b.ownBlock;exact .inl rfl;exact .inr (fun e=>by cases e))
 ⟨s6 c ob,k _ _,fun v' h d f=>⟨h,k _ _ d,f.kept (s6 c ob)⟩⟩
theorem GR.f(h:a9 W W'):GR ob base b2 v xs rp W W':= .h (h8 h J)
instance (ob:Option Nat)(base b2:Nat)(v:Va)(xs:List RR)(rp:m1):fT (GR ob base b2 v xs rp) where
 refl W:= .h ⟨rfl,rfl,rfl,a7 _,fun _ _ _=>rfl⟩
 trans a b c h k:=⟨h.g.trans k.g,fun q=>k.old (h.old q),fun v' f d e=>let⟨y',q3,q4⟩:=h.new v' f d e;k.new v' y' q3 q4⟩
 drew W:= .h (B1 W)
def rD(b2:Nat)(ts:List j6):VR (GR ob base b2 v xs rp):=⟨fun u aa=>e4 aa b2 392 a3q u ts∧(u.ownBlock=J∨u.ownBlock≠ob),fun _ _ _ h k=>⟨h.1.kept k.g h.2,h.2⟩⟩
def a5x:VR (GR ob base b2 v xs rp):=⟨fun u c=>∃b:RR,u=Ag (x3.c b).toArray∧HI b2 ob rp b c,fun _ _ _⟨b,d,e⟩ k=>⟨b,d,e.kept k.g⟩⟩
def a6h:VR (GR ob base b2 v xs rp):=⟨fun u d=>∃b c,u=Z (So ⟨b,0,J⟩) 1 1∧b9 d b 234 (x3.c c).toArray∧ob≠So b∧HI b2 ob rp c d,fun _ _ _⟨b,c,f,h,e,i⟩ k=>⟨b,c,f,h.grown k.g (fun q=>e q.symm),e,i.kept k.g⟩⟩
def pW(z:Nat):VR (GR ob base b2 v xs rp):=⟨fun u d=>∃c,e4 d base 234 x3 u (xs++[c])∧HI b2 ob rp c d∧(u.ownBlock=ob∨∀b,u.ownBlock=So b→z≤b),fun _ _ _⟨c,e,f,h⟩ k=>let⟨y',q1,q2⟩:=k.new _ c e f;⟨y',q1,q2,h⟩⟩
end
theorem a49{c:Type}{W:Wd}{base B:Nat}{e:Ti}{E:p6 c}{v:Va}{xs:List c}{ob:Option Nat}(h:e4 W base e E v xs)(f:∀b,ob=So b→b<B)(i:B≤base):v.ownBlock=J∨v.ownBlock≠ob:=by
 cases d:v.ownBlock with
 |none=>exact .inl rfl
 |some b=>exact .inr fun e=>by have:=(h.lt d).1;have:=f b e.symm;omega
theorem FH(a:Nat)(c:Int)(ts:List j6)(b:List ByteArray){k:Nat}(d:k<b.length):X0 a c ts (b.take (k+1))=X0 a c ts (b.take k)++if(a0p a b[k]).2=0 then [⟨(a0p a b[k]).1,ts,c⟩]else []:=by
 rw[a4a d];unfold X0;rw[List.filterMap_append];congr 1;simp only[List.filterMap_cons,List.filterMap_nil];split<;>split<;>simp_all
theorem C5{w0 w:Wd}{g:Nat}{p:i1}{va vf vl vm vr:Va}{a:Nat}{df:Int}{rs:List RR}(bs:Mk w0 w g p va vf vl vm a df vr rs)(cr:a<6)(u:Int)(am:Va)(ts:List j6)(bx:s7 w 392 a3q am ts)(dl:ts.length≤1000)(az:Option Ad)(c:Nat)(j:List ByteArray)(bw:s7 w 9 F9 (Z az j.length c) j)(dk:rs.length+j.length≤1000):
  Ca prog 239 #[K g,I V u,am,Z az j.length c] w fun e w'=>e=X (Tp #[])∧∃ay Q,Mk w0 w' g p va vf vl vm a df ay Q∧Q.map (·.p)=rs.map (·.p)++X0 a u ts j∧Tv w0 WM w w':=by
 refine(Cw (n:=1)).1 ?_;obtain⟨be,cj,cf,ck,ce⟩:=gP bx bw (fun(W:Wd)(k:s7 W 392 a3q am ts)=>HZ KJ a3q zC sizeOf392 (by omega) k.rd) (fun s W=>DL a cr s W) bs;clear bx bw bs;obtain⟨E,aw,F,rfl⟩:∃E aw F,am=Z E aw F:=let⟨E,F,e,_⟩:=be.out;⟨E,_,F,e⟩;refine Co func239 rfl trivial ?_ rfl;simp only[ntmps239,uE,l9,a4D]
 gi_wp2
 gi_loopw [14] (fun i wr=>∃(k:Nat)(ay:Va)(Q:List RR),k≤j.length∧i=I M k∧Mk w0 wr g p va vf vl vm a df ay Q∧Q.map (·.p)=rs.map (·.p)++X0 a u ts (j.take k)∧Tv w0 WM w wr) (fun i _=>j.length-(intOf i).toNat)
 case atStart=>exact⟨0,vr,rs,i5 _,rfl,ce.out,by simp[X0],.refl _ _ _⟩
 case round=>
  obtain⟨k,l,o,di,rfl,ah,B,G⟩:=hrel;by_cases bv:k<j.length
  ·have av:=cj.tv G (by decide)
   have bu:=be.tv G (by decide);have dj:o.length≤rs.length+k:=by
    have:=congrArg List.length B;rw[a32,a2e,a32]at this;have au:(X0 a u ts (j.take k)).length≤(j.take k).length:=List.length_filterMap_le _ _;rw[a4C]at au;omega
   obtain⟨b,dm,rfl,dh⟩:=av.mem.rows (by decide) (by omega);have co:=av.mem.b bv (r:=0) rfl;have bt:=FH a u ts j bv;have bc:=a6 (ck j[k]);simp only[F9,a4z,Nat.mul_one]at co;generalize j[k]=s at*;have dd:wr.cell? ⟨g,13,J⟩=So (I M a):=ah.b.cell 13;generalize a0p a s=r at*;obtain⟨aj,bq⟩:=r;dsimp only at*;obtain⟨bd,aa,bb,cm⟩:=J5 bt B ah bu;clear bt B ah bu av;by_cases ai:bq=0
   ·subst ai
    gi_wp2_with(refine⟨trivial,?_⟩;gi_at_call 331;apply((Cw (n:=0)).2 (bc _)).mono;rintro e t⟨rfl,C⟩)
    have y:=bb.h C;have bh:=cm.h C;have bz:∀b,l.ownBlock=So b→b<t.heap.size:=fun b H=>(y.o.lt H).2
    obtain⟨ba,ch,A,bf⟩:=J5 (fun(f:Wd)(h:GR l.ownBlock w0 t l o ⟨aj,ts,u⟩ t f)=>show b9 f g 227 (mkM p va vf vl vm a l df)from y.b.grown h.g (fun e=>y.o.ne y.b (by decide) e.symm)) (fun(f:Wd)(h:GR l.ownBlock w0 t l o ⟨aj,ts,u⟩ t f)=>show s7 f 392 a3q (Z E aw F) ts from bh.kept fun b2 cs k=>k.grown h.g (fun e=>y.o.ne k (by decide) e.symm)) y bz;have cu:o.length+1≤1000000:=by omega
    have ct:w0≤t.heap.size:=y.x.size;clear y bh bz;refine s8 (R:=(GR l.ownBlock w0 t l o ⟨aj,ts,u⟩)) (fun _=>trivial) rfl [.is ?As,.is ?At,.is ?Au,.is ?Av,.is ?Aw,.is l,.is ?Ax,.is ?Ay,(rD t ts),.is ?Az,a5x,a6h,(pW t),.is ?Ba,.is ?Bb,.is ?Bc] (by kernel_rfl) ?Bd ?Aa ⟨?Ab,?Ac,?Ad,?Ae,?Af,?Ag,?Ah,?Ai,?Aj,?Ak,?Al,?Am,?An,?Ao,?Ap,?Aq,trivial⟩ _ rfl rfl ?Ar
    case Aa=>intro x;simp only[e6,Act.put,uL,l9]<;>rfl
    case Ab|Ac|Ad|Ae|Af|Ag|Ah|Ai|Ak|Ao|Ap|Aq=>
     intro x f h;simp only[e5,g1,uV,rD,pW];repeat(intro d;try simp only[d])
     have dq:f.cell? ⟨g,14,J⟩=So l:=(ba f h).cell 14;gi_wp2_with fail
     refine a0e ?_ rfl (fT.refl _);rfl
    case Aj=>
     intro x f h;simp only[e5,g1,uV,rD,pW];intro af;simp only[af];gi_wp2_with(refine⟨trivial,?_⟩;gi_at_call 332;apply((Cw (n:=0)).2 (cf f (ch f h))).mono;rintro e dc⟨dp,rfl,cb,cv⟩)
     refine a0e ?_ rfl (GR.f cv);exact⟨cb.mono h.g.size,a49 cb (fun b H=>bf b H) h.g.size⟩
    case Al=>
     intro x f h;simp only[e5,g1,uV,rD,pW];rintro ae D ag;simp only[ae,ag];obtain⟨cd,cp,ar⟩:=D.1.b;gi_wp2_with fail
     refine a0e ?_ rfl (GR.f (a9.refl f));exact⟨⟨⟨aj,ts,u⟩,cd,cp⟩,by rw[ar];rfl,rfl,by rw[ar]at D;exact D.1,by rw[ar]at D;exact D.2⟩
    case Am=>
     intro x f h;simp only[e5,g1,uV,rD,pW];rintro⟨m,ab,k10⟩;simp only[ab];rw[show(x3.c m).toArray= #[I V m.p.nr,m.v,I V m.p.act]from rfl];gi_wp2_with fail
     refine a0e ?_ rfl (GR.f ((a9.refl f).alloc _));exact⟨f,m,rfl,b9.new _ _ _,fun e=>by have:=bf _ e;have:=h.g.size;omega,k10.kept (h8 ((a9.refl f).alloc _) _)⟩
    case An=>
     intro x f h;simp only[e5,g1,uV,rD,pW];rintro ad⟨br,m,ac,ca,cx,k11⟩;simp only[ad,ac];gi_wp2_with(gi_at_builtin;go_loud (refine oC rfl _ _ 94 234 rfl FG w0 l o rfl (h.old A.o) br 1 1 [m] rfl rfl (h9.f ca (by simp[p6.row])) cu (c8 ct h.g.size) ?_;intro dn dc cy ak cz da db))
     refine a0e ?_ rfl (⟨ak,fun _=>cz,fun v' cc cq au=>(da v' (o++[cc]) (by simp) cq).elim (fun k=>⟨cc,k,au.kept ak⟩) (fun k=>⟨m,k,k11.kept ak⟩)⟩);exact⟨m,cy,k11.kept ak,db.imp id (fun q b H=>by have:=q b H;have:=h.g.size;omega)⟩
    case Ar=>
     intro x f h;simp only[l8,e5,g1,uV,rD,pW];rintro aq bi bm bn bo ad ae af D ag⟨m,ab,k10⟩⟨br,m,ac,ca,cx,k11⟩ cw bj bk bl;simp only[aq,bi,bm,bn,bo,ad,ae,af,ag,ab,ac,bj,bk,bl];clear aq bi bm bn bo ad ae af ag ab ac bj bk bl;obtain⟨m,P,k7,_⟩:=cw;obtain⟨an,ax,ap,bp⟩:=P.f;rw[bp]at P;have N:=ba f h;have dg:=N.frozen 14;have de:f.cell? ⟨g,14,J⟩=So l:=N.cell 14;have al:Tv w0 WM t f:= .ofOwn A.o h.g (a7 _) (by decide);have T:=Tv.r N A.hg (S:=WM) (by decide) 14 (Z an ax ap);have cn:=a6 ((G.h C).trans (al.trans T));have bg:Mk w0 (f.setCell ⟨g,14,J⟩ (Z an ax ap)) g p va vf vl vm a df (Z an ax ap) (o++[m]):=by
      refine⟨N.f 14 _,P.kept (x4 _ g 14 _) (.inr (P.ne N (by decide))),fun r L=> ?_,(al.trans T).b A.x (a7 _),A.hg⟩;rcases List.mem_append.1 L with L|L
      ·exact(A.t r L).tv (al.trans T) (by decide)
      ·rw[List.mem_singleton.1 L];exact k7.2.1.ty.tv T (by decide)
     obtain⟨ci,cg⟩:=i6 bg k7.1;have z:=bd.out;simp only[if_true]at z;have ao:=a6 z;clear al T bg P z k7;simp only[bp];gi_wp2_with fail
     go_roundw
     case rel=>exact⟨k+1,_,o++[m],by omega,by go_num,ci.out,by rw[a4F,aa.out,ao.out,a4s,List.map_singleton,cg.out],cn.out⟩
     case measure=>simp[intOf];omega
   ·have aq:(bq==0)=Bf:=by simp[ai]
    have z:=bd.out;rw[if_neg ai,List.append_nil]at z;have ao:=a6 z;clear z ai;gi_wp2_with(refine⟨trivial,?_⟩;gi_at_call 331;apply((Cw (n:=0)).2 (bc _)).mono;rintro e t⟨rfl,C⟩)
    go_roundw
    case rel=>exact⟨k+1,l,o,by omega,by go_num,bb.h C,by rw[aa.out,ao.out],G.h C⟩
    case measure=>simp[intOf];omega
  ·obtain rfl:k=j.length:=by omega
   rw[List.take_length]at B;have aa:=a6 B;clear B;gi_wp2_with fail
   go_end0
   exact⟨rfl,l,o,ah,aa.out,G⟩
end
section
theorem cF{b:Type}{w:Wd}{e:Ti}{E:p6 b}{xs:List b}{cs:Array Va}(d:cs.toList=E.row xs)(n:Nat)(f:xs.length=n):s7 (w.alloc (U cs e)) e E (Z w n n) xs:=by
 subst f;exact⟨_,_,rfl,h9.f (b9.new w e cs) d,fun a c=>by cases c;exact⟨rfl,_,b9.new w e cs⟩⟩
def rQ(w0:Wd)(g:Nat)(p:i1)(va vf vl vm:Va)(a:Nat)(df:Int)(cs:List RC)(b:Bool)(e:Ending)(d:Wd):Prop:=e=X (O b)∧∃c rs,Mk w0 d g p va vf vl vm a df c rs∧rs.map (·.p)=o7 a cs
theorem K6{rs d:List RR}{a:Nat}{c:Int}{ts:List j6}{b:List ByteArray}(e:d.map (·.p)=rs.map (·.p)++X0 a c ts b):d.length≤rs.length+b.length:=by
 have:=congrArg List.length e;rw[a32,a2e,a32]at this;have f:(X0 a c ts b).length≤b.length:=List.length_filterMap_le _ _;omega
section
variable {w0 w:Wd} {g:Nat} {p:i1} {va vf vl vm:Va} {a:Nat} {df:Int}
theorem a09(k:Mk w0 w g p va vf vl vm a df (Z J 0 0) [])(l:a<6):
  Ca prog 182 #[K g] w (rQ w0 g p va vf vl vm a df (x8 p 6).cs (x8 p 6).ok):=by
 have H:=a6 k;clear k;go_in;have f:=a6 (dM 0 4294967295 2147418112 w 2 2 [0,4294967295] (w.alloc (U #[I U6 0,I U6 4294967295] 27)) rfl (by decide) (h9.f (b9.new w _ _) rfl));go_wp2_with fail
 apply f.mono;rintro e c⟨n,rfl,b,xa⟩;have i:=H.h (((a9.refl w).alloc (U #[I U6 0,I U6 4294967295] 27)).trans xa);have d:=a6 (C5 (i.h ((a9.refl c).alloc (U #[Y M3] 9))) l 327681 n _ (b.ty.h ((a9.refl c).alloc _)) (by simp) c 1 [M3] (cF rfl 1 rfl) (by simp));obtain⟨r,s,rfl⟩:=b.b;clear i b xa f;go_wp2_with fail
 apply d.mono;rintro e q⟨rfl,o,m,h,j,v⟩;have u:=K6 j;clear d;have t:q.cell? ⟨g,10,J⟩=So (O p.pe):=h.b.cell 10;go_wp2_with fail
 go_ret;exact⟨rfl,o,m,h,by rw[j];simp[o7,x8,K1]⟩
theorem a08(k:Mk w0 w g p va vf vl vm a df (Z J 0 0) [])(l:a<6):
  Ca prog 183 #[K g] w (rQ w0 g p va vf vl vm a df (x8 p 7).cs (x8 p 7).ok):=by
 have H:=a6 k;clear k;go_in;have f:=a6 (dM 1 4294967295 2147418112 w 3 3 [0,3,5] (w.alloc (U #[I U6 0,I U6 3,I U6 5] 27)) rfl (by decide) (h9.f (b9.new w _ _) rfl));go_wp2_with fail
 apply f.mono;rintro e c⟨n,rfl,b,xa⟩;have i:=H.h (((a9.refl w).alloc (U #[I U6 0,I U6 3,I U6 5] 27)).trans xa);have d:=a6 (C5 (i.h ((a9.refl c).alloc (U #[Y nP] 9))) l 327681 n _ (b.ty.h ((a9.refl c).alloc _)) (by simp) c 1 [nP] (cF rfl 1 rfl) (by simp));obtain⟨r,s,rfl⟩:=b.b;clear i b xa f;go_wp2_with fail
 apply d.mono;rintro e q⟨rfl,o,m,h,j,v⟩;have u:=K6 j;clear d;have t:q.cell? ⟨g,11,J⟩=So (O p.rt):=h.b.cell 11;go_wp2_with fail
 go_ret;exact⟨rfl,o,m,h,by rw[j];simp[o7,x8,K1]⟩
theorem a1a(x:Mk w0 w g p va vf vl vm a df (Z J 0 0) [])(h:a<6):
  Ca prog 181 #[K g] w (rQ w0 g p va vf vl vm a df (x8 p 5).cs (x8 p 5).ok):=by
 have H:=a6 x;clear x;go_in;have o:=a6 (nT 2 327681 w 1 1 [6] (w.alloc (U #[I U6 6] 27)) rfl (by decide) (h9.f (b9.new w _ _) rfl));go_wp2_with fail
 apply o.mono;rintro e i⟨D,rfl,b,xa⟩;have c:=H.h (((a9.refl w).alloc (U #[I U6 6] 27)).trans xa);have l:=a6 (C5 (c.h ((a9.refl i).alloc (U #[Y wN] 9))) h 2147418112 D _ (b.ty.h ((a9.refl i).alloc _)) (by simp) i 1 [wN] (cF rfl 1 rfl) (by simp));obtain⟨N,R,rfl⟩:=b.b;clear c b xa o;go_wp2_with fail
 apply l.mono;rintro e d⟨rfl,ag,ab,y,t,ad⟩;have A:=K6 t;clear l;simp only[List.length_nil,a3W]at A;have q:=a6 (nT 2 327681 d 1 1 [4] (d.alloc (U #[I U6 4] 27)) rfl (by decide) (h9.f (b9.new d _ _) rfl));go_wp2_with fail
 apply q.mono;rintro e j⟨E,rfl,b,xa⟩;have c:=y.h (((a9.refl d).alloc (U #[I U6 4] 27)).trans xa);have m:=a6 (C5 (c.h ((a9.refl j).alloc (U #[Y bM,Y wM] 9))) h 2147418112 E _ (b.ty.h ((a9.refl j).alloc _)) (by simp) j 2 [bM,wM] (cF rfl 2 rfl) (by simp;omega));obtain⟨P,T,rfl⟩:=b.b;clear c b xa q;go_wp2_with fail
 apply m.mono;rintro e f⟨rfl,ah,ac,z,u,ae⟩;have B:=K6 u;clear m;simp only[List.length_nil,a3W]at B;have r:=a6 (nT 2 327681 f 1 1 [32768] (f.alloc (U #[I U6 32768] 27)) rfl (by decide) (h9.f (b9.new f _ _) rfl));go_wp2_with fail
 apply r.mono;rintro e k⟨F,rfl,b,xa⟩;have c:=z.h (((a9.refl f).alloc (U #[I U6 32768] 27)).trans xa);have n:=a6 (C5 (c.h ((a9.refl k).alloc (U #[Y nO] 9))) h 2147418112 F _ (b.ty.h ((a9.refl k).alloc _)) (by simp) k 1 [nO] (cF rfl 1 rfl) (by simp;omega));obtain⟨Q,W,rfl⟩:=b.b;clear c b xa r;go_wp2_with fail
 apply n.mono;rintro e L⟨rfl,G,C,s,v,af⟩;have aa:=K6 v;clear n;have S:L.cell? ⟨g,9,J⟩=So (O p.we):=s.b.cell 9;go_wp2_with fail
 go_ret;exact⟨rfl,G,C,s,by rw[v,u,t];simp[o7,x8,eA]⟩
end
end
section
section
variable {w0 w:Wd} {g:Nat} {p:i1} {va vf vl vm:Va} {a:Nat} {df:Int}
theorem VL(l:Mk w0 w g p va vf vl vm a df (Z J 0 0) [])(m:a<6):
  Ca prog 180 #[K g] w (rQ w0 g p va vf vl vm a df (x8 p 4).cs (x8 p 4).ok):=by
 have H:=a6 l;have aq:w.cell? ⟨g,8,J⟩=So (I U6 p.sp):=l.b.cell 8;have v:=a6 (a04 p.sp w);have bp:=CL p.sp;have ab:(x8 p 4).cs=[(2147418112,eA 0 327681 (F1 i7 p.sp),[R5,eP]),(2147418112,eA 1 327681 (F1 i7 p.sp)++K1 1 4294967295 327681 [0],[iS]),(327718,[],[dG])]:=rfl;have ac:(x8 p 4).ok=(p.sp !=0):=rfl;rw[ab,ac];generalize F1 i7 p.sp=b at*;clear l ab ac;go_in;go_wp2_with fail
 apply v.mono;rintro e af⟨cb,rfl,of,be⟩;obtain⟨c,ar,rfl⟩:=of.b;have T:h9 af c (i3 U6 b):=by have:=of.i.1;rwa[a3R U6 yT (fun _=>rfl)]at this
 have G:=H.h be;obtain⟨y,F,u⟩:=p7 T of.ty (fun(arg:Int)(W:Wd)(av:h9 W c (i3 U6 b))=>nT arg 327681 c b.length ar b W rfl (by omega) av);clear aq v T of;go_wp2_with fail
 apply(u 0 af y.out).mono;rintro e f⟨cc,rfl,o,s⟩;have L:=G.h s;obtain⟨bf,bt,bk,rfl⟩:=o.f;have B:=a6 (C5 ((L).h ((a9.refl f).alloc (U #[Y R5,Y eP] 9))) m 2147418112 _ _ ((o).ty.h ((a9.refl f).alloc _)) (by(simp;omega)) f 2 [R5,eP] (cF rfl 2 rfl) (by simp));try go_wp2_with fail
 apply B.mono;rintro e i⟨rfl,cg,bw,N,R,ae⟩;have br:=K6 R;clear B;have Q:=((F.h s).h ((a9.refl f).alloc (U #[Y R5,Y eP] 9))).tv ae (by decide);have aa:h9 i c (i3 U6 b):=by have:=Q.mem;rwa[a3R U6 yT (fun _=>rfl)]at this
 have z:=a6 aa;clear aa Q ae L o s y F G;go_wp2_with fail
 apply(u 1 i z.out).mono;rintro e h⟨cd,rfl,q,t⟩;have E:=a6 (dM 1 4294967295 327681 h 1 1 [0] (h.alloc (U #[I U6 0] 27)) rfl (by decide) (h9.f (b9.new h _ _) rfl));obtain⟨bg,bu,bl,rfl⟩:=q.f;go_wp2_with fail
 apply E.mono;rintro e bc⟨ce,rfl,d,ah⟩;have j:=((a9.refl h).alloc (U #[I U6 0] 27)).trans ah;obtain⟨bh,az,bm,rfl⟩:=d.f;have n:=d.i.2;obtain⟨A,aj,al⟩:=p7 (q.h j) d.i.1 (t.trans j);have ay:(b.map fun x=>(⟨1,x,x,327681⟩:j6)).length+az≤1000000:=by rw[←n];simp;omega
 have ak:=a6 n;clear n;have aw:i≤bc.heap.size:=(t.trans j).size;have ai:=a6 N;clear q d t ah j E z N;go_wp2_with(at_builtin;go_loud (refine j3 rfl (Tm 17) (Tm 19) 232 392 rfl zC i _ _ rfl A _ _ _ _ rfl ak aj ay aw ?_;intro cf r ad bq ax bo;have ap:=al.grown ax (fun k e=>(A.lt e).1);obtain⟨bi,bv,bn,rfl⟩:=ad.f))
 have am:=ai.h ap;have ao:=ad;have C:=a6 (C5 ((am).h ((a9.refl r).alloc (U #[Y iS] 9))) m 2147418112 _ _ ((ao).ty.h ((a9.refl r).alloc _)) (by(simp;omega)) r 1 [iS] (cF rfl 1 rfl) (by(simp only[List.length_nil,a3W]at*;omega)));try go_wp2_with fail
 apply C.mono;rintro e ag⟨rfl,ch,bx,an,S,bz⟩;have bs:=K6 S;clear C;have D:=a6 (C5 (an.h ((a9.refl ag).alloc (U #[Y dG] 9))) m 327718 _ _ (s7.nil _ _ _) (by simp) ag 1 [dG] (cF rfl 1 rfl) (by simp only[List.length_nil,a3W]at*;omega));go_wp2_with fail
 apply D.mono;rintro e bd⟨rfl,bb,ba,P,au,ca⟩;have bj:bd.cell? ⟨g,8,J⟩=So (I U6 p.sp):=P.b.cell 8;clear D;go_wp2_with fail
 go_ret;exact⟨rfl,bb,ba,P,by rw[au,S,R];simp[o7,K1,eA]⟩
end
end
end Go.Proofs.YtiomenjfmagknaaGreat
