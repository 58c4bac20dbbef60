/- A part of the proof of TopSame: lemmas on the walks of its calls. -/
import Derived.Test.YtiomenjfmagknaaGreatM19
set_option maxHeartbeats 12000000
set_option linter.all false
set_option maxRecDepth 100000
namespace Go.Proofs.YtiomenjfmagknaaGreat
open Go.RowKit Go.ChangeShapes Go.WideShapes Tryz
open Bool renaming true→Bt,false→Bf
open Decidable renaming decide→Dc
open Ending renaming returned→X
open Go renaming World→Wd,Value→Va,Calls→Ca,callsIn_wide→Cw,undef→Un,bodyPost_ret→Bp,TypeId→Ti,Addr→Ad,Program→Pg,wpListIn→Wl,callsIn_of_wp_marks→Cm,callsIn_of_wp→Co,CallsIn→Ci
open Go.Proofs renaming enters_of→Eo
open IntKind renaming i64→M,u32→V,u64→U6,u8→U8
open Lib renaming hid→a6
open List renaming range→q5,length_cons→a3W,getElem_mem→a30,length_map→a32,take_succ_eq_append_getElem→a4a,map_append→a4F
open Nat renaming le_refl→a7,le_trans→c8,reduceAdd→l9,zero_le→i5,add_zero→a4z,reduceSub→a4D
open Obj renaming cells→U
open Operand renaming tmp→Tm
open Option renaming none→J,some→So
open Value renaming int→I,slice→Z,string→Y,pointer→K,bool→O,func→Fc,tuple→Tp,agg→Ag,nilFunc→Nf
section
theorem Mk.setD{w0 w:Wd}{g:Nat}{p:i1}{va vf vl vm d:Va}{a:Nat}{e:Int}{rs:List RR}(b:Mk w0 w g p va vf vl vm a e d rs)(c:Int):Mk w0 (w.setCell ⟨g,15,J⟩ (I V c)) g p va vf vl vm a c d rs:=
 have t:=Tv.r b.b b.hg (S:=WM) (by decide) 15 (I V c)
 ⟨b.b.f 15 _,b.o.kept (x4 _ g 15 _) (.inr (b.o.ne b.b (by decide))),fun r f=>(b.t r f).tv t (by decide),t.b b.x (a7 _),b.hg⟩
theorem bF{a:Nat}{f:o8→Int}(l:List o8){k:Nat}(b:k<l.length):o7 a ((l.take (k+1)).map fun c=>((f c,[],[c.1]):RC))=o7 a ((l.take k).map fun c=>(f c,[],[c.1]))++X0 a (f l[k]) [] [l[k].1]:=by
 rw[a4a b,a4F];unfold o7;rw[List.flatMap_append];simp
section
variable {w0 w:Wd} {g:Nat} {p:i1} {va vf vl vm:Va} {a:Nat}
theorem a3H(n:Mk w0 w g p va vf vl vm a 2147418112 (Z J 0 0) [])(au:a<6)(am:R3 w0 p va vf vl vm)(bj:p.lc.length≤40):
  Ca prog 178 #[K g] w (rQ w0 g p va vf vl vm a (x8 p 2).dflt (x8 p 2).cs (x8 p 2).ok):=by
 obtain⟨Al,B,rfl,b,-⟩:=am.l;obtain⟨aq,ar⟩:=i6 b (fun W=>qB p.lm p.lc.length Bf Bt W);show Ca _ _ _ w (rQ w0 g p va vf _ vm a (if p.lm=2 then 2147221504 else 2147418112) (p.lc.map fun c=>(if p.lm=2 then 2147418112 else 2147221504,[],[c.1])) (T6 p.lm p.lc.length Bf Bt));have bh:w.cell? ⟨g,4,J⟩=So (I U8 p.lm):=n.b.cell 4;have aw:w.cell? ⟨g,5,J⟩=So (Z Al p.lc.length B):=n.b.cell 5;generalize T6 p.lm p.lc.length Bf Bt=bk at*;by_cases C:p.lm=2
 ·have u:(p.lm==2)=Bt:=by simp[C]
  simp only[if_pos C];have bi:=n.b.frozen 15;have bg:w.cell? ⟨g,15,J⟩=So (I V 2147418112):=n.b.cell 15;have aj:=n.setD 2147221504;have aw:(w.setCell ⟨g,15,J⟩ (I V 2147221504)).cell? ⟨g,5,J⟩=So (Z Al p.lc.length B):=aj.b.cell 5;have o:=a6 aj;clear n aj b am C;go_in;go_wp2_with fail
  go_loopw [24] (fun i wr=>∃(k:Nat)(A:Va)(rs:List RR),k≤p.lc.length∧i=I M k∧Mk w0 wr g p va vf (Z Al p.lc.length B) vm a 2147221504 A rs∧rs.map (·.p)=o7 a ((p.lc.take k).map fun c=>((2147418112:Int),[],[c.1]))∧rs.length≤k) (fun i _=>p.lc.length-(intOf i).toNat)
  case atStart=>exact⟨0,_,[],i5 _,rfl,o.out,rfl,a7 _⟩
  case round=>
   obtain⟨k,A,rs,ax,rfl,h,j,ay⟩:=hrel;by_cases y:k<p.lc.length
   ·have b:=aq.h h.x
    obtain⟨av,az,rfl,_⟩:=b.rows (by decide) (by omega);have ad:=b.b y (r:=0) rfl;have ae:=b.b y (r:=1) rfl;simp only[p5,a4z]at ad ae;have z:=bF (a:=a) (f:=fun _=>(2147418112:Int)) p.lc y;generalize p.lc[k]=x at*;obtain⟨nm,t⟩:=x;dsimp only at ad ae z;have af:=b9.new wr 144 #[Y nm,I V t];have ba:=af.cell 0;obtain⟨ah,s,ai⟩:=p7 (C5 ((h.h ((a9.refl wr).alloc (U #[Y nm,I V t] 144))).h ((a9.refl _).alloc (U #[Y nm] 9))) au 2147418112 _ [] (s7.nil _ _ _) (by simp) (wr+1:Nat) 1 [nm] (by have:=cF (w:=wr.alloc (U #[Y nm,I V t] 144)) (e:=9) (E:=F9) (xs:=[nm]) (cs:= #[Y nm]) rfl 1 rfl;rwa[World.size_alloc]at this) (by simp;omega)) j z;clear j z b h o;go_wp2_with fail
    apply ah.mono;rintro e bc⟨rfl,ap,ao,ak,v,bb⟩;have an:=K6 v;simp only[a3W,List.length_nil]at an;have ag:=a6 v;clear v;go_wp2_with fail
    go_roundw
    case rel=>exact⟨k+1,ap,ao,by omega,by go_num,ak,by rw[ag.out,s.out,ai.out],by omega⟩
    case measure=>simp[intOf];omega
   ·obtain rfl:k=p.lc.length:=by omega
    rw[List.take_length]at j;obtain⟨s,q⟩:=i6 j h;clear j h o;go_wp2_with fail
    refine e7 rfl [.is ?Bi,.is ?Bj,.is ?Bk,.is ?Bl,.is ?Bm,.is ?Bn,.is ?Bo,.is ?Bp,.is ?Bq,.is ?Br,.is ?Bs,.is ?Bt,.is ?Bu,.is ?Bv,.is ?Bw] (by kernel_rfl) ?Bx ?Aa ⟨?Ab,?Ac,?Ad,?Ae,?Af,?Ag,?Ah,?Ai,?Aj,?Ak,?Al,?Am,?An,?Ao,?Ap,trivial⟩ ?Aq
    case Aa=>intro x;simp only[e6,Act.put,uL,l9]<;>rfl
    case Ab|Ac|Ad|Ae|Af|Ag|Ah|Ai|Aj|Ak|Al|Am|An|Ao|Ap=>
     intro x l m;simp only[e5,j8,uV];repeat(intro d;try simp only[d])
     have be:l.cell? ⟨g,4,J⟩=So (I U8 p.lm):=(q.b.h m).cell 4;have bf:l.cell? ⟨g,5,J⟩=So (Z Al p.lc.length B):=(q.b.h m).cell 5;go_wp2_with(go_at_call 241;apply(ar l).mono;rintro e bd⟨rfl,rfl⟩)
     refine a0e ?_ rfl (a9.refl _);rfl
    case Aq=>
     intro x l m;simp only[l8,e5,j8,uV];intro D F u Q R S T aa ab ac G H L N P;simp only[D,F,u,Q,R,S,T,aa,ab,ac,G,H,L,N,P];clear D F u Q R S T aa ab ac G H L N P;have al:=q.h m;go_wp2_with fail
     go_ret;exact⟨rfl,A,rs,al,s.out⟩
 ·have u:(p.lm==2)=Bf:=by simp[C]
  simp only[if_neg C];have o:=a6 n;clear n b am C;go_in;go_wp2_with fail
  go_loopw [24] (fun i wr=>∃(k:Nat)(A:Va)(rs:List RR),k≤p.lc.length∧i=I M k∧Mk w0 wr g p va vf (Z Al p.lc.length B) vm a 2147418112 A rs∧rs.map (·.p)=o7 a ((p.lc.take k).map fun c=>((2147221504:Int),[],[c.1]))∧rs.length≤k) (fun i _=>p.lc.length-(intOf i).toNat)
  case atStart=>exact⟨0,_,[],i5 _,rfl,o.out,rfl,a7 _⟩
  case round=>
   obtain⟨k,A,rs,ax,rfl,h,j,ay⟩:=hrel;by_cases y:k<p.lc.length
   ·have b:=aq.h h.x
    obtain⟨av,az,rfl,_⟩:=b.rows (by decide) (by omega);have ad:=b.b y (r:=0) rfl;have ae:=b.b y (r:=1) rfl;simp only[p5,a4z]at ad ae;have z:=bF (a:=a) (f:=fun _=>(2147221504:Int)) p.lc y;generalize p.lc[k]=x at*;obtain⟨nm,t⟩:=x;dsimp only at ad ae z;have af:=b9.new wr 144 #[Y nm,I V t];have ba:=af.cell 0;obtain⟨ah,s,ai⟩:=p7 (C5 ((h.h ((a9.refl wr).alloc (U #[Y nm,I V t] 144))).h ((a9.refl _).alloc (U #[Y nm] 9))) au 2147221504 _ [] (s7.nil _ _ _) (by simp) (wr+1:Nat) 1 [nm] (by have:=cF (w:=wr.alloc (U #[Y nm,I V t] 144)) (e:=9) (E:=F9) (xs:=[nm]) (cs:= #[Y nm]) rfl 1 rfl;rwa[World.size_alloc]at this) (by simp;omega)) j z;clear j z b h o;go_wp2_with fail
    apply ah.mono;rintro e bc⟨rfl,ap,ao,ak,v,bb⟩;have an:=K6 v;simp only[a3W,List.length_nil]at an;have ag:=a6 v;clear v;go_wp2_with fail
    go_roundw
    case rel=>exact⟨k+1,ap,ao,by omega,by go_num,ak,by rw[ag.out,s.out,ai.out],by omega⟩
    case measure=>simp[intOf];omega
   ·obtain rfl:k=p.lc.length:=by omega
    rw[List.take_length]at j;obtain⟨s,q⟩:=i6 j h;clear j h o;go_wp2_with fail
    refine e7 rfl [.is ?By,.is ?Bz,.is ?Ca,.is ?Cb,.is ?Cc,.is ?Cd,.is ?Ce,.is ?Cf,.is ?Cg,.is ?Ch,.is ?Ci,.is ?Cj,.is ?Ck,.is ?Cl,.is ?Cm] (by kernel_rfl) ?Cn ?Ar ⟨?As,?At,?Au,?Av,?Aw,?Ax,?Ay,?Az,?Ba,?Bb,?Bc,?Bd,?Be,?Bf,?Bg,trivial⟩ ?Bh
    case Ar=>intro x;simp only[e6,Act.put,uL,l9]<;>rfl
    case As|At|Au|Av|Aw|Ax|Ay|Az|Ba|Bb|Bc|Bd|Be|Bf|Bg=>
     intro x l m;simp only[e5,j8,uV];repeat(intro d;try simp only[d])
     have be:l.cell? ⟨g,4,J⟩=So (I U8 p.lm):=(q.b.h m).cell 4;have bf:l.cell? ⟨g,5,J⟩=So (Z Al p.lc.length B):=(q.b.h m).cell 5;go_wp2_with(go_at_call 241;apply(ar l).mono;rintro e bd⟨rfl,rfl⟩)
     refine a0e ?_ rfl (a9.refl _);rfl
    case Bh=>
     intro x l m;simp only[l8,e5,j8,uV];intro D F u Q R S T aa ab ac G H L N P;simp only[D,F,u,Q,R,S,T,aa,ab,ac,G,H,L,N,P];clear D F u Q R S T aa ab ac G H L N P;have al:=q.h m;go_wp2_with fail
     go_ret;exact⟨rfl,A,rs,al,s.out⟩
end
end
section
attribute [local go_sem] Oper.semAt_some
section
variable {w0 w:Wd} {g:Nat} {p:i1} {va vf vl vm:Va} {a:Nat}
theorem OG(C:Mk w0 w g p va vf vl vm a 2147418112 (Z J 0 0) [])(S:a<6)(av:R3 w0 p va vf vl vm)(bq:p.fc.length≤40):
  Ca prog 177 #[K g] w (rQ w0 g p va vf vl vm a (x8 p 1).dflt (x8 p 1).cs (x8 p 1).ok):=by
 refine(Cw (n:=1)).1 ?_;obtain⟨Al,Q,rfl,s,-⟩:=av.f;obtain⟨bc,bd⟩:=i6 s (fun W=>qB p.fm p.fc.length Bt Bf W);show Ci _ _ _ _ _ w (rQ w0 g p va _ vl vm a (if p.fm=1 then p.dy else 2147418112) (p.fc.map fun c=>(yJ c.2 (if p.fm=1 then 2147418112 else p.dy),[],[c.1])) (T6 p.fm p.fc.length Bt Bf));have bk:w.cell? ⟨g,1,J⟩=So (I U8 p.fm):=C.b.cell 1;have bm:w.cell? ⟨g,2,J⟩=So (Z Al p.fc.length Q):=C.b.cell 2;have bn:w.cell? ⟨g,3,J⟩=So (I V p.dy):=C.b.cell 3;generalize T6 p.fm p.fc.length Bt Bf=br at*;by_cases R:p.fm=1
 ·have j:(p.fm==1)=Bt:=by simp[R]
  simp only[if_pos R];have bp:=C.b.frozen 15;have bl:w.cell? ⟨g,15,J⟩=So (I V 2147418112):=C.b.cell 15;have ap:=C.setD p.dy;have bo:(w.setCell ⟨g,15,J⟩ (I V p.dy)).cell? ⟨g,2,J⟩=So (Z Al p.fc.length Q):=ap.b.cell 2;have D:=a6 ap;clear C ap s av R;refine Co func177 rfl trivial ?_ rfl;simp only[ntmps177,uE,l9,a4D];gi_wp2_with fail
  gi_loopw [34] (fun i wr=>∃(k:Nat)(P:Va)(rs:List RR),k≤p.fc.length∧i=I M k∧Mk w0 wr g p va (Z Al p.fc.length Q) vl vm a p.dy P rs∧rs.map (·.p)=o7 a ((p.fc.take k).map fun c=>(yJ c.2 2147418112,[],[c.1]))∧rs.length≤k) (fun i _=>p.fc.length-(intOf i).toNat)
  case atStart=>exact⟨0,_,[],i5 _,rfl,D.out,rfl,a7 _⟩
  case round=>
   obtain⟨k,P,rs,bf,rfl,t,B,bg⟩:=hrel;by_cases H:k<p.fc.length
   ·have s:=bc.h t.x
    obtain⟨be,bh,rfl,_⟩:=s.rows (by decide) (by omega);have ai:=s.b H (r:=0) rfl;have aj:=s.b H (r:=1) rfl;simp only[p5,a4z]at ai aj;have L:=bF (a:=a) (f:=fun c=>yJ c.2 2147418112) p.fc H;generalize p.fc[k]=x at*;obtain⟨nm,l⟩:=x;dsimp only at ai aj L;have ak:=b9.new wr 144 #[Y nm,I V l];have T:=t.h ((a9.refl wr).alloc (U #[Y nm,I V l] 144));obtain⟨F,ao,am⟩:=p7 B L T;clear B L s t T D;gi_wp2_with fail
    refine g4 (fun _=>trivial) rfl [.is ?Ce,.is ?Cf,.is (I V l),.is ?Cg,VP.blk 2 26 #[I V l,I V 2147418112],.is (I V (yJ l 2147418112)),.is ?Ch,.is (Y nm),VP.blk 1 9 #[Y nm]] (by kernel_rfl) ?Ci ?Aa ⟨?Ab,?Ac,?Ad,?Ae,?Af,?Ag,?Ah,?Ai,?Aj,trivial⟩ _ rfl rfl ?Ak
    case Aa=>intro x;simp only[e6,Act.put,uL,l9]<;>rfl
    case Ab|Ac|Ad|Ae|Ah|Ai=>
     intro x b h;simp only[e5,g1,uV];repeat(intro d;try simp only[d])
     obtain⟨ba,bb⟩:=(ak.h h).d2 1 0;gi_wp2_with fail
     refine a0e ?_ rfl (a9.refl _);rfl
    case Af=>
     intro x b h;simp only[e5,g1,uV];intro j m;simp only[j,m];gi_wp2_with fail
     refine a0e ?_ rfl ((a9.refl b).alloc _);exact⟨b,rfl,b9.new _ _ _⟩
    case Ag=>
     intro x b h;simp only[e5,g1,uV];rintro⟨ag,o,N⟩;simp only[o];gi_wp2_with(refine⟨trivial,?_⟩;gi_at_call 240;apply((Cw (n:=0)).2 (a2D l 2147418112 ag b (N.cell 0) (N.cell 1))).mono;rintro e az⟨rfl,rfl⟩)
     refine a0e ?_ rfl (a9.refl _);rfl
    case Aj=>
     intro x b h;simp only[e5,g1,uV];intro q;simp only[q];gi_wp2_with fail
     refine a0e ?_ rfl ((a9.refl b).alloc _);exact⟨b,rfl,b9.new _ _ _⟩
    case Ak=>
     intro x b h;simp only[l8,e5,j8,uV];rintro u v j m⟨ag,o,N⟩ y z q⟨au,A,ah⟩;simp only[u,v,j,m,o,y,z,q,A];clear u v j m o y z q A;have an:=a6 (C5 (am.h h) S (yJ l 2147418112) _ [] (s7.nil _ _ _) (by simp) au 1 [nm] ⟨_,1,rfl,h9.f ah rfl,fun a S=>by cases S;exact⟨rfl,_,ah⟩⟩ (by simp;omega));gi_wp2_with(refine⟨trivial,?_⟩;gi_at_call 239;apply((Cw (n:=0)).2 an.out).mono;rintro e bj⟨rfl,ay,ax,aq,G,bi⟩)
     have aw:=K6 G;simp only[a3W,List.length_nil]at aw;have al:=a6 G;clear G;gi_wp2_with fail
     go_roundw
     case rel=>exact⟨k+1,ay,ax,by omega,by go_num,aq,by rw[al.out,F.out,ao.out],by omega⟩
     case measure=>simp[intOf];omega
   ·obtain rfl:k=p.fc.length:=by omega
    rw[List.take_length]at B;obtain⟨F,E⟩:=i6 B t;clear B t D;gi_wp2_with fail
    refine K0 (fun _=>trivial) rfl [.is ?Cj,.is ?Ck,.is ?Cl,.is ?Cm,.is ?Cn,.is ?Co,.is ?Cp,.is ?Cq,.is ?Cr,.is ?Cs,.is ?Ct,.is ?Cu,.is ?Cv,.is ?Cw,.is ?Cx] (by kernel_rfl) ?Cy ?Al ⟨?Am,?An,?Ao,?Ap,?Aq,?Ar,?As,?At,?Au,?Av,?Aw,?Ax,?Ay,?Az,?Ba,trivial⟩ ?Bb
    case Al=>intro x;simp only[e6,Act.put,uL,l9]<;>rfl
    case Am|An|Ao|Ap|Aq|Ar|As|At|Au|Av|Aw|Ax|Ay|Az|Ba=>
     intro x b h;simp only[e5,g1,uV];repeat(intro d;try simp only[d])
     have ba:b.cell? ⟨g,1,J⟩=So (I U8 p.fm):=(E.b.h h).cell 1;have bb:b.cell? ⟨g,2,J⟩=So (Z Al p.fc.length Q):=(E.b.h h).cell 2;gi_wp2_with(refine⟨trivial,?_⟩;gi_at_call 241;apply((Cw (n:=0)).2 (bd b)).mono;rintro e az⟨rfl,rfl⟩)
     refine a0e ?_ rfl (a9.refl _);rfl
    case Bb=>
     intro x b h;simp only[l8,e5,j8,uV];intro u v j m o y z q A af aa ab ac ad ae;simp only[u,v,j,m,o,y,z,q,A,af,aa,ab,ac,ad,ae];clear u v j m o y z q A af aa ab ac ad ae;have ar:=E.h h;gi_wp2_with fail
     go_ret;exact⟨rfl,P,rs,ar,F.out⟩
 ·have j:(p.fm==1)=Bf:=by simp[R]
  simp only[if_neg R];have D:=a6 C;clear C s av R;refine Co func177 rfl trivial ?_ rfl;simp only[ntmps177,uE,l9,a4D];gi_wp2_with fail
  gi_loopw [34] (fun i wr=>∃(k:Nat)(P:Va)(rs:List RR),k≤p.fc.length∧i=I M k∧Mk w0 wr g p va (Z Al p.fc.length Q) vl vm a 2147418112 P rs∧rs.map (·.p)=o7 a ((p.fc.take k).map fun c=>(yJ c.2 p.dy,[],[c.1]))∧rs.length≤k) (fun i _=>p.fc.length-(intOf i).toNat)
  case atStart=>exact⟨0,_,[],i5 _,rfl,D.out,rfl,a7 _⟩
  case round=>
   obtain⟨k,P,rs,bf,rfl,t,B,bg⟩:=hrel;by_cases H:k<p.fc.length
   ·have s:=bc.h t.x
    obtain⟨be,bh,rfl,_⟩:=s.rows (by decide) (by omega);have ai:=s.b H (r:=0) rfl;have aj:=s.b H (r:=1) rfl;simp only[p5,a4z]at ai aj;have L:=bF (a:=a) (f:=fun c=>yJ c.2 p.dy) p.fc H;generalize p.fc[k]=x at*;obtain⟨nm,l⟩:=x;dsimp only at ai aj L;have ak:=b9.new wr 144 #[Y nm,I V l];have T:=t.h ((a9.refl wr).alloc (U #[Y nm,I V l] 144));obtain⟨F,ao,am⟩:=p7 B L T;clear B L s t T D;gi_wp2_with fail
    refine g4 (fun _=>trivial) rfl [.is ?Cz,.is ?Da,.is (I V l),.is ?Db,VP.blk 2 26 #[I V l,I V p.dy],.is (I V (yJ l p.dy)),.is ?Dc,.is (Y nm),VP.blk 1 9 #[Y nm]] (by kernel_rfl) ?Dd ?Bc ⟨?Bd,?Be,?Bf,?Bg,?Bh,?Bi,?Bj,?Bk,?Bl,trivial⟩ _ rfl rfl ?Bm
    case Bc=>intro x;simp only[e6,Act.put,uL,l9]<;>rfl
    case Bd|Be|Bf|Bg|Bj|Bk=>
     intro x b h;simp only[e5,g1,uV];repeat(intro d;try simp only[d])
     obtain⟨ba,bb⟩:=(ak.h h).d2 1 0;gi_wp2_with fail
     refine a0e ?_ rfl (a9.refl _);rfl
    case Bh=>
     intro x b h;simp only[e5,g1,uV];intro j m;simp only[j,m];gi_wp2_with fail
     refine a0e ?_ rfl ((a9.refl b).alloc _);exact⟨b,rfl,b9.new _ _ _⟩
    case Bi=>
     intro x b h;simp only[e5,g1,uV];rintro⟨ag,o,N⟩;simp only[o];gi_wp2_with(refine⟨trivial,?_⟩;gi_at_call 240;apply((Cw (n:=0)).2 (a2D l p.dy ag b (N.cell 0) (N.cell 1))).mono;rintro e az⟨rfl,rfl⟩)
     refine a0e ?_ rfl (a9.refl _);rfl
    case Bl=>
     intro x b h;simp only[e5,g1,uV];intro q;simp only[q];gi_wp2_with fail
     refine a0e ?_ rfl ((a9.refl b).alloc _);exact⟨b,rfl,b9.new _ _ _⟩
    case Bm=>
     intro x b h;simp only[l8,e5,j8,uV];rintro u v j m⟨ag,o,N⟩ y z q⟨au,A,ah⟩;simp only[u,v,j,m,o,y,z,q,A];clear u v j m o y z q A;have an:=a6 (C5 (am.h h) S (yJ l p.dy) _ [] (s7.nil _ _ _) (by simp) au 1 [nm] ⟨_,1,rfl,h9.f ah rfl,fun a S=>by cases S;exact⟨rfl,_,ah⟩⟩ (by simp;omega));gi_wp2_with(refine⟨trivial,?_⟩;gi_at_call 239;apply((Cw (n:=0)).2 an.out).mono;rintro e bj⟨rfl,ay,ax,aq,G,bi⟩)
     have aw:=K6 G;simp only[a3W,List.length_nil]at aw;have al:=a6 G;clear G;gi_wp2_with fail
     go_roundw
     case rel=>exact⟨k+1,ay,ax,by omega,by go_num,aq,by rw[al.out,F.out,ao.out],by omega⟩
     case measure=>simp[intOf];omega
   ·obtain rfl:k=p.fc.length:=by omega
    rw[List.take_length]at B;obtain⟨F,E⟩:=i6 B t;clear B t D;gi_wp2_with fail
    refine K0 (fun _=>trivial) rfl [.is ?De,.is ?Df,.is ?Dg,.is ?Dh,.is ?Di,.is ?Dj,.is ?Dk,.is ?Dl,.is ?Dm,.is ?Dn,.is ?Do,.is ?Dp,.is ?Dq,.is ?Dr,.is ?Ds] (by kernel_rfl) ?Dt ?Bn ⟨?Bo,?Bp,?Bq,?Br,?Bs,?Bt,?Bu,?Bv,?Bw,?Bx,?By,?Bz,?Ca,?Cb,?Cc,trivial⟩ ?Cd
    case Bn=>intro x;simp only[e6,Act.put,uL,l9]<;>rfl
    case Bo|Bp|Bq|Br|Bs|Bt|Bu|Bv|Bw|Bx|By|Bz|Ca|Cb|Cc=>
     intro x b h;simp only[e5,g1,uV];repeat(intro d;try simp only[d])
     have ba:b.cell? ⟨g,1,J⟩=So (I U8 p.fm):=(E.b.h h).cell 1;have bb:b.cell? ⟨g,2,J⟩=So (Z Al p.fc.length Q):=(E.b.h h).cell 2;gi_wp2_with(refine⟨trivial,?_⟩;gi_at_call 241;apply((Cw (n:=0)).2 (bd b)).mono;rintro e az⟨rfl,rfl⟩)
     refine a0e ?_ rfl (a9.refl _);rfl
    case Cd=>
     intro x b h;simp only[l8,e5,j8,uV];intro u v j m o y z q A af aa ab ac ad ae;simp only[u,v,j,m,o,y,z,q,A,af,aa,ab,ac,ad,ae];clear u v j m o y z q A af aa ab ac ad ae;have ar:=E.h h;gi_wp2_with fail
     go_ret;exact⟨rfl,P,rs,ar,F.out⟩
end
end
section
section
variable {w0 w:Wd} {g:Nat} {p:i1} {va vf vl vm:Va} {a:Nat}
theorem a3I(aa:Mk w0 w g p va vf vl vm a 2147418112 (Z J 0 0) [])(aw:a<6)(ai:R3 w0 p va vf vl vm)(br:p.fa.length≤8)(ax:∀x∈p.fa,0≤x∧x<4294967296):
  Ca prog 179 #[K g] w (rQ w0 g p va vf vl vm a (x8 p 3).dflt (x8 p 3).cs (x8 p 3).ok):=by
 obtain⟨Al,ah,rfl,c,-⟩:=ai.m;obtain⟨au,av⟩:=i6 c (fun W=>qB p.am p.fa.length Bt Bf W);show Ca _ _ _ w (rQ w0 g p va vf vl _ a 2147418112 [(if p.am=2 then 2147418112 else 327777,K1 0 4294967295 (if p.am=2 then 327777 else 2147418112) p.fa,[T4])] (T6 p.am p.fa.length Bt Bf));have bq:w.cell? ⟨g,7,J⟩=So (I U8 p.am):=aa.b.cell 7;have bp:w.cell? ⟨g,6,J⟩=So (Z Al p.fa.length ah):=aa.b.cell 6;generalize T6 p.am p.fa.length Bt Bf=bs at*;have H:=a6 aa;by_cases s:p.am=2
 ·have n:(p.am==2)=Bt:=by simp[s]
  simp only[if_pos s];clear aa c ai s;go_in;go_wp2_with fail
  go_loopw [5,22] (fun ao i wr=>∃k:Nat,k≤p.fa.length∧i=I M k∧e4 wr w 27 yT ao (p.fa.take k)∧a9 w wr) (fun _ i _=>p.fa.length-(intOf i).toNat)
  case atStart=>exact⟨0,i5 _,rfl,e4.nil _ _ _ _,a9.refl w⟩
  case round=>
   obtain⟨k,bd,rfl,b,f⟩:=hrel;by_cases o:k<p.fa.length
   ·have c:=au.h (H.x.trans f)
    obtain⟨az,bi,rfl,_⟩:=c.rows (by decide) (by omega);have am:=c.b o (r:=0) rfl;simp only[N4,a4z,Nat.mul_one]at am;have ad:p.fa.take (k+1)=p.fa.take k++[p.fa[k]]:=a4a o;have bf:=ax _ (a30 o);have be:(p.fa.take k).length≤k:=by simp;omega
    generalize p.fa[k]=x at*;generalize p.fa.take k=xs at*;have ae:=a6 ad;have bk:IntKind.u64.wrap x=x:=IntWalk.u64_in _ (by omega);clear ad c;go_wp2_with(at_builtin;refine j3 rfl (Tm 26) (Tm 29) 362 27 rfl a27 w _ xs rfl (b.h ((a9.refl wr).alloc _)) _ 1 1 [x] rfl rfl (h9.f (b9.new _ _ _) rfl) (by simp;omega) (f.alloc _).size ?_;intro ap l aj ak bc bb)
    go_roundw
    case rel=>exact⟨k+1,by omega,by go_num,by rw[ae.out];exact aj,ak w (f.alloc _) (a7 _)⟩
    case measure=>simp[intOf];omega
   ·obtain rfl:k=p.fa.length:=by omega
    rw[List.take_length]at b;obtain⟨t,al,ag,rfl⟩:=b.f;have ac:=b.i.2;have ab:h9 wr t (i3 U6 p.fa):=by have:=b.i.1;rwa[a3R U6 yT (fun _=>rfl)]at this
    have v:=a6 (dM 0 4294967295 327777 t al ag p.fa wr ac (by omega) ab);have y:=H.h f;clear ab ac b f;go_wp2_with fail
    apply v.mono;rintro e l⟨ap,rfl,q,ar⟩;have z:=y.h ar;obtain⟨ay,bh,ba,rfl⟩:=q.f;clear v y;have u:=a6 (C5 ((z).h ((a9.refl l).alloc (U #[Y T4] 9))) aw 2147418112 _ _ ((q).ty.h ((a9.refl l).alloc _)) (by(simp;omega)) l 1 [T4] (cF rfl 1 rfl) (by simp));try go_wp2_with fail
    apply u.mono;rintro e bm⟨rfl,aq,an,A,T,bj⟩;have bg:=K6 T;clear u;have m:=a6 A;clear z q A;go_wp2_with fail
    refine e7 rfl [.is ?Be,.is ?Bf,.is ?Bg,.is ?Bh,.is ?Bi,.is ?Bj,.is ?Bk,.is ?Bl,.is ?Bm,.is ?Bn,.is ?Bo,.is ?Bp,.is ?Bq] (by kernel_rfl) ?Br ?Aa ⟨?Ab,?Ac,?Ad,?Ae,?Af,?Ag,?Ah,?Ai,?Aj,?Ak,?Al,?Am,?An,trivial⟩ ?Ao
    case Aa=>intro x;simp only[e6,Act.put,uL,l9]<;>rfl
    case Ab|Ac|Ad|Ae|Af|Ag|Ah|Ai|Aj|Ak|Al|Am|An=>
     intro x h j;simp only[e5,j8,uV];repeat(intro d;try simp only[d])
     have bn:h.cell? ⟨g,7,J⟩=So (I U8 p.am):=(m.b.h j).cell 7;have bo:h.cell? ⟨g,6,J⟩=So (Z Al p.fa.length ah):=(m.b.h j).cell 6;go_wp2_with(go_at_call 241;apply(av h).mono;rintro e bl⟨rfl,rfl⟩)
     refine a0e ?_ rfl (a9.refl _);rfl
    case Ao=>
     intro x h j;simp only[l8,e5,j8,uV];intro B C n G L N P Q R S D E F;simp only[B,C,n,G,L,N,P,Q,R,S,D,E,F];clear B C n G L N P Q R S D E F;have af:=m.h j;go_wp2_with fail
     go_ret;exact⟨rfl,aq,an,af,by rw[T];simp[o7,K1]⟩
 ·have n:(p.am==2)=Bf:=by simp[s]
  simp only[if_neg s];clear aa c ai s;go_in;go_wp2_with fail
  go_loopw [5,22] (fun ao i wr=>∃k:Nat,k≤p.fa.length∧i=I M k∧e4 wr w 27 yT ao (p.fa.take k)∧a9 w wr) (fun _ i _=>p.fa.length-(intOf i).toNat)
  case atStart=>exact⟨0,i5 _,rfl,e4.nil _ _ _ _,a9.refl w⟩
  case round=>
   obtain⟨k,bd,rfl,b,f⟩:=hrel;by_cases o:k<p.fa.length
   ·have c:=au.h (H.x.trans f)
    obtain⟨az,bi,rfl,_⟩:=c.rows (by decide) (by omega);have am:=c.b o (r:=0) rfl;simp only[N4,a4z,Nat.mul_one]at am;have ad:p.fa.take (k+1)=p.fa.take k++[p.fa[k]]:=a4a o;have bf:=ax _ (a30 o);have be:(p.fa.take k).length≤k:=by simp;omega
    generalize p.fa[k]=x at*;generalize p.fa.take k=xs at*;have ae:=a6 ad;have bk:IntKind.u64.wrap x=x:=IntWalk.u64_in _ (by omega);clear ad c;go_wp2_with(at_builtin;refine j3 rfl (Tm 26) (Tm 29) 362 27 rfl a27 w _ xs rfl (b.h ((a9.refl wr).alloc _)) _ 1 1 [x] rfl rfl (h9.f (b9.new _ _ _) rfl) (by simp;omega) (f.alloc _).size ?_;intro ap l aj ak bc bb)
    go_roundw
    case rel=>exact⟨k+1,by omega,by go_num,by rw[ae.out];exact aj,ak w (f.alloc _) (a7 _)⟩
    case measure=>simp[intOf];omega
   ·obtain rfl:k=p.fa.length:=by omega
    rw[List.take_length]at b;obtain⟨t,al,ag,rfl⟩:=b.f;have ac:=b.i.2;have ab:h9 wr t (i3 U6 p.fa):=by have:=b.i.1;rwa[a3R U6 yT (fun _=>rfl)]at this
    have v:=a6 (dM 0 4294967295 2147418112 t al ag p.fa wr ac (by omega) ab);have y:=H.h f;clear ab ac b f;go_wp2_with fail
    apply v.mono;rintro e l⟨ap,rfl,q,ar⟩;have z:=y.h ar;obtain⟨ay,bh,ba,rfl⟩:=q.f;clear v y;have u:=a6 (C5 ((z).h ((a9.refl l).alloc (U #[Y T4] 9))) aw 327777 _ _ ((q).ty.h ((a9.refl l).alloc _)) (by(simp;omega)) l 1 [T4] (cF rfl 1 rfl) (by simp));try go_wp2_with fail
    apply u.mono;rintro e bm⟨rfl,aq,an,A,T,bj⟩;have bg:=K6 T;clear u;have m:=a6 A;clear z q A;go_wp2_with fail
    refine e7 rfl [.is ?Bs,.is ?Bt,.is ?Bu,.is ?Bv,.is ?Bw,.is ?Bx,.is ?By,.is ?Bz,.is ?Ca,.is ?Cb,.is ?Cc,.is ?Cd,.is ?Ce] (by kernel_rfl) ?Cf ?Ap ⟨?Aq,?Ar,?As,?At,?Au,?Av,?Aw,?Ax,?Ay,?Az,?Ba,?Bb,?Bc,trivial⟩ ?Bd
    case Ap=>intro x;simp only[e6,Act.put,uL,l9]<;>rfl
    case Aq|Ar|As|At|Au|Av|Aw|Ax|Ay|Az|Ba|Bb|Bc=>
     intro x h j;simp only[e5,j8,uV];repeat(intro d;try simp only[d])
     have bn:h.cell? ⟨g,7,J⟩=So (I U8 p.am):=(m.b.h j).cell 7;have bo:h.cell? ⟨g,6,J⟩=So (Z Al p.fa.length ah):=(m.b.h j).cell 6;go_wp2_with(go_at_call 241;apply(av h).mono;rintro e bl⟨rfl,rfl⟩)
     refine a0e ?_ rfl (a9.refl _);rfl
    case Bd=>
     intro x h j;simp only[l8,e5,j8,uV];intro B C n G L N P Q R S D E F;simp only[B,C,n,G,L,N,P,Q,R,S,D,E,F];clear B C n G L N P Q R S D E F;have af:=m.h j;go_wp2_with fail
     go_ret;exact⟨rfl,aq,an,af,by rw[T];simp[o7,K1]⟩
end
end
section
open Go.MapKept Go.Shelf Go.Sort
attribute [local go_sem] Oper.semAt_some
theorem WY(x:Int)(W:Wd):Ca prog 185 #[I V x] W fun e a=>e=X (O Bf)∧W=a:=by
 go_in;go_wp2;go_ret;exact⟨by simp,rfl⟩
def QE(x y:Int):Int:=if x<y then-1 else if y<x then 1 else 0
theorem a4j(x a:Int)(W:Wd):Ca prog 126 #[I V x,I V a] W fun e k=>e=X (I M (QE x a))∧W=k:=by
 obtain⟨g,h⟩:=i6 (WY x) (WY a);obtain⟨R,c⟩:∃R,R=QE x a:=⟨_,rfl⟩;rw[←c];unfold QE at c;by_cases b:x<a
 ·have i:Dc (x<a)=Bt:=by simpa using b
  rw[if_pos b]at c;subst c;clear b;go_in;go_wp2_with(first|(apply(g _).mono;rintro e f⟨rfl,rfl⟩)|(apply(h _).mono;rintro e f⟨rfl,rfl⟩))
  go_ret;exact⟨rfl,rfl⟩
 ·by_cases d:a<x
  ·have i:Dc (x<a)=Bf:=by simpa using b
   have j:Dc (a<x)=Bt:=by simpa using d
   rw[if_neg b,if_pos d]at c;subst c;clear b d;go_in;go_wp2_with(first|(apply(g _).mono;rintro e f⟨rfl,rfl⟩)|(apply(h _).mono;rintro e f⟨rfl,rfl⟩))
   go_ret;exact⟨rfl,rfl⟩
  ·have i:Dc (x<a)=Bf:=by simpa using b
   have j:Dc (a<x)=Bf:=by simpa using d
   rw[if_neg b,if_neg d]at c;subst c;clear b d;go_in;go_wp2_with(first|(apply(g _).mono;rintro e f⟨rfl,rfl⟩)|(apply(h _).mono;rintro e f⟨rfl,rfl⟩))
   go_ret;exact⟨rfl,rfl⟩
def lH(x y:RR):Int:=QE x.p.nr y.p.nr
theorem ltR(x y:RR):ltOf lH x y=Dc (x.p.nr<y.p.nr):=by
 unfold ltOf lH QE;by_cases h:x.p.nr<y.p.nr
 ·simp[h]
 ·simp only[h,decide_false,if_false]
  split<;>simp
theorem SP:SWO (ltOf lH) where
 irrefl x:=by rw[ltR];simp
 trans x y z h1 h2:=by
  rw[ltR]at*;simp only[decide_eq_true_eq]at*;omega
 ntrans x y z h1 h2:=by
  rw[ltR]at*;simp only[decide_eq_false_iff_not]at*;omega
theorem a3J(x c:RR)(W:Wd):Ca prog 125 #[Ag (x3.c x).toArray,Ag (x3.c c).toArray] W fun e n=>e=X (I M (lH x c))∧∃q os,n=grow (W.drewN q) os:=by
 obtain⟨⟨a,h,f⟩,d,g⟩:=x;obtain⟨⟨b,m,k⟩,i,l⟩:=c;have j:=a6 (a4j a b);dsimp only[x3,RR.v,lH];generalize QE a b=R at*;go_in;have k1:b9 ((W.alloc (U #[I V a,Z d h.length g,I V f] 234)).alloc (U #[I V b,Z i m.length l,I V k] 234)) W 234 #[I V a,Z d h.length g,I V f]:=(b9.new W _ _).alloc _;have o:=k1.cell 0;go_wp2_with(apply(j _).mono;rintro e p⟨rfl,rfl⟩)
 go_ret;exact⟨rfl,0,_,by rw[alloc_eq_grow,alloc_eq_grow,grow_grow];rfl⟩
theorem OO:SlLaysF0.n6 prog ⟨fun|6=>124|14=>184|15=>100|20=>245|21=>246|22=>247|23=>248|24=>249|25=>250|26=>251|27=>252|28=>148|29=>149|46=>333|47=>214|48=>215|49=>334|50=>335|57=>380|n=>n,
  fun|0=>0|3=>3|4=>4|5=>5|9=>9|22=>94|24=>234|25=>236|39=>181|45=>257|46=>258|50=>262|53=>26|55=>27|66=>335|70=>338|76=>404|77=>405|n=>n,fun n=>n⟩:=by
 constructor
 case f6=>exact⟨f124.name,by decide,func124.trans (congrArg So (by kernel_rfl))⟩
 case f14=>exact⟨f184.name,by decide,func184.trans (congrArg So (by kernel_rfl))⟩
 case f20=>exact⟨f245.name,by decide,func245.trans (congrArg So (by kernel_rfl))⟩
 case f21=>exact⟨f246.name,by decide,func246.trans (congrArg So (by kernel_rfl))⟩
 case f22=>exact⟨f247.name,by decide,func247.trans (congrArg So (by kernel_rfl))⟩
 case f23=>exact⟨f248.name,by decide,func248.trans (congrArg So (by kernel_rfl))⟩
 case f24=>exact⟨f249.name,by decide,func249.trans (congrArg So (by kernel_rfl))⟩
 case f25=>exact⟨f250.name,by decide,func250.trans (congrArg So (by kernel_rfl))⟩
 case f26=>exact⟨f251.name,by decide,func251.trans (congrArg So (by kernel_rfl))⟩
 case f27=>exact⟨f252.name,by decide,func252.trans (congrArg So (by kernel_rfl))⟩
 case f46=>exact⟨f333.name,by decide,func333.trans (congrArg So (by kernel_rfl))⟩
 case f49=>exact⟨f334.name,by decide,func334.trans (congrArg So (by kernel_rfl))⟩
 case f50=>exact⟨f335.name,by decide,func335.trans (congrArg So (by kernel_rfl))⟩
 case f57=>exact⟨f380.name,by decide,func380.trans (congrArg So (by kernel_rfl))⟩
 all_goals first|(intro w;kernel_rfl)|kernel_rfl
instance :Inhabited RR:=⟨⟨⟨0,[],0⟩,J,0⟩⟩
theorem a3g{rs:List RR}(h:((rs.map (·.p)).map (·.nr)).Nodup):(cL lH rs).map (·.p)=P0 (rs.map (·.p)):=by
 refine SY ((G8 _ SP rs).map _) h ?_;rw[List.pairwise_map];refine(dD _ SP rs).imp fun q=> ?_
 rw[ltR]at q;have:=of_decide_eq_false q;omega
theorem a4t(h:Option Ad)(c:Nat)(xs:List Int)(a:Nat)(W:Wd)(n:xs.length≤1000000)(i:h9 W h (V7.row xs)):Ca prog 122 #[Z h xs.length c,I M a] W fun e j=>e=X (O (inT xs a))∧W=j:=by
 have l:=a6 (show Ca prog 176 #[Z h xs.length c,I M a] W fun e j=>e=X (O (xs.any fun d=>(a:Int)==d))∧W=j from ctE WC (I M) (fun x d=>x==d) (EqlAt.int _ _ _) h xs.length c xs (a:Int) W rfl n (by rw[a3R M V7 (fun _=>rfl)]at i;exact i));have k:inT xs a=(Dc (xs.length=0)||xs.any fun d=>(a:Int)==d):=by
  unfold inT;rw[List.contains_eq_any_beq]
 rw[k];clear k i;generalize(xs.any fun d=>(a:Int)==d)=b at*;by_cases f:xs.length=0
 ·have m:((xs.length:Int)==0)=Bt:=by simp[f]
  have g:Dc (xs.length=0)=Bt:=by simp[f]
  rw[g,Bool.true_or];clear f g;go_in;go_wp2_with fail
  go_ret;exact⟨rfl,rfl⟩
 ·have m:((xs.length:Int)==0)=Bf:=by simp[f]
  have g:Dc (xs.length=0)=Bf:=by simp[f]
  rw[g,Bool.false_or];clear f g;go_in;go_wp2_with fail
  apply l.mono;rintro e o⟨rfl,rfl⟩;go_wp2_with fail
  go_ret;exact⟨rfl,rfl⟩
end
section
open Go.Shelf Go.Sort
attribute [local go_sem] Oper.semAt_some
def NZ:Nat→Nat
 |1=>177|2=>178|3=>179|4=>180
 |5=>181|6=>182|_=>183
def VA:Array Va:= #[Nf,Fc (.func 177) #[] #[],Fc (.func 178) #[] #[],Fc (.func 179) #[] #[],Fc (.func 180) #[] #[],Fc (.func 181) #[] #[],Fc (.func 182) #[] #[],Fc (.func 183) #[] #[]]
theorem OI(W:Wd):Ca prog 123 #[] W fun e a=>e=X (Ag VA)∧a9 W a:=by
 go_in;go_wp2_with fail
 exact Bp (g0 rfl _ _ _ _ _ _ rfl (b9.new _ _ _) underlying229 rfl (by kernel_rfl)) rfl ⟨rfl,(a9.refl W).alloc _⟩
theorem VB:∀(d:Nat),0<d→d<8→∀W:Wd,(Instr.index 229 (Ag VA) (I M d)).run prog W= .ok (Fc (.func (NZ d)) #[] #[]) W
 |1,_,_,_|2,_,_,_|3,_,_,_|4,_,_,_|5,_,_,_|6,_,_,_|7,_,_,_=>by kernel_rfl
 |d+8,_,h,_=>absurd h (by omega)
theorem VD{o w:Wd}{g:Nat}{p:i1}{j k l m:Va}{a:Nat}(b:Mk o w g p j k l m a 2147418112 (Z J 0 0) [])(c:a<6)(f:R3 o p j k l m)(i:y9 p=Bt):∀d,0<d→d<8→
  Ca prog (NZ d) #[K g] w (rQ o g p j k l m a (x8 p d).dflt (x8 p d).cs (x8 p d).ok):=by
 unfold y9 DC at i;simp only[Bool.and_eq_true]at i;obtain⟨⟨⟨⟨⟨⟨⟨A,B⟩,C⟩,D⟩,r⟩,s⟩,t⟩,E⟩:=i;have h:=kI gY p.fa J r;have v:p.fa.length≤8:=aJ p.fa (j0.map (·.2)) (h.2.1.imp fun b e=>by omega) fun n y=>xK (h.1 n y)
 intro d q u
 match d,q,u with
 |1,_,_=>exact OG b c f (iV s)
 |2,_,_=>exact a3H b c f (iV t)
 |3,_,_=>
  refine a3I b c f v fun x z=> ?_
  have:=List.all_eq_true.1 KW x (xK (h.1 x z));unfold a4d at this;simp only[Bool.and_eq_true,decide_eq_true_eq]at this;exact this.1
 |4,_,_=>exact VL b c
 |5,_,_=>exact a1a b c
 |6,_,_=>exact a09 b c
 |7,_,_=>exact a08 b c
theorem VC:∀d,0<d→d<8→∀args w,(callFunc (NZ d) args).run prog w= .ok (.enter (NZ d) args) w
 |1,_,_=>Eo func177 (by kernel_rfl) rfl
 |2,_,_=>Eo func178 (by kernel_rfl) rfl
 |3,_,_=>Eo func179 (by kernel_rfl) rfl
 |4,_,_=>Eo func180 (by kernel_rfl) rfl
 |5,_,_=>Eo func181 (by kernel_rfl) rfl
 |6,_,_=>Eo func182 (by kernel_rfl) rfl
 |7,_,_=>Eo func183 (by kernel_rfl) rfl
 |d+8,_,h=>absurd h (by omega)
end
section
open Go.Shelf Go.Sort
attribute [local go_sem] Oper.semAt_some
theorem QP:∀a(h:a<r5.length),(r5[a].1).toList.isEmpty=Bf
 |0,_|1,_|2,_|3,_|4,_|5,_=>by rw[Lib.toList_data];kernel_rfl
 |a+6,h=>absurd h (by simp[r5])
def a6K(g e:Wd)(a:Nat)(x:Array Va)(d:Bool)(r:Option C8):Prop:=match r with
 |none=>d=Bf∧x= #[I M 0,Z J 0 0,I V 0]
 |some f=>d=Bt∧∃b c rs,x= #[I M a,Z b rs.length c,I V f.dflt]∧f=⟨a,f.dflt,rs.map (·.p)⟩∧e4 e g 234 x3 (Z b rs.length c) rs∧∀r∈rs,s7 e 392 a3q r.v r.p.tests
theorem BC(p:i1)(m h i j:Va)(w:Wd)(ap:p.small)(bw:0≤p.fm∧0≤p.lm)(L:R3 w p m h i j)(an:y9 p=Bt)(d a:Nat)(am:d<8)(N:a<6):
  Ca prog 79 #[Ag (i4 p m h i j),I M d,I M a] w fun e ch=>∃x cf,e=X (Tp #[Ag x,O cf])∧a9 w ch∧a6K w ch a x cf (O3 p d a):=by
 obtain⟨R,aj⟩:∃R,R=O3 p d a:=⟨_,rfl⟩;rw[←aj];have bp:=a6 aj;clear aj;have ci:=((a9.refl w).alloc (U (i4 p m h i j) 39)).alloc (U #[I M 0,Z J 0 0,I V 0] 96);have S:=(b9.new w 39 (i4 p m h i j)).alloc (U #[I M 0,Z J 0 0,I V 0] 96);have bg:b9 ((w.alloc (U (i4 p m h i j) 39)).alloc (U #[I M 0,Z J 0 0,I V 0] 96)) (w+1) 96 #[I M 0,Z J 0 0,I V 0]:=b9.b (by simp);have bm:=a6 (mS a N);have dd:=QP a N;have ad:=a6 (fun A(ak:a9 w A)=>FQ p m h i j A ap bw (L.h ak));rw[an]at ad;obtain⟨G,H,de,bx,-⟩:=L.a;have bj:=a6 (fun A(ak:a9 w A)=>a4t G H p.ar a A (by have:=ap.a;omega) (bx.h ak));have di:Dc ((d:Int)<0)=Bf:=by simp
 have dm:Dc ((8:Int)≤(d:Int))=Bf:=by simp;omega
 have cx:=S.cell 0;obtain⟨bo,ac,t,cm,y,br⟩:=jX L an bg S ci (show((w.alloc (U (i4 p m h i j) 39)).alloc (U #[I M 0,Z J 0 0,I V 0] 96)).heap.size=w.heap.size+2 by simp);generalize r5[a].1=nm at*;subst de;clear ap bw L an S bg ci bx cx;go_in;go_wp2_with fail
 apply(bm _).mono;rintro e ds⟨rfl,F⟩;generalize(w.alloc (U (i4 p (Z G p.ar.length H) h i j) 39)).alloc (U #[I M 0,Z J 0 0,I V 0] 96)=wz at*;have o:=cm.h F;have af:=y.trans F;unfold i4 at o;obtain⟨P,aq,aw,ax,ay,az,ba,bb,bc⟩:=o.c9;obtain⟨bd,ar,au,av⟩:=o.d4 9 10 11 12;go_wp2_with fail
 apply(ad _ af).mono;rintro e n⟨rfl,s⟩;have ag:=af.trans s;clear P aq aw ax ay az ba bb bc bd ar au av;have P:=(o.h s).cell 0;go_wp2_with fail
 apply(bj _ ag).mono;rintro e dt⟨rfl,rfl⟩;have bf:=o.h s;have T:=t.h (F.trans s);obtain⟨cr,bs⟩:=i6 ag (F.trans s);have ca:O3 p d a=if inT p.ar a&&(x8 p d).ok then So ⟨a,(x8 p d).dflt,P0 (o7 a (x8 p d).cs)⟩else J:=rfl
 have bk:=a6 ca;clear bm ad bj o F s af ag dd ca;cases bz:inT p.ar a
 ·have D:R=J:=by rw[bp.out,bk.out,bz];rfl
  have u:=a6 D;clear D;go_wp2_with(refine c7 rfl 96 (Tm 6) (Tm 33) rfl (w+1) _ _ _ rfl rfl T rfl (by kernel_rfl) (by simp[Value.oneCell']) ?_;intro q g C)
  exact Bp (h7 rfl _ _ _ _ _ _ rfl g underlying96 rfl (by kernel_rfl)) rfl ⟨_,_,rfl,cr.grown C (fun k e=>by cases e;omega),by rw[u.out];exact⟨rfl,rfl⟩⟩
 ·have D:R=if(x8 p d).ok then So ⟨a,(x8 p d).dflt,P0 (o7 a (x8 p d).cs)⟩else J:=by rw[bp.out,bk.out,bz];rfl
  obtain⟨u,bl⟩:=i6 D (OI (n.alloc (U (mkM p (Z G p.ar.length H) h i j a (Z J 0 0) 2147418112) 227)));obtain⟨P,aq,aw,ax,ay,az,ba,bb,bc⟩:=bf.c9;obtain⟨bd,ar,au,av⟩:=bf.d4 9 10 11 12;have dh:=a6 T;unfold mkM at bl;clear T D;go_wp2_with fail
  apply bl.mono;rintro e dg⟨rfl,cj⟩;clear P aq aw ax ay az ba bb bc bd ar au av;have z:Mk wz dg n p (Z G p.ar.length H) h i j a 2147418112 (Z J 0 0) []:=⟨(b9.new n _ _).h cj,e4.nil _ _ _ _,fun r E=>(by cases E),(bs.alloc _).trans cj,bs.size⟩;by_cases cz:d=0
  ·subst cz
   have da:∀W:Wd,(Instr.index 229 (Ag VA) (I M 0)).run prog W= .ok Nf W:=fun W=>by kernel_rfl
   have dr:∀W:Wd,(binOp .eql 228 Nf Nf).run prog W= .ok (O Bt) W:=fun W=>by kernel_rfl
   obtain⟨v,cn,ct⟩:=p7 (show R=J from u.out) (t.h z.x) (y.trans z.x);generalize VA=cw at*;clear z;go_wp2_with(refine c7 rfl 96 (Tm 6) (Tm 50) rfl (w+1) _ _ _ rfl rfl cn rfl (by kernel_rfl) (by simp[Value.oneCell']) ?_;intro q g C)
   exact Bp (h7 rfl _ _ _ _ _ _ rfl g underlying96 rfl (by kernel_rfl)) rfl ⟨_,_,rfl,ct.grown C (fun k e=>by cases e;omega),by rw[v.out];exact⟨rfl,rfl⟩⟩
  ·have da:=VB d (by omega) am
   have dq:∀W:Wd,(binOp .eql 228 (Fc (.func (NZ d)) #[] #[]) Nf).run prog W= .ok (O Bf) W:=fun W=>by kernel_rfl
   have dn:=VC d (by omega) am;have bi:=a6 (VD z N (bo.h y.out) ac d (by omega) am);obtain⟨al,-⟩:=HK ac d;have dc:=pC a (x8 p d).cs;have cp:=a6 (iK N al.nd);have dp:(o7 a (x8 p d).cs).length≤1000:=by have:=al.len;omega
   generalize(x8 p d).ok=okb at*;generalize(x8 p d).dflt=df at*;generalize(x8 p d).cs=cs at*;generalize VA=cw at*;generalize NZ d=bv at*;clear z al dc bo ac;cases okb
   ·have v:=a6 (show R=J from u.out)
    go_wp2_with(first
     |(go_at_fn bv;apply bi.mono;rintro e be⟨rfl,cg,f,l,ao⟩;have co:=a6 (t.h l.x);have cu:=a6 (y.trans l.x);clear l)
     |(refine c7 rfl 96 (Tm 6) (Tm 50) rfl (w+1) _ _ _ rfl rfl co rfl (by kernel_rfl) (by simp[Value.oneCell']) ?_;intro q g C))
    exact Bp (h7 rfl _ _ _ _ _ _ rfl g underlying96 rfl (by kernel_rfl)) rfl ⟨_,_,rfl,cu.grown C (fun k e=>by cases e;omega),by rw[v.out];exact⟨rfl,rfl⟩⟩
   ·have v:=a6 (show R=So ⟨a,df,P0 (o7 a cs)⟩from u.out)
    go_wp2_with(go_at_fn bv;apply bi.mono;rintro e be⟨rfl,cg,f,l,ao⟩;have cy:be.cell? ⟨n,14,J⟩=So cg:=l.b.cell 14;have c:=a6 l;have ae:=a6 ao;clear l ao)
    have db:f.length≤1000000:=by have:=congrArg List.length ae.out;rw[a32]at this;omega
    obtain⟨Q,ah,rfl⟩:=c.o.b;have bq:=a6 (JH OO x3 isAgg234 sizeOf234 lH SP 125 (Eo func125 (by kernel_rfl) rfl) a3J 234 (Z Q f.length ah) f _ be db c.o);apply bq.mono;rintro e q⟨rfl,ce,B⟩;have cd:=c.o.ne c.b (by decide);have g:=c.b.grown B (fun e=>cd e.symm);have bh:=(t.h c.x).grown B (fun e=>c.o.ne (t.h c.x) (by decide) e.symm);have bu:=(y.trans c.x).grown B (fun k e=>by have:=(c.o.lt e).1;rw[br.out]at this;omega);have cb:(cL lH f).length=f.length:=(G8 lH SP f).length_eq;have cc:(cL lH f).map (·.p)=P0 (o7 a cs):=by rw[←ae.out];exact a3g (by rw[ae.out];exact cp.out)
    have dj:q.cell? ⟨n,13,J⟩=So (I M a):=g.cell 13;have dk:q.cell? ⟨n,14,J⟩=So (Z Q f.length ah):=g.cell 14;have dl:q.cell? ⟨n,15,J⟩=So (I V df):=g.cell 15;have bt:=fun r(E:r∈cL lH f)=>(c.t r ((G8 lH SP f).mem_iff.1 E)).kept fun b cs k=>k.grown B (fun e=>c.o.ne k (by decide) e.symm)
    obtain⟨ab,aa,cv,cq,bn⟩:=gP (And.intro cb cc) bh bu bt ce;clear cb cc bh bu bt ce g B cd bq cy;go_wp2_with(refine c7 rfl 96 (Tm 6) (Tm 60) rfl (w+1) _ _ _ rfl rfl aa rfl (by kernel_rfl) (by simp[Value.oneCell']) ?_;intro du ck ai)
    exact Bp (h7 rfl _ _ _ _ _ _ rfl ck underlying96 rfl (by kernel_rfl)) rfl ⟨_,_,rfl,cv.grown ai (fun k e=>by cases e;omega),by
     rw[v.out];exact⟨rfl,Q,ah,cL lH f,by rw[ab.1],by rw[ab.2],by rw[ab.1];exact(bn.kept ai (.inr (bn.ne aa (by decide)))).mono (by rw[br.out];omega),fun r E=>(cq r E).kept fun b cs k=>k.grown ai (fun e=>by injection e with e;exact k.ne aa (by decide) e)⟩⟩
end
section
attribute [local go_sem] Oper.semAt_some
structure PX where
 d:Nat
 a:Nat
 fa:Nat
 df:Int
 A:Option Ad
 c:Nat
 rs:List RR
def PX.p(x:PX):V3:=⟨x.d,x.a,⟨x.fa,x.df,x.rs.map (·.p)⟩⟩
def PX.v(x:PX):Va:=Ag #[I M x.d,I M x.a,I M x.fa,Z x.A x.rs.length x.c,I V x.df]
def a5S(p:i1)(x:PX):Prop:=(x.d=0∧x.a=6∧0<p.ar.length)∨(0<x.d∧x.d<8∧x.a<6∧x.fa=x.a∧O3 p x.d x.a=So x.p.f)
def PXG(p:i1)(x:PX)(W:Wd):Prop:=cO W (Z x.A x.rs.length x.c) x.rs∧a5S p x
def KpT(u:Wd)(S:List Ti)(W W':Wd):Prop:=(a9 u W→a9 u W')∧∀b t cs,b9 W b t cs→S.contains t=Bf→b9 W' b t cs
theorem KpT.trans{u a b c:Wd}{S:List Ti}(d:KpT u S a b)(k:KpT u S b c):KpT u S a c:=⟨fun x=>k.1 (d.1 x),fun n t cs q e=>k.2 n t cs (d.2 n t cs q e) e⟩
def EB(p:i1)(d:Nat):List V3:=((q5 8).drop d).flatMap (pO p)
def ZY(p:i1)(d a:Nat):List V3:=((q5 6).drop a).flatMap (dF p d)
theorem CA(p:i1){d:Nat}(h:d<8):EB p d=ZY p d 0++EB p (d+1):=by
 unfold EB;rw[List.drop_eq_getElem_cons (by simpa using h),List.getElem_range,List.flatMap_cons];rfl
theorem CB(p:i1)(d:Nat){a:Nat}(h:a<6):ZY p d a=dF p d a++ZY p d (a+1):=by
 unfold ZY;rw[List.drop_eq_getElem_cons (by simpa using h),List.getElem_range,List.flatMap_cons]
theorem NK(l b:Nat)(p:i1)(bq E F G:Va)(S:List Ti)(cf:S.contains 3=Bf)(bh:S.contains 39=Bf)(ch:p.small)(cd:0≤p.fm∧0≤p.lm)(cg:y9 p=Bt)(u:Wd)(ah:R3 u p bq E F G)(Jq:List PX→Wd→Prop)(bf:∀c W W',Jq c W→a9 W W'→Jq c W')
  (aj:∀c x W,Jq c W→a9 u W→PXG p x W→c.length<(L0 p).length→YieldAt .wide 1 prog l #[x.v] W fun e W'=>e=X (O Bt)∧Jq (c++[x]) W'∧KpT u S W W') (W:Wd) (ak:b9 W b 39 (i4 p bq E F G)) (bi:a9 u W) (bk:Jq [] W):
  Ci .wide 2 prog 77 #[Fc (.yield l) #[] #[],K (So ⟨b,0,J⟩)] W fun e W'=>(∃v,e=X v)∧∃ys:List PX,ys.map PX.p=L0 p∧Jq ys W':=by
 have C:L0 p=(if p.ar.length=0 then []else [⟨0,6,⟨0,0,[]⟩⟩])++EB p 0:=rfl;obtain⟨h,be⟩:∃h,h=L0 p:=⟨_,rfl⟩;rw[←be]at aj C⊢;obtain⟨bc,aw,bv,ao,B⟩:=gP aj bf ah ak (And.intro bi bk);obtain⟨ad,ag,rfl,-,-⟩:=ah.a;have ca:W.cell? ⟨b,0,J⟩=So (Z ad p.ar.length ag):=ak.cell 0;clear aj bf ah ak bi bk be;refine Co func77 rfl trivial ?_ rfl;simp only[ntmps77,uE,l9,a4D];by_cases aa:p.ar.length=0
 rotate_left
 focus
  have cc:Dc (0<p.ar.length)=Bt:=decide_eq_true (by omega);have k:=a6 (show h=[(⟨0,6,0,0,J,0,[]⟩:PX)].map PX.p++EB p 0 by rw[C,if_neg aa];rfl);have T:([]:List PX).length<h.length:=by rw[k.out];simp
  obtain⟨fn0,ds,cu,cx,ci,bg⟩:=show YieldAt .wide 1 prog l #[Ag #[I M 0,I M 6,I M 0,Z J 0 0,I V 0]] W fun e W'=>e=X (O Bt)∧Jq [⟨0,6,0,0,J,0,[]⟩] W'∧KpT u S W W' from bc.out [] ⟨0,6,0,0,J,0,[]⟩ W B.2 B.1 ⟨⟨s7.nil _ _ _,fun r am=>(by cases am)⟩,.inl ⟨rfl,rfl,by show 0<p.ar.length;omega⟩⟩ T
  clear C aa T;gi_wp2_with fail
  apply bg.mono;rintro e dv⟨rfl,bn,k0⟩;have bs:=k0.1 B.1;have bd:=k0.2 b _ _ ao bh;clear ca ci bg k0
  gi_wp2
  have A:=a6 (And.intro k (And.intro bn (And.intro bs bd)));clear bn bs bd
 rotate_right
 have cc:Dc (0<p.ar.length)=Bf:=decide_eq_false (by omega);have k:=a6 (show h=([]:List PX).map PX.p++EB p 0 by rw[C,if_pos aa];rfl);clear C aa;gi_wp2_with fail
 refine⟨(fun f o=>by cases o),?_⟩
 gi_wp2
 have A:=a6 (And.intro k (And.intro B.2 (And.intro B.1 ao.out)));all_goals
  gi_loopw [19] (fun cn wr=>∃(c:List PX)(d:Nat),d≤8∧cn=I M d∧h=c.map PX.p++EB p d∧Jq c wr∧a9 u wr∧b9 wr b 39 (i4 p (Z ad p.ar.length ag) E F G)) (fun i _=>8-(intOf i).toNat)
  case atStart=>exact⟨_,0,by decide,rfl,A.1,A.2.1,A.2.2.1,A.2.2.2⟩
  case round=>
   obtain⟨c,d,dc,rfl,g,t,w,s⟩:=hrel;by_cases al:d<8
   ·rw[CA p al]at g
    have an:=a6 g;have dd:(d:Int)<8:=by omega
    obtain⟨au,ba,ap⟩:=p7 (fun br(z:a9 wr br)=>aw _ _ _ t z) w s;clear g t w s;gi_wp2_with(refine⟨trivial,?_⟩;gi_at_call 78;apply((Cw (n:=1)).2 (yB wr)).mono;rintro e br⟨du,rfl,ab,z⟩;obtain⟨bt,cb,rfl⟩:=ab.b)
    gi_loopw [24] (fun co wr=>∃(c:List PX)(a:Nat),a≤6∧co=I M a∧h=c.map PX.p++(ZY p d a++EB p (d+1))∧Jq c wr∧a9 u wr∧b9 wr b 39 (i4 p (Z ad p.ar.length ag) E F G)∧s7 wr 3 GZ (Z bt 6 cb) (fW 6)) (fun i _=>6-(intOf i).toNat)
    case atStart=>exact⟨c,0,by decide,rfl,an.out,au _ z,ba.trans z,ap.h z,ab.ty⟩
    case round=>
     clear an au ba ap ab z;obtain⟨c,a,da,rfl,g,t,w,s,ai⟩:=hrel;by_cases R:a<6
     ·rw[CB p d R]at g
      have az:=a6 ai;have ae:=ai.mem;obtain⟨cw,ab,rfl,_⟩:=ae.rows (by decide) (by decide);have cm:=ae.b (j:=a) (by simpa[fW]using R) (r:=0) rfl;simp only[GZ,fW,List.getElem_map,List.getElem_range,Nat.mul_one,a4z]at cm;have db:(a:Int)<6:=by omega
      have N:=s;obtain⟨aq,P⟩:=i6 s (BC p _ E F G wr ch cd (bv.h w) cg d a al R);unfold i4 at P N;obtain⟨de,df,dj,dk,dl,dm,dn,dp,dq⟩:=(N).c9;obtain⟨dr,dg,dh,di⟩:=(N).d4 9 10 11 12;obtain⟨bb,av⟩:=i6 w (fun y(m:a9 wr y)=>aw _ _ _ t m);unfold dF at g;obtain⟨lo,D⟩:∃lo,lo=O3 p d a:=⟨_,rfl⟩;rw[←D]at P g;have bl:∀f,lo=So f→0<d:=fun f e=>by
       rcases Nat.eq_zero_or_pos d with o|o
       ·rw[o,VN]at D;rw[D]at e;cases e
       ·exact o
      have ax:=a6 (And.intro D bl);clear ae ai t w N s D bl;cases lo with
      |none=>
       have k:=a6 (show h=c.map PX.p++(ZY p d (a+1)++EB p (d+1))from g);clear g;gi_wp2_with(refine⟨trivial,?_⟩;gi_at_call 79;apply((Cw (n:=1)).2 P.out).mono;rintro e y⟨x,ck,rfl,m,rfl,rfl⟩)
       refine⟨(fun f o=>by cases o),?_⟩
       gi_wp2
       go_roundw
       case rel=>exact⟨c,a+1,by omega,by go_num,k.out,av _ (m.alloc _),bb.trans (m.alloc _),aq.h (m.alloc _),az.h (m.alloc _)⟩
       case measure=>simp[intOf];omega
      |some f=>
       have ay:=a6 (And.intro (ax.2 f rfl) ax.1.symm);have T:c.length<h.length:=by rw[g];simp
       have k:=a6 (show h=c.map PX.p++([⟨d,a,f⟩]++ZY p d (a+1)++EB p (d+1))from g);clear g;gi_wp2_with(refine⟨trivial,?_⟩;gi_at_call 79;apply((Cw (n:=1)).2 P.out).mono;rintro e y⟨x,ck,rfl,m,rfl,H,Q,ac,rfl,bj,bo,bp⟩;have L:=b9.new y 96 #[I M a,Z H ac.length Q,I V f.dflt];have cq:=L.cell 0;have cr:=L.cell 1;have ct:=L.cell 2;have ar:=a6 bj;clear L bj)
       have xa:=m.alloc (U #[I M a,Z H ac.length Q,I V f.dflt] 96);have af:=bb.trans xa;obtain⟨cz,dt,cv,cy,bm,ce⟩:=bc c ⟨d,a,a,f.dflt,H,Q,ac⟩ _ (av _ xa) af ⟨⟨bo.ty.h ((a9.refl y).alloc _),fun r am=>(bp r am).h ((a9.refl y).alloc _)⟩,.inr ⟨ay.1,al,R,rfl,by rw[ay.2];exact congrArg So ar.out⟩⟩ T;simp only[PX.v]at bm;obtain⟨bx,bw,bu⟩:=p7 af (az.h xa) (aq.h xa);clear af xa bo bp cq cr ct;rw[bm]
       gi_wp2
       apply ce.mono;rintro e dw⟨rfl,cj,k7⟩;have cp:=k7.1 bx.out;have bz:=bw.kept fun b cs q=>k7.2 b _ cs q cf
       gi_wp2
       go_roundw
       case rel=>exact⟨c++[⟨d,a,a,f.dflt,H,Q,ac⟩],a+1,by omega,by go_num,by rw[k.out,a4F,ar.out];simp[PX.p],cj,cp,k7.2 b _ _ bu bh,bz⟩
       case measure=>simp[intOf];omega
     ·obtain rfl:a=6:=by omega
      have k:=a6 (show h=c.map PX.p++EB p (d+1)from g);clear g;gi_wp2_with fail
      go_roundw
      case rel=>exact⟨c,d+1,by omega,by go_num,k.out,t,w,s⟩
      case measure=>simp[intOf];omega
   ·obtain rfl:d=8:=by omega
    have k:=a6 (show h=c.map PX.p++[]from g);clear g;gi_wp2_with fail
    go_end0
    exact⟨⟨_,rfl⟩,c,by rw[k.out,List.append_nil],t⟩
theorem TW(p:i1)(a b c d:Va)(w:Wd):
  Ci .wide 2 prog 37 #[Ag (i4 p a b c d)] w fun e f=>e=X (Fc (.func 77) #[] #[K w])∧f=w.alloc (U (i4 p a b c d) 39):=by
 generalize i4 p a b c d=cs;refine Co func37 rfl trivial ?_ rfl;simp only[ntmps37,uE,l9,a4D]
 gi_wp2
 go_ret;exact⟨rfl,rfl⟩
theorem AH(b:Nat)(p:i1)(d f g h:Va)(S:List Ti)(s:S.contains 3=Bf)(t:S.contains 39=Bf)(D:p.small)(m:0≤p.fm∧0≤p.lm)(C:y9 p=Bt)(u w:Wd)(q:R3 u p d f g h)(E:a9 u w)(y:b9 w b 39 (i4 p d f g h)):
  jU .wide 2 prog 77 #[K b] (fun x:PX=> #[x.v]) (PXG p) (KpT u S) (fun ys=>ys.map PX.p=L0 p) (L0 p).length w:=fun l Jq W i o v n=>
 NK l b p d f g h S s t D m C u q Jq (fun c j B a x=>o c j B J a (h8 x J) (fun r e=>by cases e)) (fun c x k a _ z A=>v c x k a z A) W (y.h i) (E.trans i) n
end
section
open Go.Shelf Go.Sort Go.MapKept
attribute [local go_sem] Oper.semAt_some
theorem h9.l{w d:Wd}{a:Option Ad}{xs:List Va}{row:Option Nat}(f:h9 w a xs)(g:w.grownBy d row)(h:∀r,row=So r→∃c:Obj,w.heap[r]? =So c∧c.isCells=Bf):h9 d a xs:=fun j u i=>
 let⟨b,off,e,hc⟩:=f j u i;⟨b,off,e,cell_kept hc g h⟩
theorem F7.map{w b:Wd}{p:PF}{g:Nat}{d:List SV}(a:F7 w p)(f:E6 w g d)(h:w.grownBy b (So g)):F7 b p:=⟨a.1,a.2.l h fun r e=>by cases e;obtain⟨i,c,q,_⟩:=f;exact⟨_,q,rfl⟩⟩
theorem e4.ofBlk1{a:Type}{w:Wd}{base g:Nat}{e:Ti}{E:p6 a}{x:a}(b:b9 w g e (E.c x).toArray)(c:base≤g)(d:0<E.k):e4 w base e E (Z g 1 1) [x]:=
 ⟨_,1,rfl,by rw[E.row_length],.inr ⟨g,1,(E.c x).toArray,rfl,c,b,a7 _,by unfold maxLen;omega,by simp[E.len],by rw[E.row_one];simp[List.take_of_length_le,E.len]⟩⟩
theorem fG{i:Fence}{n:Nat}{P:Pg}{w:Wd}{l:Array Oper}{rest:List Oper}{d:Oper}{a:Act}{Q:Exit→Act→Wd→Prop}(y:d.guard=J)(m x v:Operand)(t k e:Ti)(h:d.op=Op.mapUpdate t m x v)(C:P.underlying t=So (.map k e))(z:P.underlying k=So .string)(g:Nat)(j:List SV)(A:a.eval m= .map (So g))(q:E6 w g j)(s:ByteArray)(E:a.eval x= .string s)(u:Va)(D:a.eval v=u)
  (o:∀b,E6 b g (zY j s u)→w.grownBy b (So g)→Wl i n P l Q rest (a.put d.dst Un) b):Wl i n P l Q (d::rest) a w:=by
 refine wpListIn_plain y fun H p=> ?_
 obtain⟨b,B,F,G⟩:=q.put C z s u;refine⟨fun f r=>by simp[Oper.about,h]at r,?_⟩;rw[Oper.semAt_eq _ _ _ (fun c e=>by rw[h]at e;cases e)];simp[execOp,h,A,E,D,B,Result.andThen,Oper.uponIn_skip,Oper.uponIn_value];exact p _ _ (o b F G)
theorem a5p:mU prog 25 24 (Ag #[Y ⟨#[]⟩,I M 0,Z J 0 0]) 3 48:=⟨underlying25,by kernel_rfl,rfl,by decide,by decide⟩
def H1(p:PF):SV:=(p.1.name,o4 p.1)
def yK(p:PF):ByteArray:=p.1.name
def JD(l:List PF)(x:PF)(b:Option PF)(a:PF):List PF:=match b with
 |none=>P8 yK l a
 |some o=>if x.1.dir<o.1.dir then P8 yK l a else l
def IN(p:PF):Prop:=p.1.name.size≤1000000∧p.1.n≤1000000
theorem a3K(ps:List PF)(s:ByteArray):H0 (ps.map H1) s=(nC yK ps s).map fun p=>o4 p.1:=by
 rw[a1d,BZ (nm:=yK) H1 (fun _=>rfl)];cases nC yK ps s<;>rfl
theorem a43(ps:List PF)(p:PF):zY (ps.map H1) p.1.name (o4 p.1)=(P8 yK ps p).map H1:=by
 rw[a3s,zZ (nm:=yK) (nb:=fun p:SV=>p.1) H1 (fun _=>rfl)];rfl
theorem SM(ps:List PF)(x y:PF)(h:l4 y=l4 x):(JD ps x (nC yK ps x.1.name) y).map l4=O8 (ps.map l4) (l4 x):=by
 unfold JD O8;rw[show(l4 x).name=x.1.name from rfl,BZ (nm:=yK) l4 (fun _=>rfl)];have e:=zZ (nm:=yK) (nb:=g3.name) l4 (fun _=>rfl) ps y;rw[h]at e;cases nC yK ps x.1.name with
 |none=>exact e
 |some o=>
  show(if x.1.dir<o.1.dir then P8 yK ps y else ps).map l4=if x.1.dir<o.1.dir then P8 g3.name (ps.map l4) (l4 x)else ps.map l4
  split
  ·exact e
  ·rfl
def x7(u:g3)(ds:List g3):List g3×Int:=if 16<ds.length then([],4)else if 0≤Z7 (fun f:g3=> !sG f.name) ds 0 then([],140)else(u::zM (G3 ds),0)
theorem xA{a b:Type}(f:a→b)(p:b→Bool):∀(l:List a)(i:Nat),Z7 p (l.map f) i=Z7 (fun x=>p (f x)) l i
 |[],_=>rfl
 |x::l,i=>by simp only[List.map_cons,Z7];rw[xA f p l (i+1)]
theorem IW(ds:List PF):fU (ds.map (·.1))=Z7 (fun f:g3=> !sG f.name) (ds.map l4) 0:=by
 unfold fU;rw[xA,xA];rfl
structure DrI(w:Wd)(gm:Nat)(ps:List PF)(Xa:List g3)(W:Wd):Prop where
 m:E6 W gm (ps.map H1)
 r:∀p∈ps,F7 W p
 e:ps.map l4=Xa
 n:(Xa.map g3.name).Nodup
 x:a9 w W
 g:w<gm
theorem DrI.h{w W W':Wd}{c:Nat}{ps:List PF}{b:List g3}(a:DrI w c ps b W)(x:a9 W W'):DrI w c ps b W':=⟨a.m.h x,fun p d=>(a.r p d).h x,a.e,a.n,a.x.trans x,a.g⟩
theorem DrI.put{w W W':Wd}{c:Nat}{ps:List PF}{g:List g3}(b:DrI w c ps g W){x a:PF}(n:F7 W a)(h:l4 a=l4 x)(l:JD ps x (nC yK ps x.1.name) a=P8 yK ps a)(i:E6 W' c (zY (ps.map H1) x.1.name (o4 a.1)))(f:W.grownBy W' (So c)):DrI w c (P8 yK ps a) (O8 g (l4 x)) W':=by
 have j:a.1.name=x.1.name:=congrArg g3.name h;refine⟨by rw[←a43,j];exact i,fun p m=> ?_,by rw[←l,SM ps x a h,b.e],zE _ _ b.n,a9.f b.x f (fun k e=>by cases e;exact Nat.le_of_lt b.g),b.g⟩;rcases pL ps a p m with d|d
 ·exact(b.r p d).map b.m f
 ·rw[d];exact n.map b.m f
end
section
open Go.Shelf Go.Sort Go.MapKept
attribute [local go_sem] Oper.semAt_some
def VP.cop(x:PF):VP:=⟨fun v aa=>∃y:PF,v=o4 y.1∧F7 aa y∧l4 y=l4 x∧IN y,fun _ _ _⟨y,h,k,l⟩ e=>⟨y,h,k.h e,l⟩⟩
theorem xQ(x:PF)(W:Wd)(b:F7 W x)(f:IN x):Ca prog 50 #[o4 x.1] W fun e g=>∃a:PF,e=X (o4 a.1)∧F7 g a∧l4 a=l4 x∧IN a∧a9 W g:=by
 obtain⟨⟨nm,d,i,n,c⟩,xs⟩:=x;apply(HJ nm d i n c xs W b.1 f.2 b.2).mono;rintro e g⟨v,rfl,k,l⟩;obtain⟨B,j,rfl,m,o,h⟩:=k.inM;exact⟨(⟨nm,d,B,xs.length,j⟩,xs),rfl,⟨rfl,by rw[vJ]at h;exact h⟩,rfl,⟨f.1,by have:=b.1;have:=f.2;dsimp only at*;omega⟩,l⟩
theorem PT(u:PF)(bb:Option Ad)(c:Nat)(ds:List PF)(w:Wd)(dl:ds.length≤1000000)(bm:h9 w bb (q7.row (ds.map (·.1))))(cv:F7 w u)(dp:IN u)(bn:∀p∈ds,F7 w p∧IN p):
  Ca prog 31 #[o4 u.1,Z bb ds.length c] w fun e bv=>∃(v:Va)(rs:List PF),e=X (Tp #[v,I M (x7 (l4 u) (ds.map l4)).2])∧e4 bv w 24 q7 v (rs.map (·.1))∧(∀p∈rs,F7 bv p)∧rs.map l4=(x7 (l4 u) (ds.map l4)).1∧a9 w bv:=by
 obtain⟨R,ao⟩:∃R,R=x7 (l4 u) (ds.map l4):=⟨_,rfl⟩;rw[←ao];unfold x7 at ao;rw[a32,←IW]at ao;have cn:=b9.new w 24 (#[Y u.1.name,I M u.1.dir,Z u.1.A u.1.n u.1.c]);have bw:=(a9.refl w).alloc (U #[Y u.1.name,I M u.1.dir,Z u.1.A u.1.n u.1.c] 24);obtain⟨cf,aq,ap,de,db,da⟩:=jX (uH bb ds.length c (ds.map (·.1)) _ (by simp) dl (bm.h bw) (fun f dn=>by obtain⟨p,t,rfl⟩:=List.mem_map.1 dn;exact(bn p t).2.1)) ao bm cv bn cn;have bg:=a6 bw;generalize fU (ds.map (·.1))=wr at*;clear ao bm cv bn cn bw;unfold o4;go_in;by_cases cp:16<ds.length
 ·have G:Dc ((16:Int)<ds.length)=Bt:=by simp;omega
  go_wp2_with fail
  go_ret2
  have A:=aq.out;rw[if_pos cp]at A;exact⟨Z J 0 0,[],by rw[A];rfl,e4.nil _ _ _ _,(fun p a=>by cases a),by rw[A];rfl,bg.out⟩
 have G:Dc ((16:Int)<ds.length)=Bf:=by simp;omega
 have L:=aq.out;rw[if_neg cp]at L;by_cases ax:0≤wr
 ·rw[if_pos ax]at L
  have aj:=a6 L;have H:Dc (0≤wr)=Bt:=decide_eq_true ax;clear L aq;go_wp2_with fail
  apply cf.mono;rintro e P⟨rfl,W⟩;go_wp2_with fail
  go_ret2
  exact⟨Z J 0 0,[],by rw[aj.out];rfl,e4.nil _ _ _ _,(fun p a=>by cases a),by rw[aj.out];rfl,bg.trans W⟩
 rw[if_neg ax]at L;have aj:=a6 L;have H:Dc (0≤wr)=Bf:=decide_eq_false ax;clear L aq;go_wp2_with fail
 apply cf.mono;rintro e P⟨rfl,W⟩;have dr:= @run_makeMap prog;go_wp2_with fail
 clear dr;have cw:=E6.new (w:=P) (g:=P) rfl;have ck:=bg.trans W;have cg:DrI w P [] [] (P.alloc (.map #[] 0)):=⟨cw,fun p a=>(by cases a),rfl,List.nodup_nil,ck.alloc _,(by have:=W.size;simp at this;omega)⟩;have S:=(da.h W).h ((a9.refl P).alloc (.map #[] 0));generalize fb:P.heap.size=s at*;clear cw W ck;go_loopg [23] ds.length (fun di eg wr=>∃(k:Nat)(ps:List PF),k≤ds.length∧ds.length-k≤di∧eg=I M k∧DrI w s ps (G3 ((ds.take k).map l4)) wr∧b9 wr w 24 #[Y u.1.name,I M u.1.dir,Z u.1.A u.1.n u.1.c]∧(∀p∈ps,IN p))
 case atStart=>exact⟨0,[],i5 _,by omega,rfl,cg,S,fun p a=>by cases a⟩
 case round=>
  clear cg S;obtain⟨k,ps,fc,fa,rfl,j,h,bl⟩:=hrel;by_cases bq:k<ds.length
  ·have dq:(k:Int)<ds.length:=by omega
   have bp:k<(ds.map (·.1)).length:=by simpa using bq
   obtain⟨b,fg,rfl,ex⟩:=(ap.h j.x).rows (by decide) (by simp;omega);have ar:=(ap.h j.x).b bp (r:=0) rfl;have au:=(ap.h j.x).b bp (r:=1) rfl;have av:=(ap.h j.x).b bp (r:=2) rfl;have cs:=a30 bq;have bo:=db _ cs;have ct:G3 ((ds.take (k+1)).map l4)=O8 (G3 ((ds.take k).map l4)) (l4 ds[k]):=by rw[a4a bq,a4F];exact CZ _ _
   simp only[List.getElem_map]at ar au av;generalize ds[k]=x at*;generalize G3 ((ds.take k).map l4)=eo at*;obtain⟨⟨nm,i,B,m,l⟩,xs⟩:=x;simp only[q7,a4z]at ar au av;have bd:=b9.new wr 24 #[Y nm,I M i,Z B m l];have xa:=(a9.refl wr).alloc (U #[Y nm,I M i,Z B m l] 24);obtain⟨es,et,eu⟩:=bd.c3;have Q:=j.h xa;have S:=h.h xa;obtain⟨bf,cb,cc⟩:=p7 ct (show F7 _ (⟨nm,i,B,m,l⟩,xs)from(bo.1.h j.x).h xa) bo.2;have N:=a3K ps nm;have cu:=fun o dm=>SM ps (⟨nm,i,B,m,l⟩,xs) o dm
   dsimp only at cu;clear ct bo cs j h xa;rcases T:nC yK ps nm with _|ed
   ·rw[T]at N
    simp only[Option.map_none]at N;go_wp2_with(refine A4 rfl _ _ 121 9 24 rfl underlying121 underlying9 (.agg #[Y ⟨#[]⟩,I M 0,Z J 0 0]) (by intro w;kernel_rfl) s _ rfl Q.m nm rfl ?_;rw[N])
    have bc:=bd.alloc (U #[Y ⟨#[]⟩,I M 0,Z J 0 0] 24);have q:=Q.h ((a9.refl _).alloc (U #[Y ⟨#[]⟩,I M 0,Z J 0 0] 24));have ak:=S.alloc (U #[Y ⟨#[]⟩,I M 0,Z J 0 0] 24);have bi:=cb.h ((a9.refl _).alloc (U #[Y ⟨#[]⟩,I M 0,Z J 0 0] 24));go_wp2_with fail
    refine wpIn_wide.1 (g4 (n:=1) (fun _=>trivial) rfl [.is (.map (So s)),.is ?Ao,.is (Y nm),.is (.agg #[Y nm,I M i,Z B m l]),(VP.cop (⟨nm,i,B,m,l⟩,xs))] (by kernel_rfl) ?Ap ?Aa ⟨?Ab,?Ac,?Ad,?Ae,?Af,trivial⟩ _ rfl rfl ?Ag)
    case Aa=>intro x;simp only[e6,Act.put,uL,l9]<;>rfl
    case Ab|Ac|Ad|Ae=>
     intro x E h;simp only[e5,g1,uV];repeat(intro d;try simp only[d])
     obtain⟨ar,au,av⟩:=(bc.h h).c3;gi_wp2_with fail
     refine a0e ?_ rfl (a9.refl _);rfl
    case Af=>
     intro x E h;simp only[e5,g1,uV];intro z;simp only[z];gi_wp2_with(refine⟨trivial,?_⟩;gi_at_call 50;apply((Cw (n:=0)).2 (xQ (⟨nm,i,B,m,l⟩,xs) E (bi.h h) cc.out)).mono;rintro e ej⟨o,rfl,bu,bk,k9,br⟩)
     refine a0e ?_ rfl (br);exact⟨o,rfl,bu,bk,k9⟩
    case Ag=>
     intro x E h;simp only[l8,e5,j8,uV];rintro al G H z⟨o,am,bt,A,k4⟩;simp only[al,G,H,z,am];clear al G H z am;have y:=q.h h;have F:=ak.h h;gi_wp2_with(refine fG rfl _ _ _ 121 9 24 rfl underlying121 underlying9 s _ rfl y.m nm rfl (o4 o.1) rfl ?_;intro D bs an)
     go_wp2_with fail
     go_roundg (ds.length-(k+1))
     case measure=>omega
     case rel=>exact⟨k+1,P8 yK ps o,by omega,by omega,by go_num,by rw[bf.out];exact y.put (x:=(⟨nm,i,B,m,l⟩,xs)) bt A (by dsimp only;rw[T];rfl) bs an,F.grown an (fun e=>by have:=y.g;have:=F.lt;injection e with e;omega),fun p t=>(pL ps o p t).elim (fun a=>bl p a) (fun a=>by rw[a];exact k4)⟩
   ·rw[T]at N
    simp only[Option.map_some]at N;have ev:=T;obtain⟨⟨ad,C,aa,ac,ab⟩,fh⟩:=ed;by_cases cq:i<C
    ·go_wp2_with(refine A4 rfl _ _ 121 9 24 rfl underlying121 underlying9 (.agg #[Y ⟨#[]⟩,I M 0,Z J 0 0]) (by intro w;kernel_rfl) s _ rfl Q.m nm rfl ?_;rw[N];unfold o4;simp only[Option.getD_some,Option.isSome_some])
     have bc:=bd.alloc (U #[Y ad,I M C,Z aa ac ab] 24);have q:=Q.h ((a9.refl _).alloc (U #[Y ad,I M C,Z aa ac ab] 24));have ak:=S.alloc (U #[Y ad,I M C,Z aa ac ab] 24);have bi:=cb.h ((a9.refl _).alloc (U #[Y ad,I M C,Z aa ac ab] 24));go_wp2_with fail
     refine wpIn_wide.1 (g4 (n:=1) (fun _=>trivial) rfl [.is (.map (So s)),.is ?Aq,.is (Y nm),.is (.agg #[Y nm,I M i,Z B m l]),(VP.cop (⟨nm,i,B,m,l⟩,xs))] (by kernel_rfl) ?Ar ?Ah ⟨?Ai,?Aj,?Ak,?Al,?Am,trivial⟩ _ rfl rfl ?An)
     case Ah=>intro x;simp only[e6,Act.put,uL,l9]<;>rfl
     case Ai|Aj|Ak|Al=>
      intro x E h;simp only[e5,g1,uV];repeat(intro d;try simp only[d])
      obtain⟨ar,au,av⟩:=(bc.h h).c3;gi_wp2_with fail
      refine a0e ?_ rfl (a9.refl _);rfl
     case Am=>
      intro x E h;simp only[e5,g1,uV];intro z;simp only[z];gi_wp2_with(refine⟨trivial,?_⟩;gi_at_call 50;apply((Cw (n:=0)).2 (xQ (⟨nm,i,B,m,l⟩,xs) E (bi.h h) cc.out)).mono;rintro e ej⟨o,rfl,bu,bk,k9,br⟩)
      refine a0e ?_ rfl (br);exact⟨o,rfl,bu,bk,k9⟩
     case An=>
      intro x E h;simp only[l8,e5,j8,uV];rintro al G H z⟨o,am,bt,A,k4⟩;simp only[al,G,H,z,am];clear al G H z am;have y:=q.h h;have F:=ak.h h;gi_wp2_with(refine fG rfl _ _ _ 121 9 24 rfl underlying121 underlying9 s _ rfl y.m nm rfl (o4 o.1) rfl ?_;intro D bs an)
      go_wp2_with fail
      go_roundg (ds.length-(k+1))
      case measure=>omega
      case rel=>exact⟨k+1,P8 yK ps o,by omega,by omega,by go_num,by rw[bf.out];exact y.put (x:=(⟨nm,i,B,m,l⟩,xs)) bt A (by dsimp only;rw[T];exact if_pos cq) bs an,F.grown an (fun e=>by have:=y.g;have:=F.lt;injection e with e;omega),fun p t=>(pL ps o p t).elim (fun a=>bl p a) (fun a=>by rw[a];exact k4)⟩
    ·have dd:=a6 (cu (⟨nm,i,B,m,l⟩,xs) rfl)
     have ey:Dc (i<C)=Bf:=decide_eq_false cq;go_wp2_with(refine A4 rfl _ _ 121 9 24 rfl underlying121 underlying9 (.agg #[Y ⟨#[]⟩,I M 0,Z J 0 0]) (by intro w;kernel_rfl) s _ rfl Q.m nm rfl ?_;rw[N];unfold o4;simp only[Option.getD_some,Option.isSome_some])
     have q:=Q.h ((a9.refl _).alloc (U #[Y ad,I M C,Z aa ac ab] 24));have ak:=S.alloc (U #[Y ad,I M C,Z aa ac ab] 24)
     go_roundg (ds.length-(k+1))
     case measure=>omega
     case rel=>
      have e:=dd.out;rw[T]at e;simp only[JD,if_neg (show¬i<C by omega)]at e;exact⟨k+1,ps,by omega,by omega,by go_num,by rw[bf.out,←q.e,←e];exact⟨q.m,q.r,rfl,by rw[q.e];exact q.n,q.x,q.g⟩,ak,bl⟩
  ·obtain rfl:k=ds.length:=by omega
   rw[List.take_length]at j;have dq:Dc ((ds.length:Int)<ds.length)=Bf:=by simp
   have cr:ps.length≤1000:=by
    have dj:(ps.map l4).length=(G3 (ds.map l4)).length:=by rw[j.e]
    have dk:=qW (ds.map l4);simp at dj dk;omega
   have dt:(ps.map fun p:PF=>p.1.name).Nodup:=by
    have:=j.n;rw[←j.e,List.map_map]at this;exact this
   have ce:=a6 (callsIn_wide.1 (LP s wr));have bx:=(a9.refl wr).alloc (U #[.map (So s)] 121);obtain⟨bz,ch,cj,dc⟩:=J5 (callsIn_wide.1 (nF wr s (ps.map H1) (ps.map (·.1)) (by simpa using cr) (by rw[List.map_map,List.map_map];rfl) _ (b9.new wr _ _) (j.m.h bx))) (j.h bx) (h.h bx) j.e;clear j h;go_wp2_with fail
   apply ce.mono;rintro e fm⟨rfl,rfl⟩;go_wp2_with fail
   apply bz.mono;rintro e eh⟨v,ys,rfl,t,aw,ay⟩;obtain⟨ee,du,dv,dw⟩:=MO dt t;have dz:ys.length≤1000:=by rw[t.length_eq];simpa using cr
   obtain⟨cd,y,F⟩:=p7 (JH OP q7 isAgg24 sizeOf24 (rC a1f.name) (vO a1f.name) 54 (Eo func54 (by kernel_rfl) rfl) a3D 24 v ys _ eh (by omega) aw) (ch.h ay) (cj.h ay);obtain⟨el,ff,ep,rfl⟩:=aw.f;go_wp2_with fail
   apply(show Ca prog 53 _ _ _ from cd.out).mono;rintro e ei⟨rfl,ba,co⟩;have cm:=a9.f ay co (fun k e=>(aw.lt e).1);have bh:=ch.h cm;have ci:=cj.h cm;have ca:=a6 (xQ u ei (de.h bh.x) dp);have fd:(cL (rC a1f.name) ys).length≤1000:=by rw[dE _ (vO a1f.name)];exact dz
   obtain⟨em,er,A,_,_,ea⟩:=ba.inM;rw[A]at ba⊢;obtain⟨en,be⟩:=i6 ba bh;obtain⟨fi,fj,fk⟩:=ci.c3;clear aw ay ba bh ci y F cd bz ce co t;unfold o4 at ca;go_wp2_with fail
   apply ca.mono;rintro e D⟨⟨⟨ai,ag,ae,ah,af⟩,ek⟩,rfl,ef,dh,fe,az⟩;have df:=b9.new D 24 #[Y ai,I M ag,Z ae ah af];have cy:=(a9.refl D).alloc (U #[Y ai,I M ag,Z ae ah af] 24);have ec:e4 (D.alloc (U #[Y ai,I M ag,Z ae ah af] 24)) D 24 q7 (Z D 1 1) [⟨ai,ag,ae,ah,af⟩]:=e4.ofBlk1 df (a7 _) (by decide);dsimp only;go_wp2_with(at_builtin;refine j3 rfl (Tm 56) (Tm 57) 25 24 rfl a5p D _ [⟨ai,ag,ae,ah,af⟩] rfl ec _ _ _ (cL (rC a1f.name) ys) rfl rfl ((ea.h az).h cy) (by simp;omega) (by simp) ?_;intro fl fn cx dy ez ew;obtain⟨cz,eb,dg,rfl⟩:=cx.f)
   have bj:=dy D cy (a7 _);have dx:=((be.x).trans az).trans bj
   go_ret2
   refine⟨Z cz eb dg,(⟨ai,ag,ae,ah,af⟩,ek)::ee,by rw[aj.out];rfl,?_,fun p t=> ?_,?_,dx⟩
   ·rw[List.map_cons,dv]
    exact cx.mono (c8 be.x.size az.size)
   ·rcases List.mem_cons.1 t with a|a
    ·rw[a];exact ef.h bj
    ·exact((be.r p (du.subset a)).h az).h bj
   ·rw[List.map_cons,dw,dc.out,aj.out,dh]
end
end Go.Proofs.YtiomenjfmagknaaGreat
