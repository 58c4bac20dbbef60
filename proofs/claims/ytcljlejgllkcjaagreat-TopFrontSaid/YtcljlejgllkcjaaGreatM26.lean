/- A part of the proof of TopFront: lemmas on the walks of its calls. -/
import Derived.Test.YtcljlejgllkcjaaGreatM25
set_option maxHeartbeats 12000000
set_option linter.all false
set_option maxRecDepth 100000
namespace Go.Proofs.YtcljlejgllkcjaaGreat
open Go.RowKit Go.ChangeShapes Go.WideShapes Tryz
open Bool renaming and_eq_true→j3,true→Bt,false→Bf
open Decidable renaming decide→Dc
open Ending renaming returned→X
open Go renaming World→Wd,Value→Va,Calls→Ca,callsIn_wide→Cw,undef→Un,TypeId→Ti,Addr→Ad
open IntKind renaming i64→M,u32→V,u8→U8
open IntWalk renaming i64_in→h7
open List renaming getD_eq_getElem?_getD→b9,getElem?_eq_getElem→e9,length_append→g1,getElem_mem→g3,take_succ_eq_append_getElem→g2,length_map→i1,length_cons→i4,length_take→m4,append_assoc→p6,length→D
open Nat renaming le_refl→a7,le_trans→b6,zero_le→c6,add_zero→j8
open Obj renaming cells→U
open Operand renaming tmp→Tm
open Option renaming none→J,some→So
open Value renaming int→I,slice→Z,string→Y,pointer→K,bool→O,tuple→Tp,agg→Ag
theorem SY(x:Int)(W:Wd):Ca prog 36 #[I M x] W λe g=>e=X (O (y3 x))/\g=W:=by have a:y3 x=(x==90||(x==110||(x==100||(x==161||false)))):=rfl;generalize y3 x=R at*;go_in;cases b:x==90<;>cases c:x==110<;>cases d:x==100<;>cases f:x==161;all_goals rw[b,c,d,f]at a;go_wp2;go_ret;exact⟨by rw[a];rfl,rfl⟩
theorem a1Y{a:Int}(b:x2 a=Bt):a=0\/a=2147483648\/(a !=0)=Bt/\(a !=2147483648)=Bt/\(a.tdiv 65536 % 4294967296 !=5)=Bf/\Dc (4095<a.tmod 65536)=Bf:=by
 unfold x2 at b;simp only[Bool.or_eq_true,beq_iff_eq,j3,decide_eq_true_eq]at b;rcases b with(b|b)|⟨c,d⟩
 exact .inl b;exact .inr (.inl b);rw[Int.tdiv_eq_ediv_of_nonneg a8,Int.tmod_eq_emod_of_nonneg a8];have e:a/65536=5:=a8;exact .inr (.inr ⟨by simp;omega,by simp;omega,by rw[e];rfl,by simp;omega⟩)
theorem a3T{m:Int}{xs:List n0}(a:A6 m xs=Bt):Dc (2<m)=Bf/\((m==0)=Bt->Dc (0<D xs)=Bf)/\(∀k(b:k<D xs),w7 xs[k].1=Bt/\x2 xs[k].2=Bt)/\∀k(b:k<D xs),0<k->Op.bytesLess (xs[k-1]' a8).1.toList xs[k].1.toList=Bt:=by
 obtain⟨d,e,-⟩:=K8 xs J (R2 a);unfold A6 at a;refine⟨?_,λf=> ?_,λk b=>e _ (g3 b),λk b h=> ?_⟩;split at a;cases a;rename_i c;exact decide_eq_false c;split at a;cases a;split at a;cases a;rename_i g;exact decide_eq_false λc=>g ⟨by simpa using f,c⟩
 rw[E7];have:=List.pairwise_iff_getElem.1 d (k-1) k G6 (by simpa using b) a8;simp only[List.getElem_map]at this;exact decide_eq_true this
theorem SZ(m:Int)(l:p1)(c:Nat)(xs:List n0)(w:Wd)(bw:D xs<=100000)(be:A6 m xs=Bt)(bd:i5 w l (a2J.row xs)):
 Ca prog 167 #[.agg #[I U8 m,Z l (D xs) c]] w λe bm=>e=X (O Bt)/\a9 w bm:=by
 obtain⟨ad,bi,A⟩:=r6 (e7.new w 31 #[I U8 m,Z l (D xs) c]) ((a9.refl w).alloc (U #[I U8 m,Z l (D xs) c] 31)) bd;obtain⟨C,H,j,bc⟩:=a3T be;obtain⟨bf,bg⟩:=j0 j bc;clear bd be j bc;go_in;go_upto_region 1 with fail;go_cut [18] (λx bn=>x=O Bf/\bn=w.alloc (U #[I U8 m,Z l (D xs) c] 31))
 ·by_cases j:m=0
  ·have u:(m==0)=Bt:=by simp[j]
   have R:=H u;clear H j;go_wp2;go_meet;exact⟨rfl,rfl⟩
  have u:(m==0)=Bf:=by simp[j]
  clear H j;go_wp2;go_meet;exact⟨rfl,rfl⟩
 obtain⟨rfl,rfl⟩:=hcut;clear H C;go_wp2;go_loopw [3] (λi wr=>∃k:Nat,k<=D xs/\i=I M k/\a9 (w.alloc (U #[I U8 m,Z l (D xs) c] 31)) wr) (λi _=>D xs-(intOf i).toNat);exact⟨0,c6 _,rfl,a9.refl _⟩;obtain⟨k,bx,rfl,z⟩:=hrel;obtain⟨n,ab⟩:=j0 (bi.trans z) (ad.h z);have b1:=(ad.h z).cell 1;have P:=a6 z;clear z;by_cases N:k<D xs
 ·obtain⟨b,o,rfl,bk⟩:=(A.h n.O).rows e6 a8;have L:k-1<D xs:=a8;have t:=a6 (λh(g:a9 w h)=>show h.cell? ⟨b,o+k*2,J⟩=So (Y xs[k].1)/\h.cell? ⟨b,o+(k-1)*2,J⟩=So (Y (xs[k-1]'L).1)from⟨(A.h g).l N (r:=0) rfl,(A.h g).l L (r:=0) rfl⟩);have Q:=(A.h n.O).l N (r:=1) rfl;have W:Dc (0<k)=Bt->IntKind.i64.wrap ((k:Int)-1)=((k-1:Nat):Int)/\Op.bytesLess (xs[k-1]'L).1.toList xs[k].1.toList=Bt:=λf=>by have v:0<k:=of_decide_eq_true f;refine⟨?_,bg k N v⟩;rw[(a8:(k:Int)-1=((k-1:Nat):Int))];exact h7 _ a8
  obtain⟨T,S⟩:=bf k N;generalize xs[k]=x at*;generalize xs[k-1]'L=bo at*;obtain⟨s,a⟩:=x;obtain⟨q,bp⟩:=bo;simp only[a2J]at Q;dsimp only at t T S W;have ac:=a6 (zO s);rw[T]at ac;obtain⟨bh,ae⟩:=j0 (a1Y S) W;have k0:(0:Int)<=k:=a8;have k9:(k:Int)<D xs:=a8;have k1:((k-1:Nat):Int)<D xs:=a8;have k2:(0:Int)<=((k-1:Nat):Int):=a8;clear W T S bk;generalize bv:Dc (0<k)=d at*;generalize k-1=aa at*;go_wp2_with fail;refine y2 rfl ((.is ?Bd:VP)::(.is (Z (So ⟨b,o,J⟩) (D xs) c):VP)::(.is ?Be:VP)::(.is ?Bf:VP)::(.is ?Bg:VP)::(.is (Y s):VP)::(.is (O Bt):VP)::(.is ?Bh:VP)::(.is ?Bi:VP)::(.is ?Bj:VP)::(.is (O d):VP)::(.is (O d):VP)::(.is (cond d (K (So ⟨w,1,J⟩)) Un):VP)::(.is (cond d (Z (So ⟨b,o,J⟩) (D xs) c) Un):VP)::(.is (cond d (I M k) Un):VP)::(.is (cond d (I M aa) Un):VP)::(.is (cond d (K (So ⟨b,o+aa*2,J⟩)) Un):VP)::(.is (cond d (K (So ⟨b,o+aa*2,J⟩)) Un):VP)::(.is (cond d (Y q) Un):VP)::(.is (cond d (K (So ⟨w,1,J⟩)) Un):VP)::(.is (cond d (Z (So ⟨b,o,J⟩) (D xs) c) Un):VP)::(.is (cond d (I M k) Un):VP)::(.is (cond d (K (So ⟨b,o+k*2,J⟩)) Un):VP)::(.is (cond d (K (So ⟨b,o+k*2,J⟩)) Un):VP)::(.is (cond d (Y s) Un):VP)::(.is (cond d (O Bf) Un):VP)::(.is (O Bf):VP)::(.is (O Bf):VP)::[]) g6 ?Bk ?Aa ⟨?Ab,?Ac,?Ad,?Ae,?Af,?Ag,?Ah,?Ai,?Aj,?Ak,?Al,?Am,?An,?Ao,?Ap,?Aq,?Ar,?As,?At,?Au,?Av,?Aw,?Ax,?Ay,?Az,?Ba,?Bb,?Bc,trivial⟩ ?Bl
  case Aa=>intro x;simp only[m0,Act.put,uL,Nat.reduceAdd]<;>rfl
  case Ab|Ac|Ad|Ae|Af|Ag|Ah|Ai|Aj|Ak|Al|Am|Bc=>
   intro x h g;simp only[g0,o7,uV];repeat(intro B;try simp only[B])
   try refine a2E eX ?_
   have v:=(ab.h g).cell 1;have ca:=(t h (n.trans g)).1;go_wp2_with(go_at_call 172;refine l4 (ac h) λbz bl=>?_);refine e8 ?_ rfl (by first|exact bl|exact a9.refl _);rfl
  case An|Ao|Ap|Ar|As|At|Au|Av|Aw|Ax|Ay|Az|Bb=>
   intro x h g;simp only[g0,o7,uV];repeat(intro B;try simp only[B];clear B)
   have v:=(ab.h g).cell 1;have v:=(t h (n.trans g)).2;have v:=(t h (n.trans g)).1;cases d;all_goals(try simp only[uB])
   all_goals first|exact a2B (by first|decide|(intro f;cases f)) mZ|(refine a2E eX ?_;(go_wp2_with(fail);refine e8 ?_ rfl (a9.refl _);exact rfl))
  case Aq=>
   intro x h g;simp only[g0,o7,uV];intro E p;simp only[E,p];have y:=λf=>(ae f).1
   cases d;all_goals(try simp only[uB])
   all_goals(try replace y:=y rfl)
   all_goals first|exact a2B (by first|decide|(intro f;cases f)) mZ|(refine a2E eX ?_;(go_wp2_with(fail);refine e8 ?_ rfl (a9.refl _);exact rfl))
  case Ba=>
   intro x h g;simp only[g0,o7,uV];intro F G p;simp only[F,G,p];have y:=λf=>(ae f).2
   cases d;all_goals(try simp only[uB])
   all_goals(try replace y:=y rfl)
   all_goals first|exact a2B (by first|decide|(intro f;cases f)) mZ|(refine a2E eX ?_;(go_wp2_with(fail);refine e8 ?_ rfl (a9.refl _);exact rfl))
  intro x h g;simp only[n9,g0,o7,uV];intro af C u R aw ax ay az ba bb ag p ah ai E aj ak al F am an ao ap aq G ar au av;simp only[af,C,u,R,aw,ax,ay,az,ba,bb,ag,p,ah,ai,E,aj,ak,al,F,am,an,ao,ap,aq,G,ar,au,av];clear af C u R aw ax ay az ba bb ag p ah ai E aj ak al F am an ao ap aq G ar au av;have bu:=g.cell Q;clear b1 Q t;refine bh.elim (λf=> ?_) λf=>f.elim (λf=> ?_) λf=> ?_
  ·subst f;go_wp2;go_roundw;exact⟨k+1,a8,o3,P.trans g⟩;simp[intOf];omega
  ·subst f;go_wp2;go_roundw;exact⟨k+1,a8,o3,P.trans g⟩;simp[intOf];omega
  obtain⟨bq,br,bs,bj⟩:=f;have bt:=of_decide_eq_false bj;go_wp2;go_roundw;exact⟨k+1,a8,o3,P.trans g⟩;simp[intOf];omega
 obtain rfl:k=D xs:=a8;have k1:¬(D xs:Int)<D xs:=a8;go_wp2;go_ret;exact⟨rfl,n.O⟩
def DC(s:g4)(xs:List n0):List n0:=xs.filter λx=> !(x.1.toList==s.toList)
theorem a0N(s:g4)(xs:List n0)(k:Nat)(a:k<D xs):DC s (xs.drop k)=(if xs[k].1.toList==s.toList then []else [xs[k]])++DC s (xs.drop (k+1)):=by rw[List.drop_eq_getElem_cons a];unfold DC;rw[List.filter_cons];cases xs[k].1.toList==s.toList<;>rfl
theorem ID(m:Int)(Q:p1)(c:Nat)(xs:List n0)(s:g4)(w:Wd)(ar:D xs<=100000)(ap:i5 w Q (a2J.row xs)):
 Ca prog 174 #[Ag #[I U8 m,Z Q (D xs) c],Y s] w λe ay=>∃v,e=X (Ag #[I U8 m,v])/\c7 ay w 94 a2J v (DC s xs)/\a9 w ay:=by
 obtain⟨B,A⟩:∃B,B=DC s xs:=⟨_,rfl⟩;rw[<-A];obtain⟨T,l,bc⟩:=r6 ap A (λk au=>a0N s xs k au);clear ap A;go_wp2;go_loopw [6] (λi wr=>∃(k:Nat)(v:Va)(ys:List n0),k<=D xs/\i=I M k/\B=ys++DC s (xs.drop k)/\D ys<=k/\I3 wr (w+2) (w+3) m v ys/\e7 wr w 31 #[I U8 m,Z Q (D xs) c]/\e7 wr (w+1) 31 #[I U8 0,Z J 0 0]/\a9 w wr/\w+3<=wr.heap.size) (λi _=>D xs-(intOf i).toNat);exact⟨0,_,[],c6 _,rfl,l.O,a7 _,⟨e7.b i3,c7.nil _ _ _ _⟩,((e7.new w _ _).alloc _).alloc _,(e7.b i3).alloc _,(((a9.refl w).alloc _).alloc _).alloc _,i3⟩;obtain⟨k,v,ys,au,rfl,A,br,ab,aa,aq,aw,ac⟩:=hrel;obtain⟨l,t,S,u,C⟩:=Y2 A ab aa aq aw;obtain⟨g,j,h,rfl⟩:=ab.o.f;have b1:=aa.cell 1;clear A ab aq aw aa;by_cases y:k<D xs
 ·have L:=T.h C.O;obtain⟨b,o,rfl,bq⟩:=L.rows e6 a8;have W:=L.l y (r:=0) rfl;have ah:=L.l y (r:=1) rfl;have z:=bc k y;have az:=a6 (λf(d:a9 w f)=>show f.cell? ⟨b,o+k*2,J⟩=So (Y xs[k].1)/\f.cell? ⟨b,o+k*2+1,J⟩=So (I V xs[k].2)from⟨(T.h d).l y (r:=0) rfl,(T.h d).l y (r:=1) rfl⟩);generalize xs[k]=x at*;obtain⟨q,a⟩:=x;simp only[a2J,j8]at W ah;dsimp only at z;have k0:(0:Int)<=k:=a8;have k1:(k:Int)<D xs:=a8;clear L;rcases av:q.toList==s.toList with _|_
  ·rw[av]at z;obtain⟨l,ad,af,ae,ba⟩:=Y2 (show B=(ys++[(q,a)])++DC s (xs.drop (k+1)) by rw[l.O,z,p6];rfl) (λf(d:GA 94 a2J (Z g j h).ownBlock (w+3) (Z g j h) ys [(q,a)] wr f)=>C.grown d.g (λk e=>by have:=(t.o.lt e).1;omega)) (λf(d:GA 94 a2J (Z g j h).ownBlock (w+3) (Z g j h) ys [(q,a)] wr f)=>t.b.grown d.g (λe=>t.o.ne t.b e6 e.symm)) (λf(d:GA 94 a2J (Z g j h).ownBlock (w+3) (Z g j h) ys [(q,a)] wr f)=>S.grown d.g (λe=>t.o.ne S e6 e.symm)) (λf(d:GA 94 a2J (Z g j h).ownBlock (w+3) (Z g j h) ys [(q,a)] wr f)=>u.grown d.g (λe=>t.o.ne u e6 e.symm));have be:D ys+1<=1000000:=a8;clear z;go_wp2_with fail;refine wpIn_wide.1 (cB (R:=(GA 94 a2J (Z g j h).ownBlock (w+3) (Z g j h) ys [(q,a)])) (n:=1) ?_);repeat
    first
     |(apply D7;focus (intro x f d;simp only[g0,g5,uV];(repeat intro bd;try simp only[bd]);have W:=(af f d).cell 1;have cc:=(ae f d).cell 1;gi_wp2_with fail;exact dn rfl rfl (L6.refl _)))
     |(refine r7 (.is (Ag #[Y q,I V a])) ?_ ?_
       ·intro x f d
        simp only[g0,g5,uV,q8,q7]
        intro F
        simp only[F]
        obtain⟨W,ah⟩:=az f (ad f d)
        gi_wp2_with fail
        refine e8 ?_ rfl (L6.refl _)
        rfl)
     |(refine r7 ((q8 #[Y q,I V a])) ?_ ?_
       ·intro x f d
        simp only[g0,g5,uV,q8,q7]
        intro G
        simp only[G]
        gi_wp2_with fail
        refine e8 ?_ rfl (GA.f ((a9.refl f).alloc _))
        exact⟨f,rfl,e7.new _ _ _,λe=>by have:=((d.old t.o).lt e).2;omega⟩)
     |(refine r7 ((q7 wr)) ?_ ?_
       ·intro x f d
        simp only[g0,g5,uV,q8,q7]
        rintro E⟨ao,H,ax,bf⟩
        simp only[E,H]
        gi_wp2_with(gi_at_builtin;refine a2F rfl _ _ 29 94 rfl PY (w+3) (Z g j h) ys rfl (d.old t.o) ao 1 1 [(q,a)] rfl rfl (i5.f ax rfl) be (b6 ac d.g.size) ?_;intro bt bu bh bi bj bk bl)
        refine e8 ?_ rfl (⟨bi,λ_=>bj,bk⟩)
        exact⟨bh,bl.imp id (λq b ar=>by have:=q b ar;have:=d.g.size;omega)⟩)
   intro x f d;simp only[n9,g0,g5,uV,q8,q7];rintro ai E aj ak al F G⟨ao,H,ax,bf⟩⟨P,bg⟩ am;simp only[ai,E,aj,ak,al,F,G,H,am];clear ai E aj ak al F G H am;obtain⟨bm,bs,bn,an⟩:=P.f;rw[an]at P bg;have N:=af f d;have bo:=N.cell 1;have bp:=N.frozen 1;simp only[an];gi_wp2;go_wp2;go_roundw;exact⟨k+1,_,ys++[(q,a)],y,o3,l.O,by simp;omega,⟨N.f 1 _,P.kept (c8 _ (w+2) 1 _) (.inr (P.ne N e6))⟩,(ae f d).far (p:=⟨w+2,1,J⟩) i3 _,(ba f d).far (p:=⟨w+2,1,J⟩) i3 _,(ad f d).set (p:=⟨w+2,1,J⟩) (Nat.le_add_right _ 2) _,by simpa using b6 ac d.g.size⟩;simp[intOf];omega
  rw[av]at z;have l:=a6 (show B=ys++DC s (xs.drop (k+1)) by rw[l.O,z];rfl);clear z;go_wp2;go_roundw;exact⟨k+1,_,ys,y,o3,l.O,a8,t.O,S.O,u.O,C.O,ac⟩;simp[intOf];omega
 obtain rfl:k=D xs:=a8;have l:=a6 (l.trans (show ys++DC s (xs.drop (D xs))=ys by rw[List.drop_length];exact List.append_nil ys));obtain⟨bv,bw⟩:=t.b.c2;obtain⟨bx,bz⟩:=u.c2;have ca:=u.frozen 0;have cb:=u.frozen 1;have k1:¬(D xs:Int)<D xs:=a8;obtain⟨ag,bb⟩:=j0 (I3.put (m:=m) u t.o) ((C.set (p:=⟨w+1,0,J⟩) (Nat.le_succ _) (I U8 m)).set (p:=⟨w+1,1,J⟩) (Nat.le_succ _) (Z g j h));go_wp2_with fail;exact F9 ag.b underlying31 ⟨_,rfl,by rw[l.O];exact ag.o.mono (Nat.le_add_right _ 3),bb.O⟩
theorem A9(s k:g4):(s==k)=(s.toList==k.data.toList):=by rw[Lib.toList_data];show(s.data==k.data)=_;rw[Bool.eq_iff_iff,beq_iff_eq,beq_iff_eq];exact Array.toList_inj.symm
abbrev a1Q:List UInt8:=[83,121,115,116,101,109,67,97,108,108,70,105,108,116,101,114]
abbrev a1P:List UInt8:=[83,121,115,116,101,109,67,97,108,108,76,111,103]
abbrev a1R:List UInt8:=[83,121,115,116,101,109,67,97,108,108,69,114,114,111,114,78,117,109,98,101,114]
theorem a3s(s:g4)(W:Wd):Ca prog 59 #[Y s] W λe f=>e=X (O (O4 s))/\f=W:=by
 have a:O4 s=(s.toList==a1Q||s.toList==a1P||s.toList==a1R):=by unfold O4;rw[A9,A9,A9];rfl
 generalize O4 s=R at*;go_in;cases b:s.toList==a1Q<;>cases c:s.toList==a1P<;>cases d:s.toList==a1R;all_goals rw[b,c,d]at a;go_wp2;go_ret;exact⟨by rw[a];rfl,rfl⟩
theorem SX(s:g4)(k:s.size<=1000000)(W:Wd):Ca prog 115 #[Y s] W λe l=>e=X (Tp #[I V (v7 s).1,I M (v7 s).2])/\a9 W l:=by
 have f:=a6 (zN s k);obtain⟨b1,b2,b3⟩:=dQ s;obtain⟨R,a⟩:∃R,R=v7 s:=⟨_,rfl⟩;rw[<-a];unfold v7 at a;rw[oB _ b2 b3]at a;generalize w8 s=q at*;obtain⟨n,z⟩:=q;dsimp only at*;go_in;cases g:s.toList==[]
 ·cases h:s.toList==[107,105,108,108]
  ·rw[g,h]at a;have a:=a.trans (if_neg e6);by_cases c:z=0
   ·have b:=a6 (a.trans (if_pos c));have j:(z !=0)=Bf:=by simp[c]
    have o:(327680+n) % 4294967296=327680+n:=a8;clear a c b1;go_wp2_with fail;refine l4 (f _) λm d=>?_;go_wp2;go_ret2;exact⟨by rw[b.O];rfl,d⟩
   have b:=a6 (a.trans (if_neg c));have j:(z !=0)=Bt:=by simpa using c
   have i:=a6 (b1.resolve_left c);clear a c b1;go_wp2_with fail;refine l4 (f _) λm d=>?_;go_wp2;go_ret2;exact⟨by rw[b.O,i.O];rfl,d⟩
  have b:=a6 (a.trans (if_pos (by rw[h];simp)));clear a;go_wp2;go_ret2;exact⟨by rw[b.O];rfl,a9.refl _⟩
 have b:=a6 (a.trans (if_pos (by rw[g];simp)));clear a;go_wp2;go_ret2;exact⟨by rw[b.O];rfl,a9.refl _⟩
theorem hY(s:g4)(W:Wd):Ca prog 63 #[Y s] W λe d=>e=X (Y (j9 s))/\d=W:=by
 go_in;by_cases b:60<s.size;·have c:(60:Int)<s.size:=a8;have f:(60:Int)<=s.size:=a8;have a:=a6 (show j9 s=s.extract 0 60 by unfold j9;rw[(a8:min s.size 60=60)]);clear b;go_wp2;go_ret;exact⟨by rw[a.O];rfl,rfl⟩
 have c:¬(60:Int)<s.size:=a8;have a:=a6 (show j9 s=s by unfold j9;rw[(a8:min s.size 60=s.size),ByteArray.extract_zero_size]);clear b;go_wp2;go_ret;exact⟨by rw[a.O];rfl,rfl⟩
theorem MC(G:p1)(c:Nat)(d:List i6)(a:m8)(w:Wd)(aq:D d<=500000)(ap:i5 w G (h9.row d)):
 Ca prog 116 #[Z G (D d) c,Ag (z8.c a).toArray] w λe aw=>∃v,e=X v/\c7 aw w 49 h9 v (G9 a d)/\a9 w aw:=by
 have W:=a6 (λk(S:k<D d)=>show(d.take (k+1)).map (x9 a)=(d.take k).map (x9 a)++[x9 a d[k]] by rw[g2 S,List.map_append];rfl);obtain⟨R,Q⟩:∃R,R=G9 a d:=⟨_,rfl⟩;rw[<-Q];obtain⟨h,j,sec,key,val⟩:=a;obtain⟨ay,N,y,ba,ax⟩:=Y2 (show R=(d.take (D d)).map (x9 ⟨h,j,sec,key,val⟩) by rw[List.take_length];exact Q) ap (e7.new w 89 #[Y h,I M j,Y sec,Y key,Y val]) ((a9.refl w).alloc (U #[Y h,I M j,Y sec,Y key,Y val] 89)) (show∀x,x9 ⟨h,j,sec,key,val⟩ x=⟨h,j,x.err,x.text⟩from λ_=>rfl);show Ca prog 116 #[Z G (D d) c,Ag #[Y h,I M j,Y sec,Y key,Y val]] w _;clear Q ap;go_wp2;go_loopw [5,6] (λv i wr=>∃k:Nat,k<=D d/\i=I M k/\c7 wr w 49 h9 v ((d.take k).map (x9 ⟨h,j,sec,key,val⟩))/\e7 wr w 89 #[Y h,I M j,Y sec,Y key,Y val]/\a9 w wr) (λ_ i _=>D d-(intOf i).toNat);exact⟨0,c6 _,rfl,c7.nil _ _ _ _,y.O,ba.O⟩;obtain⟨k,S,rfl,T,ar,au⟩:=hrel;replace y:=a6 ar;obtain⟨s,P⟩:=j0 T au;obtain⟨l,p,m,rfl⟩:=T.f;clear T au ar;by_cases E:k<D d
 ·obtain⟨b,o,rfl,-⟩:=(N.h P.O).rows e6 a8;have H:=a6 (λf(g:a9 w f)=>show f.cell? ⟨b,o+k*4+2,J⟩=So (I M d[k].err)/\f.cell? ⟨b,o+k*4+3,J⟩=So (Y d[k].text)from⟨(N.h g).l E (r:=2) rfl,(N.h g).l E (r:=3) rfl⟩);have F:=W k E;have bd:D ((d.take k).map (x9 ⟨h,j,sec,key,val⟩))=k:=by rw[i1,m4,Nat.min_eq_left S]
  generalize d[k]=x at*;generalize(d.take k).map (x9 ⟨h,j,sec,key,val⟩)=ys at*;rw[ax x]at F;obtain⟨bm,bn,t,u⟩:=x;dsimp only at H F;have az:=a6 F;have k0:(0:Int)<=k:=a8;have k1:(k:Int)<D d:=a8;have bc:D ys+1<=1000000:=a8;obtain⟨z,L⟩:=j0 (λf(g:GA 49 h9 (Z l p m).ownBlock w (Z l p m) ys [⟨h,j,t,u⟩] wr f)=>P.grown g.g (λk e=>(s.lt e).1)) (λf(g:GA 49 h9 (Z l p m).ownBlock w (Z l p m) ys [⟨h,j,t,u⟩] wr f)=>y.grown g.g (λe=>s.ne y e6 e.symm));clear F bd W;go_wp2_with fail;refine wpIn_wide.1 (cB (R:=(GA 49 h9 (Z l p m).ownBlock w (Z l p m) ys [⟨h,j,t,u⟩])) (n:=1) ?_);iterate 16 (apply D7;focus (intro x f g;simp only[g0,g5,uV];(repeat intro bb;try simp only[bb]);have bl:=(L f g).cell 0;have br:=(L f g).cell 1;have bs:=(H f (z f g)).1;have bt:=(H f (z f g)).2;gi_wp2_with fail;exact dn rfl rfl (L6.refl _)))
  refine r7 ((q8 #[Y h,I M j,I M t,Y u])) ?_ ?_;·intro x f g;simp only[g0,g5,uV,q8,q7];intro B;simp only[B];gi_wp2_with fail;refine e8 ?_ rfl (GA.f ((a9.refl f).alloc _));exact⟨f,rfl,e7.new _ _ _,λe=>by have:=((g.old s.O).lt e).2;omega⟩
  refine r7 ((q7 wr)) ?_ ?_;·intro x f g;simp only[g0,g5,uV,q8,q7];rintro A⟨ao,C,av,bf⟩;simp only[A,C];gi_wp2_with(gi_at_builtin;refine a2F rfl _ _ 38 49 rfl P0 w (Z l p m) ys rfl (g.old s.O) ao 1 1 [⟨h,j,t,u⟩] rfl rfl (i5.f av rfl) bc (z f g).size ?_;intro bp bq bg bh bi bj bk);refine e8 ?_ rfl (⟨bh,λ_=>bi,bj⟩);exact⟨bg,bk.imp id (λq b aq=>by have:=q b aq;have:=g.g.size;omega)⟩
  intro x f g;simp only[n9,g0,g5,uV,q8,q7];rintro A aa ag ah ai aj ak al am an ab ac ad ae af B⟨ao,C,av,bf⟩⟨be,bo⟩;simp only[A,aa,ag,ah,ai,aj,ak,al,am,an,ab,ac,ad,ae,af,B,C];clear A aa ag ah ai aj ak al am an ab ac ad ae af B C;gi_wp2;go_wp2;go_roundw;exact⟨k+1,E,o3,by rw[az.O];exact be,L f g,z f g⟩;simp[intOf];omega
 obtain rfl:k=D d:=a8;have k1:¬(D d:Int)<D d:=a8;go_wp2;go_ret;exact⟨_,rfl,by rw[ay.O];exact s.O,P.O⟩
abbrev a1S:List UInt8:=[83,121,115,116,101,109,67,97,108,108,65,114,99,104,105,116,101,99,116,117,114,101,115]
abbrev a1U:List UInt8:=[82,101,115,116,114,105,99,116,65,100,100,114,101,115,115,70,97,109,105,108,105,101,115]
abbrev a1T:List UInt8:=[82,101,115,116,114,105,99,116,78,97,109,101,115,112,97,99,101,115]
abbrev YG:List UInt8:=[77,101,109,111,114,121,68,101,110,121,87,114,105,116,101,69,120,101,99,117,116,101]
abbrev YH:List UInt8:=[76,111,99,107,80,101,114,115,111,110,97,108,105,116,121]
abbrev YF:List UInt8:=[82,101,115,116,114,105,99,116,82,101,97,108,116,105,109,101]
abbrev a1V:List UInt8:=[78,111,78,101,119,80,114,105,118,105,108,101,103,101,115]
def U9(s:g4):Bool:=s==mQ||s==mR||s==mP||s==pY
theorem EM(s:g4):Q7 s=(s==sD||s==sF||s==sE||U9 s):=by unfold Q7 U9;rw[E0];cases s==sD<;>cases s==sF<;>cases s==sE<;>cases s==mQ<;>cases s==mR<;>cases s==mP<;>cases s==pY<;>rfl
theorem IC(s:g4)(W:Wd):Ca prog 117 #[Y s] W λe g=>e=X (O (U9 s))/\g=W:=by
 have a:U9 s=(s.toList==YG||s.toList==YH||s.toList==YF||s.toList==a1V):=by unfold U9;rw[A9,A9,A9,A9];rfl
 generalize U9 s=R at*;go_in;cases b:s.toList==YG<;>cases c:s.toList==YH<;>cases d:s.toList==YF<;>cases f:s.toList==a1V;all_goals rw[b,c,d,f]at a;go_wp2;go_ret;exact⟨by rw[a];rfl,rfl⟩
theorem a3q(s:g4)(W:Wd):Ca prog 61 #[Y s] W λe g=>e=X (O (Q7 s))/\g=W:=by
 have a:Q7 s=(s.toList==a1S||s.toList==a1U||s.toList==a1T||U9 s):=by rw[EM,A9,A9,A9];rfl
 have f:=a6 (IC s);generalize Q7 s=R at*;generalize U9 s=h at*;go_in;cases b:s.toList==a1S;cases c:s.toList==a1U;cases d:s.toList==a1T;·rw[b,c,d]at a;go_wp2_with fail;apply ZG (f _);go_wp2;go_ret;exact⟨by rw[a];simp,rfl⟩
 all_goals
  first
   |rw[b,c,d]at a
   |rw[b,c]at a
   |rw[b]at a
  go_wp2;go_ret;exact⟨by rw[a];simp,rfl⟩
theorem nI(a:m8)(e:Int)(t:g4)(w:Wd):Ca prog 122 #[Ag (z8.c a).toArray,I M e,Y t] w λr s=>r=X (Ag #[Y a.file,I M a.line,I M e,Y (j9 t)])/\a9 w s:=by
 obtain⟨b,c,sec,key,val⟩:=a;have k:=a6 (hY t);generalize j9 t=j at*;show Ca prog 122 #[Ag #[Y b,I M c,Y sec,Y key,Y val],I M e,Y t] w _;obtain⟨i,l,o⟩:=r6 ((e7.new w 89 #[Y b,I M c,Y sec,Y key,Y val]).alloc (U #[Y ⟨#[]⟩,I M 0,I M 0,Y ⟨#[]⟩] 49)) (e7.new (w.alloc (U #[Y b,I M c,Y sec,Y key,Y val] 89)) 49 #[Y ⟨#[]⟩,I M 0,I M 0,Y ⟨#[]⟩]) (((a9.refl w).alloc (U #[Y b,I M c,Y sec,Y key,Y val] 89)).alloc (U #[Y ⟨#[]⟩,I M 0,I M 0,Y ⟨#[]⟩] 49));go_in;go_wp2_with fail;refine wpIn_wide.1 (aO (n:=1) ?_);repeat(apply D7;focus (intro x h d;simp only[g0,g5,uV];(repeat intro f;try simp only[f]);have u:=(i.h d).cell 0;have G:=(i.h d).cell 1;gi_wp2_with(refine⟨trivial,?_⟩;gi_at_call 63;apply ZS ((Cw (n:=0)).2 (k h)));exact dn rfl rfl (a9.refl _)))
 intro x h d;simp only[n9,g0,o7,uV];repeat(intro f;try simp only[f];clear f)
 have N:e7 h (w+1) 49 #[Y ⟨#[]⟩,I M 0,I M 0,Y ⟨#[]⟩]:=by have:=l.h d;simpa using this
 have v:=N.frozen 0;have y:=N.frozen 1;have z:=N.frozen 2;have A:=N.frozen 3;obtain⟨B,C,E,F⟩:=N.c4;have m:=a6 ((((N.f 0 (Y b)).f 1 (I M c)).f 2 (I M e)).f 3 (Y j));have g:w<=w.heap.size+1:=Nat.le_succ _;have q:=a6 (((((o.trans d).set (p:=⟨w+1,0,J⟩) g (Y b)).set (p:=⟨w+1,1,J⟩) g (I M c)).set (p:=⟨w+1,2,J⟩) g (I M e)).set (p:=⟨w+1,3,J⟩) g (Y j));clear N;gi_wp2_with fail;go_wp2_with fail;exact F9 m underlying49 ⟨rfl,q.O⟩
theorem a58(n:Int)(xs:o5)(k:Nat)(a:k<D xs):p9 (xs.drop k) n=(if xs[k]==n then []else [xs[k]])++p9 (xs.drop (k+1)) n:=by rw[List.drop_eq_getElem_cons a];unfold p9;rw[List.filter_cons];cases xs[k]==n<;>rfl
theorem IB(q:p1)(c:Nat)(xs:o5)(n:Int)(w:Wd)(R:D xs<=100000)(t:i5 w q (B6.row xs)):
 Ca prog 180 #[Z q (D xs) c,I M n] w λe z=>∃v,e=X v/\c7 z w 3 B6 v (p9 xs n)/\a9 w z:=by
 obtain⟨h,f⟩:∃h,h=p9 xs n:=⟨_,rfl⟩;rw[<-f];obtain⟨s,a,A⟩:=r6 t f (λk u=>a58 n xs k u);clear t f;go_wp2;go_loopw [5,6] (λv i wr=>∃(k:Nat)(ys:o5),k<=D xs/\i=I M k/\h=ys++p9 (xs.drop k) n/\D ys<=k/\c7 wr w 3 B6 v ys/\a9 w wr) (λ_ i _=>D xs-(intOf i).toNat);exact⟨0,[],c6 _,rfl,a.O,a7 _,c7.nil _ _ _ _,.refl _⟩;obtain⟨k,ys,u,rfl,f,S,p,y⟩:=hrel;obtain⟨a,m,d⟩:=r6 f p y;obtain⟨G,T,L,rfl⟩:=p.f;clear f p y;by_cases l:k<D xs
 ·obtain⟨b,o,rfl,-⟩:=(s.h d.O).rows e6 a8;have B:=(s.h d.O).l l (r:=0) rfl;have g:=A k l;generalize xs[k]=x at*;simp only[B6,j8,Nat.mul_one]at B;have k0:(0:Int)<=k:=a8;have k1:(k:Int)<D xs:=a8;have C:D ys+1<=1000000:=a8;rcases j:x==n with _|_
  ·rw[j]at g;have a:=a6 (show h=(ys++[x])++p9 (xs.drop (k+1)) n by rw[a.O,g,p6];rfl);have N:(x !=n)=Bt:=by rw[bne,j];rfl
   have P:¬x=n:=by simpa using j
   clear g;go_wp2_with(at_builtin;refine h8 rfl (Tm 19) (Tm 24) 28 3 rfl gB w _ ys rfl (m.h ((a9.refl _).alloc _)) _ 1 1 [x] rfl rfl (i5.f (e7.new _ _ _) rfl) C (d.alloc _).size ?_;intro W aa E F Q H);go_roundw;exact⟨k+1,_,l,o3,a.O,by simp;omega,E,F w (d.alloc _) (a7 _)⟩;simp[intOf];omega
  rw[j]at g;have a:=a6 (show h=ys++p9 (xs.drop (k+1)) n by rw[a.O,g];rfl);obtain rfl:x=n:=by simpa using j
  clear g;go_wp2;go_roundw;exact⟨k+1,ys,l,o3,a.O,a8,m.O,d.O⟩;simp[intOf];omega
 obtain rfl:k=D xs:=a8;have a:=a6 (a.trans (show ys++p9 (xs.drop (D xs)) n=ys by rw[List.drop_length];exact List.append_nil ys));have k1:¬(D xs:Int)<D xs:=a8;go_wp2;go_ret;exact⟨_,rfl,by rw[a.O];exact m.O,d.O⟩
theorem a4s{a:o5}{n:Int}{k:Nat}(m:a.Pairwise (·<·))(i:k<=D a)(d:∀j(b:j<D a),j<k->a[j]<n)(f:∀b:k<D a,¬a[k]<n):CR a n=k:=by
 refine a4G _ k _ _ _ (λj c=> ?_) (c6 _) i (a7 _);have e:a.getD j 0=a[j]:=by simp[b9,c]
 rw[decide_eq_true_iff,e];refine⟨λb=>Nat.lt_of_not_le λl=> ?_,λb=>d j c b⟩;have g:=f a8;rcases Nat.lt_or_eq_of_le l with h|rfl
 have:=List.pairwise_iff_getElem.1 m k j a8 c h;omega;exact g b
theorem bM{l:o5}(h:l.Pairwise (·<·))(n:Int):(p9 l n).Pairwise (·<·):=h.sublist List.filter_sublist
theorem HN{l:o5}(a:l.Pairwise (·<·))(n:Int){k:Nat}(d:k<=D (p9 l n))(b:∀j(a:j<D (p9 l n)),j<k->(p9 l n)[j]<n)(c:∀a:k<D (p9 l n),¬(p9 l n)[k]<n):withT l n Bt=((p9 l n).take k++[n])++(p9 l n).drop k:=by unfold withT;rw[if_pos rfl,a4s (bM a n) d b c];unfold P4;simp
theorem i5.tail{w:Wd}{d:p1}{xs:o5}{c k:Nat}(a:i5 w d (B6.row xs))(i:k<=D xs)(h:D xs<=c){B:p1}(f:∀b o,d=So ⟨b,o,J⟩->B=if c=k then So ⟨b,o,J⟩else So ⟨b,o+k,J⟩):i5 w B (B6.row (xs.drop k)):=by
 by_cases e:k=D xs;rw[e,List.drop_length];exact λj u g=>by simp[s7.row]at g
 obtain⟨b,o,rfl,-⟩:=a.rows e6 a8;rw[f b o rfl,if_neg a8];rw[s2 M B6 (λ_=>rfl)]at a⊢;have:=a.drop k;rwa[show(l8 M xs).drop k=l8 M (xs.drop k) by unfold l8;rw[List.map_drop]]at this
theorem SU(W:p1)(c:Nat)(xs:o5)(n:Int)(w:Wd)(br:D xs<=100000)(ba:xs.Pairwise (·<·))(E:i5 w W (B6.row xs)):
 Ca prog 177 #[Z W (D xs) c,I M n] w λe be=>∃v,e=X v/\c7 be w 3 B6 v (withT xs n Bt)/\a9 w be:=by
 obtain⟨R,A⟩:∃R,R=withT xs n Bt:=⟨_,rfl⟩;rw[<-A];obtain⟨bl,an⟩:=j0 (λk z bp s=>A.trans (HN ba n (k:=k) z bp s)) (IB W c xs n w br E);have bw:=V1 xs n;generalize p9 xs n=a at*;clear E A ba;go_in;go_wp2_with fail;apply an.mono;rintro e f⟨v,rfl,ai,bi⟩;have aw:=ai;obtain⟨aa,T,rfl,bs,-,E⟩:=ai.inM;have bj:=a6 (show(aa=J/\T=0/\D a=0)\/∃g,aa=So ⟨g,0,J⟩ by
  obtain⟨_,_,_,s⟩:=aw;rcases s.2 with⟨ak,z⟩|⟨g,cap,cur,ak,-⟩
  injection ak with m e2 e3
  exact .inl ⟨m,e3,z⟩;injection ak with m
  exact .inr ⟨g,m⟩)
 clear aw;obtain⟨S,y,ab⟩:=r6 E bi bs;clear ai E bi an;go_wp2;go_loopw [6] (λi wr=>∃k:Nat,k<=D a/\i=I M k/\(∀j(d:j<D a),j<k->a[j]<n)/\a9 f wr) (λi _=>D a-(intOf i).toNat);exact⟨0,c6 _,rfl,λj d s=>a8,.refl _⟩;obtain⟨k,af,rfl,az,u⟩:=hrel;obtain⟨al,h⟩:=j0 az u;have k0:(0:Int)<=k:=a8;clear az u;obtain⟨q,ay⟩:∃q:Bool,q=Bt↔∃d:k<D a,a[k]<n:=⟨Dc (∃d:k<D a,a[k]<n),i3⟩;have Q:=a6 ay;clear ay;go_upto_region 3 with fail;go_cut [22] (λb bu=>b=O q/\bu=wr)
 ·by_cases t:k<D a
  ·obtain⟨b,o,rfl,-⟩:=(S.h h.O).rows e6 a8;have bm:=(S.h h.O).l t (r:=0) rfl;simp only[B6,j8,Nat.mul_one]at bm;have am:=a6 (show q=Bt↔a[k]<n from Q.trans ⟨λ⟨_,d⟩=>d,λd=>⟨t,d⟩⟩);generalize a[k]=x at*;have k1:(k:Int)<D a:=a8;have bn:Dc (k<D a)=Bt:=decide_eq_true t;by_cases u:x<n;·have m:q=Bt:=am.2 u;have bo:Dc (x<n)=Bt:=decide_eq_true u;subst m;go_wp2;go_meet;exact⟨rfl,rfl⟩
   have m:q=Bf:=Bool.eq_false_iff.2 λd=>u (am.1 d)
   have bo:Dc (x<n)=Bf:=decide_eq_false u;subst m;go_wp2;go_meet;exact⟨rfl,rfl⟩
  have m:q=Bf:=Bool.eq_false_iff.2 λd=>t (Q.1 d).1
  have bn:Dc (k<D a)=Bf:=decide_eq_false t;subst m;go_wp2;go_meet;exact⟨rfl,rfl⟩
 obtain⟨rfl,rfl⟩:=hcut;cases q;rotate_left
 ·obtain⟨t,bt⟩:=Q.1 rfl;have bk:=a6 (show∀j(d:j<D a),j<k+1->a[j]<n from λj d s=>by
   rcases Nat.lt_or_eq_of_le (Nat.le_of_lt_succ s)with bq|rfl
   exact al j d bq;exact bt)
  go_wp2;go_roundw;exact⟨k+1,t,o3,bk.O,h.O⟩;simp[intOf];omega
 have A:=bl k af al λd=>Int.not_lt.1 λs=>by cases Q.2 ⟨d,s⟩
 have ae:=a6 (A.trans (show(a.take k++[n])++a.drop k=(([]++a.take k)++[n])++a.drop k by rw[List.nil_append]));clear A;have aj:D (a.take k)=k:=by rw[m4,Nat.min_eq_left af]
 have bv:D (a.drop k)=D a-k:=List.length_drop;have ad:=a6 (show i5 f aa (B6.row (a.take k)) by rw[s2 M B6 (λ_=>rfl),show l8 M (a.take k)=(l8 M a).take k by unfold l8;rw[List.map_take],<-s2 M B6 (λ_=>rfl)];exact S.take k)
 have ac:=a6 (λB=>i5.tail (B:=B) S af ab.O);have bz:(k:Int)<=T:=by have:=ab.O;omega
 have ag:D ([]:o5)+k<=1000000:=by simp;omega
 have ah:D ([]++a.take k)+1<=1000000:=by simp;omega
 have bx:D (([]++a.take k)++[n])+(D a-k)<=1000000:=by simp;omega
 have kn:(k:Int)<=D a:=a8;refine bj.elim (λd=> ?_) λd=> ?_
 ·obtain⟨rfl,rfl,z⟩:=d;obtain rfl:k=0:=a8;obtain rfl:a=[]:=List.eq_nil_of_length_eq_zero z;clear z;go_wp2_with(first
   |(at_builtin;refine h8 rfl (Tm 25) (Tm 28) 28 3 rfl gB f _ [] rfl (c7.nil _ _ _ _) _ _ _ (List.take 0 []) rfl aj (ad.h h.O) ag h.size ?_;intro bb bf F L ar ao;have p:=L f h (a7 _))
   |(at_builtin;refine h8 rfl (Tm 30) (Tm 32) 28 3 rfl gB f _ _ rfl (F.h ((a9.refl _).alloc _)) _ 1 1 [n] rfl rfl (i5.f (e7.new _ _ _) rfl) ah (p.alloc _).size ?_;intro bc bg G N au ap;have l:=N f (p.alloc _) (a7 _))
   |(at_builtin;refine h8 rfl (Tm 34) (Tm 37) 28 3 rfl gB f _ _ rfl G _ _ _ (List.drop 0 []) rfl i3 ((ac _ (λb o e=>(nomatch e))).h l) (by simp<;>omega) l.size ?_;intro bd bh H P av aq;have C:=P f l (a7 _)))
  go_ret;exact⟨_,rfl,by rw[ae.O];exact H.mono y.size,y.trans C⟩
 obtain⟨g,rfl⟩:=d;by_cases ax:T=k
 ·subst ax;obtain rfl:T=D a:=by have:=ab.O;omega
  go_wp2_with(first
   |(at_builtin;refine h8 rfl (Tm 25) (Tm 28) 28 3 rfl gB f _ [] rfl (c7.nil _ _ _ _) _ _ _ (List.take (D a) a) rfl aj (ad.h h.O) ag h.size ?_;intro bb bf F L ar ao;have p:=L f h (a7 _))
   |(at_builtin;refine h8 rfl (Tm 30) (Tm 32) 28 3 rfl gB f _ _ rfl (F.h ((a9.refl _).alloc _)) _ 1 1 [n] rfl rfl (i5.f (e7.new _ _ _) rfl) ah (p.alloc _).size ?_;intro bc bg G N au ap;have l:=N f (p.alloc _) (a7 _))
   |(at_builtin;refine h8 rfl (Tm 34) (Tm 37) 28 3 rfl gB f _ _ rfl G _ _ _ (List.drop (D a) a) rfl i3 ((ac _ (λb o e=>(by cases e;simp))).h l) (by simp<;>omega) l.size ?_;intro bd bh H P av aq;have C:=P f l (a7 _)))
  go_ret;exact⟨_,rfl,by rw[ae.O];exact H.mono y.size,y.trans C⟩
 go_wp2_with(first
  |(at_builtin;refine h8 rfl (Tm 25) (Tm 28) 28 3 rfl gB f _ [] rfl (c7.nil _ _ _ _) _ _ _ (List.take k a) rfl aj (ad.h h.O) ag h.size ?_;intro bb bf F L ar ao;have p:=L f h (a7 _))
  |(at_builtin;refine h8 rfl (Tm 30) (Tm 32) 28 3 rfl gB f _ _ rfl (F.h ((a9.refl _).alloc _)) _ 1 1 [n] rfl rfl (i5.f (e7.new _ _ _) rfl) ah (p.alloc _).size ?_;intro bc bg G N au ap;have l:=N f (p.alloc _) (a7 _))
  |(at_builtin;refine h8 rfl (Tm 34) (Tm 37) 28 3 rfl gB f _ _ rfl G _ _ _ (List.drop k a) rfl i3 ((ac _ (λb o e=>(by cases e;simp[ax]))).h l) (by simp<;>omega) l.size ?_;intro bd bh H P av aq;have C:=P f l (a7 _)))
 go_ret;exact⟨_,rfl,by rw[ae.O];exact H.mono y.size,y.trans C⟩
def YC(c:Int):Bool:=Dc (c<=32)||decide (127<=c)||c==47
theorem a0Y(s:g4):P9 s=if s.size<6\/60<s.size then Bf else if(s.extract (s.size-5) s.size).toList !=[46,99,111,110,102]then Bf else Dc (∀j,j<s.size->YC (p5 s j)=Bf):=by
 unfold P9;by_cases b:s.size<6;rw[if_pos b,if_pos (.inl b)];rw[if_neg b];by_cases c:60<s.size;rw[if_pos c,if_pos (.inr c)];rw[if_neg c,if_neg (a8:¬(s.size<6\/60<s.size))];have h:=Lib.size_eq s;have f:(s.extract (s.size-5) s.size).toList=s.data.toList.drop (D s.data.toList-5):=by rw[Lib.toList_data,ByteArray.data_extract,Array.toList_extract,List.extract_eq_take_drop,<-h];exact List.take_of_length_le (by rw[List.length_drop];omega)
 have g:Lib.hasSuffix s.data.toList iT.data.toList=((s.extract (s.size-5) s.size).toList==[46,99,111,110,102]):=by rw[f,Bool.eq_iff_iff,beq_iff_eq];unfold Lib.hasSuffix;rw[List.isSuffixOf_iff_suffix,List.suffix_iff_eq_drop];exact eq_comm
 rw[g];unfold bne;cases(s.extract (s.size-5) s.size).toList==[46,99,111,110,102];rfl;rw[if_neg e6];show _=decide _;rw[Bool.eq_iff_iff,Bool.not_eq_true',decide_eq_true_eq,List.any_eq_false];have d:∀j(a:j<D s.data.toList),rE s.data.toList[j].toNat=YC (p5 s j):=λj a=>by rw[jB s j a];unfold rE YC;rw[Bool.eq_iff_iff];simp only[Bool.or_eq_true,decide_eq_true_eq,beq_iff_eq];omega
 constructor;intro a j e;rw[<-d j a8];exact Bool.eq_false_iff.2 (a _ (g3 _));intro a x i;obtain⟨j,e,rfl⟩:=List.getElem_of_mem i;rw[d j e,a j a8];decide
theorem TC(s:g4)(E:s.size<=1000000)(W:Wd):Ca prog 33 #[Y s] W λe z=>e=X (O (P9 s))/\z=W:=by
 have b:=a0Y s;generalize P9 s=R at*;go_in;by_cases d:s.size<6\/60<s.size
 ·have a:=a6 (b.trans (if_pos d));clear b;rcases d with d|d
  ·have o:(s.size:Int)<6:=a8;go_wp2;go_ret;exact⟨by rw[a.O];rfl,rfl⟩
  have o:Dc ((s.size:Int)<6)=Bf:=by simp;omega
  have y:Dc ((60:Int)<s.size)=Bt:=by simp;omega
  go_wp2;go_ret;exact⟨by rw[a.O];rfl,rfl⟩
 rw[if_neg d]at b;obtain⟨m,v⟩:∃m,s.size=m+5:=⟨s.size-5,a8⟩;have o:Dc ((m:Int)+5<6)=Bf:=by simp;omega
 have y:Dc ((60:Int)<(m:Int)+5)=Bf:=by simp;omega
 have G:IntKind.i64.wrap ((m:Int)+5-5)=m:=by rw[(a8:(m:Int)+5-5=m)];exact h7 _ a8
 have F:(m:Int)<=(m:Int)+5:=a8;rw[v,Nat.add_sub_cancel]at b;unfold bne at b;obtain⟨p,w⟩:∃p,((s.extract m (m+5)).toList==[46,99,111,110,102])=p:=⟨_,rfl⟩;rw[w]at b;clear d;cases p;·have a:=a6 (b.trans (if_pos rfl));clear b;go_wp2;go_ret;exact⟨by rw[a.O];rfl,rfl⟩
 have a:=a6 (b.trans (if_neg e6));clear b;go_wp2;go_loopw [3] (λx wr=>wr=W/\∃k:Nat,k<=m+5/\x=I M k/\∀j<k,YC (p5 s j)=Bf) (λx _=>m+5-(intOf x).toNat);exact⟨rfl,0,c6 _,rfl,λj g=>a8⟩;obtain⟨rfl,k,B,rfl,l⟩:=hrel;have h:=a6 l;clear l;by_cases n:k<m+5
 ·obtain⟨c,i,A,-,k9,-⟩:=LW (a8:k<s.size) a8;have C:(k:Int)<(m:Int)+5:=a8;have k0:(0:Int)<=k:=a8;have f:YC c=(Dc (c<=32)||decide (127<=c)||c==47):=rfl;cases q:Dc (c<=32)<;>cases r:Dc (127<=c)<;>cases t:c==47
  ·rw[q,r,t]at f;have u:=a6 f;clear f;go_wp2;go_roundw;exact⟨by trivial,k+1,n,o3,λj g=>by
   by_cases e:j=k;rw[e,i.O];exact u.O;exact h j a8⟩
   simp[intOf];omega
  all_goals rw[q,r,t]at f;have a:=a6 (a.trans (decide_eq_false λg=>by have:=g k n;rw[i.O,f]at this;cases this));clear f;go_wp2;go_ret;exact⟨by rw[a.O];rfl,rfl⟩
 obtain rfl:k=m+5:=a8;have a:=a6 (a.trans (decide_eq_true h.O));go_wp2;go_ret;exact⟨by rw[a.O];rfl,rfl⟩
section
open Go.Shelf Go.Sort Go.MapKept
section
variable {α:Type} {nm:α->ByteArray}
theorem WC(s:g4)(l:List α)(i:Nat):nT id s (l.map nm) i=nT nm s l i:=nS (nb:=id) nm (λ_=>rfl) s l i
theorem JL(s:g4)(x:α):∀(l:List α)(i:Nat),nT nm s (l++[x]) i=match nT nm s l i with|some j=>So j|none=>if s==nm x then So (i+D l)else J
 |[],i=>rfl
 |p::l,i=>by simp only[List.cons_append,nT];split;rfl;rw[JL s x l (i+1),i4,(a8:i+1+D l=i+(D l+1))]
theorem eL(l:List α)(x:α)(s:g4):V5 nm (O8 nm l x) s=if nm x=s then So x else V5 nm l s:=by
 unfold O8 V5;cases hi:nT nm (nm x) l 0 with
 |none=>
  dsimp only
  rw[JL]
  cases c:nT nm s l 0 with
  |none=>
   dsimp only
   by_cases e:nm x=s
   ·rw[if_pos e,if_pos ((bytes_beq _ _).2 e.symm)]
    simp
   ·rw[if_neg e,if_neg (λh=>e ((bytes_beq _ _).1 h).symm)]
    rfl
  |some j=>
   obtain⟨_,n,a,d⟩:=kH s l 0 j c
   have f:=(List.getElem?_eq_some_iff.1 a).1
   have e:¬nm x=s:=λe=>by rw[e,c]at hi;cases hi
   rw[if_neg e]
   show(l++[x])[j]? =l[j]?
   exact List.getElem?_append_left a8
 |some i=>
  dsimp only
  obtain⟨_,n,a,d⟩:=kH _ l 0 i hi
  rw[Nat.sub_zero]at a
  have f:=(List.getElem?_eq_some_iff.1 a).1
  have m:(l.set i x).map nm=l.map nm:=by
   rw[List.map_set]
   refine List.ext_getElem? λj=> ?_
   rw[List.getElem?_set]
   split
   ·rename_i e
    subst e
    rw[List.getElem?_map,a]
    simp[d,f]
   ·rfl
  rw[<-WC s (l.set i x),m,WC]
  by_cases e:nm x=s
  ·subst e
   rw[hi,if_pos rfl]
   show(l.set i x)[i]? =So x
   rw[List.getElem?_set_self f]
  ·rw[if_neg e]
   cases c:nT nm s l 0 with
   |none=>rfl
   |some j=>
    obtain⟨_,z,b,k⟩:=kH s l 0 j c
    rw[Nat.sub_zero]at b
    refine List.getElem?_set_ne λg=>e ?_
    subst g
    rw[a]at b
    injection b with b
    rw[<-d,b,k]
theorem UZ{l:List α}(d:(l.map nm).Nodup)(f:α):f∈l↔V5 nm l (nm f)=So f:=by
 unfold V5;constructor
 ·intro a;cases hi:nT nm (nm f) l 0 with
  |none=>exact absurd rfl (pZ _ l 0 hi f a)
  |some i=>
   obtain⟨_,e,b,c⟩:=kH _ l 0 i hi
   rw[Nat.sub_zero]at b
   rw[eI nm d (List.mem_of_getElem? b) a c]at b
   exact b
 intro a;obtain⟨i,_,a⟩:=Option.bind_eq_some_iff.1 a;exact List.mem_of_getElem? a
end
def KE(s:g4)(b:Option g9)(x:g9):Option g9:=if x.name=s then(match b with|none=>So x|some o=>if x.dir<o.dir then So x else b)else b
theorem OM(l:List g9)(x:g9)(s:g4):V5 g9.name (L9 l x) s=KE s (V5 g9.name l s) x:=by
 unfold L9 KE;by_cases e:x.name=s
 ·subst e;rw[if_pos rfl];cases a:V5 g9.name l x.name with
  |none=>rw[eL,if_pos rfl]
  |some o=>
   dsimp only
   split
   ·rw[eL,if_pos rfl]
   ·exact a
 rw[if_neg e];split;rw[eL,if_neg e];split;rw[eL,if_neg e];rfl
def ZF(ds:List g9)(s:g4):Option g9->Prop
 |none=>∀f∈ds,f.name≠s
 |some f=>∃i,ds[i]? =So f/\f.name=s/\∀(k:Nat)(a:g9),ds[k]? =So a->a.name=s->f.dir<a.dir\/f.dir=a.dir/\i<=k
theorem hP{ds:List g9}{x a:g9}{k:Nat}(h:(ds++[x])[k]? =So a):ds[k]? =So a\/k=D ds/\a=x:=by
 rcases Nat.lt_trichotomy k (D ds) with q|q|q
 rw[List.getElem?_append_left q]at h;exact .inl h;subst q;simp at h;exact .inr ⟨rfl,h.symm⟩;rw[List.getElem?_eq_none G6]at h;cases h
theorem GE{ds:List g9}{a:g9}{k:Nat}(h:ds[k]? =So a):k<D ds:=(List.getElem?_eq_some_iff.1 h).1
theorem PM(ds:List g9)(x:g9)(s:g4)(b:Option g9)(g:ZF ds s b):ZF (ds++[x]) s (KE s b x):=by
 have m:(ds++[x])[D ds]? =So x:=i3;have n:∀{k a},ds[k]? =So a->(ds++[x])[k]? =So a:=λ{k a} q=>by rw[List.getElem?_append_left (GE q)];exact q
 unfold KE;by_cases e:x.name=s;rw[if_pos e];rcases b with _|o
 refine⟨_,m,e,λk a d c=> ?_⟩;rcases hP d with q|⟨rfl,rfl⟩
 exact absurd c (g a (List.mem_of_getElem? q));exact .inr ⟨rfl,a7 _⟩;obtain⟨i,h,l,j⟩:=g;dsimp only;have hi:=GE h;split;rename_i r;refine⟨_,m,e,λk a d c=> ?_⟩;rcases hP d with q|⟨rfl,rfl⟩
 have:=j k a q c;omega;exact .inr ⟨rfl,a7 _⟩;refine⟨i,n h,l,λk a d c=> ?_⟩;rcases hP d with q|⟨rfl,rfl⟩
 exact j k a q c;omega;rw[if_neg e];rcases b with _|o
 intro f p;rcases List.mem_append.1 p with q|q
 exact g f q;rw[List.mem_singleton.1 q];exact e;obtain⟨i,h,l,j⟩:=g;refine⟨i,n h,l,λk a d c=> ?_⟩;rcases hP d with q|⟨rfl,rfl⟩
 exact j k a q c;exact absurd c e
theorem qP(s:g4):∀r:List g9,ZF r.reverse s (V5 g9.name (z7 r.reverse) s)
 |[]=>λf h=>by cases h
 |x::r=>by rw[List.reverse_cons,dU,OM];exact PM _ x s _ (qP s r)
theorem dS:∀r:List g9,((z7 r.reverse).map g9.name).Nodup
 |[]=>List.nodup_nil
 |x::r=>by rw[List.reverse_cons,dU];exact lD _ x (dS r)
def v5(ds:List g9)(i:Nat)(f:g9):Prop:=∀(k:Nat)(a:g9),ds[k]? =So a->a.name=f.name->f.dir<a.dir\/f.dir=a.dir/\i<=k
theorem uN(ds:List g9)(f:g9):f∈z7 ds↔∃i,ds[i]? =So f/\v5 ds i f:=by
 have e:=dS ds.reverse;have a:=qP f.name ds.reverse;rw[List.reverse_reverse]at e a;rw[UZ e];constructor;intro h;rw[h]at a;obtain⟨i,b,_,c⟩:=a;exact⟨i,b,c⟩;rintro⟨i,b,k⟩;cases d:V5 g9.name (z7 ds) f.name with
 |none=>rw[d]at a;exact absurd rfl (a f (List.mem_of_getElem? b))
 |some g=>
  rw[d]at a
  obtain⟨j,c,l,m⟩:=a
  have n:=k j g c l
  have o:=m i f b rfl
  obtain rfl:i=j:=a8
  rw[b]at c
  exact c.symm
def pA(l:List g9):Prop:=l.Pairwise λa b=>a.name.toList<b.name.toList
theorem EJ{l:List g9}(h:pA l):(l.map g9.name).Nodup:=by rw[List.Nodup,List.pairwise_map];exact h.imp λ{a b} q e=>by rw[e]at q;exact List.lt_irrefl _ q
theorem TY(ds l:List g9)(g:pA l)(j:∀f,f∈l↔∃i,ds[i]? =So f/\v5 ds i f):l=lE (z7 ds):=by
 have c:=dS ds.reverse;rw[List.reverse_reverse]at c;have h:∀{l:List g9},(l.map g9.name).Nodup->l.Nodup:=λ{l} q=>(List.pairwise_map.1 q).imp λd e=>d (congrArg _ e)
 refine hO g9.name (((List.perm_ext_iff_of_nodup (h (EJ g)) (h c)).2 λa=>(j a).trans (uN ds a).symm).trans (D3 _ (jK g9.name) _).symm) ?_ ?_ (W7 _ (jK g9.name) _);exact(((D3 _ (jK g9.name) (z7 ds)).map g9.name).nodup_iff).2 c;refine g.imp λ{a b} q=> ?_
 rw[XW];exact decide_eq_false λd=>List.lt_irrefl _ (List.lt_trans q d)
def a18(ds:List g9)(i:Nat)(f:g9)(j:Nat):Prop:=∀(k:Nat)(a:g9),k<j->ds[k]? =So a->a.name=f.name->f.dir<a.dir\/f.dir=a.dir/\i<=k
def a1O(a f:g9)(j i:Nat):Bool:=a.name.toList==f.name.toList&&(Dc (a.dir<f.dir)||a.dir==f.dir&&Dc (j<i))
theorem sU(a b:g4):a.toList=b.toList↔a=b:=⟨λe=>by have:=congrArg List.toArray e;rw[Lib.toList_data,Lib.toList_data]at this;exact ByteArray.ext (by simpa using this),λe=>by rw[e]⟩
theorem PI{ds:List g9}{i j:Nat}{f a:g9}{b:Bool}(o:b=Bt↔a18 ds i f j)(n:ds[j]? =So a):(b&& !a1O a f j i)=Bt↔a18 ds i f (j+1):=by
 have key:a1O a f j i=Bf↔(a.name=f.name->f.dir<a.dir\/f.dir=a.dir/\i<=j):=by rw[<-Bool.not_eq_true];unfold a1O;simp only[j3,Bool.or_eq_true,beq_iff_eq,decide_eq_true_eq,sU];constructor;intro q e;by_cases g:a.dir<f.dir;exact absurd ⟨e,.inl g⟩ q;by_cases h:a.dir=f.dir/\j<i;exact absurd ⟨e,.inr h⟩ q;omega;rintro q⟨e,m⟩;have:=q e;omega
 rw[j3,Bool.not_eq_true',key,o];constructor;rintro⟨g,h⟩ k d l c m;rcases Nat.lt_or_eq_of_le (Nat.le_of_lt_succ l)with p|rfl
 exact g k d p c m;rw[n]at c;injection c with c;subst c;exact h m
 intro q;exact⟨λk d l=>q k d (Nat.lt_succ_of_lt l),q j a (Nat.lt_succ_self j) n⟩
theorem XV{ds:List g9}{i:Nat}{f:g9}{b:Bool}(d:b=Bt↔a18 ds i f (D ds)):b=Bt↔v5 ds i f:=
 d.trans ⟨λq k a c=>q k a (GE c) c,λq k a _ c=>q k a c⟩
theorem SL{pre post:List g9}{x:g9}(h:pA (pre++post))(i:∀d∈post,x.name.toList<d.name.toList)(j:∀q d,pre=q++[d]->¬x.name.toList<d.name.toList)(k:∀d∈pre,d.name≠x.name):pA (pre++x::post):=by
 obtain⟨a,b,c⟩:=List.pairwise_append.1 h;have l:∀d∈pre,d.name.toList<x.name.toList:=by
  rcases List.eq_nil_or_concat pre with rfl|⟨q,z,rfl⟩
  exact λd h=>nomatch h
  rw[List.concat_eq_append]at*;have f:z.name.toList<x.name.toList:=by
   refine List.not_le.1 λg=> ?_
   rcases List.le_iff_lt_or_eq.1 g with g|g
   exact j q z rfl g;exact k z i3 ((sU _ _).1 g.symm)
  intro d e;rcases List.mem_append.1 e with e|e
  exact List.lt_trans ((List.pairwise_append.1 a).2.2 d e z i3) f;rw[List.mem_singleton.1 e];exact f
 refine List.pairwise_append.2 ⟨a,List.pairwise_cons.2 ⟨i,b⟩,λd e z f=> ?_⟩;rcases List.mem_cons.1 f with rfl|f
 exact l d e;exact c d e z f
theorem TZ{ds l pre post:List PF}{k:Nat}{x:PF}(n:pA (l.map j5))(m:∀p,p∈l↔∃i,i<k/\ds[i]? =So p/\v5 (ds.map j5) i (j5 p))(b:ds[k]? =So x)(j:v5 (ds.map j5) k (j5 x))(v:l=pre++post)
 (t:∀p∈post,x.1.name.toList<p.1.name.toList) (u:∀q p,pre=q++[p]->¬x.1.name.toList<p.1.name.toList):pA ((pre++x::post).map j5)/\∀p,p∈pre++x::post↔∃i,i<k+1/\ds[i]? =So p/\v5 (ds.map j5) i (j5 p):=by
 have h:∀{i:Nat}{p:PF},ds[i]? =So p->(ds.map j5)[i]? =So (j5 p):=λs=>by rw[List.getElem?_map,s];rfl
 subst v;refine⟨?_,λp=> ?_⟩;rw[List.map_append,List.map_cons];rw[List.map_append]at n;refine SL n (λo d=> ?_) (λq o e=> ?_) λo d e=> ?_
 obtain⟨p,c,rfl⟩:=List.mem_map.1 d;exact t p c;rcases List.eq_nil_or_concat pre with rfl|⟨r,p,rfl⟩
 simp at e;rw[List.concat_eq_append,List.map_append]at e;obtain⟨-,e⟩:=List.append_inj' e rfl;simp at e;rw[<-e];exact u r p (List.concat_eq_append ..);obtain⟨p,c,rfl⟩:=List.mem_map.1 d;obtain⟨i,f,a,g⟩:=(m p).1 (List.mem_append_left _ c);have y:=g k _ (h b) e.symm;have z:=j i _ (h a) e;omega;have e:p∈pre++x::post↔p∈pre++post\/p=x:=by rw[List.mem_append,List.mem_cons,List.mem_append,or_assoc];exact or_congr_right or_comm
 rw[e,m p];constructor;rintro(⟨i,f,a⟩|rfl);exact⟨i,a8,a⟩;exact⟨k,a8,b,j⟩;rintro⟨i,f,a,g⟩;rcases Nat.lt_or_eq_of_le (Nat.le_of_lt_succ f)with w|rfl
 exact .inl ⟨i,w,a,g⟩;rw[b]at a;injection a with a;exact .inr a.symm
end
def jO(w:Wd)(g o:Nat):List Va->Wd
 |[]=>w
 |v::r=>jO (w.setCell ⟨g,o,J⟩ v) g (o+1) r
theorem T4{a:Wd}{g:Nat}(b:a<=g):∀(cs:List Va){w:Wd}{o:Nat},a9 a w->a9 a (jO w g o cs)
 |[],_,_,h=>h
 |v::r,_,_,h=>T4 b r (h.set b v)
theorem zB{c:Type}(L r:List c)(o:Nat)(v:c)(g:o<D L):splice (splice L o [v]) (o+1) r=splice L o (v::r):=by
 obtain⟨b,x,C,rfl,rfl⟩:∃b x C,L=b++x::C/\o=D b:=⟨L.take o,L[o],L.drop (o+1),by rw[<-List.drop_eq_getElem_cons g,List.take_append_drop],by simp;omega⟩;have e:splice (b++x::C) (D b) [v]=b++v::C:=by simpa using M5 b [x] C [v] rfl
 rw[e];unfold splice;have d:∀(z:c) n,(b++z::C).drop (D b+(n+1))=C.drop n:=λz n=>by rw[<-List.drop_drop,List.drop_left];rfl
 have f:(b++v::C).take (D b+1)=b++[v]:=by rw[(i3:b++v::C=(b++[v])++C),<-List.length_singleton (a:=v),<-g1,List.take_left]
 rw[f,List.take_left,i4,d x,(a8:D b+1+D r=D b+(D r+1)),d v];simp
theorem oU{g:Nat}{t:Ti}:∀(cs:List Va){w:Wd}{o:Nat}{L:List Va},e7 w g t L.toArray->o+D cs<=D L->e7 (jO w g o cs) g t (splice L o cs).toArray
 |[],w,o,L,h,_=>by unfold splice;simpa[jO]using h
 |v::r,w,o,L,h,hl=>by rw[i4]at hl;have a:=h.splice1 o v G6;rw[List.toList_toArray]at a;rw[<-zB L r o v a8];exact oU r a (by rw[M4 _ _ _ G6];omega)
theorem c7.setE{b:Type}{E:s7 b}{w:Wd}{base n c g i:Nat}{e:Ti}{xs:List b}(q:c7 w base e E (Z g n c) xs)(hi:i<D xs)(x:b):c7 (jO w g (i*E.k) (E.c x)) base e E (Z g n c) (xs.set i x):=by
 obtain⟨r,cs,Jq,a,p,l,B,h,j,k,d⟩:=q.blk a8;injection a with a
 injection a with a
 subst a p;have m:=E.len x;have s:i*E.k+E.k<=D xs*E.k:=by rw[<-Nat.succ_mul];exact Nat.mul_le_mul_right _ hi
 have f:=oU (E.c x) (o:=i*E.k) (L:=E.row xs++Jq) (by rw[<-d];exact B) (by rw[g1,E.row_length,m];omega);rw[row_set xs i x Jq hi]at f;refine c7.mk2 l f (by rw[List.length_set]) h j ?_ rfl;have:=congrArg List.length d;rw[g1,E.row_length,Array.length_toList,k]at this;rw[List.size_toArray,g1,E.row_length,List.length_set];omega
theorem c7.n_eq{a:Type}{E:s7 a}{w:Wd}{base n c:Nat}{e:Ti}{b:p1}{xs:List a}(d:c7 w base e E (Z b n c) xs):n=D xs:=by obtain⟨_,_,f,_⟩:=d;injection f
theorem yS{b:Type}(pre post:List b)(a x:b):((pre++a::x::post).set (D pre+1) a).set (D pre) x=pre++x::a::post:=by
 induction pre with
 |nil=>rfl
 |cons p pre ih=>simp only[List.cons_append,i4,List.set_cons_succ,ih]
theorem R5{w:Wd}{e:p1}{l:List s8}(c:i5 w e (q9.row l)){k:Nat}(d:k<D l):∃b a,e=So ⟨b,a,J⟩/\w.cell? ⟨b,a+k*3,J⟩=So (Y l[k].name)/\w.cell? ⟨b,a+k*3+1,J⟩=So (I M l[k].dir)/\w.cell? ⟨b,a+k*3+2,J⟩=So (Z l[k].A l[k].n l[k].c):=by obtain⟨b,a,rfl,-⟩:=c.rows e6 a8;exact⟨b,a,rfl,c.l d (r:=0) rfl,c.l d (r:=1) rfl,c.l d (r:=2) rfl⟩
def a5l(u:PF)(ds a:List PF):Prop:=∀p∈a,p=u\/p∈ds
theorem TA(u:PF)(bh:p1)(c:Nat)(ds:List PF)(w:Wd)(br:i5 w bh (q9.row (ds.map (·.1))))(cb:∀p∈ds,p.1.name.size<=1000000)(ed:D ds<=1000):
 Ca prog 32 #[p7 u.1,Z bh (D ds) c] w λe ci=>∃v,e=X (Tp #[v,I M (r1 (j5 u) (ds.map j5)).2])/\∃bg:List PF,c7 ci w 24 q9 v (bg.map λp:PF=>p.1)/\bg.map j5=(r1 (j5 u) (ds.map j5)).1/\a5l u ds bg/\a9 w ci:=by
 have bs:r1 (j5 u) (ds.map j5)=if 16<D ds then([],4)else if(ds.any λp=> !P9 p.1.name)=Bt then([],140)else(j5 u::lE (z7 (ds.map j5)),0):=by
  unfold r1;rw[i1];split;rfl;have:=nV (λf:g9=> !P9 f.name) (ds.map j5) 0;rw[List.any_map]at this;change _=ds.any λp=> !P9 p.1.name at this
  by_cases q:0<=Q0 (λf:g9=> !P9 f.name) (ds.map j5) 0;rw[if_pos q,if_pos (this.symm.trans (decide_eq_true q))];rw[if_neg q,if_neg (by have e:=this.symm.trans (decide_eq_false q);exact λd=>by rw[show ds.any (λp=> !P9 p.1.name)=Bf from e]at d;cases d)]
 generalize r1 (j5 u) (ds.map j5)=R at*;obtain⟨r,Q,cv,aj⟩:=F6 bs br cb (show(ds.map λp:PF=>p.1).length=D ds from i1 _);have cf:=(a9.refl w).alloc (U #[Y u.1.name,I M u.1.dir,Z u.1.A u.1.n u.1.c] 24);have ad:=a6 cf;have bj:=e7.new w 24 #[Y u.1.name,I M u.1.dir,Z u.1.A u.1.n u.1.c];obtain⟨dc,b1,b2⟩:=bj.c3;unfold p7;clear bs br cb cf bj;go_in;by_cases aw:16<D ds;·have r:=a6 (r.trans (if_pos aw));have aw:(16:Int)<D ds:=a8;go_wp2;go_ret2;exact⟨_,by rw[r.O];rfl,[],c7.nil _ _ _ _,by rw[r.O];rfl,λp d=>(nomatch d),ad.O⟩
 replace r:=a6 (r.trans (if_neg aw));have dy:¬(16:Int)<D ds:=a8;go_upto_block 0 with fail;generalize w.alloc (U #[Y u.1.name,I M u.1.dir,Z u.1.A u.1.n u.1.c] 24)=w0 at*;go_wp2;go_loopw [6] (λx wr=>wr=w0/\∃k:Nat,k<=D ds/\x=I M k/\∀j(d:j<D ds),j<k->P9 ds[j].1.name=Bt) (λx _=>D ds-(intOf x).toNat);exact⟨rfl,0,c6 _,rfl,λj _ d=>a8⟩;obtain⟨rfl,k,dm,rfl,P⟩:=hrel;have t:=a6 P;clear P;by_cases z:k<D ds
 ·obtain⟨b,bf,rfl,dd,-⟩:=R5 (Q.h ad.O) (k:=k) (by rw[aj.O];exact z);rw[List.getElem_map]at dd;have N:=a6 (TC ds[k].1.name (cv _ (g3 z)) wr);have bx:(k:Int)<D ds:=a8;have k0:(0:Int)<=k:=a8;cases ag:P9 ds[k].1.name<;>rw[ag]at N;·have r:=a6 (r.trans (if_pos (List.any_eq_true.2 ⟨_,g3 z,by rw[ag];rfl⟩)));generalize ds[k].1.name=s at*;clear ag;go_wp2_with fail;apply N.mono;rintro e aq⟨rfl,rfl⟩;go_wp2;go_ret2;exact⟨_,by rw[r.O];rfl,[],c7.nil _ _ _ _,by rw[r.O];rfl,λp d=>(nomatch d),ad.O⟩
  have C:=a6 ag;generalize ce:ds[k].1.name=s at*;have S:=a6 ce;clear ag ce;go_wp2_with fail;apply N.mono;rintro e aq⟨rfl,rfl⟩;go_wp2;go_roundw;exact⟨by trivial,k+1,z,o3,λj d y=>by
  by_cases e:j=k;subst e;rw[S.O];exact C.O;exact t j d a8⟩
  simp[intOf];omega
 obtain rfl:k=D ds:=a8;have r:=a6 (r.trans (if_neg λd=>by obtain⟨p,bb,q⟩:=List.any_eq_true.1 d;obtain⟨j,ay,rfl⟩:=List.getElem_of_mem bb;rw[t j ay ay]at q;cases q))
 clear t;have bq:=e7.new wr 24 #[Y u.1.name,I M u.1.dir,Z u.1.A u.1.n u.1.c];obtain⟨A,ac⟩:=j0 (c7.ofBlk1 (E:=q9) (x:=u.1) bq ad.size e6) (ad.alloc (U #[Y u.1.name,I M u.1.dir,Z u.1.A u.1.n u.1.c] 24));clear bq;go_upto_block 2 with fail;generalize wr.alloc (U #[Y u.1.name,I M u.1.dir,Z u.1.A u.1.n u.1.c] 24)=aq at*;generalize wr.heap.size=ec at*;clear dc b1 b2 ad;go_wp2;go_loopw [7,8] (λv x wr=>∃(k:Nat)(l:List PF),k<=D ds/\x=I M k/\D l<=k/\pA (l.map j5)/\(∀p,p∈l↔∃i,i<k/\ds[i]? =So p/\v5 (ds.map j5) i (j5 p))/\c7 wr w 24 q9 v (u.1::l.map λp:PF=>p.1)/\a9 w wr) (λ_ x _=>D ds-(intOf x).toNat);exact⟨0,[],c6 _,rfl,a7 _,.nil,λp=>⟨λd=>(nomatch d),λ⟨i,d,_⟩=>absurd d (Nat.not_lt_zero i)⟩,A.O,ac.O⟩;obtain⟨k,l,dm,rfl,dp,bd,ba,n,ah⟩:=hrel;obtain⟨du,ej,co,rfl⟩:=n.f;obtain⟨A,ac,ak,ab⟩:=F6 n ah bd ba;have k0:(0:Int)<=k:=a8;by_cases z:k<D ds
 ·have bx:(k:Int)<D ds:=a8;clear n bd ba;go_upto_block 4 with fail;go_cut [9,10] (λx h dt=>∃b:Bool,x=O b/\(b=Bt↔v5 (ds.map j5) k (j5 ds[k]))/\∃G,dt=wr.drewN G)
  ·have dn:=z;obtain⟨b,bf,rfl,T,aa,-⟩:=R5 (Q.h ac.O) (k:=k) (by rw[aj.O];exact z);rw[List.getElem_map]at T aa;obtain⟨ct,ai⟩:=j0 (And.intro T aa) (show∀j(d:j<D ds),(ds.map j5)[j]? =So (j5 ds[j])from λj d=>by rw[List.getElem?_map,e9 d];rfl);generalize dj:ds[k]=f at*;clear dn dj T aa;go_wp2;go_loopw [9,10] (λx h W'=>∃(j:Nat)(b:Bool)(G:Nat),j<=D ds/\h=I M j/\x=O b/\(b=Bt↔a18 (ds.map j5) k (j5 f) j)/\W'=wr.drewN G) (λ_ h _=>D ds-(intOf h).toNat);exact⟨0,Bt,0,c6 _,rfl,rfl,⟨λ_ k a d=>absurd d (Nat.not_lt_zero k),λ_=>rfl⟩,rfl⟩;obtain⟨j,b1,G,ay,rfl,rfl,L,rfl⟩:=hrel;have t:=a6 L;have ee:(0:Int)<=j:=a8;clear L;by_cases az:j<D ds
   ·have dl:(j:Int)<D ds:=a8;obtain⟨_,_,e,da,db,-⟩:=R5 (Q.h ac.O) (k:=j) (by rw[aj.O];exact az);cases e;rw[List.getElem_map]at da db;have S:=a6 (PI t (ai j az));generalize ds[j]=a at*;obtain⟨T,aa⟩:=ct.O;have C:=a6 (show a1O (j5 a) (j5 f) j k=(a.1.name.toList==f.1.name.toList&&(Dc (a.1.dir<f.1.dir)||a.1.dir==f.1.dir&&Dc (j<k)))from rfl);clear az;rcases al:a.1.name.toList==f.1.name.toList with _|_
    rotate_left
    rcases am:Dc (a.1.dir<f.1.dir)with _|_
    rcases df:a.1.dir==f.1.dir with _|_
    rotate_left
    rcases dg:Dc (j<k)with _|_
    all_goals
     rw[al]at C;try rw[am]at C
     try rw[df]at C
     try rw[dg]at C
     rw[C.O]at S;go_wp2_with fail;go_quiet (fail)
     go_wp2;go_roundw;exact⟨j+1,_,_,a8,o3,rfl,by simpa using S.O,rfl⟩;simp[intOf];omega
   obtain rfl:j=D ds:=a8;have dl:¬(D ds:Int)<D ds:=a8;have N:=a6 (XV (by rw[i1];exact t.O));go_wp2;go_meet;exact⟨b1,rfl,N.O,G,rfl⟩
  obtain⟨b,rfl,L,G,rfl⟩:=hcut;obtain⟨av,t⟩:=j0 (ac.drewN G) L;clear L;cases b
  ·have cw:=a6 (show∀p,p∈l↔∃i,i<k+1/\ds[i]? =So p/\v5 (ds.map j5) i (j5 p)from λp=>(ab p).trans ⟨λ⟨i,H,y⟩=>⟨i,a8,y⟩,λ⟨i,H,y,P⟩=>⟨i,by
    rcases Nat.lt_or_eq_of_le (Nat.le_of_lt_succ H)with dh|rfl
    exact dh;rw[e9 z]at y;injection y with y
    subst y;exact absurd (t.2 P) e6,y,P⟩⟩)
   go_wp2;go_roundw;exact⟨k+1,l,a8,o3,a8,ak.O,cw.O,A.h ((a9.refl _).drewN G),av.O⟩;simp[intOf];omega
  have bu:=t.1 rfl;obtain⟨b,bf,rfl,T,aa,bp⟩:=R5 (Q.h av.O) (k:=k) (by rw[aj.O];exact z);rw[List.getElem_map]at T aa bp;have bv:ds[k]? =So ds[k]:=e9 z;generalize ds[k]=x at*;obtain⟨ai,N⟩:=j0 bv bu;have n:=A.h ((a9.refl wr).drewN G);have cc:D (u.1::l.map λp:PF=>p.1)+1<=1000000:=by rw[i4,i1];omega
  have be:=av.alloc (U #[Y x.1.name,I M x.1.dir,Z x.1.A x.1.n x.1.c] 24);clear bv bu t;go_upto_block 6 with(at_builtin;refine h8 rfl (Tm 86) (Tm 91) 25 24 rfl a2z w _ _ rfl (n.h ((a9.refl _).alloc _)) _ 1 1 [x.1] rfl rfl (i5.f (e7.new _ _ _) rfl) cc be.size ?_;intro es et ap cg dk di;have ch:=cg w be (a7 _);obtain⟨bi,dr,bo,rfl⟩:=ap.f;obtain rfl:dr=D l+2:=ap.n_eq.trans i3;have aq:IntKind.i64.wrap (((D l+2:Nat):Int)-1)=((D l+1:Nat):Int):=by(rw[(a8:((D l+2:Nat):Int)-1=((D l+1:Nat):Int))];exact h7 _ a8));obtain⟨cx,cz,dv⟩:=r6 ap ch dp;clear ap cg dk di ch n be cc T aa bp;have bn:=a6 (λpre post=>TZ (pre:=pre) (post:=post) ak ab ai N.O);clear Q ab ak N ai;go_wp2;go_loopw [11] (λh W'=>∃pre post:List PF,l=pre++post/\h=I M (D pre+1:Nat)/\(∀p∈post,x.1.name.toList<p.1.name.toList)/\c7 W' w 24 q9 (Z bi (D l+2) bo) (u.1::(pre++x::post).map λp:PF=>p.1)/\a9 w W') (λh _=>(intOf h).toNat);exact⟨l,[],i3,by first|rfl|exact congrArg _ a8,λp d=>(nomatch d),by simpa using cx.O,cz.O⟩;obtain⟨pre,post,bc,rfl,cd,n,ah⟩:=hrel;obtain⟨ar,au,A,bl⟩:=F6 bc cd n (show(pre++x::post).length<=k+1 by have:=congrArg List.length bc;simp at this⊢;omega);clear bc cd;rcases List.eq_nil_or_concat pre with rfl|⟨q,h,rfl⟩
  ·have ae:=a6 (bn _ _ ar au λq p d=>by simp at d);clear n;go_wp2_with fail;go_quiet (fail)
   go_wp2;go_roundw;exact⟨k+1,_,a8,o3,bl.O,ae.1,ae.2,A.h ((a9.refl _).drewN _),ah.drewN _⟩;simp[intOf];omega
  rw[List.concat_eq_append]at*;obtain⟨m,af⟩:∃m,D (q++[h])=m:=⟨_,rfl⟩;obtain⟨F,an⟩:∃F,F=u.1::q.map λp:PF=>p.1:=⟨_,rfl⟩
  have ao:D F=m:=by rw[an,<-af];simp
  have n:c7 wr w 24 q9 (Z bi (D l+2) bo) (F++h.1::x.1::post.map λp:PF=>p.1):=by rw[an];simpa using A.O
  have bz:m+1<D l+2:=by have:=n.n_eq;simp at this;omega
  obtain⟨b,bf,e,cn,cp,cq⟩:=R5 n.i.1 (k:=m) G6;obtain⟨_,_,de,cj,ck,cm⟩:=R5 n.i.1 (k:=m+1) G6;cases e;cases de;obtain⟨g,cs,-,e,-,bt,B,-⟩:=n.blk G6;cases e;have al:(F++h.1::x.1::post.map λp:PF=>p.1)[m]' G6=h.1:=by subst ao;simp
  have am:(F++h.1::x.1::post.map λp:PF=>p.1)[m+1]' G6=x.1:=by subst ao;simp
  rw[al]at cn cp cq;rw[am]at cj ck cm;rw[Nat.zero_add]at cn cp cq cj ck cm;rw[af];obtain⟨cy,bm,dw,Q,cu⟩:=Y2 n ao bz af an;have dq:0<m:=by rw[<-af];simp
  have dx:Dc (0<m)=Bt:=decide_eq_true dq;have dz:Dc ((1:Int)<(m:Int)+1)=Bt:=by simp;omega
  have ea:(1:Int)<(m:Int)+1:=a8;have eb:Dc (1<m+1)=Bt:=by simp;omega
  have aq:IntKind.i64.wrap (((m+1:Nat):Int)-1)=m:=by rw[(a8:((m+1:Nat):Int)-1=m)];exact h7 _ a8
  have ef:(0:Int)<=m:=a8;have eg:(m:Int)<((D l+2:Nat):Int):=a8;have eh:((m+1:Nat):Int)<((D l+2:Nat):Int):=a8;have ei:(0:Int)<=((m+1:Nat):Int):=a8;clear n af ao bz an al am;rcases L:Op.bytesLess x.1.name.toList h.1.name.toList with _|_
  ·have ae:=a6 (bn _ _ ar au λek p' d=>by obtain⟨-,d⟩:=List.append_inj' d rfl;cases d;rw[E7]at L;exact of_decide_eq_false L)
   go_wp2_with fail;go_quiet (fail)
   go_wp2;go_roundw;exact⟨k+1,_,a8,o3,bl.O,ae.1,ae.2,A.h ((a9.refl _).drewN _),ah.drewN _⟩;simp[intOf];omega
  have ca:=of_decide_eq_true ((E7 _ _).symm.trans L);have t:=a6 ca;have bw:m+1<D (F++h.1::x.1::post.map λp:PF=>p.1):=by rw[<-bm.O];simp
  have S:=a6 (yS F (post.map λp:PF=>p.1) h.1 x.1);rw[bm.O]at S;have bk:=a6 (λW(ax:a9 wr W)=>((cy.h ax).setE bw h.1).setE (i:=m) (by rw[List.length_set];omega) x.1);rw[S.O]at bk;have cr:=a6 (λW(ax:a9 w W)=>T4 bt (q9.c x.1) (o:=m*3) (T4 bt (q9.c h.1) (o:=(m+1)*3) ax));have el:=B.frozen (m*3);have em:=B.frozen (m*3+1);have en:=B.frozen (m*3+2);have eo:=B.frozen ((m+1)*3);have ep:=B.frozen ((m+1)*3+1);have er:=B.frozen ((m+1)*3+2);clear ca B bw;go_wp2_with fail;go_quiet (fail)
  go_wp2_with fail;go_region
  go_wp2;go_roundw;exact⟨q,h::post,by rw[ar.O];simp,by rw[show D q+1=m by rw[<-Q.O];simp],List.forall_mem_cons.2 ⟨t.O,au.O⟩,by
  rw[show(u.1::(q++x::h::post).map λp:PF=>p.1)=F++x.1::h.1::post.map λp:PF=>p.1 by rw[cu.O];simp];exact bk _ ((a9.refl _).drewN _),cr _ (ah.drewN _)⟩
  simp[intOf]
 obtain rfl:k=D ds:=a8;have bx:¬(D ds:Int)<D ds:=a8;have C:=a6 (show(u::l).map j5=j5 u::lE (z7 (ds.map j5)) by rw[List.map_cons,TY (ds.map j5) (l.map j5) ak λf=> ?_];constructor;intro d;obtain⟨p,bb,rfl⟩:=List.mem_map.1 d;obtain⟨i,_,H,y⟩:=(ab p).1 bb;exact⟨i,by rw[List.getElem?_map,H];rfl,y⟩;rintro⟨i,H,y⟩;rw[List.getElem?_map]at H;obtain⟨p,P,rfl⟩:=Option.map_eq_some_iff.1 H;exact List.mem_map_of_mem ((ab p).2 ⟨i,(List.getElem?_eq_some_iff.1 P).1,P,y⟩))
 clear n bd ba;go_wp2;go_ret2;exact⟨_,by rw[r.O];rfl,u::l,A.O,by rw[r.O];exact C.O,λq d=>(List.mem_cons.1 d).imp id λd=>let⟨i,_,H,_⟩:=(ab q).1 d;List.mem_of_getElem? H,ac.O⟩
end Go.Proofs.YtcljlejgllkcjaaGreat
