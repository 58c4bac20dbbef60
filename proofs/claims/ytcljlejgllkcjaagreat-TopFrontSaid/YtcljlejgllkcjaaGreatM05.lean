/- A part of the proof of TopFront: lemmas on the walks of its calls. -/
import Derived.Test.YtcljlejgllkcjaaGreatM04
set_option maxHeartbeats 12000000
set_option linter.all false
set_option maxRecDepth 100000
namespace Go.Proofs.YtcljlejgllkcjaaGreat
open Go.RowKit Go.ChangeShapes Go.WideShapes Tryz
open Bool renaming and_eq_true→j3,true→Bt,false→Bf
open Decidable renaming decide→Dc
open Ending renaming returned→X
open Go renaming World→Wd,Value→Va,Calls→Ca,undef→Un,TypeId→Ti,Addr→Ad,Program→Pg,wpListIn→Wl,callsIn_of_wp→Co,CallsIn→Ci
open IntKind renaming i64→M,u32→V,u16→U1
open IntWalk renaming i64_in→h7
open List renaming getD_eq_getElem?_getD→b9,getElem?_eq_getElem→e9,take_succ_eq_append_getElem→g2,range→m9,length_take→m4,replicate→p4,length→D
open Nat renaming le_refl→a7,zero_le→c6
open Obj renaming cells→U
open Option renaming none→J,some→So
open Value renaming int→I,slice→Z,pointer→K,bool→O,func→Fc
def G3(l:List Bool):Array Va:=(l.map O).toArray
theorem L3(l:List Bool)(k:Nat)(a:k<D l):(G3 l)[k]? =So (O l[k]):=by simp[G3,a]
theorem aE(l:List Bool)(k:Nat)(b:Bool):(G3 l).setIfInBounds k (O b)=G3 (l.set k b):=by simp[G3,List.map_set]
theorem tY:(prog.info? 4).map (λi=>(i.zero,i.size,i.bytes))=So (So (O Bf),1,1):=g6
theorem uX(n:Nat):madeCells #[O Bf] n=G3 (p4 n Bf):=by apply Array.toList_inj.1;rw[toList_madeCells_one];simp[G3]
theorem iK{s:Sy}{a n:Int}(c:N9 s a n):(dV s.code).1.cls=if s.code=32 then 1 else if s.code=84 then 3 else if s.code=6 then 5 else 4:=by
 rcases c with⟨b,_,_,_⟩|⟨b,_,_⟩|⟨b,_,_⟩|⟨b,_,_,_⟩|⟨b,_,_⟩
 rw[b];kernel_rfl;rw[b];kernel_rfl;rw[b];kernel_rfl;rw[b];kernel_rfl;rcases b with b|b|b|b<;>rw[b]<;>kernel_rfl
theorem wJ(s:Sy)(b:(dV s.code).1.cls=4)(W:Wd):Ca prog 402 #[s.val] W λe g=>e=X (O (s.code !=5))/\a9 W g:=by have a:=a6 (λW'=>K9 s.code W');rw[b]at a;clear b;obtain⟨co,k,th,el⟩:=s;unfold Sy.val Sy.cells;dsimp only at*;have f:=(a9.refl W).alloc (U #[I U1 co,I V k,I M th,I M el] 417);have d:=e7.new W 417 #[I U1 co,I V k,I M th,I M el];go_in;go_wp2_with fail;refine l4 (a _) λm c=>?_;have b1:=d.h c;obtain⟨h,i,j,l⟩:=(b1).c4;go_wp2;go_ret;exact⟨rfl,f.trans c⟩
theorem a02{a:List Sy}(d:C5 a){k:Nat}(f:k<D a)(b:(a.getD k i0).code≠6):k+1<D a:=by
 have c:=d.last;have:k≠D a-1:=λe=>b (by rw[e];exact c)
 omega
theorem UB(av:p1)(n c:Nat)(b:List Sy)(w:Wd)(Q:D b=n)(ae:C5 b)(bc:i5 w av (sc b)):
 Ca prog 403 #[Z av n c] w λe bj=>e=X (Z w n n)/\e7 bj w 4 (G3 (eA b))/\a9 w bj:=by
 have cp:1<=n:=by have:=ae.l1;omega
 have cq:n<=131072:=by have:=ae.l2;omega
 have cj:∀w:Wd,(Instr.makeSlice 444 (I M (n:Int)) (I M (n:Int))).run prog w= .ok (Z w n n) (w.alloc (U (G3 (p4 n Bf)) 4)):=λw=>by rw[<-uX];exact J3 444 4 (O Bf) 1 underlying444 tY rfl M M n n (a7 _) a8 e6 w
 obtain⟨aw,ax,ay,bl⟩:=F6 bc Q ae (λk=>(L4 b k).trans Q);have aj:F1 b 0=(p4 n Bf).set 0 Bt:=by unfold F1;rw[Q];rfl
 obtain⟨bz,bm⟩:=j0 aj (show eA b=F1 b n from by unfold eA;rw[Q]);have ai:=e7.new w 4 (G3 (p4 n Bf));have bp:=(ai.cell 0).trans (L3 (p4 n Bf) 0 G6);have bq:=ai.frozen 0;have af:e7 (w.alloc (U ((G3 (p4 n Bf)).setIfInBounds 0 (O Bt)) 4)) w 4 (G3 (F1 b 0)):=by
  have a:=e7.new w 4 ((G3 (p4 n Bf)).setIfInBounds 0 (O Bt));have e:(G3 (p4 n Bf)).setIfInBounds 0 (O Bt)=G3 (F1 b 0):=by rw[aE,aj]
  unfold e7 at a⊢;rw[a,e]
 obtain⟨af,bn⟩:=j0 af ((a9.refl w).alloc (U ((G3 (p4 n Bf)).setIfInBounds 0 (O Bt)) 4));have cr:(0:Int)<n:=a8;have cs:(n:Int)<=131072:=a8;clear bc Q ae aj ai;go_in;go_wp2_with fail;clear bp bq;go_loopw [13] (λan W=>∃k:Nat,k<=n/\an=I M k/\a9 w W/\e7 W w 4 (G3 (F1 b k))) (λan _=>n-(intOf an).toNat);exact⟨0,c6 _,rfl,bn.O,af.O⟩;obtain⟨k,cg,rfl,al,H⟩:=hrel;by_cases bs:k<n
 ·have P:k<D b:=by rw[ax.O];exact bs
  obtain⟨cb,ct,rfl,br⟩:=oP aw a8;obtain⟨bt,bu,bv,bw⟩:=G7 (aw.h al) P;have h:=E3 (ay.one k P);have v:=iK h;have r:=a02 ay P;have bi:=bO b k;have ci:=bl k;have k1:(0:Int)<=k:=a8;have k2:(k:Int)<n:=a8;have k3:(k:Int)<=131072:=a8;have ac:=λa=>rG h b (F1 b k) k rfl a
  have bb:(F1 b k).getD k Bf=Bf->dX b (F1 b k) k=F1 b k:=λa=>by unfold dX;rw[a];rfl
  rw[ax.O]at h r;have ak:=(H.cell k).trans (L3 (F1 b k) k a8);have be:(F1 b k).getD k Bf=(F1 b k)[k]' a8:=by rw[b9,e9 a8];rfl
  rw[<-be]at ak;rw[nX P]at h v r ac;have C:=a6 bi;clear bi be;generalize bf:F1 b k=l at*;generalize b[k]=s at*;obtain⟨co,kk,th,el⟩:=s;dsimp only at bt bu bv bw v r ac;have ba:=e7.new wr 417 #[I U1 co,I V kk,I M th,I M el];have S:=al.alloc (U #[I U1 co,I V kk,I M th,I M el] 417);have z:=H.alloc (U #[I U1 co,I V kk,I M th,I M el] 417);have bd:=((z.cell k).trans ((H.cell k).symm.trans ak));have bg:w≠wr.heap.size:=by have:=H.lt;omega
  obtain⟨ah,ag,ca⟩:=r6 ac bb bf;clear bb ac bf ak br P;rcases A:l.getD k Bf with _|_
  ·have d:=ag A;rw[A]at bd;have j:=a6 d;clear d A ag ah;go_wp2;go_roundw;exact⟨k+1,a8,o3,S,by rw[C.O,j.O];exact z⟩;simp[intOf];omega
  have d:=ah A;rw[A]at bd;clear ag ah A;by_cases f:co=6;·rw[if_pos f]at d;have j:=a6 d;subst f;clear d r v h;go_wp2;go_roundw;exact⟨k+1,a8,o3,S,by rw[C.O,j.O];exact z⟩;simp[intOf];omega
  have ce:(co==6)=Bf:=by simpa using f
  rw[if_neg f]at d;by_cases o:co=32\/co=84
  ·rw[if_pos o]at d;have j:=a6 d;have ch:k+1<n:=r f;obtain⟨q,bh,ck⟩:∃q:Int,(dV co).1.cls=q/\(q !=4)=Bt:=by
    rcases o with a|a
    exact⟨1,by rw[a];kernel_rfl,rfl⟩;exact⟨3,by rw[a];kernel_rfl,rfl⟩
   have x:=a6 (λW'=>K9 co W');rw[bh]at x;have k4:(k:Int)+1<n:=a8;clear d r v h o f bh;go_wp2_with fail;refine l4 (x _) λbk i=>?_;have g:=z.h i;have aa:=(g.cell (k+1)).trans (L3 l (k+1) a8);have ab:=g.frozen (k+1);go_wp2;go_roundw;have R:=g.f (k+1) (O Bt);rw[aE]at R;exact⟨k+1,a8,o3,(S.trans i).set (p:=⟨w,k+1,J⟩) (a7 _) _,by rw[C.O,j.O];exact R⟩;simp[intOf];omega
  have F:co≠32:=λa=>o (.inl a)
  have G:co≠84:=λa=>o (.inr a)
  rw[if_neg o]at d;have ad:(dV co).1.cls=4:=by rw[v,if_neg F,if_neg G,if_neg f]
  obtain⟨x,az⟩:=j0 (λW'=>K9 co W') (λW'=>wJ ⟨co,kk,th,el⟩ ad W');rw[ad]at x;obtain⟨t,rfl,cm⟩:∃t:Nat,th=t/\t<n:=by
   rcases h with⟨a,_,_,_⟩|⟨a,_,_⟩|⟨a,_,_⟩|⟨a,_,_,m⟩|⟨a,m,_⟩
   exact absurd a F;exact absurd a G;exact absurd a f;exact⟨th.toNat,by dsimp only at m;omega,by dsimp only at m;omega⟩;exact⟨th.toNat,by dsimp only at m;omega,by dsimp only at m;omega⟩
  have cu:(0:Int)<=t:=a8;have cv:(t:Int)<n:=a8;by_cases y:co=5;·rw[if_pos y]at d;have j:=a6 d;subst y;clear d r v h o f F G ad;go_wp2_with fail;refine l4 (x _) λbk i=>?_;have g:=z.h i;have aa:=(g.cell t).trans (L3 l t a8);have ab:=g.frozen t;have E:=ba.h i;have T:=E.far (p:=⟨w,t,J⟩) (Ne.symm bg) (O Bt);have L:=g.f t (O Bt);rw[aE]at L;have am:=(S.trans i).set (p:=⟨w,t,J⟩) (a7 _) (O Bt);have au:=E.cell 2;obtain⟨ao,ap,aq,ar⟩:=(T).c4;go_wp2_with fail;refine l4 (az _) λbx B=>?_;have N:=L.h B;clear aa ab au;go_wp2;go_roundw;exact⟨k+1,a8,o3,(am.trans B),by rw[C.O,j.O];exact N⟩;simp[intOf];omega
  rw[if_neg y]at d;have j:=a6 d;have cd:(co !=5)=Bt:=by simpa using y
  obtain⟨u,rfl,cn⟩:∃u:Nat,el=u/\u<n:=by
   rcases h with⟨a,_,_,_⟩|⟨a,_,_⟩|⟨a,_,_⟩|⟨a,_,_,m⟩|⟨a,_,m⟩
   exact absurd a F;exact absurd a G;exact absurd a f;exact absurd a y;exact⟨el.toNat,by dsimp only at m;omega,by dsimp only at m;omega⟩
  have cw:(0:Int)<=u:=a8;have cx:(u:Int)<n:=a8;clear d r v h o f F G ad y;go_wp2_with fail;refine l4 (x _) λbk i=>?_;have g:=z.h i;have aa:=(g.cell t).trans (L3 l t a8);have ab:=g.frozen t;have E:=ba.h i;have T:=E.far (p:=⟨w,t,J⟩) (Ne.symm bg) (O Bt);have L:=g.f t (O Bt);rw[aE]at L;have am:=(S.trans i).set (p:=⟨w,t,J⟩) (a7 _) (O Bt);have au:=E.cell 2;obtain⟨ao,ap,aq,ar⟩:=(T).c4;go_wp2_with fail;refine l4 (az _) λbx B=>?_;have N:=L.h B;clear aa ab au;have bo:=T.h B;clear ao ap aq ar;obtain⟨ao,ap,aq,ar⟩:=(bo).c4;have cc:=(N.cell u).trans (L3 (l.set t Bt) u (by rw[List.length_set];omega));have cf:=N.frozen u;go_wp2;go_roundw;have R:=N.f u (O Bt);rw[aE]at R;exact⟨k+1,a8,o3,(am.trans B).set (p:=⟨w,u,J⟩) (a7 _) _,by rw[C.O,j.O];exact R⟩;simp[intOf];omega
 obtain rfl:k=n:=a8;go_wp2;go_ret;exact⟨rfl,by rw[bm.O];exact H,al⟩
section
attribute [local go_sem] Oper.semAt_some
def ZO(s:Nat)(A:p1)(n c:Nat)(xs:List Va)(W W':Wd):Prop:=(W.cell? ⟨s,0,J⟩=So (Z A n c)->W'.cell? ⟨s,0,J⟩=So (Z A n c))/\(i5 W A xs->i5 W' A xs)
theorem ZO.trans{s:Nat}{d:p1}{n c:Nat}{xs:List Va}{a b f:Wd}(g:ZO s d n c xs a b)(k:ZO s d n c xs b f):ZO s d n c xs a f:=⟨λe=>k.1 (g.1 e),λe=>k.2 (g.2 e)⟩
theorem kU(n j:Nat)(b:j<n):(m9 n).reverse.take (n-j)=(m9 n).reverse.take (n-(j+1))++[j]:=by
 have a:n-(j+1)<D (m9 n).reverse:=by simp;omega
 rw[(a8:n-j=(n-(j+1))+1),g2 a];congr 2;rw[List.getElem_reverse,List.getElem_range];simp;omega
theorem PO(l s n c B:Nat)(d:p1)(a:List Sy)(C:D a=n)(ag:n<=1000000)(Jq:R8->Wd->Prop)(y:AbidesFrom B Jq)
 (z:∀pre x W,Jq pre W->x<n->D pre<n->YieldAt .wide 1 prog l #[I M (x:Nat),(a.getD x i0).val] W λe W'=>e=X (O Bt)/\Jq (pre++[x]) W'/\ZO s d n c (sc a) W W')
 (W:Wd) (g:W.cell? ⟨s,0,J⟩=So (Z d n c)) (b:i5 W d (sc a)) (u:Jq [] W):
 Ci .wide 2 prog 395 #[Fc (.yield l) #[] #[],K s] W λe W'=>(∃v,e=X v)/\∃xs:R8,xs=(m9 n).reverse/\Jq xs W':=by
 have H:=a6 C;have F:IntKind.i64.wrap ((n:Int)-1)=(n:Int)-1:=h7 _ a8;clear C;refine Co func395 rfl trivial ?_ rfl;simp only[ntmps395,uE,Nat.reduceAdd,Nat.reduceSub];gi_wp2;gi_loopw [3] (λi wr=>∃(k:Nat)(f:Int),k<=n/\f=(k:Int)-1/\i=I M f/\Jq ((m9 n).reverse.take (n-k)) wr/\wr.cell? ⟨s,0,J⟩=So (Z d n c)/\i5 wr d (sc a)) (λi _=>(intOf i+1).toNat);exact⟨n,_,a7 _,rfl,rfl,by rw[Nat.sub_self];exact u,g,b⟩;clear g b u;obtain⟨k,f,ah,m,rfl,h,g,b⟩:=hrel;rcases k with _|j
 ·have r:f= -1:=a8;subst r;rw[Nat.sub_zero,List.take_of_length_le i3]at h;clear m F;gi_wp2;go_end0;exact⟨⟨_,rfl⟩,_,rfl,h⟩
 have r:f=j:=a8;subst r;have p:j<n:=a8;have q:j<D a:=by rw[H.O];exact p
 obtain⟨b1,ai,rfl,P⟩:=oP b a8;obtain⟨ab,ac,ad,ae⟩:=G7 b q;have R:=a6 (kU n j p);have A:a.getD j i0=a[j]:=by rw[b9,e9 q];rfl
 have o:=a6 (λ(W:Wd)(Q:Jq ((m9 n).reverse.take (n-(j+1))) W)=>z _ j W Q p (by rw[m4];simp;omega));rw[A]at o;generalize a[j]=E at*;obtain⟨co,kk,th,el⟩:=E;simp only[Sy.val,Sy.cells]at o;have b3:(0:Int)<=j:=a8;have b4:(j:Int)<n:=a8;have aj:IntKind.i64.wrap ((j:Int)-1)=(j:Int)-1:=h7 _ a8;obtain⟨t,S,G⟩:=r6 (And.intro g b) y h;clear q z m A F b y h P;gi_wp2_with fail;obtain⟨af,tmps,T,aa,m,N⟩:=o _ G.O;rw[m];gi_wp2;apply N.mono;rintro e W3⟨rfl,L,w⟩;gi_wp2;go_roundw;exact⟨j,_,a8,rfl,rfl,by rw[R.O];exact L,w.1 t.1,w.2 t.2⟩;first|(simp[intOf];done)|(simp[intOf];omega)
theorem CU(a:p1)(n c:Nat)(w:Wd):
 Ci .wide 2 prog 317 #[Z a n c] w λe b=>e=X (Fc (.func 395) #[] #[K w])/\b=w.alloc (U #[Z a n c] 180):=by
 refine Co func317 rfl trivial ?_ rfl;simp only[ntmps317,uE,Nat.reduceAdd,Nat.reduceSub];gi_wp2;go_ret;exact⟨rfl,rfl⟩
theorem mD(s n c:Nat)(b:p1)(a:List Sy)(t:D a=n)(o:n<=1000000)(w:Wd)(u:s<w)
 (f:w.cell? ⟨s,0,J⟩=So (Z b n c)) (j:i5 w b (sc a)):
 aH .wide 2 prog 395 #[K s] (λi:Nat=> #[I M i,(a.getD i i0).val]) (λx _=>x<n) (ZO s b n c (sc a)) (λxs=>xs=(m9 n).reverse) n w:=λl Jq W d h m e=>by
 have g:=(d.cell (p:=⟨s,0,J⟩) u).trans f;have k:i5 W b (sc a):=j.h d;exact PO l s n c W b a t o Jq h (λpre x W q v r=>m pre x W q v r) W g k e
attribute [local go_sem] Oper.semAt_some
theorem PP(l s n c B:Nat)(d:p1)(a:List B7)(C:D a=n)(ag:n<=1000000)(Jq:R8->Wd->Prop)(y:AbidesFrom B Jq)
 (z:∀pre x W,Jq pre W->x<n->D pre<n->YieldAt .wide 1 prog l #[I M (x:Nat),(a.getD x a39).val] W λe W'=>e=X (O Bt)/\Jq (pre++[x]) W'/\ZO s d n c (pc a) W W')
 (W:Wd) (g:W.cell? ⟨s,0,J⟩=So (Z d n c)) (b:i5 W d (pc a)) (u:Jq [] W):
 Ci .wide 2 prog 454 #[Fc (.yield l) #[] #[],K s] W λe W'=>(∃v,e=X v)/\∃xs:R8,xs=(m9 n).reverse/\Jq xs W':=by
 have H:=a6 C;have F:IntKind.i64.wrap ((n:Int)-1)=(n:Int)-1:=h7 _ a8;clear C;refine Co func454 rfl trivial ?_ rfl;simp only[ntmps454,uE,Nat.reduceAdd,Nat.reduceSub];gi_wp2;gi_loopw [3] (λi wr=>∃(k:Nat)(f:Int),k<=n/\f=(k:Int)-1/\i=I M f/\Jq ((m9 n).reverse.take (n-k)) wr/\wr.cell? ⟨s,0,J⟩=So (Z d n c)/\i5 wr d (pc a)) (λi _=>(intOf i+1).toNat);exact⟨n,_,a7 _,rfl,rfl,by rw[Nat.sub_self];exact u,g,b⟩;clear g b u;obtain⟨k,f,ah,m,rfl,h,g,b⟩:=hrel;rcases k with _|j
 ·have r:f= -1:=a8;subst r;rw[Nat.sub_zero,List.take_of_length_le i3]at h;clear m F;gi_wp2;go_end0;exact⟨⟨_,rfl⟩,_,rfl,h⟩
 have r:f=j:=a8;subst r;have p:j<n:=a8;have q:j<D a:=by rw[H.O];exact p
 obtain⟨b1,ak,rfl,P⟩:=S1 b a8;obtain⟨ab,ac,ad,ae⟩:=a4f b q;have R:=a6 (kU n j p);have A:a.getD j a39=a[j]:=by rw[b9,e9 q];rfl
 have o:=a6 (λ(W:Wd)(Q:Jq ((m9 n).reverse.take (n-(j+1))) W)=>z _ j W Q p (by rw[m4];simp;omega));rw[A]at o;generalize a[j]=E at*;obtain⟨co,aj,ai,kk⟩:=E;simp only[B7.val,B7.cells]at o;have b3:(0:Int)<=j:=a8;have b4:(j:Int)<n:=a8;have al:IntKind.i64.wrap ((j:Int)-1)=(j:Int)-1:=h7 _ a8;obtain⟨t,S,G⟩:=r6 (And.intro g b) y h;clear q z m A F b y h P;gi_wp2_with fail;obtain⟨af,tmps,T,aa,m,N⟩:=o _ G.O;rw[m];gi_wp2;apply N.mono;rintro e W3⟨rfl,L,w⟩;gi_wp2;go_roundw;exact⟨j,_,a8,rfl,rfl,by rw[R.O];exact L,w.1 t.1,w.2 t.2⟩;first|(simp[intOf];done)|(simp[intOf];omega)
theorem YE(a:p1)(n c:Nat)(w:Wd):
 Ci .wide 2 prog 439 #[Z a n c] w λe b=>e=X (Fc (.func 454) #[] #[K w])/\b=w.alloc (U #[Z a n c] 74):=by
 refine Co func439 rfl trivial ?_ rfl;simp only[ntmps439,uE,Nat.reduceAdd,Nat.reduceSub];gi_wp2;go_ret;exact⟨rfl,rfl⟩
theorem CV(s n c:Nat)(b:p1)(a:List B7)(t:D a=n)(o:n<=1000000)(w:Wd)(u:s<w)
 (f:w.cell? ⟨s,0,J⟩=So (Z b n c)) (j:i5 w b (pc a)):
 aH .wide 2 prog 454 #[K s] (λi:Nat=> #[I M i,(a.getD i a39).val]) (λx _=>x<n) (ZO s b n c (pc a)) (λxs=>xs=(m9 n).reverse) n w:=λl Jq W d h m e=>by
 have g:=(d.cell (p:=⟨s,0,J⟩) u).trans f;have k:i5 W b (pc a):=j.h d;exact PP l s n c W b a t o Jq h (λpre x W q v r=>m pre x W q v r) W g k e
end
theorem A4{F:Fence}{n:Nat}{P:Pg}{α:Type}{g:Operand}{ps:Array Tmp}{assign body:Code}{Q:Exit->Act->Wd->Prop}{a:Act}{w:Wd}
 (hro:F.round=J) (h1:1<=n) {gf:Nat} {lb:Array Va} (hg:a.eval g=Fc (.func gf) #[] lb) (hFg:F.fn gf) (eg:∀args w,(callFunc gf args).run P w= .ok (.enter gf args) w)
 {encs:α->Array Va} {G:α->Wd->Prop} {Kp:Wd->Wd->Prop} {S:List α->Prop} {N:Nat} {w0:Wd} (hseq:aH F (n-1) P gf lb encs G Kp S N w0)
 (hKt:∀{A B C:Wd},Kp A B->Kp B C->Kp A C) (hKb:∀(W:Wd)(l:Nat)(o o':Obj),w<=l->W.heap[l]? =So o->o.isCells=Bf->o.isWalk=Bf->Kp W (W.putObj l o'))
 (hb0:Below w0 w0 w) (hps:∀x,(encs x).size=ps.size)
 (hG:∀(x:α)(W:Wd)(l:Nat)(o o':Obj),G x W->W.heap[l]? =So o->o.isCells=Bf->G x (W.putObj l o'))
 (ab:List α->Wd->Prop) (hI:OwnFrom w ab) (h0:ab [] w) (A1:α->Nat->Act->Wd->Prop)
 (hA1:∀(x:α)(z:Nat)(a1:Act)(W:Wd)(l:Nat)(o o':Obj),A1 x z a1 W->W.heap[l]? =So o->o.isCells=Bf->A1 x z a1 (W.putObj l o'))
 (hGx:∀(x:α)(W W':Wd),G x W->a9 W W'->G x W') (hKx:∀W W',a9 W W'->Kp W W')
 (hassign:∀(l:Nat)(x:α)(W:Wd)(ac:Act->Wd->Prop),G x W->(∀a1 W1,a9 W W1->A1 x W a1 W1->ac a1 W1)->
 assign.wpIn (F.inRound l) (n-1-1) P (Exit.then ac (λ_ _ _=>False)) {tmps:=(ps.zip (encs x)).foldl (λt(p,v)=>t.setIfInBounds p v) a.tmps,defers:=[]} W)
 (hbody:∀(l:Nat)(pre:List α)(x:α)(W0 W:Wd)(a1:Act),ab pre W0->ab pre W->G x W->A1 x W0 a1 W->(∀(b:Nat)(o:Obj),W0.heap[b]? =So o->o.isCells=Bt->W.heap[b]? =So o)->D pre<N->body.wpIn (F.inRound l) (n-1-1) P (oX w Kp ab (pre++[x]) W) a1 W)
 (hdone:∀(aa:Nat)(xs:List α)(W:Wd),w<=aa->S xs->ab xs W->W.heap[aa]? =So (.deferred (So []))->Q .normal {a with defers:= {target:= .collected aa,args:= #[]}::a.defers} W):
 (Code.rangeFunc g ps assign body).wpIn F n P Q a w:=by
 refine wpIn_rangeFunc λfn hfn=> ?_
 rw[hro];obtain⟨rec,hrec⟩:∃rec:LoopState->Option Code->Loop,rec=λst pe=> {state:=st,pending:=pe,fn,tmps:=a.tmps,params:=ps,assign,body,defers:=w}:=⟨_,rfl⟩
 obtain⟨ad,hV⟩:∃ad,(w.alloc (.deferred (So []))).alloc (.loop (rec .ready J))=ad:=⟨_,rfl⟩;have hL:ad.heap[w.heap.size+1]? =So (.loop (rec .ready J)):=by have:=World.alloc_heap_new (w.alloc (.deferred (So []))) (.loop (rec .ready J));rw[World.size_alloc]at this;rw[<-hV];exact this
 have hD:ad.heap[w.heap.size]? =So (.deferred (So [])):=by rw[<-hV];exact(Below.heap_alloc _ _ _ i3).trans (World.alloc_heap_new w _)
 have hIV:ab [] ad:=by rw[<-hV];exact hI.alloc _ (hI.alloc _ h0)
 have hbV:Below w0 w0 ad:=by rw[<-hV];exact hb0.trans ((((Below.refl _ w).alloc (a7 _) _).alloc i3 _).mono hb0.size)
 have hz:w+2<=ad.heap.size:=by rw[<-hV];simp
 have hE:(Instr.enterLoop fn a.tmps ps assign body J).run P w= .ok (w+1,[{target:= .collected w,args:= #[]}]) ad:=by rw[<-hV,hrec];exact run_enterLoop_outer _ _ _ _ _
 clear hV;refine⟨w+1,[{target:= .collected w,args:= #[]}],ad,{target:= .fn (.func gf) lb,args:= #[Fc (.yield (w+1)) #[] #[]]},ad,gf,
  #[Fc (.yield (w+1)) #[] #[]]++lb,ad,?_,?_,?_,?_,λ_=>h1,?_⟩
 exact hE;simp only[resolve,hg];simp[go_sem];intro f' hf';simp[Target.leads]at hf';subst hf';exact hFg;simp[invoke,go_sem,eg];have far:∀{A B:Wd}{row:Option Nat},(∀r,row=So r->ad.heap.size<=r/\∃o:Obj,A.heap[r]? =So o/\o.isWalk=Bt)->(∀r,row=So r->w.heap.size<=r/\∃o:Obj,A.heap[r]? =So o/\o.isCells=Bf):=
  λhr r e=>by
   obtain⟨hB,o,ho,hw⟩:=hr r e
   exact⟨a8,o,ho,Obj.not_cells_of_walk hw⟩
 refine(hseq (w+1) (λpre W=>ab pre W/\W.heap[w.heap.size+1]? =So (.loop (rec .ready J))/\W.heap[w.heap.size]? =So (.deferred (So []))) ad hbV
  (λs A B row hs hg' hr=>⟨hI s A B row hs.1 hg' (far (B:=B) hr),(grownBy_keeps hg' (λr e=>(hr r e).2) hs.2.1 rfl).trans hs.2.1,(grownBy_keeps hg' (λr e=>(hr r e).2) hs.2.2 rfl).trans hs.2.2⟩)
  ?_ ⟨hIV,hL,hD⟩).mono ?_
 ·rintro pre x W⟨hi,hl,hk⟩ hgx hlen;have hlt:w+1<W.heap.size:=(Array.getElem?_eq_some_iff.1 hl).1;have hy:=run_yield (P:=P) (args:=encs x) hl (by rw[hrec];exact hps x);rw[hrec]at hy;refine⟨fn,_,assign,body,hy,roundIn_of_wpIn hfn (hassign _ x W _ hgx λa1 W1 hx1 ha1=> ?_)⟩;have hl1:=(hx1.block hlt).trans hl;have hk1:=(hx1.block (a8:w<W.heap.size)).trans hk;have hlt1:w+1<W1.heap.size:=(Array.getElem?_eq_some_iff.1 hl1).1;have hi1:ab pre W1:=hI _ _ _ J hi ⟨hx1.os,hx1.tape,hx1.output,hx1.size,λk hk _=>hx1.block hk⟩ aL;have hg1:=hGx x W W1 hgx hx1;have hw1:=hKx W W1 hx1;refine⟨_,run_beginRound hl1 (by rw[hrec]),?_⟩;generalize hW2:W1.putObj (w+1) (.loop {rec .ready J with state:= .busy})=W2;have hl2:W2.heap[w.heap.size+1]? =So (.loop {rec .ready J with state:= .busy}):=by rw[<-hW2];exact World.putObj_heap_same hlt1
  have hk2:W2.heap[w.heap.size]? =So (.deferred (So [])):=by rw[<-hW2];exact(World.putObj_heap_other a8).trans hk1
  have hw2:Kp W W2:=hKt hw1 (by rw[<-hW2];exact hKb _ _ _ _ a8 hl1 rfl rfl);have hi2:ab pre W2:=by rw[<-hW2];exact hI.putObj _ hi1 a8 hl1 rfl
  have hg2:G x W2:=by rw[<-hW2];exact hG x W1 _ _ _ hg1 hl1 rfl
  have ha2:A1 x W a1 W2:=by rw[<-hW2];exact hA1 x _ a1 W1 _ _ _ ha1 hl1 rfl
  have hb2:∀(b:Nat)(o:Obj),W.heap[b]? =So o->o.isCells=Bt->W2.heap[b]? =So o:=λb o ho hc=>by
   have h1:=(hx1.block (Array.getElem?_eq_some_iff.1 ho).1).trans ho;have hne:b≠w.heap.size+1:=λe=>by
    rw[e,hl]at ho;injection ho with ho
    subst ho;cases hc
   rw[<-hW2];exact(World.putObj_heap_other hne).trans h1
  refine wpIn_mono (hbody _ pre x W _ a1 hi hi2 hg2 ha2 hb2 hlen) ?_;rintro e a3 W3 hp;cases e with
  |normal=>
   obtain⟨hk3,hkp3,hi3⟩:=hp
   have hl3:=hk3.same _ _ a8 hl2 rfl
   have hr:=run_endRound (P:=P) J hl3
   rw[hrec]at hr
   exact⟨_,_,hr,rfl,⟨hI.putObj _ hi3 a8 hl3 rfl,by rw[hrec];exact World.putObj_heap_same (Array.getElem?_eq_some_iff.1 hl3).1,(World.putObj_heap_other a8).trans (hk3.same _ _ (a7 _) hk2 rfl)⟩,hKt (hKt hw2 hkp3) (hKb _ _ _ _ a8 hl3 rfl rfl)⟩
  |ret=>exact hp.elim
  |exit id=>exact hp.elim
  |goto t=>exact hp.elim
  |panic ch=>exact hp.elim
  |outgrown=>exact hp.elim
 rintro e W2⟨⟨v,rfl⟩,xs,hS,hi,hl,hk⟩;have hr:=run_endLoop (P:=P) hl (by rw[hrec];simp);rw[hrec]at hr;exact⟨J,_,hr,hdone _ xs _ (a7 _) hS (hI.putObj _ hi a8 hl rfl) ((World.putObj_heap_other a8).trans hk)⟩
theorem mK{P:Pg}(w:Wd)(base:Nat)(t ty e:Ti)(i:TypeInfo)(z:Va)(d r:Nat)(F:P.underlying t=So (.slice e))(hi:P.info? e=So i)(W:i.zero=So z)
 (x:i.size=d) (R:i.bytes=r) (aa:z.cells.size=d) (E:0<d)
 (v:Va) (n:Nat) (xs:List Va) (p:w.ownsRow base e d v n xs)
 (a:Ad) (m c:Nat) (h:List Va) (s:D h=m*d) (C:∀j u,h[j]? =So u->w.cell? (a.add j)=So u) (N:∀u∈h,u.oneCell'=Bt)
 (Q:n+m<=maxLen) (S:(n+m)*r<=140737488355328) (ao:base<=w):
 ∃v' o,(Builtin.append_ #[t,t] ty #[v,Z (So a) m c]).run P w= .ok v' o/\o.ownsRow base e d v' (n+m) (xs++h)/\w.grownBy o v.ownBlock/\o.ownsRow base e d v n xs/\
 (∀f ys,w.ownsRow base e d f (n+m) ys->o.ownsRow base e d f (n+m) ys\/o.ownsRow base e d f (n+m) (xs++h))/\(v'.ownBlock=v.ownBlock\/∀b,v'.ownBlock=So b->w.heap.size<=b):=by
 obtain⟨v',o,G,ac,H,_⟩:=run_append_own (P:=P) w base t ty e i z d r F hi W x R aa E v n xs p a m c h s C N Q S ao;refine⟨v',o,G,ac,H,?_⟩;rcases p.2 with⟨rfl,rfl⟩|⟨g,cap,cur,rfl,A,T,bj,bh,ah,bm⟩
 obtain rfl:xs=[]:=List.eq_nil_of_length_eq_zero (by rw[p.1,Nat.zero_mul]);obtain⟨az,ba,y,ab,aj,_⟩:=run_append_own (P:=P) w w t ty e i z d r F hi W x R aa E (Z J 0 0) 0 [] (World.ownsRow_nil w _ e d) a m c h s C N Q S (a7 _);rw[G]at y;injection y with e1 e2
 subst e1 e2;refine⟨⟨p.1,.inl ⟨rfl,rfl⟩⟩,λf ys l=> .inl (l.kept H ?_),.inr λb A=>(ab.lt b A).1⟩;show f.ownBlock=J\/f.ownBlock≠J;cases f.ownBlock;exact .inl rfl;exact .inr ZH;have aq:∀j,j<cur.size->w.cell? ⟨g,j,J⟩=cur[j]? :=λj ae=>cell_of_row w g j cur e (0,0) T
 by_cases af:n+m<=cap;have bg:n*d+D h<=cur.size:=by rw[ah,s,<-Nat.add_mul];exact Nat.mul_le_mul_right _ af
 have ag:=run_append_room_cells (P:=P) w t ty e i F hi g 0 n cap a m c h (by rw[x];exact s) C N af
  (λj ae=>by rw[Nat.zero_add,x,aq _ a8,Array.getElem?_eq_getElem a8];rfl)
  (λj ae=>by simp[World.frozen?,T])
 rw[G]at ag;injection ag with e1 e2
 subst e1;rcases ac.2 with⟨q,_⟩|⟨bd,bb,L,q,an,ar,bk,au,av,ax⟩
 cases q;injection q with k1 _ k2
 injection k1 with k1
 injection k1 with k1
 subst k1 k2;have ai:D xs=n*d:=p.1;refine⟨⟨ai,.inr ⟨g,cap,L,rfl,an,ar,a8,au,av,?_⟩⟩,λf ys l=> ?_,.inl rfl⟩;have am:(L.toList.take ((n+m)*d)).take (n*d)=L.toList.take (n*d):=by rw[List.take_take,Nat.min_eq_left (Nat.mul_le_mul_right _ a8)]
 rw[<-am,ax,<-ai,List.take_left'];rfl;rcases l.2 with⟨q,be⟩|⟨al,ak,bc,q,bf,B,bl,bi,aw,bn⟩
 exact .inl (l.kept H (.inl (by rw[q];rfl)));by_cases ad:al=g;subst ad;rw[T]at B;injection B with B
 injection B with hcc
 subst hcc;have ap:ak=cap:=Nat.eq_of_mul_eq_mul_right E (aw.symm.trans ah);subst ap;rw[q];exact .inr ac;exact .inl (l.kept H (.inr (by rw[q];intro e;injection e with e;exact ad e)));obtain⟨az,ba,y,ab,aj⟩:=run_append_arg_grows (P:=P) w t ty e i z d r F hi W x R aa E ⟨g,0,J⟩ n cap xs p.1 (λj u ay=>p.cells (g:=g) rfl j u ay) a m c h s C a8 Q S;rw[G]at y;injection y with e1 e2
 subst e1 e2;have keep:∀f k ys,w.ownsRow base e d f k ys->o.ownsRow base e d f k ys:=λf k ys l=>l.kept aj (by cases f.ownBlock;exact .inl rfl;exact .inr ZH)
 exact⟨keep _ _ _ p,λf ys l=> .inl (keep _ _ _ l),.inr λb A=>(ab.lt b A).1⟩
theorem O6{h:Fence}{n:Nat}{P:Pg}(w:Wd){y:Array Oper}{rest:List Oper}{o:Oper}{a:Act}{Q:Exit->Act->Wd->Prop}
 (W:o.guard=J) (s x:Operand) (t:Ti) (q:o.op=Op.call {callee:=Callee.builtin Builtin.append,args:= #[s,x],argTypes:= #[t,t]})
 (base:Nat) (e:Ti) (i:TypeInfo) (z:Va) (d p:Nat) (A:P.underlying t=So (.slice e)) (C:P.info? e=So i) (E:i.zero=So z) (F:i.size=d) (G:i.bytes=p) (H:z.cells.size=d) (L:0<d)
 (v:Va) (k:Nat) (xs:List Va) (ad:a.eval s=v) (ab:w.ownsRow base e d v k xs) (l:Ad) (m c:Nat) (g:List Va) (ae:a.eval x=Z (So l) m c) (aa:D g=m*d)
 (S:∀j u,g[j]? =So u->w.cell? (l.add j)=So u) (B:∀u∈g,u.oneCell'=Bt) (b1:k+m<=maxLen) (b2:(k+m)*p<=140737488355328) (b3:base<=w)
 (N:∀v' f,f.ownsRow base e d v' (k+m) (xs++g)->w.grownBy f v.ownBlock->f.ownsRow base e d v k xs->(∀r ys,w.ownsRow base e d r (k+m) ys->f.ownsRow base e d r (k+m) ys\/f.ownsRow base e d r (k+m) (xs++g))->(v'.ownBlock=v.ownBlock\/∀b,v'.ownBlock=So b->w.heap.size<=b)->Wl h n P y Q rest (a.put o.dst v') f):
 Wl h n P y Q (o::rest) a w:=by
 refine wpListIn_plain W λak R=> ?_
 obtain⟨v',f,ac,af,ag,ah,ai,aj⟩:=mK (P:=P) w base t o.type e i z d p A C E F G H L v k xs ab l m c g aa S B b1 b2 b3;unfold Oper.wpIn;refine⟨?_,?_⟩;simp[Oper.about,q,resolve,Target.leads,Sem.run_pure];rw[Oper.semAt_plain h _ _ (by rw[q];intro c T;cases T)];simp[execOp,q,resolve,invoke,builtin,ad,ae,ac,Result.andThen];exact R _ _ (N v' f af ag ah ai aj)
theorem cL{q:Fence}{n:Nat}{P:Pg}(w:Wd){r:Array Oper}{rest:List Oper}{o:Oper}{a:Act}{Q:Exit->Act->Wd->Prop}
  (S:o.guard=J) (s x:Operand) (t:Ti) (W:o.op=Op.call {callee:=Callee.builtin Builtin.append,args:= #[s,x],argTypes:= #[t,t]})
  (base:Nat) (e:Ti) (i:TypeInfo) (z:Va) (d p:Nat) (A:P.underlying t=So (.slice e)) (C:P.info? e=So i) (E:i.zero=So z) (F:i.size=d) (G:i.bytes=p) (H:z.cells.size=d) (L:0<d)
  (v:Va) (k:Nat) (xs:List Va) (ab:a.eval s=v) (aa:w.ownsRow base e d v k xs) (l:Ad) (m c:Nat) (f:List Va) (ac:a.eval x=Z (So l) m c) (T:D f=m*d)
  (R:∀j u,f[j]? =So u->w.cell? (l.add j)=So u) (B:∀u∈f,u.oneCell'=Bt) (b1:k+m<=maxLen) (b2:(k+m)*p<=140737488355328) (b3:base<=w)
  (N:∀v' g,g.ownsRow base e d v' (k+m) (xs++f)->w.grownBy g v.ownBlock->g.ownsRow base e d v k xs->(∀h,w.ownsRow base e d h (k+m) (xs++f)->g.ownsRow base e d h (k+m) (xs++f))->(v'.ownBlock=v.ownBlock\/∀b,v'.ownBlock=So b->w.heap.size<=b)->Wl q n P r Q rest (a.put o.dst v') g):
  Wl q n P r Q (o::rest) a w:=
 O6 w S s x t W base e i z d p A C E F G H L v k xs ab aa l m c f ac T R B b1 b2 b3 λv' g ad ae af ag ah=>N v' g ad ae af (λh y=>(ag h _ y).elim id id) ah
section
theorem EX{i:Fence}{n:Nat}{P:Pg}{o:Oper}{a:Act}{w:Wd}{j s:Act->Wd->Prop}{l k:Exit->Act->Wd->Prop}(b:o.wpIn i n P a w j l)(y:∀t g,j t g->t.defers=a.defers)
 (h:∀v g,j (a.put o.dst v) g->s (a.put o.dst v) g) (q:∀c a w,l (.panic c) a w->k (.panic c) a w) (u:∀a w,l .outgrown a w->k .outgrown a w):o.wpIn i n P a w s k:=by
 unfold Oper.wpIn at*;refine⟨b.1,?_⟩;replace b:=b.2;generalize(o.semAt i.round a.eval).run P w=r at*;cases r with
 |ok n g=>
  cases n<;>simp only[Oper.uponIn]at b⊢
  case value=>exact h _ _ b
  case skip=>exact h _ _ b
  case defer d=>
   have:=y _ _ b
   rw[J0]at this
   have:=congrArg List.length this
   simp at this
  case enter=>
   refine⟨b.1,CallsIn.mono b.2 λe z f=> ?_⟩
   cases e with
   |returned v=>exact h _ _ f
   |panicked c=>exact q _ _ _ f
   |outgrown=>obtain⟨m,w0,p⟩:=f;exact⟨m,w0,u _ _ p⟩
  case row=>exact⟨b.1,RowsIn.mono b.2 λ_ _ f=>h _ _ f⟩
  case round=>
   refine⟨b.1,RoundIn.mono b.2 λe z f=> ?_⟩
   cases e with
   |returned v=>exact h _ _ f
   |panicked c=>exact q _ _ _ f
   |outgrown=>obtain⟨m,w0,p⟩:=f;exact⟨m,w0,u _ _ p⟩
 |halt x g=>
  cases x<;>simp only[Oper.uponIn]at b⊢
  case panic=>exact q _ _ _ b
def N7:List Oper->Nat->Bool
 |[],_=>Bt
 |[_],_=>Bt
 |_::os,k=>(os.any λo=>o.after.toList.any λe=>Region.binds .any e&&Dc (e.on=k))&&N7 os (k+1)
theorem iU:∀(os:List Oper)(k i:Nat),N7 os k=Bt->i+1<D os->∃j o,i<j/\os[j]? =So o/\∃e∈o.after,Region.binds .any e=Bt/\e.on=k+i
 |[],_,_,_,h=>by simp at h
 |[_],_,_,_,h=>by simp at h
 |o1::o2::os,k,0,hc,h=>by simp only[N7,j3,List.any_eq_true,Array.mem_toList_iff,decide_eq_true_eq]at hc;obtain⟨⟨o,c,e,b,a⟩,_⟩:=hc;obtain⟨j,d,g⟩:=List.getElem_of_mem c;exact⟨j+1,o,a8,by rw[List.getElem?_cons_succ,e9 d,g],e,b,a.1,a.2⟩
 |o1::o2::os,k,i+1,hc,h=>by
  have f:N7 (o2::os) (k+1)=Bt:=by simp only[N7,j3]at hc;exact hc.2
  obtain⟨j,o,d,c,e,b,a,l⟩:=iU (o2::os) (k+1) i f (by simpa using h);exact⟨j+1,o,a8,by rw[List.getElem?_cons_succ];exact c,e,b,a,a8⟩
section
variable {R:Wd->Wd->Prop}
def g5(F:Fence)(n:Nat)(P:Pg)(l:List Oper)(aa:VR R)(ds:List Deferred)(w:Wd)(a:Act):Oper->Prop
 |⟨dst,op,type,pos,after,J⟩=>Wl F n P #[] (sO aa dst ds w) [⟨dst,op,type,pos,after,J⟩] a w
 |⟨dst,op,type,pos,after,So (j,want)⟩=>lU (I1 (x0 a (bY l j))) want (Wl F n P #[] (sO aa dst ds w) [⟨dst,op,type,pos,after,J⟩] a w) (aa.p Un w)
def eB(c:Fence)(n:Nat)(P:Pg)(l:List Oper)(b:(Nat->Va)->Act)(ds:List Deferred)(w:Wd)(Vs:List (VR R)):List Oper->List (VR R)->Prop
 |[],[]=>True
 |[_],[]=>True
 |o::os,aa::Ws=>(∀x a,R w a->g0 Vs x a (g5 c n P l aa ds a (b x) o) o.after.toList)/\eB c n P l b ds w Vs os Ws
 |[],_::_=>False
 |_::_::_,[]=>False
theorem AI{d:Fence}{n:Nat}{P:Pg}{l:List Oper}{c:(Nat->Va)->Act}{ds:List Deferred}{w:Wd}{Vs:List (VR R)}:∀(os:List Oper)(Ws:List (VR R))(i:Nat)(o:Oper),eB d n P l c ds w Vs os Ws->os[i]? =So o->i<D Ws->
 ∃a,Ws[i]? =So a/\∀x b,R w b->g0 Vs x b (g5 d n P l a ds b (c x) o) o.after.toList
 |[],_,_,_,_,h,_=>by simp at h
 |_::_,[],_,_,_,_,hi=>by simp at hi
 |o'::os,a::Ws,0,o,h,ho,_=>by simp only[List.getElem?_cons_zero,Option.some.injEq]at ho;subst ho;simp only[eB]at h;exact⟨a,rfl,h.1⟩
 |o'::os,a::Ws,i+1,o,h,ho,hi=>by simp only[List.getElem?_cons_succ]at ho⊢;simp only[eB]at h;exact AI os Ws i o h.2 ho (by simpa using hi)
variable [L6 R]
theorem g5.toList{d:Fence}{n:Nat}{P:Pg}{l:List Oper}{i:VR R}{ds:List Deferred}{w:Wd}{a:Act}{o:Oper}(q:∀f,d.fn f)(r:a.defers=ds)(b:g5 d n P l i ds w a o):Wl d n P l.toArray (sO i o.dst ds w) [o] a w:=by
 obtain⟨m,s,u,t,after,p⟩:=o;cases p with
 |none=>exact b
 |some g=>
  obtain⟨j,h⟩:=g
  have k:=sS l ⟨m,s,u,t,after,So (j,h)⟩ a j h rfl
  simp only[g5]at b
  unfold lU at b
  simp only[Wl]at b⊢
  by_cases c:I1 (x0 a (bY l j))=So h
  ·rw[if_pos (k.2 c)]
   rw[if_pos c]at b
   exact b
  ·rw[if_neg (λe=>c (k.1 e))]
   rw[if_neg c]at b
   exact⟨λf _=>q f,by rw[fC];exact b,by rw[J0];exact r,L6.refl _⟩
def qM.{u}{b:Type u}:List Oper->List b->(Nat->Va)->Nat->Act->Act
 |[],_,_,_,a=>a
 |_::_,[],_,_,a=>a
 |o::os,_::vs,x,i,a=>qM os vs x (i+1) (a.put o.dst (x i))
theorem qL.{u}{c:Type u}:∀(os:List Oper)(b:List c)(x:Nat->Va)(i:Nat)(a:Act),qM os b x i a=m0 (os.take (D b)) x i a
 |[],b,x,i,a=>by rw[List.take_nil];rfl
 |_::_,[],_,_,_=>rfl
 |o::os,_::b,x,i,a=>qL os b x (i+1) _
theorem Y4{F:Fence}{n:Nat}{P:Pg}{b:Array Oper}{Q:Exit->Act->Wd->Prop}{a:Act}{w:Wd}{id:Nat}(bb:∀f,F.fn f)(bn:P.follows .mixedOrders=Bt)
 (Vs:List (VR R)) (r:List Oper) (bh:r=b.toList.take (D Vs)) (be:D6 r=Bt) (am:a2O b.toList 0=Bt) (ab:(Nat->Va)->Act) (ba:∀x,m0 r x 0 a=ab x)
 (bp:eB F n P b.toList ab a.defers w Vs b.toList Vs)
 (bm:b.size=D Vs\/b.size=D Vs+1)
 (bk:∀x u o,b[D Vs]? =So o->R w u->(∀j(g:VR R),Vs[j]? =So g->g.p (x j) u)->(∀i,i<D Vs->∃j t,i<j/\b[j]? =So t/\∃e∈t.after,Region.binds .any e=Bt/\e.on=i)/\
 wpOpIn F n P b Q (D Vs) (Q .normal) (ab x) u)
 (bg:b.size=D Vs->∀x u,R w u->(∀j(g:VR R),Vs[j]? =So g->g.p (x j) u)->Q .normal (ab x) u)
 (ak:b.size=D Vs+1->∀i,i<D Vs->∃j t,i<j/\b[j]? =So t/\∃e∈t.after,Region.binds .any e=Bt/\e.on=i):(Code.region id b Bt).wpIn F n P Q a w:=by
 obtain rfl:(λx=>m0 r x 0 a)=ab:=funext ba;have ap:∀(os:List Oper)(x:Nat->Va)(k:Nat)(a:Act),(m0 os x k a).defers=a.defers:=by
  intro os;induction os with
  |nil=>intro _ _ _;rfl
  |cons o os ih=>intro x k a;simp only[m0];rw[ih,J0]
 have key:∀(G:Nat)(c:Array Bool)(x:Nat->Va)(h:Wd),R w h->(∀j(g:VR R),c[j]? =So Bt->Vs[j]? =So g->g.p (x j) h)->
   (∀(j:Nat)(o:Oper),c[j]? =So Bt->b[j]? =So o->∀e∈o.after,Region.binds .any e=Bt->c[e.on]? =So Bt)->
   (∀j,D Vs<=j->c[j]?≠So Bt)->
   c.size=b.size->c.toList.count Bf<=G->wpAnyIn F n P .any b Q G c (m0 r x 0 a) h:=by
  intro G
  have ah:∀(c:Array Bool),c.size=b.size->Region.ready .any b c=[]->∀n j,j<n->j<b.size->c[j]? =So Bt:=by
   intro c N z n
   induction n with
   |zero=>intro j d;omega
   |succ n ih=>
    intro j d af
    have s:j<c.size:=a8
    cases H:c[j]with
    |true=>rw[Array.getElem?_eq_getElem s,H]
    |false=>
     have:j∈Region.ready .any b c:=by
      rw[mem_ready]
      refine⟨by simp[Array.getElem?_eq_getElem s,H],b[j],Array.getElem?_eq_getElem af,λe q p=> ?_⟩
      have C:=H1 b.toList 0 j b[j] am (by simp[af]) e q p
      have:=ih e.on a8 a8
      simp[this]
     rw[z]at this
     cases this
  have aq:∀(c:Array Bool)(x:Nat->Va)(h:Wd),R w h->(∀j(g:VR R),c[j]? =So Bt->Vs[j]? =So g->g.p (x j) h)->(∀j,D Vs<=j->c[j]?≠So Bt)->c.size=b.size->
    Region.ready .any b c=[]->Q .normal (m0 r x 0 a) h:=by
   intro c x h E A T N z
   have ah:=ah c N z
   have an:b.size=D Vs:=by
    rcases bm with l|l
    ·exact l
    ·exact absurd (ah (b.size+1) (D Vs) a8 a8) (T _ (a7 _))
   refine bg an x h E (λj g d=> ?_)
   have:j<D Vs:=(List.getElem?_eq_some_iff.1 d).1
   exact A j g (ah (j+1) j a8 a8) d
  induction G with
  |zero=>
   intro c x h E A aj T N bd
   have z:Region.ready .any b c=[]:=by
    rw[List.eq_nil_iff_forall_not_mem]
    intro j d
    rw[mem_ready]at d
    obtain⟨ac,o,B,_⟩:=d
    have af:j<b.size:=(Array.getElem?_eq_some_iff.1 B).1
    have s:j<c.size:=a8
    have H:c[j]=Bf:=by simpa[Array.getElem?_eq_getElem s]using ac
    have:0<c.toList.count Bf:=List.count_pos_iff.2 (by rw[<-H];exact Array.getElem_mem_toList s)
    omega
   exact⟨z,aq c x h E A T N z⟩
  |succ G ih=>
   intro c x h E A aj T N bd
   refine⟨aq c x h E A T N,λi hi=> ?_⟩
   rw[mem_ready]at hi
   obtain⟨ac,o,B,bf⟩:=hi
   have bx:i<b.size:=(Array.getElem?_eq_some_iff.1 B).1
   have s:i<c.size:=a8
   have H:c[i]=Bf:=by simpa[Array.getElem?_eq_getElem s]using ac
   have ai:b.toList[i]? =So o:=by simpa using B
   have al:∀e∈o.after,Region.binds .any e=Bt->c[e.on]? =So Bt:=λe q p=>by
    have C:=H1 b.toList 0 i o am ai e q p
    have bl:=bf e q p
    have:e.on<c.size:=a8
    simpa[Array.getElem?_eq_getElem this]using bl
   by_cases ar:i<D Vs
   ·obtain⟨g,bc,bq⟩:=AI _ _ i o bp ai ar
    have y:=kQ o.after.toList (λe q p=>by
     have C:=H1 b.toList 0 i o am ai e (by simpa using q) p
     have ad:e.on<D Vs:=a8
     rw[b9,e9 ad]
     exact A e.on _ (al e (by simpa using q) p) (e9 ad)) (bq x h E)
    have ax:∀v ag,g.p (x0 ((m0 r x 0 a).put o.dst v) o.dst) ag->R h ag->wpAnyIn F n P .any b Q G (c.setIfInBounds i Bt) ((m0 r x 0 a).put o.dst v) ag:=by
     intro v ag br aw
     rw[<-lJ,qK r x 0 a i o _ be (by rw[bh,List.getElem?_take_of_lt ar];exact ai),Nat.zero_add]
     refine ih _ _ _ (L6.trans _ _ _ E aw) (λj W d ae=> ?_) (λj t d L e q p=> ?_) (λj d=> ?_) (by simpa using N) ?_
     ·by_cases S:j=i
      ·subst S
       rw[bc]at ae
       injection ae with ae
       subst ae
       simp only[DB,if_true]
       exact br
      ·simp only[DB,if_neg S]
       rw[Array.getElem?_setIfInBounds_ne (Ne.symm S)]at d
       exact W.st _ _ _ (A j W d ae) aw
     ·have C:c[e.on]? =So Bt:=by
       by_cases S:j=i
       ·subst S
        rw[B]at L
        injection L with L
        subst L
        exact al e q p
       ·rw[Array.getElem?_setIfInBounds_ne (Ne.symm S)]at d
        exact aj j t d L e q p
      have bo:e.on≠i:=λay=>by
       rw[ay,Array.getElem?_eq_getElem s,H]at C
       cases C
      rw[Array.getElem?_setIfInBounds_ne (Ne.symm bo)]
      exact C
     ·rw[Array.getElem?_setIfInBounds_ne a8]
      exact T j d
     ·have:=kS c.toList i (by simp[s,H])
      simp only[Array.toList_setIfInBounds]
      omega
    unfold wpOpIn
    rw[B]
    dsimp only
    have y:Wl F n P b (sO g o.dst a.defers h) [o] (m0 r x 0 a) h:=by
     have:=g5.toList bb (ap _ _ _ _) y
     rwa[Array.toArray_toList]at this
    simp only[Wl]at y
    split
    ·rename_i ao
     rw[if_pos ao]at y
     refine EX y (λbu u l=>by rw[ap];exact l.2.1) (λv u l=>ax v u l.1 l.2.2) (λ_ _ _ l=>l.elim) (λ_ _ l=>l.elim)
    ·rename_i ao
     rw[if_neg ao]at y
     exact⟨y.1,ax _ _ y.2.1 y.2.2.2⟩
   ·have bi:i=D Vs:=a8
    subst bi
    have an:b.size=D Vs+1:=a8
    have ak:=ak an
    have au:∀m i,D Vs<=i+m->i<D Vs->c[i]? =So Bt:=by
     intro m
     induction m with
     |zero=>intro i az ad;omega
     |succ m ihm=>
      intro i az ad
      obtain⟨j,t,bw,aa,e,q,p,C⟩:=ak i ad
      have af:j<b.size:=(Array.getElem?_eq_some_iff.1 aa).1
      rw[<-C]
      by_cases d:j=D Vs
      ·subst d
       rw[B]at aa
       injection aa with aa
       subst aa
       exact al e q p
      ·exact aj j t (ihm j a8 a8) aa e q p
    obtain⟨-,bj⟩:=bk x h o B E (λj g d=>A j g (au (D Vs) j a8 (List.getElem?_eq_some_iff.1 d).1) d)
    refine wpOpIn_mono (λbv ag av=> ?_) bj
    have z:Region.ready .any b (c.setIfInBounds (D Vs) Bt)=[]:=by
     rw[List.eq_nil_iff_forall_not_mem]
     intro j d
     rw[mem_ready]at d
     obtain⟨ac,t,L,_⟩:=d
     have af:j<b.size:=(Array.getElem?_eq_some_iff.1 L).1
     have:(c.setIfInBounds (D Vs) Bt)[j]? =So Bt:=by
      by_cases d:j=D Vs
      ·subst d
       simp[s]
      ·rw[Array.getElem?_setIfInBounds_ne (Ne.symm d)]
       exact au (D Vs) j a8 a8
     simp[this]at ac
    cases G with
    |zero=>exact⟨z,av⟩
    |succ f=>exact⟨λ_=>av,λj d=>by rw[z]at d;cases d⟩
 obtain⟨bt,bs⟩:=gH r 0 a;refine wpIn_region_any bn ?_;have:=key b.size (Array.replicate b.size Bf) bt {w with drawn:=w.drawn+1} ((L6.drew w)) (λj g l _=>by simp[Array.getElem?_replicate]at l) (λj o l _=>by simp[Array.getElem?_replicate]at l) (λj _ l=>by simp[Array.getElem?_replicate]at l) i3 i3
 rw[bs]at this;exact this
theorem DI{g:Fence}{n:Nat}{P:Pg}{b:Array Oper}{Q:Exit->Act->Wd->Prop}{a:Act}{w:Wd}{id:Nat}(l:∀f,g.fn f)(t:P.follows .mixedOrders=Bt)
 (Vs:List (VR R)) (h:(D6 b.toList&&(a2O b.toList 0&&Dc (b.size=D Vs)))=Bt) (d:(Nat->Va)->Act) (k:∀x,m0 b.toList x 0 a=d x)
 (v:eB g n P b.toList d a.defers w Vs b.toList Vs)
 (r:∀x c,R w c->n9 x c (Q .normal (d x) c) Vs 0):(Code.region id b Bt).wpIn g n P Q a w:=by
 simp only[j3]at h;obtain⟨p,q,e⟩:=h;have e:b.size=D Vs:=of_decide_eq_true e;refine Y4 l t Vs _ (by rw[List.take_of_length_le (by rw[Array.length_toList,e];exact a7 _)]) p q d k v (.inl e) (λx c o u=> ?_) (λ_ x c y m=> ?_) (λz=>a8);have:=(Array.getElem?_eq_some_iff.1 u).1;omega;exact eP Vs 0 (λj i s=>by rw[Nat.zero_add];exact m j i s) (r x c y)
theorem fN{k:Fence}{n:Nat}{P:Pg}{b:Array Oper}{Q:Exit->Act->Wd->Prop}{a:Act}{w:Wd}{id:Nat}(A:∀f,k.fn f)(N:P.follows .mixedOrders=Bt)
 (Vs:List (VR R)) (p:(D6 (b.toList.take (D Vs))&&(a2O b.toList 0&&N7 b.toList 0))=Bt) (h:(Nat->Va)->Act) (z:∀x,qM b.toList Vs x 0 a=h x)
 (W:eB k n P b.toList h a.defers w Vs b.toList Vs) (c:Oper) (q:b.toList.drop (D Vs)=[c]) (H:c.guard.isNone=Bt)
 (G:∀x g,R w g->n9 x g (Wl k n P #[] Q [c] (h x) g) Vs 0):(Code.region id b Bt).wpIn k n P Q a w:=by
 simp only[j3]at p;obtain⟨E,F,C⟩:=p;have aa:b.size=D Vs+1:=by have:=congrArg List.length q;simp at this;omega
 have T:b[D Vs]? =So c:=by
  have d:(b.toList.drop (D Vs))[0]? =So c:=by rw[q];rfl
  rw[List.getElem?_drop]at d;simpa using d
 have m:∀i,i<D Vs->∃j r,i<j/\b[j]? =So r/\∃e∈r.after,Region.binds .any e=Bt/\e.on=i:=λi hi=>by obtain⟨j,o,t,u,e,v,y,ac⟩:=iU b.toList 0 i C G6;exact⟨j,o,t,by simpa using u,e,v,y,a8⟩
 refine Y4 A N Vs _ rfl E F h (λx=>by rw[<-qL];exact z x) W (.inr aa) (λx g o ad ab B=> ?_) (λd=>a8) (λ_=>m);refine⟨m,?_⟩;have l:=eP Vs 0 (λj s L=>by rw[Nat.zero_add];exact B j s L) (G x g ab);unfold wpOpIn;rw[T];dsimp only;have S:c.guard=J:=by simpa using H
 simp only[Wl,Region.wanted,S,if_true]at l⊢;exact Oper.wpIn_mono (λa w d=>d) l
end
section
variable {R:Wd->Wd->Prop} [L6 R]
theorem FA{c:Fence}{n:Nat}{P:Pg}{l:List Oper}{a:(Nat->Va)->Act}{ds:List Deferred}{w:Wd}{Vs:List (VR R)}:∀(os:List Oper)(Ws:List (VR R)),ObK (λd i b o=>g5 c n P l d ds i b o) a w Vs os Ws->D os=D Ws/\eB c n P l a ds w Vs os Ws/\∀z,eB c n P l a ds w Vs (os++[z]) Ws
 |[],[],_=>⟨rfl,trivial,λ_=>trivial⟩
 |[],_::_,h=>h.elim
 |_::_,[],h=>h.elim
 |o::os,d::Ws,h=>by obtain⟨e,f,g⟩:=FA os Ws h.2;refine⟨by simp[e],?_,λz=> ?_⟩;simp only[eB];exact⟨h.1,f⟩;rw[List.cons_append];simp only[eB];exact⟨h.1,g z⟩
theorem vD{h:Fence}{n:Nat}{P:Pg}{c:Array Oper}{Q:Exit->Act->Wd->Prop}{a:Act}{w:Wd}{id:Nat}{e:(Nat->Va)->Act}
 (k:Sq (R:=R) (λj d b o=>g5 h n P c.toList j a.defers d b o) e w (λVs=>∀x d,R w d->n9 x d (Q .normal (e x) d) Vs 0) c.toList [])
 (r:∀f,h.fn f:=by exact λ_=>trivial) (s:P.follows .mixedOrders=Bt:=by exact rfl) (g:(D6 c.toList&&a2O c.toList 0)=Bt:=by kernel_rfl)
 (q:∀x,m0 c.toList x 0 a=e x:=by intro x;(conv=>lhs;simp only[List.dropLast,m0,Act.put,uL,Nat.reduceAdd])<;>rfl):(Code.region id c Bt).wpIn h n P Q a w:=by
 rw[j3]at g;obtain⟨Ws,l,m⟩:=vQ _ _ g.2 k;obtain⟨i,p,-⟩:=FA _ _ l;have i:c.size=D Ws:=by simpa using i
 exact DI r s Ws (by rw[j3,j3];exact⟨g.1,g.2,decide_eq_true i⟩) e q p m
theorem dR:∀(os:List Oper)(z:Oper)(k:Nat),a2O (os++[z]) k=Bt->a2O os k=Bt
 |[],_,_,_=>rfl
 |o::os,z,k,h=>by rw[List.cons_append]at h;simp only[a2O,j3]at h⊢;exact⟨h.1,dR os z (k+1) h.2⟩
theorem cB{i:Fence}{n:Nat}{P:Pg}{c:Array Oper}{Q:Exit->Act->Wd->Prop}{a:Act}{w:Wd}{id:Nat}{h:(Nat->Va)->Act}{d:Oper}
 (u:Sq (R:=R) (λt g b o=>g5 i n P c.toList t a.defers g b o) h w (λVs=>∀x g,R w g->n9 x g (Wl i n P #[] Q [d] (h x) g) Vs 0) c.toList.dropLast [])
 (p:c.toList.getLast? =So d:=by exact rfl) (A:d.guard.isNone=Bt:=by exact rfl)
 (z:∀f,i.fn f:=by exact λ_=>trivial) (B:P.follows .mixedOrders=Bt:=by exact rfl) (m:(D6 c.toList.dropLast&&(a2O c.toList 0&&N7 c.toList 0))=Bt:=by kernel_rfl)
 (y:∀x,m0 c.toList.dropLast x 0 a=h x:=by intro x;(conv=>lhs;simp only[List.dropLast,m0,Act.put,uL,Nat.reduceAdd])<;>rfl):(Code.region id c Bt).wpIn i n P Q a w:=by
 rw[j3,j3]at m;have l:c.toList.dropLast++[d]=c.toList:=by
  have q:c.toList≠[]:=λe=>by rw[e]at p;cases p
  have j:=List.getLast?_eq_some_getLast q;rw[p]at j;cases j;exact List.dropLast_concat_getLast q
 obtain⟨Ws,j,v⟩:=vQ _ _ (dR _ d _ (by rw[l];exact m.2.1)) u;obtain⟨r,-,k⟩:=FA _ _ j;have k:=k d;rw[l]at k;have s:c.toList.take (D Ws)=c.toList.dropLast:=by rw[<-r,<-l];simp
 refine fN z B Ws (by rw[s,j3,j3];exact m) h (λx=>by rw[qL,s];exact y x) k d ?_ A v;rw[<-r,<-l];simp
end
def a2V{F n P ops Q a w id A}:= @vD a9 _ F n P ops Q a w id A
def aO{F n P ops Q a w id A last}:= @cB a9 _ F n P ops Q a w id A last
def M1{F n P ops Q a w id}:= @fN a9 _ F n P ops Q a w id
end
end Go.Proofs.YtcljlejgllkcjaaGreat
