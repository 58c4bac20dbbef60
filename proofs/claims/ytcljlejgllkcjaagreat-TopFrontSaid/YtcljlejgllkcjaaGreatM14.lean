/- A part of the proof of TopFront: lemmas on the walks of its calls. -/
import Derived.Shelf.SlicesE.DeleteFunc
import Derived.Test.YtcljlejgllkcjaaGreatM12
set_option maxHeartbeats 12000000
set_option linter.all false
set_option maxRecDepth 100000
namespace Go.Proofs.YtcljlejgllkcjaaGreat
open Go.RowKit Go.ChangeShapes Go.WideShapes Tryz
open Bool renaming and_eq_true→j3,true→Bt,false→Bf
open Decidable renaming decide→Dc
open Ending renaming returned→X
open Go renaming World→Wd,Value→Va,Calls→Ca,undef→Un,bodyPost_ret→Bp,Addr→Ad
open Go.Proofs renaming enters_of→Eo
open IntKind renaming i64→M,u32→V,u64→U6,u8→U8
open IntWalk renaming i64_in→h7
open List renaming getD_eq_getElem?_getD→b9,getElem?_eq_getElem→e9,length_append→g1,length_map→i1,length_cons→i4,range→m9,replicate→p4,length→D
open Nat renaming le_refl→a7,zero_le→c6
open Obj renaming cells→U
open Option renaming none→J,some→So
open Value renaming int→I,slice→Z,string→Y,pointer→K,bool→O,func→Fc,tuple→Tp,agg→Ag
abbrev r8:Va:=Z J 0 0
def A5(dy:Int):j2:=⟨[],0,[],dy,0,[],[],0,0,Bf,Bf,Bf,Bf⟩
theorem a3A(w:Wd):Ca prog 50 #[] w λe f=>e=X (Ag (i7 (A5 2147483648) r8 r8 r8 r8))/\a9 w f:=by have b:=a6 (λc=>e7.new w 36 c);unfold i7 A5 at*;dsimp only at*;go_in;go_wp2_with(refine q6 (b _) ?_;intro g a d);exact F9 a underlying36 ⟨rfl,((a9.refl w).alloc _).f d (λk e=>by cases e;exact a7 _)⟩
def p8(a:List i6):Bool:=a.any λn=> !y3 n.err
theorem EU(n:i6)(W:Wd):Ca prog 38 (#[Ag (h9.c n).toArray]++ #[]) W λe g=>e=X (O (!y3 n.err))/\a9 W g:=by obtain⟨f,l,a,t⟩:=n;have b:=a6 (uG a);have c:=(a9.refl W).alloc (U #[Y f,I M l,I M a,Y t] 49);show Ca prog 38 #[Ag #[Y f,I M l,I M a,Y t]] W _;dsimp only;generalize y3 a=m at*;go_in;go_wp2_with fail;refine l4 (b _) λh d=>?_;go_wp2;go_ret;exact⟨rfl,c.trans d⟩
theorem jV(b:p1)(n c:Nat)(a:List i6)(w:Wd)(g:D a=n)(h:n<=1000000)(f:i5 w b (h9.row a)):
 Ca prog 21 #[Z b n c] w λe d=>e=X (O (p8 a))/\a9 w d:=by
 have H:=a6 (show Ca prog 37 #[Z b n c,Fc (.func 38) #[] #[]] w λe d=>e=X (O (p8 a))/\a9 w d from cfQ a1j h9 e6 isAgg49 sizeOf49 _ 38 #[] (Eo func38 g6 rfl) b n c a w (λx _ W _=>EU x W) g h f);generalize p8 a=R at*;clear f g;go_in;go_wp2_with fail;refine l4 H λj i=>?_;go_wp2;go_ret;exact⟨rfl,i⟩
def A8(is:Int->Bool):Option Int->o5->Bool
 |_,[]=>Bt
 |p,n::r=>if !is n||(match p with|none=>Bf|some q=>Dc (n<=q))then Bf else A8 is (So n) r
def cV(l:o5):Nat->Option Int
 |0=>J
 |k+1=>l[k]?
theorem cU(is:Int->Bool)(p:Option Int)(n:Int)(r:o5):A8 is p (n::r)=if !is n||(match p with|none=>Bf|some q=>Dc (n<=q))then Bf else A8 is (So n) r:=by cases p<;>rfl
theorem oY(is:Int->Bool)(l:o5)(k:Nat)(a:k<D l):A8 is (cV l k) (l.drop k)=if !is l[k]||(Dc (0<k)&&Dc (l[k]<=(l[k-1]' a8)))then Bf else A8 is (cV l (k+1)) (l.drop (k+1)):=by
 rw[List.drop_eq_getElem_cons a];have e:cV l (k+1)=So l[k]:=e9 a;rw[e,cU];rcases k with _|j
 simp[cV];have b:cV l (j+1)=So l[j]:=e9 a8;rw[b];simp
def aF(a:Int):Bool:= !(rH a).toList.isEmpty
def dP(a:Int):Bool:= !(ZJ j7 a).toList.isEmpty
theorem YN(a:Int)(W:Wd):Ca prog 95 #[I M a] W λe d=>e=X (Y (rH a))/\a9 W d:=by
 by_cases c:a<0\/6<=a;have e:rH a=⟨#[]⟩:=by
  unfold rH;split;have:D r2<=a.toNat:=by show 6<=_;omega
  simp[b9,List.getElem?_eq_none this];rfl
 rw[e];exact HF a c W;obtain⟨k,rfl⟩:∃k:Nat,a=k:=⟨a.toNat,a8⟩;have b:k<D r2:=by show k<6;omega
 have e:rH (k:Int)=r2[k].1:=by unfold rH;rw[if_pos a8,Int.toNat_natCast];simp[b9,b]
 rw[e];exact mG k b W
theorem a0q(x:Int)(W:Wd):Ca prog 94 #[I M x] W λe b=>e=X (O (aF x))/\a9 W b:=by have H:=a6 (λW=>show Ca prog 95 #[I M x] W _ from YN x W);unfold aF;generalize rH x=s at*;go_in;go_wp2_with fail;refine l4 (H _) λc a=>?_;go_wp2;go_ret;exact⟨i3,a⟩
theorem a3m(s:p1)(n c:Nat)(l:o5)(w:Wd)(C:D l=n)(ac:n<=1000000)(z:i5 w s (l8 M l)):Ca prog 93 #[Z s n c,Fc (.func 94) #[] #[]] w λe Q=>e=X (O (A8 aF J l))/\a9 w Q:=by
 obtain⟨u,v⟩:=j0 z C;obtain⟨R,r⟩:∃R,R=A8 aF J l:=⟨_,rfl⟩;rw[<-r];obtain⟨F,G⟩:=j0 r (oY aF l);clear z C r;go_wp2;go_loopw [9] (λi wr=>∃k:Nat,k<=n/\i=I M k/\R=A8 aF (cV l k) (l.drop k)/\a9 w wr) (λi _=>n-(intOf i).toNat);exact⟨0,c6 _,rfl,F.O,a9.refl _⟩;obtain⟨k,ae,rfl,g,f⟩:=hrel;by_cases P:k<n
 ·have B:k<D l:=by rw[v.O];exact P
  obtain⟨b,o,rfl,ad,aa⟩:=(u.h f).num B;have y:=λW(N:a9 wr W)=>((u.h f).h N).cell (Q9 (a8:k-1<D l))
  have t:=a6 y;rw[G k B]at g;have m:=a6 (λW=>a0q l[k] W);generalize l[k]=x at*;generalize l[k-1]=T at*;generalize aF x=q at*;have h:=a6 g;clear g y;have k0:(k:Int)<n:=a8;have k1:(0:Int)<=k:=a8;rcases q with _|_
  ·go_wp2_with fail;refine l4 (m _) λS d=>?_;go_wp2;go_ret;exact⟨by rw[h.O];rfl,f.trans d⟩
  by_cases ab:0<k
  ·have L:Dc ((0:Int)<k)=Bt:=by simp;omega
   have S:IntKind.i64.wrap ((k:Int)-1)=((k-1:Nat):Int):=by rw[(a8:(k:Int)-1=((k-1:Nat):Int))];exact h7 _ a8
   have k2:((k-1:Nat):Int)<n:=a8;have k3:(0:Int)<=((k-1:Nat):Int):=a8;have a:=h.O;have p:Dc (0<k)=Bt:=by simp;omega
   rw[p]at a;rcases A:Dc (x<=T)with _|_
   ·rw[A]at a;have j:=a6 (show R=A8 aF (cV l (k+1)) (l.drop (k+1))from a);clear a;go_wp2_with fail;refine l4 (m _) λE d=>?_;have H:=t _ d;go_wp2;go_roundw;exact⟨k+1,a8,o3,j.O,f.trans d⟩;simp[intOf];omega
   rw[A]at a;have j:=a6 (show R=Bf from a);clear a;go_wp2_with fail;refine l4 (m _) λE d=>?_;have H:=t _ d;go_wp2;go_ret;exact⟨by rw[j.O];rfl,f.trans d⟩
  have L:Dc ((0:Int)<k)=Bf:=by simp;omega
  have a:=h.O;have p:Dc (0<k)=Bf:=by simp;omega
  rw[p]at a;have j:=a6 (show R=A8 aF (cV l (k+1)) (l.drop (k+1))from a);clear a;go_wp2_with fail;refine l4 (m _) λE d=>?_;go_wp2;go_roundw;exact⟨k+1,a8,o3,j.O,f.trans d⟩;simp[intOf];omega
 obtain rfl:k=n:=a8;have e:l.drop k=[]:=by rw[List.drop_eq_nil_iff,v.O];exact a7 _
 rw[e]at g;have h:=a6 g;clear g e;go_wp2;go_ret;exact⟨by rw[h.O];rfl,f⟩
theorem a0p(x:Int)(W:Wd):Ca prog 97 #[I V x] W λe b=>e=X (O (dP x))/\a9 W b:=by have H:=a6 (λW=>show Ca prog 98 #[I V x] W _ from wN x W);unfold dP;generalize ZJ j7 x=s at*;go_in;go_wp2_with fail;refine l4 (H _) λc a=>?_;go_wp2;go_ret;exact⟨i3,a⟩
theorem a3l(s:p1)(n c:Nat)(l:o5)(w:Wd)(C:D l=n)(ac:n<=1000000)(z:i5 w s (l8 V l)):Ca prog 96 #[Z s n c,Fc (.func 97) #[] #[]] w λe Q=>e=X (O (A8 dP J l))/\a9 w Q:=by
 obtain⟨u,v⟩:=j0 z C;obtain⟨R,r⟩:∃R,R=A8 dP J l:=⟨_,rfl⟩;rw[<-r];obtain⟨F,G⟩:=j0 r (oY dP l);clear z C r;go_wp2;go_loopw [9] (λi wr=>∃k:Nat,k<=n/\i=I M k/\R=A8 dP (cV l k) (l.drop k)/\a9 w wr) (λi _=>n-(intOf i).toNat);exact⟨0,c6 _,rfl,F.O,a9.refl _⟩;obtain⟨k,ae,rfl,g,f⟩:=hrel;by_cases P:k<n
 ·have B:k<D l:=by rw[v.O];exact P
  obtain⟨b,o,rfl,ad,aa⟩:=(u.h f).num B;have y:=λW(N:a9 wr W)=>((u.h f).h N).cell (Q9 (a8:k-1<D l))
  have t:=a6 y;rw[G k B]at g;have m:=a6 (λW=>a0p l[k] W);generalize l[k]=x at*;generalize l[k-1]=T at*;generalize dP x=q at*;have h:=a6 g;clear g y;have k0:(k:Int)<n:=a8;have k1:(0:Int)<=k:=a8;rcases q with _|_
  ·go_wp2_with fail;refine l4 (m _) λS d=>?_;go_wp2;go_ret;exact⟨by rw[h.O];rfl,f.trans d⟩
  by_cases ab:0<k
  ·have L:Dc ((0:Int)<k)=Bt:=by simp;omega
   have S:IntKind.i64.wrap ((k:Int)-1)=((k-1:Nat):Int):=by rw[(a8:(k:Int)-1=((k-1:Nat):Int))];exact h7 _ a8
   have k2:((k-1:Nat):Int)<n:=a8;have k3:(0:Int)<=((k-1:Nat):Int):=a8;have a:=h.O;have p:Dc (0<k)=Bt:=by simp;omega
   rw[p]at a;rcases A:Dc (x<=T)with _|_
   ·rw[A]at a;have j:=a6 (show R=A8 dP (cV l (k+1)) (l.drop (k+1))from a);clear a;go_wp2_with fail;refine l4 (m _) λE d=>?_;have H:=t _ d;go_wp2;go_roundw;exact⟨k+1,a8,o3,j.O,f.trans d⟩;simp[intOf];omega
   rw[A]at a;have j:=a6 (show R=Bf from a);clear a;go_wp2_with fail;refine l4 (m _) λE d=>?_;have H:=t _ d;go_wp2;go_ret;exact⟨by rw[j.O];rfl,f.trans d⟩
  have L:Dc ((0:Int)<k)=Bf:=by simp;omega
  have a:=h.O;have p:Dc (0<k)=Bf:=by simp;omega
  rw[p]at a;have j:=a6 (show R=A8 dP (cV l (k+1)) (l.drop (k+1))from a);clear a;go_wp2_with fail;refine l4 (m _) λE d=>?_;go_wp2;go_roundw;exact⟨k+1,a8,o3,j.O,f.trans d⟩;simp[intOf];omega
 obtain rfl:k=n:=a8;have e:l.drop k=[]:=by rw[List.drop_eq_nil_iff,v.O];exact a7 _
 rw[e]at g;have h:=a6 g;clear g e;go_wp2;go_ret;exact⟨by rw[h.O];rfl,f⟩
section
open Go.Shelf Go.Sort
def CR(xs:o5)(x:Int):Nat:=CQ (λh=>Dc (xs.getD h 0<x)) (D xs) 0 (D xs)
def p9(xs:o5)(n:Int):o5:=xs.filter λx=> !(x==n)
def withT(xs:o5)(n:Int)(inn:Bool):o5:=if inn then P4 (p9 xs n) (CR (p9 xs n) n) n else p9 xs n
theorem s2(k:IntKind)(E:s7 Int)(h:∀x,E.c x=[I k x])(xs:o5):E.row xs=l8 k xs:=by
 induction xs with
 |nil=>rfl
 |cons x r ih=>rw[E.row_cons,h,ih];rfl
theorem V1(xs:o5)(n:Int):D (p9 xs n)<=D xs:=List.length_filter_le _ _
theorem eC(xs:o5)(n:Int)(inn:Bool):D (withT xs n inn)<=D xs+1:=by have:=V1 xs n;unfold withT;split;rw[BE];omega;omega
theorem BI{a:Type}[Inhabited a](enc:a->Va){w:Wd}{g n:Nat}{os:Array Obj}(b:Array a):w.grownBy (sortWorld enc w g 0 n b os) (So g):=by
 refine⟨rfl,rfl,rfl,by simp[sortWorld],λk c d=> ?_⟩;unfold sortWorld;rw[heap_grow_old _ _ (by simpa using c)];have:g≠k:=λe=>d (by rw[e])
 simp[putRow,mapBlock,Sort.ahead,Array.getElem?_modify,this]
theorem a36(x:Int)(W:Wd):Ca prog 451 #[I M x] W λe a=>e=X (O Bf)/\W=a:=by go_in;go_wp2;go_ret;exact⟨rfl,rfl⟩
theorem a5d(x:Int)(W:Wd):Ca prog 425 #[I M x] W λe a=>e=X (O Bf)/\W=a:=by go_in;go_wp2;go_ret;exact⟨rfl,rfl⟩
theorem a5A(x a:Int)(W:Wd):Ca prog 424 #[I M x,I M a] W λe b=>e=X (O (Dc (x<a)))/\W=b:=by have H:=a6 (a36 x W);go_in;go_wp2_with fail;apply H.mono;rintro e c⟨rfl,rfl⟩;go_wp2;go_ret;exact⟨rfl,rfl⟩
theorem a54(n:p1)(c:Nat)(xs:o5)(x:Int)(w:Wd)(N:D xs<=1000000)(r:i5 w n (l8 M xs)):
 Ca prog 380 #[Z n (D xs) c,I M x] w λe l=>∃q,e=X (Tp #[I M (CR xs x:Nat),O q])/\w=l:=by
 obtain⟨R,g⟩:∃R,R=CR xs x:=⟨_,rfl⟩;rw[<-g];unfold CR at g;obtain⟨p,u⟩:=j0 r (λ(i:Nat)(A:i<D xs)=>show xs.getD i 0=xs[i] by simp[b9,A]);clear r;go_wp2;go_loopg [7,8] (D xs) (λG L H wr=>∃d a f:Nat,L=I M d/\H=I M a/\d<=a/\a<=D xs/\a-d<=G/\a-d<=f/\R=CQ (λi=>Dc (xs.getD i 0<x)) f d a/\wr=w);exact⟨0,D xs,D xs,rfl,rfl,c6 _,a7 _,a8,a8,g,rfl⟩;clear g;obtain⟨d,a,f,rfl,rfl,T,B,S,Q,g,rfl⟩:=hrel;by_cases C:d<a
 ·have s:(d+a)/2<D xs:=a8;obtain⟨b,o,rfl,z,v⟩:=p.num s;obtain⟨f,rfl⟩:∃y,f=y+1:=⟨f-1,a8⟩;unfold CQ at g;rw[if_pos C,u _ s]at g;generalize xs[(d+a)/2]=j at*;have k:=a6 (a5A j x wr);by_cases h:j<x;·rw[if_pos (decide_eq_true h)]at g;rw[decide_eq_true h]at k;have m:=a6 g;clear g h;go_wp2_with fail;apply k.mono;rintro e l⟨rfl,rfl⟩;go_wp2;go_roundg (a-((d+a)/2+1));exact⟨(d+a)/2+1,a,f,by rw[(a8:((d:Int)+(a:Int))/2+1=(((d+a)/2+1:Nat):Int))],rfl,a8,B,a7 _,a8,m.O,rfl⟩;omega
  rw[decide_eq_false h,if_neg e6]at g;rw[decide_eq_false h]at k;have m:=a6 g;clear g h;go_wp2_with fail;apply k.mono;rintro e l⟨rfl,rfl⟩;go_wp2;go_roundg ((d+a)/2-d);exact⟨d,(d+a)/2,f,rfl,by rw[(a8:((d:Int)+(a:Int))/2=(((d+a)/2:Nat):Int))],a8,a8,a7 _,a8,m.O,rfl⟩;omega
 obtain rfl:d=a:=a8;rw[iZ]at g;subst g;by_cases E:R<D xs
 ·obtain⟨b,o,rfl,z,v⟩:=p.num E;generalize xs[R]=j at*;have t:=a6 (a5d j wr);have F:(R:Int)<D xs:=a8;rcases P:j==x with _|_
  ·go_wp2_with fail;apply t.mono;rintro e l⟨rfl,rfl⟩;go_wp2;go_ret2;exact⟨_,rfl,rfl⟩
  go_wp2;go_ret2;exact⟨_,rfl,rfl⟩
 have F:Dc ((R:Int)<D xs)=Bf:=by simp;omega
 go_wp2;go_ret2;exact⟨_,rfl,rfl⟩
theorem a5D:SlLaysH.n10 prog ⟨λ|6=>313|10=>378|n=>n,λ|22=>28|23=>3|25=>90|3=>3|4=>4|0=>0|n=>n,λn=>n⟩:=by
 constructor
 case f6=>exact⟨f313.name,e6,func313.trans (congrArg So g6)⟩
 case f10=>exact⟨f378.name,e6,func378.trans (congrArg So g6)⟩
 all_goals first|(intro w;kernel_rfl)|kernel_rfl
theorem QS(x n:Int)(g:Nat)(W:Wd)(b:W.cell? ⟨g,0,J⟩=So (I M n)):Ca prog 379 (#[I M x]++ #[K g]) W λe a=>e=X (O (x==n))/\∃q,a=W.drewN q:=by show Ca prog 379 #[I M x,K g] W _;go_in;go_wp2;go_ret;exact⟨rfl,0,rfl⟩
theorem a3h(v:Va)(xs:o5)(n:Int)(base g:Nat)(w:Wd)(ag:D xs<=1000000)(a:c7 w base 3 B6 v xs)(o:e7 w g 3 #[I M n])(ae:g<base):
 Ca prog 378 #[v,Fc (.func 379) #[] #[K g]] w λe j=>∃v',e=X v'/\c7 j base 3 B6 v' (p9 xs n)/\w.grownBy j v.ownBlock:=by
 have C:∀xs:o5,xs.filter (λx=> !(x==n))=p9 xs n:=λ_=>rfl
 obtain⟨L,c,rfl,a⟩:=a;rcases a.2 with⟨i,t⟩|⟨b,cap,cur,i,T,S,u,P,Q,R⟩
 ·have d:xs=[]:=List.eq_nil_of_length_eq_zero t;subst d;cases i;have f:V4 prog 379 #[K g] (I M) (λx=>x==n) w []:=λx d=>by cases d
  obtain⟨H,z⟩:=j0 (show Ca prog 313 #[Z J 0 0,Fc (.func 379) #[] #[K g]] w _ from ixE VS (I M) isAgg3 sizeOf3 (λx=>x==n) 379 #[K g] (Eo func379 g6 rfl) J 0 0 [] w f rfl a8 (i5.nil _ _)) a;clear a f;go_in;go_wp2_with fail;refine l4 H λah d=>?_;go_wp2;go_ret;exact⟨_,rfl,c7.h ⟨J,0,rfl,z.O⟩ d,j4 d _⟩
 cases i;have h:(Z b (D xs) c)≠ Z J 0 0:=λs=>by cases s
 rw[s2 M B6 (λ_=>rfl)]at a;have p:=a;obtain⟨_,_,G,_,af,_,_,ac,y⟩:=Lib.holds_of_ownsRow (zs:=xs) p h;cases G;have E:So g≠So b:=λe=>by injection e with e;omega
 have f:PredAt prog 379 #[K g] (I M) (λx=>x==n) w:=λW x A=>QS x n g W ((o.h A).cell 0)
 have F:PredOver prog 379 #[K g] (I M) (λx=>x==n) b 0 xs.toArray.size w:=λm os N x aa=>QS x n g _ ((o.grown (row:=So b) (BI _ _) E).cell 0)
 have ad:=V1 xs n;have:=AnyE.slices_DeleteFunc a5D (I M) (λ_=>rfl) (λx=>x==n) 379 #[K g] (Eo func379 g6 rfl) 0 (by intro w;kernel_rfl) b 0 c xs.toArray w f F y G6 (by simpa using u);simp only[C,List.size_toArray]at this;refine this.mono λe j⟨B,q,r⟩=>⟨_,B,⟨_,c,rfl,?_⟩,?_⟩
 rw[r];have l:=Lib.ownsRow_putRow (q:=q) (k:=D (p9 xs n)) (ys:=p9 xs n++p4 (D xs-D (p9 xs n)) 0) p G6 a8;rw[List.take_left]at l;rw[s2 M B6 (λ_=>rfl)];exact l;rw[r];refine⟨rfl,rfl,rfl,by simp[putRow,mapBlock,Sort.ahead],λk ab h=> ?_⟩;have:b≠k:=λe=>h (by rw[e];rfl)
 simp[putRow,mapBlock,Sort.ahead,Array.getElem?_modify,this]
theorem SQ(v:Va)(xs:o5)(n:Int)(inn:Bool)(w:Wd)(ab:D xs<=100000)(y:yH w B6 v xs):
 Ca prog 289 #[v,I M n,O inn] w λe C=>∃v',e=X v'/\c7 C (w+1) 3 B6 v' (withT xs n inn)/\a9 w C:=by
 have o:=(a9.refl w).alloc (U #[I M n] 3);have B:=e7.new w 3 #[I M n];obtain⟨s,t,r⟩:=r6 (show Ca prog 217 #[v] (w.alloc (U #[I M n] 3)) _ from N3 VW B6 gB sizeOf3 a8 (y.h o)) o B;have f:withT xs n inn=if inn then P4 (p9 xs n) (CR (p9 xs n) n) n else p9 xs n:=rfl
 generalize withT xs n inn=R at*;have aa:=V1 xs n;have N:CR (p9 xs n) n<=D (p9 xs n):=qZ _ _ _ _ (c6 _);have f:=a6 f;obtain⟨T,c,rfl,-,-⟩:=y;clear o B;go_in;go_wp2_with fail;apply s.mono;rintro e S⟨Q,rfl,b,p⟩;have h:=r.h p;replace b:=b.mono (b2:=w+1) i3;go_wp2_with fail;apply(a3h Q xs n (w+1) w S a8 b h a8).mono;rintro e a⟨ad,rfl,d,l⟩;have A:=(t.trans p).f l (λk m=>by have:=(b.lt m).1;omega);have i:=h.grown l (λe=>by have:=(b.lt e.symm).1;omega);have W:=i.cell 0;obtain⟨u,F⟩:=j0 A i;rcases inn with _|_
 ·go_wp2;go_ret;exact⟨_,rfl,by rw[f.O];exact d,u.O⟩
 obtain⟨g,x,rfl⟩:=d.b;have j:=a6 d;have z:i5 a g (l8 M (p9 xs n)):=by rw[<-s2 M B6 (λ_=>rfl)];exact d.i.1
 have H:=a6 (a54 g x (p9 xs n) n a a8 z);clear d b h i A l z r s p t;go_wp2_with fail;apply H.mono;rintro e af⟨q,rfl,rfl⟩;have ac:w+1<=a.heap.size:=F.lt;have G:=a6 (RZ (E:=B6) a1g gB n (Z g (D (p9 xs n)) x) (p9 xs n) (w+1) (CR (p9 xs n) n) a (a.alloc (U #[I M n] 3)) a8 N ((j.O).h ((a9.refl a).alloc _)) (e7.new a _ _) (λe=>by have:=(j.lt e).2;omega) G6);go_wp2_with fail;apply G.mono;rintro e ag⟨ae,rfl,P,L,-⟩;go_wp2;go_ret;exact⟨_,rfl,by rw[f.O];exact P,(u.alloc _).f L (λk m=>by have:=(j.lt m).1;omega)⟩
theorem a35(x:Int)(W:Wd):Ca prog 238 #[I V x] W λe a=>e=X (O Bf)/\W=a:=by go_in;go_wp2;go_ret;exact⟨rfl,rfl⟩
theorem a5c(x:Int)(W:Wd):Ca prog 430 #[I V x] W λe a=>e=X (O Bf)/\W=a:=by go_in;go_wp2;go_ret;exact⟨rfl,rfl⟩
theorem a5z(x a:Int)(W:Wd):Ca prog 429 #[I V x,I V a] W λe b=>e=X (O (Dc (x<a)))/\W=b:=by have H:=a6 (a35 x W);go_in;go_wp2_with fail;apply H.mono;rintro e c⟨rfl,rfl⟩;go_wp2;go_ret;exact⟨rfl,rfl⟩
theorem a53(n:p1)(c:Nat)(xs:o5)(x:Int)(w:Wd)(N:D xs<=1000000)(r:i5 w n (l8 V xs)):
 Ca prog 384 #[Z n (D xs) c,I V x] w λe l=>∃q,e=X (Tp #[I M (CR xs x:Nat),O q])/\w=l:=by
 obtain⟨R,g⟩:∃R,R=CR xs x:=⟨_,rfl⟩;rw[<-g];unfold CR at g;obtain⟨p,u⟩:=j0 r (λ(i:Nat)(A:i<D xs)=>show xs.getD i 0=xs[i] by simp[b9,A]);clear r;go_wp2;go_loopg [7,8] (D xs) (λG L H wr=>∃d a f:Nat,L=I M d/\H=I M a/\d<=a/\a<=D xs/\a-d<=G/\a-d<=f/\R=CQ (λi=>Dc (xs.getD i 0<x)) f d a/\wr=w);exact⟨0,D xs,D xs,rfl,rfl,c6 _,a7 _,a8,a8,g,rfl⟩;clear g;obtain⟨d,a,f,rfl,rfl,T,B,S,Q,g,rfl⟩:=hrel;by_cases C:d<a
 ·have s:(d+a)/2<D xs:=a8;obtain⟨b,o,rfl,z,v⟩:=p.num s;obtain⟨f,rfl⟩:∃y,f=y+1:=⟨f-1,a8⟩;unfold CQ at g;rw[if_pos C,u _ s]at g;generalize xs[(d+a)/2]=j at*;have k:=a6 (a5z j x wr);by_cases h:j<x;·rw[if_pos (decide_eq_true h)]at g;rw[decide_eq_true h]at k;have m:=a6 g;clear g h;go_wp2_with fail;apply k.mono;rintro e l⟨rfl,rfl⟩;go_wp2;go_roundg (a-((d+a)/2+1));exact⟨(d+a)/2+1,a,f,by rw[(a8:((d:Int)+(a:Int))/2+1=(((d+a)/2+1:Nat):Int))],rfl,a8,B,a7 _,a8,m.O,rfl⟩;omega
  rw[decide_eq_false h,if_neg e6]at g;rw[decide_eq_false h]at k;have m:=a6 g;clear g h;go_wp2_with fail;apply k.mono;rintro e l⟨rfl,rfl⟩;go_wp2;go_roundg ((d+a)/2-d);exact⟨d,(d+a)/2,f,rfl,by rw[(a8:((d:Int)+(a:Int))/2=(((d+a)/2:Nat):Int))],a8,a8,a7 _,a8,m.O,rfl⟩;omega
 obtain rfl:d=a:=a8;rw[iZ]at g;subst g;by_cases E:R<D xs
 ·obtain⟨b,o,rfl,z,v⟩:=p.num E;generalize xs[R]=j at*;have t:=a6 (a5c j wr);have F:(R:Int)<D xs:=a8;rcases P:j==x with _|_
  ·go_wp2_with fail;apply t.mono;rintro e l⟨rfl,rfl⟩;go_wp2;go_ret2;exact⟨_,rfl,rfl⟩
  go_wp2;go_ret2;exact⟨_,rfl,rfl⟩
 have F:Dc ((R:Int)<D xs)=Bf:=by simp;omega
 go_wp2;go_ret2;exact⟨_,rfl,rfl⟩
theorem a5C:SlLaysH.n10 prog ⟨λ|6=>428|10=>382|n=>n,λ|22=>33|23=>32|25=>172|3=>3|4=>4|0=>0|n=>n,λn=>n⟩:=by
 constructor
 case f6=>exact⟨f428.name,e6,func428.trans (congrArg So g6)⟩
 case f10=>exact⟨f382.name,e6,func382.trans (congrArg So g6)⟩
 all_goals first|(intro w;kernel_rfl)|kernel_rfl
theorem QR(x n:Int)(g:Nat)(W:Wd)(b:W.cell? ⟨g,0,J⟩=So (I V n)):Ca prog 383 (#[I V x]++ #[K g]) W λe a=>e=X (O (x==n))/\∃q,a=W.drewN q:=by show Ca prog 383 #[I V x,K g] W _;go_in;go_wp2;go_ret;exact⟨rfl,0,rfl⟩
theorem a3g(v:Va)(xs:o5)(n:Int)(base g:Nat)(w:Wd)(ag:D xs<=1000000)(a:c7 w base 32 F4 v xs)(o:e7 w g 32 #[I V n])(ae:g<base):
 Ca prog 382 #[v,Fc (.func 383) #[] #[K g]] w λe j=>∃v',e=X v'/\c7 j base 32 F4 v' (p9 xs n)/\w.grownBy j v.ownBlock:=by
 have C:∀xs:o5,xs.filter (λx=> !(x==n))=p9 xs n:=λ_=>rfl
 obtain⟨L,c,rfl,a⟩:=a;rcases a.2 with⟨i,t⟩|⟨b,cap,cur,i,T,S,u,P,Q,R⟩
 ·have d:xs=[]:=List.eq_nil_of_length_eq_zero t;subst d;cases i;have f:V4 prog 383 #[K g] (I V) (λx=>x==n) w []:=λx d=>by cases d
  obtain⟨H,z⟩:=j0 (show Ca prog 428 #[Z J 0 0,Fc (.func 383) #[] #[K g]] w _ from ixE a3Z (I V) isAgg32 sizeOf32 (λx=>x==n) 383 #[K g] (Eo func383 g6 rfl) J 0 0 [] w f rfl a8 (i5.nil _ _)) a;clear a f;go_in;go_wp2_with fail;refine l4 H λah d=>?_;go_wp2;go_ret;exact⟨_,rfl,c7.h ⟨J,0,rfl,z.O⟩ d,j4 d _⟩
 cases i;have h:(Z b (D xs) c)≠ Z J 0 0:=λs=>by cases s
 rw[s2 V F4 (λ_=>rfl)]at a;have p:=a;obtain⟨_,_,G,_,af,_,_,ac,y⟩:=Lib.holds_of_ownsRow (zs:=xs) p h;cases G;have E:So g≠So b:=λe=>by injection e with e;omega
 have f:PredAt prog 383 #[K g] (I V) (λx=>x==n) w:=λW x A=>QR x n g W ((o.h A).cell 0)
 have F:PredOver prog 383 #[K g] (I V) (λx=>x==n) b 0 xs.toArray.size w:=λm os N x aa=>QR x n g _ ((o.grown (row:=So b) (BI _ _) E).cell 0)
 have ad:=V1 xs n;have:=AnyE.slices_DeleteFunc a5C (I V) (λ_=>rfl) (λx=>x==n) 383 #[K g] (Eo func383 g6 rfl) 0 (by intro w;kernel_rfl) b 0 c xs.toArray w f F y G6 (by simpa using u);simp only[C,List.size_toArray]at this;refine this.mono λe j⟨B,q,r⟩=>⟨_,B,⟨_,c,rfl,?_⟩,?_⟩
 rw[r];have l:=Lib.ownsRow_putRow (q:=q) (k:=D (p9 xs n)) (ys:=p9 xs n++p4 (D xs-D (p9 xs n)) 0) p G6 a8;rw[List.take_left]at l;rw[s2 V F4 (λ_=>rfl)];exact l;rw[r];refine⟨rfl,rfl,rfl,by simp[putRow,mapBlock,Sort.ahead],λk ab h=> ?_⟩;have:b≠k:=λe=>h (by rw[e];rfl)
 simp[putRow,mapBlock,Sort.ahead,Array.getElem?_modify,this]
theorem SP(v:Va)(xs:o5)(n:Int)(inn:Bool)(w:Wd)(ab:D xs<=100000)(y:yH w F4 v xs):
 Ca prog 292 #[v,I V n,O inn] w λe C=>∃v',e=X v'/\c7 C (w+1) 32 F4 v' (withT xs n inn)/\a9 w C:=by
 have o:=(a9.refl w).alloc (U #[I V n] 32);have B:=e7.new w 32 #[I V n];obtain⟨s,t,r⟩:=r6 (show Ca prog 218 #[v] (w.alloc (U #[I V n] 32)) _ from N3 VV F4 RB sizeOf32 a8 (y.h o)) o B;have f:withT xs n inn=if inn then P4 (p9 xs n) (CR (p9 xs n) n) n else p9 xs n:=rfl
 generalize withT xs n inn=R at*;have aa:=V1 xs n;have N:CR (p9 xs n) n<=D (p9 xs n):=qZ _ _ _ _ (c6 _);have f:=a6 f;obtain⟨T,c,rfl,-,-⟩:=y;clear o B;go_in;go_wp2_with fail;apply s.mono;rintro e S⟨Q,rfl,b,p⟩;have h:=r.h p;replace b:=b.mono (b2:=w+1) i3;go_wp2_with fail;apply(a3g Q xs n (w+1) w S a8 b h a8).mono;rintro e a⟨ad,rfl,d,l⟩;have A:=(t.trans p).f l (λk m=>by have:=(b.lt m).1;omega);have i:=h.grown l (λe=>by have:=(b.lt e.symm).1;omega);have W:=i.cell 0;obtain⟨u,F⟩:=j0 A i;rcases inn with _|_
 ·go_wp2;go_ret;exact⟨_,rfl,by rw[f.O];exact d,u.O⟩
 obtain⟨g,x,rfl⟩:=d.b;have j:=a6 d;have z:i5 a g (l8 V (p9 xs n)):=by rw[<-s2 V F4 (λ_=>rfl)];exact d.i.1
 have H:=a6 (a53 g x (p9 xs n) n a a8 z);clear d b h i A l z r s p t;go_wp2_with fail;apply H.mono;rintro e af⟨q,rfl,rfl⟩;have ac:w+1<=a.heap.size:=F.lt;have G:=a6 (RZ (E:=F4) a1f RB n (Z g (D (p9 xs n)) x) (p9 xs n) (w+1) (CR (p9 xs n) n) a (a.alloc (U #[I V n] 32)) a8 N ((j.O).h ((a9.refl a).alloc _)) (e7.new a _ _) (λe=>by have:=(j.lt e).2;omega) G6);go_wp2_with fail;apply G.mono;rintro e ag⟨ae,rfl,P,L,-⟩;go_wp2;go_ret;exact⟨_,rfl,by rw[f.O];exact P,(u.alloc _).f L (λk m=>by have:=(j.lt m).1;omega)⟩
end
def AC(p:j2):Bool:=p.lc.any λc=>c.2 !=0
def qR(p:j2):Bool:=p.dy==2147483648||(Dc (327680<=p.dy)&&Dc (p.dy<=331775))
def AP(p:j2):Bool:=Dc (p.am<=2)&&(p.am !=0||(D p.fa:Int)==0)
def spB(p:j2):Bool:=bits .andNot U6 p.sp l9==0
def F0(p:j2):Bool:=(((((((!AC p&&qR p)&&AP p)&&A8 aF J p.ar)&&A8 dP J p.fa)&&A6 p.fm p.fc)&&A6 p.lm p.lc)&&spB p)
theorem a0w(n:n0)(W:Wd):Ca prog 92 (#[Ag (a2J.c n).toArray]++ #[]) W λe b=>e=X (O (n.2 !=0))/\a9 W b:=by obtain⟨s,x⟩:=n;have a:=(a9.refl W).alloc (U #[Y s,I V x] 94);show Ca prog 92 #[Ag #[Y s,I V x]] W _;go_in;go_wp2;go_ret;exact⟨rfl,a⟩
theorem ET(p:j2)(E F G H:Va)(w:Wd)(u:p.small)(t:0<=p.fm/\0<=p.lm)(d:R7 w p E F G H):Ca prog 52 #[.agg (i7 p E F G H)] w λe be=>e=X (O (F0 p))/\a9 w be:=by
 have ce:=(a9.refl w).alloc (U (i7 p E F G H) 36);have ca:=e7.new w 36 (i7 p E F G H);have dc:w<(w.alloc (U (i7 p E F G H) 36)).heap.size:=i3;obtain⟨Aa,cu,rfl,au,-⟩:=d.a;obtain⟨Af,bq,rfl,cb,-⟩:=d.f;obtain⟨Al,P,rfl,bb,-⟩:=d.l;obtain⟨Am,cv,rfl,bc,-⟩:=d.m;rw[s2 M B6 (λ_=>rfl)]at au;rw[s2 V F4 (λ_=>rfl)]at bc;obtain⟨bi,bj,bk,co,cp,cq⟩:=dK (λa(b:a9 w a)=>show Ca prog 91 #[Z Al (D p.lc) P,Fc (.func 92) #[] #[]] a λe be=>e=X (O (AC p))/\a9 a be from cfQ VX a2J e6 isAgg94 sizeOf94 _ 92 #[] (Eo func92 g6 rfl) Al (D p.lc) P p.lc a (λx _ W _=>a0w x W) rfl (by have:=u.l;omega) (bb.h b)) (λa(b:a9 w a)=>a3m Aa (D p.ar) cu p.ar a rfl (by have:=u.a;omega) (au.h b)) (λa(b:a9 w a)=>a3l Am (D p.fa) cv p.fa a rfl (by have:=u.m;omega) (bc.h b)) (λa(b:a9 w a)=>iM p.fm t.1 Af (D p.fc) bq p.fc a rfl (by have:=u.f;omega) (cb.h b)) (λa(b:a9 w a)=>iM p.lm t.2 Al (D p.lc) P p.lc a rfl (by have:=u.l;omega) (bb.h b)) (λa=>AL a);have f:qR p=(p.dy==2147483648||(Dc (327680<=p.dy)&&Dc (p.dy<=331775))):=rfl;have cc:AP p=(Dc (p.am<=2)&&(p.am !=0||(D p.fa:Int)==0)):=rfl;have cd:spB p=(bits .andNot U6 p.sp l9==0):=rfl;obtain⟨R,B⟩:∃R,R=F0 p:=⟨_,rfl⟩;rw[<-B];unfold F0 at B;generalize AC p=b1 at*;generalize qR p=b2 at*;generalize AP p=b3 at*;generalize A8 aF J p.ar=b4 at*;generalize A8 dP J p.fa=bn at*;generalize A6 p.fm p.fc=bo at*;generalize A6 p.lm p.lc=bp at*;generalize spB p=ct at*;obtain⟨ar,fm,fc,dy,lm,lc,fa,am,sp,we,pe,rt,np⟩:=p;dsimp only[i7]at*;obtain⟨v,av⟩:∃c,c=(!b1&&b2):=⟨_,rfl⟩;obtain⟨y,aw⟩:∃c,c=(v&&b3):=⟨_,rfl⟩;obtain⟨z,ax⟩:∃c,c=(y&&b4):=⟨_,rfl⟩;obtain⟨k,ay⟩:∃c,c=(z&&bn):=⟨_,rfl⟩;obtain⟨l,az⟩:∃c,c=(k&&bo):=⟨_,rfl⟩;obtain⟨h,ba⟩:∃c,c=(l&&bp):=⟨_,rfl⟩;rw[<-av,<-aw,<-ax,<-ay,<-az,<-ba]at B;obtain⟨an,ap,bl,bm,cr,cs⟩:=dK ca ce f cc cd B;obtain⟨ch,ci,cj,ck,cm,cn⟩:=dK av aw ax ay az ba;clear ca ce f cc cd B av aw ax ay az ba au cb bb bc d u t;go_in;have da:=an.cell 5;go_wp2_with fail;refine l4 (bi _ ap.O) λdb bg=>?_;obtain⟨n,N⟩:=j0 (an.h bg) (ap.trans bg);clear bg da an ap bi;go_upto_region 2 with fail;go_cut [4] (λbd bf=>bd=O b2/\bf=db)
 ·have dd:=n.cell 3;have f:=bl.O;rcases m:dy==2147483648 with _|_
  ·rcases A:Dc (327680<=dy)with _|_
   ·rw[m,A]at f;go_wp2;go_meet;exact⟨by rw[f];rfl,rfl⟩
   rw[m,A]at f;go_wp2;go_meet;exact⟨by rw[f];simp,rfl⟩
  rw[m]at f;go_wp2;go_meet;exact⟨by rw[f];rfl,rfl⟩
 obtain⟨rfl,rfl⟩:=hcut;go_upto_region 3 with fail;go_cut [5] (λbd bf=>bd=O b3/\bf=wc)
 ·obtain⟨de,cf⟩:=n.d2 7 6;have f:=bm.O;rcases m:Dc (am<=2)with _|_
  ·rw[m]at f;go_wp2;go_meet;exact⟨by rw[f];rfl,rfl⟩
  rcases A:am !=0 with _|_
  ·rw[m,A]at f;go_wp2;go_meet;exact⟨by rw[f];simp,rfl⟩
  rw[m,A]at f;go_wp2;go_meet;exact⟨by rw[f];rfl,rfl⟩
 obtain⟨rfl,rfl⟩:=hcut;have cz:=n.cell 0;go_wp2_with fail;refine l4 (bj _ N.O) λdf L=>?_;have cf:=(n.h L).cell 6;go_wp2_with fail;refine l4 (bk _ (N.trans L)) λdg bh=>?_;obtain⟨ao,aq⟩:=j0 ((n.h L).h bh) ((N.trans L).trans bh);clear cz cf L bh n N bj bk bl bm;go_wp2_with fail;refine y2 rfl ((.is ?Bg:VP)::(.is ?Bh:VP)::(.is (cond (!b1) (O b2) Un):VP)::(.is (O v):VP)::(.is ?Bi:VP)::(.is (cond v (O b3) Un):VP)::(.is (O y):VP)::(.is ?Bj:VP)::(.is (cond y (O b4) Un):VP)::(.is (O z):VP)::(.is ?Bk:VP)::(.is (cond z (O bn) Un):VP)::(.is (O k):VP)::(.is ?Bl:VP)::(.is (cond k (K (So ⟨w,1,J⟩)) Un):VP)::(.is (cond k (.agg #[I U8 fm,Z Af (D fc) bq]) Un):VP)::(.is (cond k (O bo) Un):VP)::(.is (O l):VP)::(.is ?Bm:VP)::(.is (cond l (K (So ⟨w,4,J⟩)) Un):VP)::(.is (cond l (.agg #[I U8 lm,Z Al (D lc) P]) Un):VP)::(.is (cond l (O bp) Un):VP)::(.is (O h):VP)::(.is ?Bn:VP)::(.is (cond h (K (So ⟨w,8,J⟩)) Un):VP)::(.is (cond h (I U6 sp) Un):VP)::(.is (cond h (I U6 l9) Un):VP)::(.is (cond h (I U6 (bits .andNot U6 sp l9)) Un):VP)::(.is (cond h (O ct) Un):VP)::(.is (O R):VP)::(.is ?Bo:VP)::[]) g6 ?Bp ?Aa ⟨?Ab,?Ac,?Ad,?Ae,?Af,?Ag,?Ah,?Ai,?Aj,?Ak,?Al,?Am,?An,?Ao,?Ap,?Aq,?Ar,?As,?At,?Au,?Av,?Aw,?Ax,?Ay,?Az,?Ba,?Bb,?Bc,?Bd,?Be,?Bf,trivial⟩ ?Bq
 case Aa=>intro x;simp only[m0,Act.put,uL,Nat.reduceAdd]<;>rfl
 case Ab|Ac|Af|Ai|Al|Ao|At|Ay|Bf=>
  intro x a b;simp only[g0,o7,uV];repeat(intro cw;try simp only[cw])
  go_wp2_with fail;refine e8 ?_ rfl (a9.refl _);rfl
 case Ad=>
  intro x a b;simp only[g0,o7,uV];intro o;simp only[o];cases b1;all_goals(try simp only[uB])
  all_goals first|exact a2B (by first|decide|(intro d;cases d)) mZ|(refine a2E eX ?_;(go_wp2_with(fail);refine e8 ?_ rfl (a9.refl _);exact rfl))
 case Ae=>
  intro x a b;simp only[g0,o7,uV];intro o ac;simp only[o,ac];rw[ch.O];cases b1;all_goals(try simp only[uB])
  all_goals(go_wp2_with(fail);refine e8 ?_ rfl (a9.refl _);exact rfl)
 case Ag=>
  intro x a b;simp only[g0,o7,uV];intro r;simp only[r];cases v;all_goals(try simp only[uB])
  all_goals first|exact a2B (by first|decide|(intro d;cases d)) mZ|(refine a2E eX ?_;(go_wp2_with(fail);refine e8 ?_ rfl (a9.refl _);exact rfl))
 case Ah=>
  intro x a b;simp only[g0,o7,uV];intro r ak;simp only[r,ak];rw[ci.O];cases v;all_goals(try simp only[uB])
  all_goals(go_wp2_with(fail);refine e8 ?_ rfl (a9.refl _);exact rfl)
 case Aj=>
  intro x a b;simp only[g0,o7,uV];intro s;simp only[s];cases y;all_goals(try simp only[uB])
  all_goals first|exact a2B (by first|decide|(intro d;cases d)) mZ|(refine a2E eX ?_;(go_wp2_with(fail);refine e8 ?_ rfl (a9.refl _);exact rfl))
 case Ak=>
  intro x a b;simp only[g0,o7,uV];intro s al;simp only[s,al];rw[cj.O];cases y;all_goals(try simp only[uB])
  all_goals(go_wp2_with(fail);refine e8 ?_ rfl (a9.refl _);exact rfl)
 case Am=>
  intro x a b;simp only[g0,o7,uV];intro q;simp only[q];cases z;all_goals(try simp only[uB])
  all_goals first|exact a2B (by first|decide|(intro d;cases d)) mZ|(refine a2E eX ?_;(go_wp2_with(fail);refine e8 ?_ rfl (a9.refl _);exact rfl))
 case An=>
  intro x a b;simp only[g0,o7,uV];intro q Q;simp only[q,Q];rw[ck.O];cases z;all_goals(try simp only[uB])
  all_goals(go_wp2_with(fail);refine e8 ?_ rfl (a9.refl _);exact rfl)
 case Ap=>
  intro x a b;simp only[g0,o7,uV];intro i;simp only[i];cases k;all_goals(try simp only[uB])
  all_goals first|exact a2B (by first|decide|(intro d;cases d)) mZ|(refine a2E eX ?_;(go_wp2_with(fail);refine e8 ?_ rfl (a9.refl _);exact rfl))
 case Aq=>
  intro x a b;simp only[g0,o7,uV];intro S i;simp only[S,i];obtain⟨t,cx⟩:=(ao.h b).d2 1 2;cases k;all_goals(try simp only[uB])
  all_goals first|exact a2B (by first|decide|(intro d;cases d)) mZ|(refine a2E eX ?_;(go_wp2_with(fail);refine e8 ?_ rfl (a9.refl _);exact rfl))
 case Ar=>
  intro x a b;simp only[g0,o7,uV];intro T i;simp only[T,i];cases k;all_goals(try simp only[uB])
  all_goals first|exact a2B (by first|decide|(intro d;cases d)) mZ|(refine a2E eX ?_;(go_wp2_with((go_at_call 99;refine l4 (co a (aq.trans b)) λcg C=>?_));refine e8 ?_ rfl (C);exact rfl))
 case As=>
  intro x a b;simp only[g0,o7,uV];intro i aa;simp only[i,aa];rw[cm.O];cases k;all_goals(try simp only[uB])
  all_goals(go_wp2_with(fail);refine e8 ?_ rfl (a9.refl _);exact rfl)
 case Au=>
  intro x a b;simp only[g0,o7,uV];intro j;simp only[j];cases l;all_goals(try simp only[uB])
  all_goals first|exact a2B (by first|decide|(intro d;cases d)) mZ|(refine a2E eX ?_;(go_wp2_with(fail);refine e8 ?_ rfl (a9.refl _);exact rfl))
 case Av=>
  intro x a b;simp only[g0,o7,uV];intro ab j;simp only[ab,j];obtain⟨t,cx⟩:=(ao.h b).d2 4 5;cases l;all_goals(try simp only[uB])
  all_goals first|exact a2B (by first|decide|(intro d;cases d)) mZ|(refine a2E eX ?_;(go_wp2_with(fail);refine e8 ?_ rfl (a9.refl _);exact rfl))
 case Aw=>
  intro x a b;simp only[g0,o7,uV];intro ad j;simp only[ad,j];cases l;all_goals(try simp only[uB])
  all_goals first|exact a2B (by first|decide|(intro d;cases d)) mZ|(refine a2E eX ?_;(go_wp2_with((go_at_call 99;refine l4 (cp a (aq.trans b)) λcg C=>?_));refine e8 ?_ rfl (C);exact rfl))
 case Ax=>
  intro x a b;simp only[g0,o7,uV];intro j ae;simp only[j,ae];rw[cn.O];cases l;all_goals(try simp only[uB])
  all_goals(go_wp2_with(fail);refine e8 ?_ rfl (a9.refl _);exact rfl)
 case Az=>
  intro x a b;simp only[g0,o7,uV];intro g;simp only[g];cases h;all_goals(try simp only[uB])
  all_goals first|exact a2B (by first|decide|(intro d;cases d)) mZ|(refine a2E eX ?_;(go_wp2_with(fail);refine e8 ?_ rfl (a9.refl _);exact rfl))
 case Ba=>
  intro x a b;simp only[g0,o7,uV];intro af g;simp only[af,g];have t:=(ao.h b).cell 8;cases h;all_goals(try simp only[uB])
  all_goals first|exact a2B (by first|decide|(intro d;cases d)) mZ|(refine a2E eX ?_;(go_wp2_with(fail);refine e8 ?_ rfl (a9.refl _);exact rfl))
 case Bb=>
  intro x a b;simp only[g0,o7,uV];intro g;simp only[g];cases h;all_goals(try simp only[uB])
  all_goals first|exact a2B (by first|decide|(intro d;cases d)) mZ|(refine a2E eX ?_;(go_wp2_with((go_at_call 100;refine l4 (cq a) λcg C=>?_));refine e8 ?_ rfl (C);exact rfl))
 case Bc=>
  intro x a b;simp only[g0,o7,uV];intro ag ah g;simp only[ag,ah,g];cases h;all_goals(try simp only[uB])
  all_goals first|exact a2B (by first|decide|(intro d;cases d)) mZ|(refine a2E eX ?_;(go_wp2_with(fail);refine e8 ?_ rfl (a9.refl _);exact rfl))
 case Bd=>
  intro x a b;simp only[g0,o7,uV];intro ai g;simp only[ai,g];rw[cr.O];cases h;all_goals(try simp only[uB])
  all_goals first|exact a2B (by first|decide|(intro d;cases d)) mZ|(refine a2E eX ?_;(go_wp2_with(fail);refine e8 ?_ rfl (a9.refl _);exact rfl))
 case Be=>
  intro x a b;simp only[g0,o7,uV];intro g aj;simp only[g,aj];rw[cs.O];cases h;all_goals(try simp only[uB])
  all_goals(go_wp2_with(fail);refine e8 ?_ rfl (a9.refl _);exact rfl)
 intro x a b;simp only[n9,g0,o7,uV];intro br o ac bw r ak bx s al bz q Q bs i S T aa bt j ab ad ae bu g af ag ah ai aj bv d30;simp only[br,o,ac,bw,r,ak,bx,s,al,bz,q,Q,bs,i,S,T,aa,bt,j,ab,ad,ae,bu,g,af,ag,ah,ai,aj,bv,d30];clear br o ac bw r ak bx s al bz q Q bs i S T aa bt j ab ad ae bu g af ag ah ai aj bv d30;have cy:=aq.trans b;go_wp2;go_ret;exact⟨rfl,cy⟩
def G5.nr(c:G5)(k:Nat):Int:=match k with
 |0=>c.2.1|1=>c.2.2.1|2=>c.2.2.2.1|3=>c.2.2.2.2.1|4=>c.2.2.2.2.2.1|_=>c.2.2.2.2.2.2
def cE(c:G5)(k:Nat):Int×Bool:=if c.nr k<0 then(0,Bf)else(if k=2 then bits .or V (c.nr k % 4294967296) 1073741824 else c.nr k % 4294967296,Bt)
theorem a1L(c:G5)(k:Nat)(p:k<6)(W:Wd):Ca prog 435 #[Ag c.cells.toArray,I M k] W λe o=>e=X (Tp #[I V (cE c k).1,O (cE c k).2])/\a9 W o:=by
 obtain⟨n,b,d,f,g,h,i⟩:=c;dsimp only[G5.cells];have m:=(a9.refl W).alloc (U #[Y n,I M b,I M d,I M f,I M g,I M h,I M i] 316);obtain⟨R,a⟩:∃R,R=cE (n,b,d,f,g,h,i) k:=⟨_,rfl⟩;rw[<-a];by_cases j:G5.nr (n,b,d,f,g,h,i) k<0;all_goals
  simp only[cE,j,if_true,if_false]at a;have l:=a6 a;clear a;rcases k with _|_|_|_|_|_|k
  all_goals first|(exfalso;omega)|skip
  all_goals simp only[G5.nr]at j;go_wp2;go_ret2;exact⟨by rw[l.O];rfl,m⟩
def s4(k:Nat)(s:g4):Int×Int:=
 let r:=X7 λc=>c.1.toList==s.toList
 if r.2&&(cE r.1 k).2 then((cE r.1 k).1,0)else(0,90)
theorem CO(k:Nat)(l:k<6)(s:g4)(W:Wd):Ca prog 389 #[I M k,Y s] W λe u=>e=X (Tp #[I V (s4 k s).1,I M (s4 k s).2])/\a9 W u:=by
 have o:=(a9.refl W).alloc (U #[Y s] 9);have g:=a6 (uU (λc=>c.1.toList==s.toList) 434 #[K W] (Eo func434 g6 rfl) (W.alloc (U #[Y s] 9)) (λc _ W2 j=>xS c s W W2 (j.cell i3)));have d:s4 k s=if(X7 λc=>c.1.toList==s.toList).2&&(cE (X7 λc=>c.1.toList==s.toList).1 k).2 then((cE (X7 λc=>c.1.toList==s.toList).1 k).1,0)else(0,90):=rfl
 generalize s4 k s=R at*;generalize X7 _=r at*;have h:=a6 (λW=>a1L r.1 k l W);generalize cE r.1 k=m at*;obtain⟨⟨n,a,b,c,v,e,f⟩,q⟩:=r;obtain⟨y,z⟩:=m;dsimp only[G5.cells]at*;have i:=a6 d;clear d;rcases q with _|_<;>rcases z with _|_
 all_goals go_in;go_wp2_with fail;refine l4 g λw p=>?_;go_wp2_with fail;refine l4 (h _) λx t=>?_;go_wp2;go_ret2;exact⟨by rw[i.O];rfl,((o.trans p).alloc _).trans t⟩
section
open Go.Lib
def W5(a:Nat)(b:Int)(ts:List p3)(c:C2):List r9:=c.filterMap λs=>if(s4 a s).2=0 then So ⟨(s4 a s).1,ts,b⟩else J
abbrev RC:=Int×List p3×C2
structure a65 where
 dflt:Int
 cs:List RC
 ok:Bool
def M2(arg b a:Int)(l:o5):List p3:=l.map λx=>⟨arg,b,x,a⟩
def dW(arg a:Int)(l:o5):List p3:=l.map λx=>⟨arg,x,x,a⟩
def U0:g4:=⟨#[115,111,99,107,101,116]⟩
def S7:g4:=⟨#[117,110,115,104,97,114,101]⟩
def eJ:g4:=⟨#[99,108,111,110,101]⟩
def iD:g4:=⟨#[115,101,116,110,115]⟩
def cZ:g4:=⟨#[99,108,111,110,101,51]⟩
def wM:g4:=⟨#[109,109,97,112]⟩
def bB:g4:=⟨#[109,112,114,111,116,101,99,116]⟩
def wL:g4:=⟨#[112,107,101,121,95,109,112,114,111,116,101,99,116]⟩
def nL:g4:=⟨#[115,104,109,97,116]⟩
def O3:g4:=⟨#[112,101,114,115,111,110,97,108,105,116,121]⟩
def nM:g4:=⟨#[115,99,104,101,100,95,115,101,116,115,99,104,101,100,117,108,101,114]⟩
def C4(p:j2):Nat->a65
 |1=>⟨if p.fm=1 then p.dy else 2147418112,p.fc.map λc=>(yC c.2 (if p.fm=1 then 2147418112 else p.dy),[],[c.1]),U3 p.fm (D p.fc) Bt Bf⟩
 |2=>⟨if p.lm=2 then 2147221504 else 2147418112,p.lc.map λc=>(if p.lm=2 then 2147418112 else 2147221504,[],[c.1]),U3 p.lm (D p.lc) Bf Bt⟩
 |3=>⟨2147418112,[(if p.am=2 then 2147418112 else 327777,M2 0 4294967295 (if p.am=2 then 327777 else 2147418112) p.fa,[U0])],U3 p.am (D p.fa) Bt Bf⟩
 |4=>⟨2147418112,[(2147418112,dW 0 327681 (I0 i9 p.sp),[S7,eJ]),(2147418112,dW 1 327681 (I0 i9 p.sp)++M2 1 4294967295 327681 [0],[iD]),(327718,[],[cZ])],p.sp !=0⟩
 |5=>⟨2147418112,[(2147418112,dW 2 327681 [6],[wM]),(2147418112,dW 2 327681 [4],[bB,wL]),(2147418112,dW 2 327681 [32768],[nL])],p.we⟩
 |6=>⟨2147418112,[(327681,M2 0 4294967295 2147418112 [0,4294967295],[O3])],p.pe⟩
 |7=>⟨2147418112,[(327681,M2 1 4294967295 2147418112 [0,3,5],[nM])],p.rt⟩
 |_=>⟨0,[],Bf⟩
def s6(a:Nat)(cs:List RC):List r9:=cs.flatMap λc=>W5 a c.1 c.2.1 c.2.2
def OC(r:r9):List r9->List r9
 |[]=>[r]
 |x::l=>if r.nr<x.nr then r::x::l else x::OC r l
def Q3:List r9->List r9
 |[]=>[]
 |r::l=>OC r (Q3 l)
def xU(ar:o5)(a:Nat):Bool:=Dc (D ar=0)||ar.contains (a:Int)
def bG(p:j2)(d a:Nat):Option J7:=if xU p.ar a&&(C4 p d).ok then So ⟨a,(C4 p d).dflt,Q3 (s6 a (C4 p d).cs)⟩else J
def kn(x:Int):Prop:=uk x/\(HJ x).toList.isEmpty=Bf
def a4x(t:p3):Prop:=(0<=t.arg/\t.arg<6)/\kY t.mask/\kY t.value/\bits .andNot U6 t.value t.mask=0/\kn t.act
structure VC(r:r9):Prop where
 nr:uk r.nr
 act:kn r.act
 ts:∀t∈r.tests,a4x t
 len:D r.tests<=9
structure eT(f:J7):Prop where
 ar:0<=f.arch/\f.arch<6
 d:kn f.dflt
 rs:∀r∈f.rules,VC r
 ri:Y8 0 (f.rules.map (·.nr))
 len:D f.rules<=40
 sz:3*D f.rules+7*rR f.rules+7<=1365
end
structure RR where
 p:r9
 A:p1
 c:Nat
def RR.v(r:RR):Va:=Z r.A (D r.p.tests) r.c
def B8:s7 RR:=⟨3,λr=>[I V r.p.nr,r.v,I V r.p.act],λ_=>rfl,by simp[Value.oneCell',RR.v]⟩
theorem EF:kZ prog 112 254 (Ag #[I V 0,Z J 0 0,I V 0]) 3 40:=⟨underlying112,g6,rfl,e6,e6⟩
section
open Go.Lib
theorem kK(r:r9):∀l,(OC r l).Perm (r::l)
 |[]=> .refl _
 |x::l=>by unfold OC;split;exact .refl _;exact((kK r l).cons x).trans (.swap r x l)
theorem M6:∀l,(Q3 l).Perm l
 |[]=> .refl _
 |r::l=>(kK r _).trans ((M6 l).cons r)
theorem JN(r:r9):∀l:List r9,l.Pairwise (λa b=>a.nr<b.nr)->(∀x∈l,x.nr≠r.nr)->(OC r l).Pairwise λa b=>a.nr<b.nr
 |[],_,_=>List.pairwise_singleton _ _
 |x::l,h,hn=>by
  have e:=List.pairwise_cons.1 h;have g:=hn x List.mem_cons_self;unfold OC;split;rename_i f;refine List.pairwise_cons.2 ⟨λd c=> ?_,h⟩;rcases List.mem_cons.1 c with rfl|c
  exact f;have:=e.1 d c;omega;refine List.pairwise_cons.2 ⟨λd c=> ?_,JN r l e.2 λd c=>hn d (List.mem_cons_of_mem _ c)⟩;rcases List.mem_cons.1 ((kK r l).subset c)with rfl|c
  omega;exact e.1 d c
theorem oT:∀l:List r9,(l.map (·.nr)).Nodup->(Q3 l).Pairwise λa b=>a.nr<b.nr
 |[],_=> .nil
 |r::l,h=>by have c:=List.nodup_cons.1 h;exact JN r _ (oT l c.2) λx d e=>c.1 (List.mem_map.2 ⟨x,(M6 l).subset d,e⟩)
theorem RX{l k:List r9}(c:k.Perm l)(d:(l.map (·.nr)).Nodup)(g:k.Pairwise λa b=>a.nr<=b.nr):k=Q3 l:=
 List.Perm.eq_of_pairwise (le:=λa b=>a.nr<=b.nr) (λa b e f h i=>eI (·.nr) d (c.subset e) ((M6 l).subset f) a8) g ((oT l d).imp λc=>a8) (c.trans (M6 l).symm)
theorem a5I:∀(l:List r9)(lo:Int),l.Pairwise (λa b=>a.nr<b.nr)->(∀r∈l,lo<=r.nr/\r.nr<4294967296)->Y8 lo (l.map (·.nr))
 |[],_,_,_=>trivial
 |r::l,lo,h,hb=>by have c:=List.pairwise_cons.1 h;have d:=hb r List.mem_cons_self;exact⟨d.1,d.2,a5I l (r.nr+1) c.2 λx e=>⟨by have:=c.1 x e;omega,(hb x (List.mem_cons_of_mem _ e)).2⟩⟩
def a6x(a:Nat):Bool:=H8.all λc=>H8.all λd=> !(cE c a).2|| !(cE d a).2||(cE c a).1 !=(cE d a).1||c.1.data.toList==d.1.data.toList
def a6w(a:Nat):Bool:=H8.all λc=>Dc (0<=(cE c a).1)&&Dc ((cE c a).1<4294967296)
theorem UK:∀a,a<6->a6x a=Bt/\a6w a=Bt
 |0,_|1,_|2,_|3,_|4,_|5,_=>⟨g6,g6⟩
 |a+6,h=>absurd h a8
theorem jZ{a:Nat}{s:g4}(b:(s4 a s).2=0):∃c∈H8,c.1.toList=s.toList/\(cE c a).2=Bt/\(s4 a s).1=(cE c a).1:=by
 unfold s4 X7 at*;cases d:H8.find? (λc=>c.1.toList==s.toList)with
 |none=>rw[d]at b;simp at b
 |some c=>
  rw[d]at b
  simp only[Bool.true_and]at b⊢
  cases e:(cE c a).2
  ·rw[e]at b;simp at b
  ·exact⟨c,List.mem_of_find?_eq_some d,eq_of_beq (by have f:=List.find?_some d;exact f),e,by simp[e]⟩
theorem FC{a:Nat}(m:a<6){s t:g4}(n:(s4 a s).2=0)(o:(s4 a t).2=0)(e:(s4 a s).1=(s4 a t).1):s.toList=t.toList:=by obtain⟨c,b,d,f,g⟩:=jZ n;obtain⟨h,i,j,k,l⟩:=jZ o;have:=List.all_eq_true.1 (List.all_eq_true.1 (UK a m).1 c b) h i;rw[f,k,<-g,<-l,e,bne_self_eq_false]at this;rw[<-d,<-j,toList_data,toList_data];simpa using this
theorem MU{a:Nat}(e:a<6){s:g4}(f:(s4 a s).2=0):uk (s4 a s).1:=by obtain⟨c,b,g,h,d⟩:=jZ f;have:=List.all_eq_true.1 (UK a e).2 c b;simp only[j3,decide_eq_true_eq]at this;rw[d];exact this
theorem zF(a:Nat)(e:Int)(ts:List p3):∀c:C2,(W5 a e ts c).map (·.nr)=c.filterMap λs=>if(s4 a s).2=0 then So (s4 a s).1 else J
 |[]=>rfl
 |s::c=>by have:=zF a e ts c;unfold W5 at*;rw[List.filterMap_cons,List.filterMap_cons];split;rename_i b;split at b;cases b;rename_i d;rw[if_neg d];exact this;rename_i r b;split at b;rename_i d;cases b;rw[if_pos d,List.map_cons,this];cases b
theorem jQ(a:Nat):∀cs:List RC,(s6 a cs).map (·.nr)=(cs.flatMap (·.2.2)).filterMap λs=>if(s4 a s).2=0 then So (s4 a s).1 else J
 |[]=>rfl
 |c::cs=>by have:=jQ a cs;unfold s6 at*;rw[List.flatMap_cons,List.map_append,this,zF,List.flatMap_cons,List.filterMap_append]
theorem hW{a:Nat}(h:a<6){cs:List RC}(d:((cs.flatMap (·.2.2)).map (·.toList)).Nodup):((s6 a cs).map (·.nr)).Nodup:=by rw[jQ];refine List.Pairwise.filterMap (S:=(·≠·)) _ (R:=λs t=>s.toList≠t.toList) (λs t i x b j c e=> ?_) (List.pairwise_map.1 d);split at b;rename_i f;split at c;rename_i g;cases b;cases c;exact i (FC h f g e);cases c;cases b
theorem LX{a:Nat}{c:Int}{ts:List p3}{d:C2}{r:r9}(e:r∈W5 a c ts d):∃s∈d,(s4 a s).2=0/\r=⟨(s4 a s).1,ts,c⟩:=by obtain⟨s,f,b⟩:=List.mem_filterMap.1 e;split at b;cases b;exact⟨s,f,DF,rfl⟩;cases b
theorem xF{a b:Type}(f:a->Option b):∀l:List a,D (l.filterMap f)<=D l:=List.length_filterMap_le f
theorem oW(a:Nat)(cs:List RC):D (s6 a cs)<=D (cs.flatMap (·.2.2)):=by have:=congrArg List.length (jQ a cs);rw[i1]at this;rw[this];exact xF _ _
structure a4m(cs:List RC):Prop where
 nd:((cs.flatMap (·.2.2)).map (·.toList)).Nodup
 len:D (cs.flatMap (·.2.2))<=40
 ts:∀c∈cs,kn c.1/\D c.2.1<=9/\∀t∈c.2.1,a4x t
 sz:(∀c∈cs,c.2.1=[])\/D (cs.flatMap (·.2.2))<=4
theorem DM:∀(rs:List r9)(n:Nat),(∀r∈rs,D r.tests<=n)->rR rs<=n*D rs
 |[],n,_=>by simp[rR]
 |r::rs,n,h=>by
  have b:=DM rs n λx a=>h x (List.mem_cons_of_mem _ a)
  have c:=h r List.mem_cons_self;have e:rR (r::rs)=D r.tests+rR rs:=by simp[rR]
  rw[e,i4,Nat.mul_succ];omega
theorem LP{a:Nat}(g:a<6){cs:List RC}(d:a4m cs){f:Int}(j:kn f):eT ⟨a,f,Q3 (s6 a cs)⟩:=by
 have e:∀r∈Q3 (s6 a cs),VC r/\((∀c∈cs,c.2.1=[])->D r.tests<=0):=λr b=>by obtain⟨c,h,b⟩:=List.mem_flatMap.1 ((M6 _).subset b);obtain⟨s,p,l,rfl⟩:=LX b;obtain⟨k1,k2,k3⟩:=d.ts c h;exact⟨⟨MU g l,k1,k3,k2⟩,λq=>by show D c.2.1<=0;rw[q c h];exact a7 _⟩
 have k:=oW a cs;have n:D (Q3 (s6 a cs))<=D (cs.flatMap (·.2.2)):=by rw[(M6 _).length_eq];exact k
 have o:=d.len;refine⟨⟨by show(0:Int)<=a;omega,by show(a:Int)<6;omega⟩,j,λr b=>(e r b).1,a5I _ _ (oT _ (hW g d.nd)) λr b=>(e r b).1.nr,by show(Q3 (s6 a cs)).length<=40;omega,?_⟩;show 3*D (Q3 (s6 a cs))+7*rR (Q3 (s6 a cs))+7<=1365;rcases d.sz with i|m
 have:=DM _ 0 λr b=>(e r b).2 i
 omega;have:=DM _ 9 λr b=>(e r b).1.len
 omega
end
section
open Go.Lib
theorem jS(is:Int->Bool):∀(l:o5)(q:Option Int),A8 is q l=Bt->(∀n∈l,is n=Bt)/\l.Pairwise (·<·)/\∀k,q=So k->∀n∈l,k<n
 |[],q,_=>⟨λn a=>(by cases a),.nil,λk _ n a=>(by cases a)⟩
 |n::r,q,a=>by
  have key:is n=Bt/\A8 is (So n) r=Bt/\∀k,q=So k->k<n:=by
   rw[cU]at a;rcases q with _|q
   cases hi:is n;rw[hi]at a;cases a;rw[hi]at a;exact⟨rfl,a,aL⟩;cases hi:is n;rw[hi]at a;cases a;rw[hi]at a;cases c:Dc (n<=q);exact⟨rfl,by simpa[c]using a,λk e=>by cases e;simpa using c⟩;simp[c]at a
  obtain⟨g,h,d⟩:=key;obtain⟨i,j,f⟩:=jS is r (So n) h;refine⟨λm b=> ?_,List.pairwise_cons.2 ⟨f n rfl,j⟩,λk e m b=> ?_⟩;rcases List.mem_cons.1 b with rfl|b
  exact g;exact i m b;rcases List.mem_cons.1 b with rfl|b
  exact d k e;have:=d k e;have:=f n rfl m b;omega
theorem xG{n:Int}(b:dP n=Bt):n∈j7.map (·.2):=by
 unfold dP ZJ at b;cases c:j7.find? (λa=>a.2==n)with
 |none=>rw[c,toList_data]at b;simp at b
 |some a=>exact List.mem_map.2 ⟨a,List.mem_of_find?_eq_some c,eq_of_beq (by have d:=List.find?_some c;exact d)⟩
def a4i(n:Int):Bool:=Dc (0<=n)&&Dc (n<4294967296)&&bits .andNot U6 n 4294967295==0
theorem JV:(j7.map (·.2)).all a4i=Bt:=g6
def a43(n:Int):Bool:=Dc (0<=n)&&Dc (n<18446744073709551616)&&bits .andNot U6 n n==0
theorem a0f:(i9.map (·.2)).all a43=Bt:=g6
def a5Q:Bool:=(m9 4096).all λn=> !(HJ (327680+n)).data.toList.isEmpty
theorem XJ:a5Q=Bt:=g6
theorem JJ{x:Int}(a:327680<=x)(b:x<=331775):kn x:=by refine⟨⟨a8,a8⟩,?_⟩;have:=List.all_eq_true.1 XJ (x-327680).toNat (List.mem_range.2 a8);rw[(a8:(327680:Int)+((x-327680).toNat:Int)=x)]at this;rw[toList_data];simpa using this
theorem z2:kn 2147418112:=⟨⟨e6,e6⟩,by rw[toList_data];kernel_rfl⟩
theorem VZ:kn 2147221504:=⟨⟨e6,e6⟩,by rw[toList_data];kernel_rfl⟩
theorem a1k:kn 2147483648:=⟨⟨e6,e6⟩,by rw[toList_data];kernel_rfl⟩
theorem JI:kn 0:=⟨⟨e6,e6⟩,by rw[toList_data];kernel_rfl⟩
theorem JK{x:Int}(h:x=2147483648\/327680<=x/\x<=331775):kn x:=h.elim (λh=>h▸a1k) λh=>JJ h.1 h.2
theorem a5G{a b:Int}(c:x2 a=Bt)(e:kn b):kn (yC a b):=by
 unfold yC;split;rename_i d;unfold x2 at c;simp only[Bool.or_eq_true,j3,decide_eq_true_eq,beq_iff_eq]at c;refine JK ?_;rcases c with(c|c)|c
 rw[c]at d;simp at d;exact .inl c;exact .inr c;exact e
theorem dB{arg a b c:Int}(d:0<=arg/\arg<6)(g:0<=a/\a<18446744073709551616)(h:0<=b/\b<18446744073709551616)(e:bits .andNot U6 b a=0)(f:kn c):a4x ⟨arg,a,b,c⟩:=⟨d,g,h,e,f⟩
theorem dA{arg b a:Int}{l:o5}(c:∀x∈l,a4x ⟨arg,b,x,a⟩):∀t∈M2 arg b a l,a4x t:=λt d=>by obtain⟨x,e,rfl⟩:=List.mem_map.1 d;exact c x e
theorem pQ{arg a:Int}{l:o5}(b:∀x∈l,a4x ⟨arg,x,x,a⟩):∀t∈dW arg a l,a4x t:=λt c=>by obtain⟨x,d,rfl⟩:=List.mem_map.1 c;exact b x d
theorem qI{f:n0->Int}:∀l:List n0,(l.map λc=>((f c,[],[c.1]):RC)).flatMap (·.2.2)=l.map (·.1)
 |[]=>rfl
 |c::l=>congrArg (c.1::·) (qI l)
theorem qU{m:Int}{l:List n0}(d:A6 m l=Bt){f:n0->Int}(j:∀c∈l,kn (f c)):a4m (l.map λc=>(f c,[],[c.1])):=by obtain⟨i,k,_⟩:=K8 l J (R2 d);refine⟨?_,?_,λc g=> ?_,.inl λc g=> ?_⟩;rw[qI,List.map_map];exact List.Pairwise.imp (R:=(·<·)) (S:=(·≠·)) (λ{a b} d(e:a=b)=>by rw[e]at d;exact List.lt_irrefl _ d) i;rw[qI,i1];exact Z9 d;obtain⟨x,h,rfl⟩:=List.mem_map.1 g;exact⟨j x h,c6 _,aL⟩;obtain⟨x,h,rfl⟩:=List.mem_map.1 g;rfl
theorem BQ(a:Int):D (I0 i9 a)<=8:=by unfold I0;rw[i1];exact List.length_filter_le _ _
theorem BP(arg a b:Int)(c:0<=arg/\arg<6)(e:kn b):∀t∈dW arg b (I0 i9 a),a4x t:=pQ λx f=>by
 have d:x∈i9.map (·.2):=by obtain⟨h,g,rfl⟩:=List.mem_map.1 f;exact List.mem_map_of_mem (List.mem_filter.1 g).1
 have:=List.all_eq_true.1 a0f x d;unfold a43 at this;simp only[j3,decide_eq_true_eq,beq_iff_eq]at this;exact⟨c,⟨this.1.1,this.1.2⟩,⟨this.1.1,this.1.2⟩,this.2,e⟩
theorem AM{cs:List RC}{l:List (List UInt8)}(a:(cs.flatMap (·.2.2)).map (·.data.toList)=l)(b:l.Nodup):((cs.flatMap (·.2.2)).map (·.toList)).Nodup:=by rw[show(λs:g4=>s.toList)=λs=>s.data.toList from funext toList_data,a];exact b
theorem GN{p:j2}(h:F0 p=Bt)(m:Nat):a4m (C4 p m).cs/\kn (C4 p m).dflt:=by
 unfold F0 qR at h;simp only[j3,Bool.or_eq_true,decide_eq_true_eq,beq_iff_eq]at h;obtain⟨⟨⟨⟨⟨⟨⟨C,u⟩,E⟩,F⟩,v⟩,q⟩,w⟩,G⟩:=h;have r:=JK u;have i:∀k:Int,0<=k->k<=4095->kn (327680+k):=λk a b=>JJ a8 a8
 have o:=jS dP p.fa J v;have H:D p.fa<=8:=Z5 p.fa (j7.map (·.2)) (o.2.1.imp λh e=>a8) λn A=>xG (o.1 n A)
 have s:∀j,kn j->∀t∈M2 0 4294967295 j p.fa,a4x t:=λj y=>dA λx f=>by have:=List.all_eq_true.1 JV x (xG (o.1 x f));unfold a4i at this;simp only[j3,decide_eq_true_eq,beq_iff_eq]at this;exact dB e6 e6 ⟨this.1.1,by have:=this.1.2;omega⟩ this.2 y
 have k1:kn 327681:=i 1 e6 e6;match m with
 |0=>exact⟨⟨.nil,c6 _,λc d=>(by cases d),.inr (c6 _)⟩,JI⟩
 |1=>exact⟨qU q λc d=>a5G ((K8 p.fc J (R2 q)).2.1 c d).2 (by split;exact z2;exact r),by show kn (if _ then _ else _);split;exact r;exact z2⟩
 |2=>exact⟨qU w λc d=>(by split;exact z2;exact VZ),by show kn (if _ then _ else _);split;exact VZ;exact z2⟩
 |3=>
  refine⟨⟨AM (l:=[U0.data.toList]) rfl e6,(e6:1<=40),λc d=> ?_,.inr (e6:1<=4)⟩,z2⟩
  rw[List.mem_singleton.1 d]
  refine⟨by dsimp only;split;exact z2;exact i 97 e6 e6,by show(List.map _ p.fa).length<=9;rw[i1];omega,s _ (by split;exact i 97 e6 e6;exact z2)⟩
 |4=>
  have L:=BQ p.sp
  have B:a4x ⟨1,4294967295,0,327681⟩:=dB e6 e6 e6 g6 k1
  refine⟨⟨AM (l:=[S7.data.toList,eJ.data.toList,iD.data.toList,cZ.data.toList]) rfl e6,(e6:4<=40),λc d=> ?_,.inr (e6:4<=4)⟩,z2⟩
  simp only[C4,List.mem_cons,List.not_mem_nil,or_false]at d
  rcases d with rfl|rfl|rfl
  ·exact⟨z2,by show(List.map _ _).length<=9;rw[i1];omega,BP 0 _ _ ⟨e6,e6⟩ k1⟩
  ·refine⟨z2,by show(List.map _ _++[_]).length<=9;rw[g1,i1];show _+1<=9;omega,λt g=> ?_⟩
   rcases List.mem_append.1 g with g|g
   ·exact BP 1 _ _ ⟨e6,e6⟩ k1 t g
   ·rw[List.mem_singleton.1 g];exact B
  ·exact⟨i 38 e6 e6,c6 _,aL⟩
 |5=>
  have z:∀x,(x=6\/x=4\/x=32768)->a4x ⟨2,x,x,327681⟩:=λx f=>by
   rcases f with rfl|rfl|rfl<;>exact dB e6 e6 e6 g6 k1
  refine⟨⟨AM (l:=[wM.data.toList,bB.data.toList,wL.data.toList,nL.data.toList]) rfl e6,(e6:4<=40),λc d=> ?_,.inr (e6:4<=4)⟩,z2⟩
  simp only[C4,List.mem_cons,List.not_mem_nil,or_false]at d
  rcases d with rfl|rfl|rfl<;>exact⟨z2,e6,pQ λx f=>z x (by rw[List.mem_singleton.1 f];simp)⟩
 |6=>
  refine⟨⟨AM (l:=[O3.data.toList]) rfl e6,(e6:1<=40),λc d=> ?_,.inr (e6:1<=4)⟩,z2⟩
  rw[List.mem_singleton.1 d]
  refine⟨k1,e6,dA λx f=> ?_⟩
  simp only[List.mem_cons,List.not_mem_nil,or_false]at f
  rcases f with rfl|rfl<;>exact dB e6 e6 e6 g6 z2
 |7=>
  refine⟨⟨AM (l:=[nM.data.toList]) rfl e6,(e6:1<=40),λc d=> ?_,.inr (e6:1<=4)⟩,z2⟩
  rw[List.mem_singleton.1 d]
  refine⟨k1,e6,dA λx f=> ?_⟩
  simp only[List.mem_cons,List.not_mem_nil,or_false]at f
  rcases f with rfl|rfl|rfl<;>exact dB e6 e6 e6 g6 z2
 |_+8=>exact⟨⟨.nil,c6 _,λc d=>(by cases d),.inr (c6 _)⟩,JI⟩
theorem NK{p:j2}(d:F0 p=Bt){c a:Nat}(e:a<6){f:J7}(b:bG p c a=So f):eT f:=by unfold bG at b;split at b;cases b;exact LP e (GN d c).1 (GN d c).2;cases b
theorem YO:∀a:Nat,a<6->uk (J5 a)
 |0,_|1,_|2,_|3,_|4,_|5,_=>⟨e6,e6⟩
 |a+6,h=>absurd h a8
theorem eT.ok{f:J7}(a:eT f):kO f:=by refine⟨a.d.1,λr g=> ?_,a.ri,?_⟩;obtain⟨d,e,b,_⟩:=a.rs r g;exact⟨d,e.1,λt c=>⟨(b t c).1,(b t c).2.1,(b t c).2.2.1,(b t c).2.2.2.2.1⟩⟩;have:=YO f.arch.toNat (by have:=a.ar;omega);rwa[show((f.arch.toNat:Nat):Int)=f.arch by have:=a.ar;omega]at this
end
end Go.Proofs.YtcljlejgllkcjaaGreat
