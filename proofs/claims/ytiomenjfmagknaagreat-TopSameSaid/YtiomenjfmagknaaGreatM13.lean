/- A part of the proof of TopSame: lemmas on the walks of its calls. -/
import Derived.Test.YtiomenjfmagknaaGreatM12
set_option maxHeartbeats 12000000
set_option linter.all false
set_option maxRecDepth 100000
namespace Go.Proofs.YtiomenjfmagknaaGreat
open Go.RowKit Go.ChangeShapes Go.WideShapes Tryz
open Bool renaming false_eq_true→a4x,true→Bt,false→Bf
open Decidable renaming decide→Dc
open Ending renaming returned→X
open Go renaming World→Wd,Value→Va,Calls→Ca,callsIn_wide→Cw,undef→Un,bodyPost_ret→Bp,TypeId→Ti,Addr→Ad,Program→Pg,callsIn_of_wp→Co,CallsIn→Ci,wpList→Wp
open Go.Proofs renaming enters_of→Eo
open IntKind renaming i64→M,u32→V,u8→U8
open IntWalk renaming i64_in→a37
open Lib renaming hid→a6
open List renaming getElem?_eq_getElem→e9,length_append→a2e,getElem_mem→a30,take_succ_eq_append_getElem→a4a,append_assoc→a4s,length_take→a4C
open Nat renaming le_refl→a7,le_trans→c8,reduceAdd→l9,zero_le→i5,add_zero→a4z,reduceSub→a4D,zero_add→a4E
open Obj renaming cells→U
open Operand renaming tmp→Tm
open Option renaming none→J,some→So
open Value renaming int→I,slice→Z,string→Y,pointer→K,bool→O,func→Fc,tuple→Tp,agg→Ag
def Y0(s:ByteArray):List ByteArray×Int:=match r3 s with
 |none=>([],110)
 |some _=>if 4<U4 8 s then([],111)else(uN (lQ (cH 8 s)),0)
theorem BR(s:ByteArray):(cH 8 s).length≤1000:=by
 have a:(X6.all fun g=>Dc ((g.2.flatMap (O9 7)).length≤1000))=Bt:=by decide+kernel
 unfold cH;rcases c:r3 s with _|l
 ·exact i5 _
 ·obtain⟨g,b,rfl⟩:=dI c
  exact of_decide_eq_true (List.all_eq_true.1 a g b)
theorem PG(s:ByteArray)(W:Wd):Ca prog 360 #[Y s] W fun e x=>∃v,e=X (Tp #[v,I M (Y0 s).2])∧e4 x W 9 F9 v (Y0 s).1∧a9 W x:=by
 obtain⟨f,m,A,B,z⟩:=gP (BW s) (KR 8 (by omega) s (qX s)) (KQ 8 (by omega) s (qX s)) (fun v xs base w=>a3h v xs base w) (fun v xs base w=>MQ v xs base w);have L:=BR s;obtain⟨R,b⟩:∃R,R=Y0 s:=⟨_,rfl⟩;rw[←b];unfold Y0 at b;generalize cH 8 s=o at*;generalize U4 8 s=d at*;rcases r:r3 s with _|l
 ·rw[r]at b f
  subst b;go_in;go_wp2_with fail
  apply(f _).mono;rintro e y⟨rfl,c⟩;go_wp2_with fail
  go_ret2
  exact⟨_,rfl,e4.nil _ _ _ _,c⟩
 ·rw[r]at b f
  dsimp only at b;by_cases p:4<d
  ·rw[if_pos p]at b
   subst b;go_in;go_wp2_with fail
   apply(f _).mono;rintro e y⟨rfl,c⟩;go_wp2_with fail
   apply(m _).mono;rintro e a⟨rfl,j⟩;go_wp2_with fail
   go_ret2
   exact⟨_,rfl,e4.nil _ _ _ _,c.trans j⟩
  ·rw[if_neg p]at b
   have n:=a6 b;clear b;go_in;go_wp2_with fail
   apply(f _).mono;rintro e y⟨rfl,c⟩;go_wp2_with fail
   apply(m _).mono;rintro e a⟨rfl,j⟩;replace c:=c.trans j;go_wp2_with fail
   have u:=(c.alloc (U #[Z J 0 0] 343)).alloc (U #[Fc (.func 390) #[] #[K (a+1:Nat),K a]] 277);have F:=(b9.new a 343 #[Z J 0 0]).alloc (U #[Fc (.func 390) #[] #[K (a+1:Nat),K a]] 277);have E:b9 ((a.alloc (U #[Z J 0 0] 343)).alloc (U #[Fc (.func 390) #[] #[K (a+1:Nat),K a]] 277)) (a+1) 277 #[Fc (.func 390) #[] #[K (a+1:Nat),K a]]:=by
    have:=b9.new (a.alloc (U #[Z J 0 0] 343)) 277 #[Fc (.func 390) #[] #[K (a+1:Nat),K a]];simpa using this
   apply(A _ _ W _ [] (by simpa using c8 L (by decide)) _ E F (e4.nil _ _ _ _) u.size).mono;rintro e aa⟨rfl,v,h,g,N⟩;rw[List.nil_append]at g;have H:=jY.ge (W:=W) (e4.nil aa W 9 F9) (bo:=a) c.size (a7 _);have Q:=N.b u H;have ab:=h.cell 0;go_wp2_with fail
   apply(B v o W _ (by omega) g).mono;rintro e ae⟨rfl,t,q⟩;have D:=h.grown q (fun C=>g.ne h (by decide) C.symm);have S:=Q.grown q (fun k i=>(g.lt i).1);have ac:=D.cell 0;go_wp2_with fail
   apply(z v (lQ o) W _ (by rw[aD];omega) t).mono;rintro e af⟨ad,rfl,P,G⟩;have T:=S.grown G (fun k i=>(t.lt i).1);go_wp2_with fail
   go_ret2
   exact⟨_,by rw[n.out];rfl,by rw[n.out];exact P,T⟩
def kA(e:Int):Bool:=[90,110,100,161].any fun y=>e==y
theorem PI(x:Int)(W:Wd):Ca prog 25 #[I M x] W fun e a=>e=X (O (kA x))∧a9 W a:=by
 have b:=a6 (fun w G(c:h9 w (So ⟨G,0,J⟩) ([90,110,100,161].map (I M)))=>show Ca prog 41 #[Z (So ⟨G,0,J⟩) 4 4,I M x] w fun e a=>e=X (O (kA x))∧w=a from ctE a3P (I M) (fun x f=>x==f) (EqlAt.int _ _ _) (So ⟨G,0,J⟩) 4 4 [90,110,100,161] x w rfl (by decide) c);have d:=(a9.refl W).alloc (U #[I M 90,I M 110,I M 100,I M 161] 46);generalize kA x=R at*;go_in;go_wp2_with fail
 apply(b _ _ (fF rfl rfl)).mono;rintro e g⟨rfl,rfl⟩;go_wp2;go_ret;exact⟨rfl,d⟩
def R2(a:Int):Bool:=a==0||a==2147483648||(Dc (327680≤a)&&Dc (a≤331775))
theorem a2G(a:Int)(W:Wd):Ca prog 120 #[I V a] W fun e h=>e=X (O (R2 a))∧W=h:=by
 have b:R2 a=(a==0||a==2147483648||(Dc (327680≤a)&&Dc (a≤331775))):=rfl;generalize R2 a=R at*;go_in;cases c:a==0<;>cases d:a==2147483648<;>cases f:Dc (327680≤a)<;>cases g:Dc (a≤331775);all_goals
  rw[c,d,f,g]at b;go_wp2_with fail
  go_ret;exact⟨by rw[b];rfl,rfl⟩
def aL(s:ByteArray):List ByteArray×Int:=if Lib.hasPrefix s.data.toList [64]then Y0 s else if I3 s then([s],0)else([],90)
theorem CG(s:ByteArray)(W:Wd):Ca prog 310 #[Y s] W fun e g=>∃v,e=X (Tp #[v,I M (aL s).2])∧e4 g W 9 F9 v (aL s).1∧a9 W g:=by
 obtain⟨c,k,d⟩:=p7 (fun W=>show Ca prog 158 #[Y s,Y hH] W fun e g=>e=X (O (Lib.hasPrefix s.data.toList [64]))∧W=g from bC s hH W) (PG s) (hC s);have o:(⟨#[64]⟩:ByteArray)=hH:=rfl;obtain⟨R,f⟩:∃R,R=aL s:=⟨_,rfl⟩;rw[←f];unfold aL at f;generalize hH=S at*;generalize Y0 s=n at*;have a:=a6 f;clear f;rcases j:Lib.hasPrefix s.data.toList [64]with _|_
 ·rw[j]at c a
  rcases i:I3 s with _|_
  ·rw[i]at d a
   go_in;go_wp2_with fail
   apply(c _).mono;rintro e h⟨rfl,rfl⟩;go_wp2_with fail
   apply(d _).mono;rintro e h⟨rfl,b⟩;go_wp2_with fail
   go_ret2
   exact⟨_,by rw[a.out];rfl,by rw[a.out];exact e4.nil _ _ _ _,b⟩
  ·rw[i]at d a
   go_in;go_wp2_with fail
   apply(c _).mono;rintro e h⟨rfl,rfl⟩;go_wp2_with fail
   apply(d _).mono;rintro e m⟨rfl,b⟩;go_wp2_with fail
   go_ret2
   refine⟨_,by rw[a.out];rfl,?_,b.alloc _⟩;rw[a.out];exact e4.new b.size rfl rfl (by decide)
 ·rw[j]at c a
  go_in;go_wp2_with fail
  apply(c _).mono;rintro e h⟨rfl,rfl⟩;go_wp2_with fail
  apply(k _).mono;rintro e m⟨v,rfl,l,b⟩;go_wp2_with fail
  go_ret2
  exact⟨_,by rw[a.out];rfl,by rw[a.out];exact l,b⟩
abbrev o8:=ByteArray×Int
def p5:p6 o8:=⟨2,fun x=>[Y x.1,I V x.2],fun _=>rfl,by simp[Value.oneCell']⟩
theorem a15:mU prog 34 144 (Ag #[Y ⟨#[]⟩,I V 0]) 2 24:=⟨underlying34,by kernel_rfl,rfl,by decide,by decide⟩
def VP.ownR{a:Type}(base:Nat)(e:Ti)(E:p6 a)(xs:List a):VP:=⟨fun v b=>e4 b base e E v xs,fun _ _ _ c x=>c.h x⟩
def VP.list{b:Type}(m:Int)(base:Nat)(e:Ti)(E:p6 b)(xs:List b):VP:=⟨fun v d=>∃a c,v=Ag #[I U8 m,Z a xs.length c]∧e4 d base e E (Z a xs.length c) xs,fun _ _ _⟨a,c,f,k⟩ x=>⟨a,c,f,k.h x⟩⟩
theorem sJ(m:Int)(b:Option Ad)(c:Nat)(xs:List o8)(w:Wd)(ah:xs.length≤1000000)(E:h9 w b (p5.row xs))(ag:∀a,b=So a→a.spot=J):
  Ci .wide 1 prog 307 #[.agg #[I U8 m,Z b xs.length c]] w fun e P=>∃v,e=X (.agg #[I U8 m,v])∧e4 P w 144 p5 v xs∧a9 w P:=by
 have y:b9 ((w.alloc (U #[I U8 m,Z b xs.length c] 36)).alloc (U #[I U8 0,Z J 0 0] 36)) w 36 #[I U8 m,Z b xs.length c]:=(b9.new w _ _).alloc _;have z:b9 ((w.alloc (U #[I U8 m,Z b xs.length c] 36)).alloc (U #[I U8 0,Z J 0 0] 36)) (w+1) 36 #[I U8 0,Z J 0 0]:=b9.b (by simp);have F:a9 w ((w.alloc (U #[I U8 m,Z b xs.length c] 36)).alloc (U #[I U8 0,Z J 0 0] 36)):=((a9.refl w).alloc _).alloc _;have H:((w.alloc (U #[I U8 m,Z b xs.length c] 36)).alloc (U #[I U8 0,Z J 0 0] 36)).heap.size=w.heap.size+2:=by simp
 obtain⟨S,T,aa,t,ad⟩:=gP (fun g(f:a9 w g)=>show Ca prog 166 #[Z b xs.length c] g _ from clE wW p5 a15 sizeOf144 b c xs g ah (E.h f)) y z F H;clear E ag y z F H;refine Co func307 rfl trivial ?_ rfl;simp only[ntmps307,uE,l9,a4D];gi_wp2_with fail
 generalize(w.alloc (U #[I U8 m,Z b xs.length c] 36)).alloc (U #[I U8 0,Z J 0 0] 36)=w0 at*;refine g4 (fun _=>trivial) rfl [.is ?Ai,.is (I U8 m),.is ?Aj,.is (Z b xs.length c),(VP.ownR w0 144 p5 xs),(VP.list m w0 144 p5 xs)] (by kernel_rfl) ?Ak ?Aa ⟨?Ab,?Ac,?Ad,?Ae,?Af,?Ag,trivial⟩ _ rfl rfl ?Ah
 case Aa=>intro x;simp only[e6,Act.put,uL,l9]<;>rfl
 case Ab|Ac|Ad|Ae=>
  intro x g f;simp only[e5,g1,uV];repeat(intro d;try simp only[d])
  obtain⟨ao,ar⟩:=(T.h f).c2;gi_wp2_with fail
  refine a0e ?_ rfl (a9.refl _);rfl
 case Af=>
  intro x g f;simp only[e5,g1,uV];intro o;simp only[o];gi_wp2_with(refine⟨trivial,?_⟩;gi_at_call 166;apply((Cw (n:=0)).2 (S g (t.trans f))).mono;rintro e aq⟨v,rfl,ai,aj⟩)
  refine a0e ?_ rfl (aj);exact ai.mono f.size
 case Ag=>
  intro x g f;simp only[e5,g1,uV];rintro l r;simp only[l];obtain⟨Q,ae,af⟩:=r.b;gi_wp2_with fail
  refine a0e ?_ rfl (a9.refl _);exact⟨Q,ae,rfl,by rw[←af];exact r⟩
 case Ah=>
  intro x g f;simp only[l8,e5,j8,uV];rintro A l C o r⟨h,j,D,L⟩;simp only[A,l,C,o,D];clear A l C o D;have B:=aa.h f;have ak:=B.frozen 0;have al:=B.frozen 1;obtain⟨am,an⟩:=B.c2;have ap:w+2≤w0.heap.size:=Nat.le_of_eq ad.symm;have q:∀{W:Wd}(i:Nat)(u:Va),e4 W w0 144 p5 (Z h xs.length j) xs→e4 (W.setCell ⟨w+1,i,J⟩ u) w0 144 p5 (Z h xs.length j) xs:=fun i u k=>k.kept (x4 _ _ _ u) (.inr fun e=>by have:=(k.lt e).1;omega)
  have s:=(B.f 0 (I U8 m)).f 1 (Z h xs.length j);have N:=q 1 (Z h xs.length j) (q 0 (I U8 m) L);have G:a9 w ((g.setCell ⟨w+1,0,J⟩ (I U8 m)).setCell ⟨w+1,1,J⟩ (Z h xs.length j)):=((t.trans f).set (p:=⟨w+1,0,J⟩) (Nat.le_succ _) _).set (p:=⟨w+1,1,J⟩) (Nat.le_succ _) _;obtain⟨ab,ac,R⟩:=p7 N G s;clear q N G s L;gi_wp2_with fail
  exact Bp (g0 rfl _ _ _ _ _ _ rfl R underlying36 rfl (by kernel_rfl)) rfl ⟨_,rfl,ab.mono (by omega),ac.out⟩
theorem gU(m:Int)(b:Option Ad)(c:Nat)(xs:List o8)(w:Wd)(h:xs.length≤1000000)(g:h9 w b (p5.row xs))(f:∀a,b=So a→a.spot=J):
  Ca prog 307 #[Ag #[I U8 m,Z b xs.length c]] w fun e d=>∃v,e=X (Ag #[I U8 m,v])∧e4 d w 144 p5 v xs∧a9 w d:=
 callsIn_wide.1 (sJ m b c xs w h g f)
theorem CF(x:o8)(s:ByteArray)(W:Wd):Ca prog 362 #[Ag (p5.c x).toArray,Y s] W fun e d=>e=X (I M (Lib.compareBytes x.1.data.toList s.data.toList))∧a9 W d:=by
 obtain⟨n,a⟩:=x;have c:=(a9.refl W).alloc (U #[Y n,I V a] 144);have b:=a6 (EU n s);show Ca prog 362 #[Ag #[Y n,I V a],Y s] W _;dsimp only;generalize Lib.compareBytes n.data.toList s.data.toList=R at*;go_in;go_wp2_with fail
 apply(b _).mono;rintro e f⟨rfl,rfl⟩;go_wp2_with fail
 go_ret;exact⟨rfl,c⟩
theorem PJ(x:o8)(s:ByteArray)(g:Nat)(W:Wd)(b:W.cell? ⟨g,0,J⟩=So (Y s)):Ca prog 366 (#[Ag (p5.c x).toArray]++ #[K g]) W fun e d=>e=X (O (x.1.toList==s.toList))∧a9 W d:=by
 obtain⟨n,a⟩:=x;have c:=(a9.refl W).alloc (U #[Y n,I V a] 144);have f:=c.cell b;have h:g≠W.heap.size:=Nat.ne_of_lt (block_lt_of_cell b);show Ca prog 366 #[Ag #[Y n,I V a],K g] W _;go_in;go_wp2;go_ret;exact⟨rfl,c⟩
theorem a1I(W:Wd):Ca prog 311 #[] W fun e c=>e=X (Ag #[O Bt,O Bf,O Bf,O Bt])∧a9 W c:=by
 have a:b9 (W.alloc (U #[O Bf,O Bf,O Bf,O Bf] 422)) W 422 #[O Bf,O Bf,O Bf,O Bf]:=b9.new W _ _;have b:=(a9.refl W).alloc (U #[O Bf,O Bf,O Bf,O Bf] 422);go_in;go_wp2;first
  |exact Bp (g0 rfl _ _ _ _ _ _ rfl (b9.new _ _ _) underlying422 rfl (by kernel_rfl)) rfl ⟨rfl,(a9.refl W).alloc _⟩
  |exact Bp (g0 rfl _ _ _ _ _ _ rfl ((((a.f 0 (O Bt)).f 1 (O Bf)).f 2 (O Bf)).f 3 (O Bt)) underlying422 rfl (by kernel_rfl)) rfl ⟨rfl,(((b.set (p:=⟨W,0,J⟩) (a7 _) _).set (p:=⟨W,1,J⟩) (a7 _) _).set (p:=⟨W,2,J⟩) (a7 _) _).set (p:=⟨W,3,J⟩) (a7 _) _⟩
def yD(p:Option ByteArray)(s:ByteArray):Bool:=match p with
 |none=>Bt
 |some q=>Op.bytesLess q.toList s.toList
def ZW:Option ByteArray→List o8→Bool
 |_,[]=>Bt
 |p,x::r=>I3 x.1&&R2 x.2&&yD p x.1&&ZW (So x.1) r
def iN(xs:List o8):Nat→Option ByteArray
 |0=>J
 |k+1=>(xs[k]?).map (·.1)
def bO(m:Int)(xs:List o8):Bool:=if 2<m then Bf else if m=0∧0<xs.length then Bf else ZW J xs
theorem UK(xs:List o8)(k:Nat)(a:k<xs.length):ZW (iN xs k) (xs.drop k)=(I3 xs[k].1&&R2 xs[k].2&&yD (iN xs k) xs[k].1&&ZW (iN xs (k+1)) (xs.drop (k+1))):=by
 rw[List.drop_eq_getElem_cons a];show(_&&ZW (So xs[k].1) _)=_;unfold iN;simp[e9 a]
theorem jC(m:Int)(v:0≤m)(C:Option Ad)(n c:Nat)(xs:List o8)(w:Wd)(ca:xs.length=n)(cj:n≤1000000)(F:h9 w C (p5.row xs)):
  Ca prog 75 #[.agg #[I U8 m,Z C n c]] w fun e cd=>e=X (O (bO m xs))∧a9 w cd:=by
 subst ca;obtain⟨R,h⟩:∃R,R=bO m xs:=⟨_,rfl⟩;rw[←h];unfold bO at h;have ac:=(a9.refl w).alloc (U #[I U8 m,Z C xs.length c] 36);by_cases y:2<m
 ·rw[if_pos y]at h
  have t:=a6 h;have L:Dc (2<m)=Bt:=decide_eq_true y;clear h y F v;go_in;go_wp2_with fail
  go_ret;exact⟨by rw[t.out];rfl,ac⟩
 ·rw[if_neg y]at h
  have L:Dc (2<m)=Bf:=decide_eq_false y;by_cases A:m=0
  ·have S:(m==0)=Bt:=by simp[A]
   by_cases D:0<xs.length
   ·rw[if_pos ⟨A,D⟩]at h
    have t:=a6 h;have ai:Dc (0<xs.length)=Bt:=decide_eq_true D;clear h y A F v D;go_in;go_wp2_with fail
    go_ret;exact⟨by rw[t.out];rfl,ac⟩
   ·rw[if_neg (fun u=>D u.2)]at h
    obtain rfl:xs=[]:=by rcases xs with _|⟨x,r⟩;rfl;simp at D
    have t:=a6 h;clear h y A F v D;go_in;go_wp2_with fail
    go_loopw [22] (fun i wr=>i=I M 0∧wr=w.alloc (U #[I U8 m,Z C 0 c] 36)) (fun _ _=>0)
    case atStart=>exact⟨rfl,rfl⟩
    case round=>
     obtain⟨rfl,rfl⟩:=hrel;go_wp2_with fail
     go_ret;exact⟨by rw[t.out];rfl,ac⟩
  ·rw[if_neg (fun u=>A u.1)]at h
   have S:(m==0)=Bf:=by simp[A]
   obtain⟨bs,bu,ao⟩:=p7 F (UK xs) h;obtain⟨ae,o⟩:∃ae,ae=ZW J xs:=⟨_,rfl⟩;have af:=a6 o;have an:=b9.new w 36 #[I U8 m,Z C xs.length c];have bp:=a6 an;clear h y A F v o an;go_in;go_wp2_with fail
   go_loopw [22] (fun i wr=>∃k:Nat,k≤xs.length∧i=I M k∧ae=ZW (iN xs k) (xs.drop k)∧a9 (w.alloc (U #[I U8 m,Z C xs.length c] 36)) wr) (fun i _=>xs.length-(intOf i).toNat)
   case atStart=>exact⟨0,i5 _,rfl,af.out,a9.refl _⟩
   case round=>
    obtain⟨k,cm,rfl,o,aj⟩:=hrel;have ak:=ac.trans aj;by_cases ab:k<xs.length
    ·have G:=bs.h ak
     obtain⟨b,am,rfl,ck⟩:=G.rows (by decide) (by omega);have bw:=G.b ab (r:=0) rfl;have bx:=G.b ab (r:=1) rfl;have ap:=fun(H:k-1<xs.length)=>G.b H (r:=0) rfl
     have H:k-1<xs.length:=by omega
     rw[bu k ab]at o;have cn:iN xs (k+1)=So xs[k].1:=by simp[iN,e9 ab]
     have bk:yD (iN xs k) xs[k].1= !(Dc (0<k)&& !Op.bytesLess (xs[k-1]'H).1.toList xs[k].1.toList):=by
      rcases k with _|j
      ·rfl
      ·have:Dc (0<j+1)=Bt:=by simp
       rw[this,iN,e9 (by omega)];simp[yD]
     rw[bk]at o;have bj:Dc (0<k)=Bt→IntKind.i64.wrap ((k:Int)-1)=((k-1:Nat):Int):=fun u=>by
      have:0<k:=of_decide_eq_true u;rw[show(k:Int)-1=((k-1:Nat):Int) by omega];exact a37 _ (by omega)
     have ah:=ap H;clear ap bk;generalize xs[k]=x at*;generalize xs[k-1]'H=cf at*;obtain⟨s,a⟩:=x;obtain⟨q,cg⟩:=cf;simp only[p5,a4z]at bw bx ah;dsimp only at o;obtain⟨bn,bo,bm,ad,bv,bt⟩:=jX (hC s) (a2G a) (bp.h aj) (b9.new wr 144 #[Y s,I V a]) (ak.alloc (U #[Y s,I V a] 144)) (fun(p:Wd)(l:a9 (wr.alloc (U #[Y s,I V a] 144)) p)=>(((a9.refl wr).alloc (U #[Y s,I V a] 144)).trans l).cell ah);obtain⟨ag,br⟩:=i6 o bj;have k1:((k-1:Nat):Int)<xs.length:=by omega
     have k2:(0:Int)≤((k-1:Nat):Int):=by omega
     clear o G ah bj;generalize I3 s=f at*;generalize R2 a=E at*;generalize ci:Dc (0<k)=g at*;generalize ch:Op.bytesLess q.toList s.toList=z at*;generalize k-1=al at*;go_wp2_with fail
     refine e7 rfl ((.is ?Bc:VP)::(.is (Y s):VP)::(.is (O f):VP)::(.is ?Bd:VP)::(.is ?Be:VP)::(.is (cond f (K (So ⟨wr,1,J⟩)) Un):VP)::(.is (cond f (I V a) Un):VP)::(.is (cond f (O E) Un):VP)::(.is (cond f (O (!E)) Un):VP)::(.is (O (!f|| !E)):VP)::(.is ?Bf:VP)::(.is (cond (f&&E) (I M k) Un):VP)::(.is (cond (f&&E) (O g) Un):VP)::(.is (cond (f&&E) (O g) Un):VP)::(.is (cond (f&&E&&g) (K (So ⟨w,1,J⟩)) Un):VP)::(.is (cond (f&&E&&g) (Z (So ⟨b,am,J⟩) xs.length c) Un):VP)::(.is (cond (f&&E&&g) (I M k) Un):VP)::(.is (cond (f&&E&&g) (I M al) Un):VP)::(.is (cond (f&&E&&g) (K (So ⟨b,am+al*2,J⟩)) Un):VP)::(.is (cond (f&&E&&g) (K (So ⟨b,am+al*2,J⟩)) Un):VP)::(.is (cond (f&&E&&g) (Y q) Un):VP)::(.is (cond (f&&E&&g) (K wr) Un):VP)::(.is (cond (f&&E&&g) (Y s) Un):VP)::(.is (cond (f&&E&&g) (O (!z)) Un):VP)::(.is (cond (f&&E) (O (g&& !z)) Un):VP)::(.is (O (!f|| !E||(g&& !z))):VP)::[]) (by kernel_rfl) ?Bg ?Aa ⟨?Ab,?Ac,?Ad,?Ae,?Af,?Ag,?Ah,?Ai,?Aj,?Ak,?Al,?Am,?An,?Ao,?Ap,?Aq,?Ar,?As,?At,?Au,?Av,?Aw,?Ax,?Ay,?Az,?Ba,trivial⟩ ?Bb
     case Aa=>intro x;simp only[e6,Act.put,uL,l9]<;>rfl
     case Ab|Ac|Ad|Ae|Af|Al=>
      intro x p l;simp only[e5,j8,uV];repeat(intro d;try simp only[d])
      have v:=(ad.h l).cell 0;go_wp2_with(go_at_call 119;apply(bn p).mono;rintro e ce⟨rfl,cb⟩)
      refine a0e ?_ rfl (by first|exact cb|exact a9.refl _);rfl
     case Ag|Ah|Ai|Aj|Am|An|Ao|Ap|Aq|Ar|At|Au|Av|Aw|Ax|Ay|Az=>
      intro x p l;simp only[e5,j8,uV];repeat(intro d;try simp only[d];clear d)
      have v:=(ad.h l).cell 1;have v:=(bm.h (((a9.refl wr).alloc _).trans l)).cell 1;have v:=bt p l;have v:=(ad.h l).cell 0;cases f<;>cases E<;>cases g;all_goals(try simp only[uB])
      all_goals first|exact g5 (by first|decide|(intro u;cases u)) (by first|rfl|trivial)|(refine g9 (by first|rfl|simp) ?_;(go_wp2_with(first|(go_at_call 120;apply(bo p).mono;rintro e ce⟨rfl,rfl⟩));refine a0e ?_ rfl (a9.refl _);exact rfl))
     case Ak=>
      intro x p l;simp only[e5,j8,uV];intro W aa;simp only[W,aa];cases f;all_goals(try simp only[uB])
      all_goals(go_wp2_with(fail);refine a0e ?_ rfl (a9.refl _);exact rfl)
     case As=>
      intro x p l;simp only[e5,j8,uV];intro Q P;simp only[Q,P];have bl:=br.out;cases f<;>cases E<;>cases g;all_goals(try simp only[uB])
      all_goals(try replace bl:=bl rfl)
      all_goals first|exact g5 (by first|decide|(intro u;cases u)) (by first|rfl|trivial)|(refine g9 (by first|rfl|simp) ?_;(go_wp2_with(fail);refine a0e ?_ rfl (a9.refl _);exact rfl))
     case Ba=>
      intro x p l;simp only[e5,j8,uV];intro N T;simp only[N,T];cases f<;>cases E;all_goals(try simp only[uB])
      all_goals(go_wp2_with(fail);refine a0e ?_ rfl (a9.refl _);exact rfl)
     case Bb=>
      intro x p l;simp only[l8,e5,j8,uV];intro aq L S ai W bf bg bh aa bi N ar au P av aw Q ax ay az ba bb bc bd T be;simp only[aq,L,S,ai,W,bf,bg,bh,aa,bi,N,ar,au,P,av,aw,Q,ax,ay,az,ba,bb,bc,bd,T,be];clear aq L S ai W bf bg bh aa bi N ar au P av aw Q ax ay az ba bb bc bd T be;have bz:(f&&E&& !(g&& !z))= !(!f|| !E||(g&& !z)):=by cases f<;>cases E<;>cases g<;>cases z<;>rfl
      rw[bz]at ag;generalize(!f|| !E||(g&& !z))=B at*;have cc:=bv.trans l;cases B
      ·have bq:=a6 (ag.out)
       go_wp2_with fail
       go_roundw
       case rel=>exact⟨k+1,by omega,by go_num,bq.out,(aj.alloc _).trans l⟩
       case measure=>simp[intOf];omega
      ·have t:=a6 (ao.trans (af.symm.trans ag.out))
       go_wp2_with fail
       go_ret;exact⟨by rw[t.out];rfl,cc⟩
    ·obtain rfl:k=xs.length:=by omega
     rw[List.drop_eq_nil_of_le (a7 _)]at o;have t:=a6 (ao.trans (af.symm.trans o));clear o;go_wp2_with fail
     go_ret;exact⟨by rw[t.out];rfl,ak⟩
section
open Go.Shelf
def V8{α:Type}(xs:List α)(i:Nat)(x:α):List α:=xs.take i++x::xs.drop i
structure a18(P:Pg)(ρ:Ren)(k:Nat):Prop where
 mixed:P.follows .mixedOrders=Bt
 f22:Bears P (ρ.f 22) (Body2.n22 ρ)
 ov:∀args w,(callFunc (ρ.f 29) args).run P w=((Extern.SlicesOverlaps.overlaps #[ρ.t 24,ρ.t 24] #[ρ.t 4] args).run P w).andThen fun v w'=> .ok (.value v) w'
 t0:P.underlying (ρ.t 0)=So (TypeDesc.tuple #[])
 a0:∀w,(isAgg (ρ.t 0)).run P w= .ok Bf w
 z0:∀w,(Go.sizeOf (ρ.t 0)).run P w= .ok 1 w
 v0:∀w,(zeroValue (ρ.t 0)).run P w= .ok (Tp #[]) w
 t3:P.underlying (ρ.t 3)=So (TypeDesc.int M)
 a3:∀w,(isAgg (ρ.t 3)).run P w= .ok Bf w
 z3:∀w,(Go.sizeOf (ρ.t 3)).run P w= .ok 1 w
 v3:∀w,(zeroValue (ρ.t 3)).run P w= .ok (I M 0) w
 t4:P.underlying (ρ.t 4)=So (TypeDesc.bool)
 a4:∀w,(isAgg (ρ.t 4)).run P w= .ok Bf w
 z4:∀w,(Go.sizeOf (ρ.t 4)).run P w= .ok 1 w
 v4:∀w,(zeroValue (ρ.t 4)).run P w= .ok (O Bf) w
 z9:∀w,(Go.sizeOf (ρ.t 9)).run P w= .ok k w
 a24:∀w,(isAgg (ρ.t 24)).run P w= .ok Bf w
 z24:∀w,(Go.sizeOf (ρ.t 24)).run P w= .ok 1 w
 v24:∀w,(zeroValue (ρ.t 24)).run P w= .ok (Z J 0 0) w
section
variable {P:Pg} {ρ:Ren} {α:Type} {E:p6 α}
theorem SZ(d:a18 P ρ E.k){z:Va}{bm:Nat}(h:mU P (ρ.t 24) (ρ.t 9) z E.k bm)(x:α)(v:Va)(xs:List (α))(base i o:Nat)(w:Wd)(fa:xs.length≤900000)(hi:i≤xs.length)(B:e4 w base (ρ.t 9) E v xs)(r:b9 w o (ρ.t 9) (E.c x).toArray)(ak:v.ownBlock≠So o)(bx:base≤w):
  Ca P (ρ.f 22) #[v,I M i,Z o 1 1] w fun e cv=>∃v',e=X v'∧e4 cv base (ρ.t 9) E v' (V8 xs i x)∧w.grownBy cv v.ownBlock∧(v'.ownBlock=v.ownBlock∨v'.ownBlock=So w.heap.size):=by
 have aa:h9 w o (E.row [x]):=h9.f r (by simp[p6.row]);have az:=B;obtain⟨be,c,rfl,bz,ca,ap⟩:=B.inM;have ex:c≤9223372036854775807:=by unfold maxLen at ca;omega
 have dd:=a6 B;have dx:=h.k0;have fg:=d.mixed;have fh:=d.t0;have ep:=d.a0;have fw:=d.z0;have fo:=d.v0;have fj:=d.t3;have es:=d.a3;have fy:=d.z3;have fr:=d.v3;have fk:=d.t4;have et:=d.a4;have fz:=d.z4;have fs:=d.v4;have fi:=h.u;have er:=d.a24;have fx:=d.z24;have fq:=d.v24;have ga:=d.z9;have fm:=run_underlying d.t3;have fn:=run_underlying d.t4;have fl:=run_underlying h.u;have aj:(P.info? (ρ.t 9)).map (·.size)=So E.k:=by
  obtain⟨ae,ay,ad⟩:=Option.map_eq_some_iff.1 h.i;simp only[Prod.mk.injEq]at ad;rw[ay,Option.map_some,ad.2.1]
 have dg:=a6 aa;by_cases du:i=xs.length
 ·subst du
  have ch:V8 xs xs.length x=xs++[x]:=by unfold V8;simp
  rw[ch];obtain⟨cu,ba⟩:∃cu,(Z be xs.length c).ownBlock=cu:=⟨_,rfl⟩;have de:=a6 ba;rw[ba];clear ba ak B aa ap r ch hi az;obtain⟨_,_,S⟩:=d.f22;go_enter S,Body2.n22_ntmps ρ;go_wp2_with(at_builtin;refine j3 rfl (Tm 23) (Tm 24) (ρ.t 24) (ρ.t 9) rfl h base (Z be xs.length c) xs rfl dd _ 1 1 [x] rfl rfl dg (by omega) bx ?_;intro fp fv dz _ cd bw;rw[de.out]at cd bw)
  all_goals
   go_ret;exact⟨_,rfl,dz,cd,bw⟩
 ·obtain⟨g,cs,Jq,rfl,-,dr,p,-,-,ab,q⟩:=B.blk (by omega)
  have ez:i<xs.length:=by omega
  have ck:o≠g:=fun e=>ak (by rw[e];rfl)
  have cq:(i+1)*E.k=i*E.k+E.k:=Nat.succ_mul _ _;have cr:(xs.length+1)*E.k=i*E.k+E.k+(xs.length-i)*E.k:=by rw[←Nat.succ_mul,←Nat.add_mul];congr 1;omega
  have ct:1*E.k=E.k:=Nat.one_mul _;have R:(xs.take i).length=i:=by rw[a4C];omega
  have ai:(xs.drop i).length=xs.length-i:=List.length_drop;have l:=E.row_length (xs.take i);have t:=E.row_length (xs.drop i);have ac:=E.len x;have bc:=E.row_take xs i;rw[←bc]at q;have ag:h9 w (So ⟨g,i*E.k,J⟩) (E.row (xs.drop i)):=fun j u C=>⟨g,i*E.k,rfl,by
   have N:=(List.getElem?_eq_some_iff.1 C).1;rw[p.cell,←Array.getElem?_toList,q,a4s,List.getElem?_append_right (by rw[l,R];exact Nat.le_add_right _ _),l,R,show i*E.k+j-i*E.k=j from Nat.add_sub_cancel_left _ _,List.getElem?_append_left N];exact C⟩
  have al:=E.row_oneCell (xs.drop i);have am:=E.row_oneCell [x];have ev:(((i:Nat):Int)==((xs.length:Nat):Int))=Bf:=by simp;omega
  have ft:IntKind.i64.wrap ((xs.length:Int)+1)=((xs.length+1:Nat):Int):=a37 _ (by omega);have fu:IntKind.i64.wrap ((i:Int)+1)=((i+1:Nat):Int):=a37 _ (by omega);have ds:=p.lt;have W:V8 xs i x=xs.take i++x::xs.drop i:=rfl;have ah:(V8 xs i x).length=xs.length+1:=by rw[W];simp;omega
  by_cases ci:xs.length+1≤c
  ·have bp:E.row (xs.drop i)++Jq=(E.row (xs.drop i)++Jq).take E.k++(((E.row (xs.drop i)++Jq).drop E.k).take (E.row (xs.drop i)).length++((E.row (xs.drop i)++Jq).drop E.k).drop (E.row (xs.drop i)).length):=by rw[List.take_append_drop,List.take_append_drop]
   have N:cs.toList.length=c*E.k:=by rw[Array.length_toList];exact ab
   have ec:cs.size=c*E.k:=ab;have dt:(xs.length+1)*E.k≤c*E.k:=Nat.mul_le_mul_right _ ci;have ed:(E.row (xs.take i)).length+((E.row (xs.drop i)).length+Jq.length)=c*E.k:=by rw[←N,q];simp
   change(E.row (xs.take i)).length=(xs.take i).length*E.k at l
   change(E.row (xs.drop i)).length=(xs.drop i).length*E.k at t
   rw[R]at l;rw[ai]at t;have H:((E.row (xs.drop i)++Jq).take E.k).length=E.k:=by rw[a4C,a2e];omega
   have br:(((E.row (xs.drop i)++Jq).drop E.k).take (E.row (xs.drop i)).length).length=(E.row (xs.drop i)).length:=by rw[a4C,List.length_drop,a2e];omega
   rw[a4s,bp]at q;generalize(E.row (xs.drop i)++Jq).take E.k=B0 at*;generalize((E.row (xs.drop i)++Jq).drop E.k).take (E.row (xs.drop i)).length=R0 at*;generalize((E.row (xs.drop i)++Jq).drop E.k).drop (E.row (xs.drop i)).length=R1 at*;have af:splice cs.toList ((i+1)*E.k) (E.row (xs.drop i))=E.row (xs.take i)++B0++E.row (xs.drop i)++R1:=by
    have:=R4 (E.row (xs.take i)++B0) R0 R1 (E.row (xs.drop i)) br.symm;rw[a2e,l,H,show i*E.k+E.k=(i+1)*E.k by omega]at this;rw[q,←this];simp
   have D:splice (E.row (xs.take i)++B0++E.row (xs.drop i)++R1) (i*E.k) (E.c x)=E.row (V8 xs i x)++R1:=by
    have:=R4 (E.row (xs.take i)) B0 (E.row (xs.drop i)++R1) (E.c x) (by rw[H];exact ac);rw[l]at this;rw[W,E.row_append,E.row_cons];simp only[a4s]at this⊢;exact this
   have ea:∀lb ao,(callFunc (ρ.f 29) #[Z o 1 1,Z (So ⟨g,(i+1)*E.k,J⟩) lb ao]).run P w= .ok (.value (O Bf)) w:=fun lb ao=>by
    rw[d.ov,Lib.run_overlaps_apart w (ρ.t 24) (ρ.t 4) (ρ.t 9) h.u E.k d.z9 ⟨o,0,J⟩ ⟨g,(i+1)*E.k,J⟩ 1 1 lb ao ck (ρ.t 9) (ρ.t 9) E.k cs.size (by unfold b9 at r;simp[World.shape?,r,E.len]) (by unfold b9 at p;simp[World.shape?,p]) (by rw[ec];exact Nat.ne_of_gt (Nat.mul_pos (by omega) h.k0)) (r.frozen 0) (r.frozen E.k)];rfl
   have aw:∀ty y sc,(Builtin.copy_ #[(ρ.t 24),(ρ.t 24)] ty #[Z (So ⟨g,(i+1)*E.k,J⟩) (xs.length-i) y,Z (So ⟨g,i*E.k,J⟩) (xs.length+1-i) sc]).run P w.drew= .ok (goInt ((xs.length-i:Nat):Nat)) (w.drew.setRow g (splice cs.toList ((i+1)*E.k) (E.row (xs.drop i))).toArray):=fun ty y sc=>
    kE (ρ.t 9) h.u E.k aj g ((i+1)*E.k) _ y _ sc (xs.length-i) ⟨g,i*E.k,J⟩ cs (ρ.t 9) p.drew (by omega) _ t (by rw[ab];show _≤c*E.k;omega) (ag.h ((a9.refl w).drew)) al
   rw[af]at aw;have bh:b9 (w.drew.setRow g (E.row (xs.take i)++B0++E.row (xs.drop i)++R1).toArray) g (ρ.t 9) (E.row (xs.take i)++B0++E.row (xs.drop i)++R1).toArray:=setRow_heap _ g cs _ _ (0,0) p.drew;have bv:h9 (w.drew.setRow g (E.row (xs.take i)++B0++E.row (xs.drop i)++R1).toArray) o (E.row [x]):=h9.f (r.drew.grown (E1 w.drew g _) (by simpa using ck)) (by simp[p6.row]);have L:w.grownBy (w.drew.setRow g (E.row (xs.take i)++B0++E.row (xs.drop i)++R1).toArray) (So g):=⟨rfl,rfl,rfl,by simp,fun k _ Q=>setRow_other w.drew g k _ (fun e=>Q (by rw[e]))⟩;have bt:(w.drew.setRow g (E.row (xs.take i)++B0++E.row (xs.drop i)++R1).toArray).heap.size=w.heap.size:=by simp
   have cc:i*E.k+1*E.k≤(E.row (xs.take i)++B0++E.row (xs.drop i)++R1).toArray.size:=by simp;omega
   have s:(E.row (xs.take i)++B0++E.row (xs.drop i)++R1).length=c*E.k:=by
    have:=congrArg List.length q;simp only[a2e]at this⊢;omega
   generalize w.drew.setRow g (E.row (xs.take i)++B0++E.row (xs.drop i)++R1).toArray=n at*;generalize E.row (xs.take i)++B0++E.row (xs.drop i)++R1=bl at*;have cb:∀W2,b9 W2 g (ρ.t 9) (splice bl (i*E.k) (E.row [x])).toArray→e4 W2 base (ρ.t 9) E (Z g (xs.length+1) c) (V8 xs i x):=fun W2 bg=>by
    rw[E.row_one,D]at bg;refine e4.mk2 dr bg ah ci ca ?_ rfl;rw[←D,List.size_toArray,S1 _ _ _ (by rw[ac,s];show i*E.k+E.k≤_;omega),s]
   have eu:Dc ((c:Int)<((xs.length+1:Nat):Int))=Bf:=by simp;omega
   skip
   have ae:(0:Int)≤(i:Int)+1:=by omega
   have eh:¬c=i+1:=by omega
   have ei:¬c=i:=by omega
   have ej:(i:Int)+1≤(xs.length:Int)+1:=by omega
   have el:(i:Int)≤(xs.length:Int)+1:=by omega
   have ek:((i:Int)+1).toNat=i+1:=by omega
   have cy:=a6 cb;have ax:=aw (ρ.t 3) (c-(i+1)) (c-i);obtain⟨cx,di,da,bj,cz,an⟩:=jX bh bv L bt cc am;have dj:=a6 (show(E.row [x]).length=1*E.k by rw[E.row_one,Nat.one_mul];exact ac);clear cb aw bh bv L bt cc al am ag s af D br H B az ap bp r aa p q ab bc l t R ai ak ed N dt W ah cq cr ct;obtain⟨_,_,S⟩:=d.f22;go_enter S,Body2.n22_ntmps ρ;go_wp2_with(simp only[ea])
   go_region_law_o (refine step_copy_runI rfl _ _ (ρ.t 24) (ρ.t 24) rfl (Z (So ⟨g,(i+1)*E.k,J⟩) (xs.length-i) (c-(i+1))) (Z (So ⟨g,i*E.k,J⟩) (xs.length+1-i) (c-i)) (by simp[Act.eval,Act.put]) (by simp[Act.eval,Act.put]) ax ?_)
   go_wp2_with(refine hY rfl (Tm 80) (Tm 81) (ρ.t 24) (ρ.t 24) rfl (ρ.t 9) h.u E.k aj g (i*E.k) _ _ 1 1 1 ⟨o,0,J⟩ rfl rfl bl.toArray (ρ.t 9) cx (by omega) _ dj cz di an.out ?_;intro W2 dm dw fc)
   go_ret;exact⟨_,rfl,cy _ dm,da.trans dw,.inl rfl⟩
  ·obtain⟨ae,ay,ad⟩:=Option.map_eq_some_iff.1 (h).i
   simp only[Prod.mk.injEq]at ad;obtain⟨ef,cm,cn⟩:=ad
   change(E.row (xs.take i)).length=(xs.take i).length*E.k at l
   change(E.row (xs.drop i)).length=(xs.drop i).length*E.k at t
   rw[R]at l;rw[ai]at t;have eg:=(h).zs;have av:∀m,m≤1000000→m*bm≤10000000000:=fun m dy=>Nat.mul_le_mul dy h.b0
   have cf:c<i+(xs.length+1-i):=by omega
   have eb:i+(xs.length+1-i)=xs.length+1:=by omega
   have bq:h9 w g (E.row (xs.take i)):=fun j u C=>⟨g,0,rfl,by
    have N:=(List.getElem?_eq_some_iff.1 C).1;rw[p.cell,←Array.getElem?_toList,q,a4E,a4s,List.getElem?_append_left N];exact C⟩
   have cg:(Builtin.firstCells ae.size i (Z g i c)).run P w.drew= .ok (E.row (xs.take i)).toArray w.drew:=by
    rw[cm];exact run_firstCells_some w.drew _ i ⟨g,0,J⟩ i c _ l (fun j v ee=>(bq.h ((a9.refl w).drew)).add ee)
   have au:=Lib.run_append_grow_zeros (P:=P) w (ρ.t 24) (ρ.t 3) (ρ.t 24) (ρ.t 9) ae _ M M (h).u d.t3 ay ef g i c _ cg (xs.length+1-i) (by omega) (by rw[cm];exact dx) cf (by omega) (by rw[cn];exact c8 (av _ (by omega)) (by decide)) (growslice_fits cf (by rw[cn];exact c8 (av _ (by omega)) (by decide)));have L:=grownCap_ge w (i+(xs.length+1-i)) c (ρ.t 9);have bo:=grownCap_le_maxLen w (i+(xs.length+1-i)) c (ρ.t 9) (by unfold maxLen;omega);rw[eb]at au L bo;generalize grownCap w (xs.length+1) c (ρ.t 9)=G at*;obtain⟨f,aq⟩:∃f:List Va,f=(Builtin.zeroCells (z:Va).cells (xs.length+1-i)++Builtin.zeroCells (z:Va).cells (G-(xs.length+1))).toList:=⟨_,rfl⟩;have dq:f.length=(G-i)*E.k:=by
    rw[aq,Array.length_toList,Array.size_append,size_zeroCells,size_zeroCells,eg,←Nat.add_mul];congr 1;omega
   have cj:(E.row (xs.take i)).toArray++Builtin.zeroCells (z:Va).cells (xs.length+1-i)++Builtin.zeroCells (z:Va).cells (G-(xs.length+1))=(E.row (xs.take i)++f).toArray:=by
    rw[aq];apply Array.ext';simp
   rw[cj]at au;have H:b9 (w.drew.alloc (U (E.row (xs.take i)++f).toArray (ρ.t 9))) w (ρ.t 9) (E.row (xs.take i)++f).toArray:=b9.new w.drew _ _;have bu:h9 (w.drew.alloc (U (E.row (xs.take i)++f).toArray (ρ.t 9))) o (E.row [x]):=aa.h ((a9.refl w).drew.alloc _);have A:a9 w (w.drew.alloc (U (E.row (xs.take i)++f).toArray (ρ.t 9))):=(a9.refl w).drew.alloc _;have em:(G-i)*E.k+i*E.k=G*E.k:=by rw[←Nat.add_mul,Nat.sub_add_cancel (by omega)]
   have dn:(xs.length+1)*E.k≤G*E.k:=Nat.mul_le_mul_right _ L;have ar:f=f.take E.k++((f.drop E.k).take (E.row (xs.drop i)).length++(f.drop E.k).drop (E.row (xs.drop i)).length):=by rw[List.take_append_drop,List.take_append_drop]
   have co:(f.take E.k).length=E.k:=by rw[a4C];omega
   have cp:((f.drop E.k).take (E.row (xs.drop i)).length).length=(E.row (xs.drop i)).length:=by rw[a4C,List.length_drop];omega
   generalize f.take E.k=dl at*;generalize(f.drop E.k).take (E.row (xs.drop i)).length=Z1 at*;generalize(f.drop E.k).drop (E.row (xs.drop i)).length=Z2 at*;have af:splice (E.row (xs.take i)++f) (i*E.k) (E.row [x])=E.row (xs.take i)++E.row [x]++Z1++Z2:=by
    have:=R4 (E.row (xs.take i)) dl (Z1++Z2) (E.row [x]) (by rw[E.row_one,co];exact ac);rw[l]at this;rw[ar,←a4s,this];simp
   have bd:(E.row [x]).length=E.k:=by rw[E.row_one];exact ac
   have D:splice (E.row (xs.take i)++E.row [x]++Z1++Z2) ((i+1)*E.k) (E.row (xs.drop i))=E.row (V8 xs i x)++Z2:=by
    have:=R4 (E.row (xs.take i)++E.row [x]) Z1 Z2 (E.row (xs.drop i)) cp.symm;rw[a2e,l,bd,show i*E.k+E.k=(i+1)*E.k by omega]at this;rw[this,W,E.row_append,E.row_one,show E.row (x::xs.drop i)=E.c x++E.row (xs.drop i)from rfl];simp
   have s:(E.row (xs.take i)++E.row [x]++Z1++Z2).length=G*E.k:=by
    have:=congrArg List.length ar;simp only[a2e]at this⊢;omega
   have bs:(E.row (xs.take i)++f).toArray.size=G*E.k:=by simp;omega
   have key:∀n,b9 n w (ρ.t 9) (E.row (xs.take i)++E.row [x]++Z1++Z2).toArray→(w.drew.alloc (U (E.row (xs.take i)++f).toArray (ρ.t 9))).grownBy n (So w)→
     (∀ty y sc,(Builtin.copy_ #[(ρ.t 24),(ρ.t 24)] ty #[Z (So ⟨w,(i+1)*E.k,J⟩) (xs.length-i) y,Z (So ⟨g,i*E.k,J⟩) (xs.length-i) sc]).run P n.drew= .ok (goInt ((xs.length-i:Nat):Nat)) (n.drew.setRow w (E.row (V8 xs i x)++Z2).toArray))∧
     e4 (n.drew.setRow w (E.row (V8 xs i x)++Z2).toArray) base (ρ.t 9) E (Z w (xs.length+1) G) (V8 xs i x)∧w.grownBy (n.drew.setRow w (E.row (V8 xs i x)++Z2).toArray) (So g):=fun n bf T=>by
    have F:w.grownBy n.drew J:=⟨T.os.trans A.os,T.tape.trans A.tape,T.output.trans A.output,c8 A.size T.size,fun k Q _=>(T.block k (Nat.lt_of_lt_of_le Q A.size) (by simp;omega)).trans (A.block Q)⟩;refine⟨fun ty y sc=> ?_,e4.mk2 bx (setRow_heap _ _ _ _ _ (0,0) bf.drew) ah L bo ?_ rfl,?_⟩
    ·rw[←D]
     exact kE (ρ.t 9) (h).u E.k aj w ((i+1)*E.k) _ y _ sc (xs.length-i) ⟨g,i*E.k,J⟩ _ (ρ.t 9) bf.drew (by omega) _ t (by rw[List.size_toArray,s];omega) (fun j u C=>by
      obtain⟨b,en,e,bz⟩:=ag j u C;exact⟨b,en,e,by cases e;exact World.cell?_of_block (w:=w) (a:=⟨g,i*E.k+j,J⟩) (F.block g ds (by simp))▸bz⟩) al
    ·rw[←D,List.size_toArray,S1 _ _ _ (by rw[s];omega),s]
    ·exact⟨F.os,F.tape,F.output,by simpa using F.size,fun k Q _=>(setRow_other _ _ k _ (by omega)).trans (F.block k Q (by simp))⟩
   skip
   have ew:g≠w.heap.size:=by omega
   obtain⟨db,cw,dh,an,dk,bj⟩:=jX key H bu am (show(E.row [x]).length=1*E.k by rw[Nat.one_mul];exact bd) af;have df:=a6 (show i*E.k+1*E.k≤(E.row (xs.take i)++f).toArray.size by rw[bs];omega);have ey:(xs.length:Int)+1-(i:Int)=((xs.length+1-i:Nat):Int):=by omega
   have ae:(0:Int)≤(i:Int)+1:=by omega
   have eh:¬G=i+1:=by omega
   have ei:¬c=i:=by omega
   have fd:¬G=i:=by omega
   have ej:(i:Int)+1≤(xs.length:Int)+1:=by omega
   have ek:((i:Int)+1).toNat=i+1:=by omega
   have el:(i:Int)≤(xs.length:Int)+1:=by omega
   have fe:((xs.length:Int)+1-(i:Int)).toNat=xs.length+1-i:=by omega
   have ff:(c:Int)<(xs.length:Int)+1:=by omega
   have ce:min 1 (xs.length+1-i)=1:=by omega
   have dc:=a6 ce;generalize E.row (xs.take i)++f=bk at*;generalize dp:w.drew.alloc (U bk.toArray (ρ.t 9))=eo at*;clear key H bu A al am ag bq s af D co cp B az ap r aa p q ab bc l t R ai ak W ah ar dq bs cj cg aq dn ce dp bd cq cr ct em av;obtain⟨_,_,S⟩:=d.f22;go_enter S,Body2.n22_ntmps ρ;go_wp2_with(first|(at_builtin;refine Lib.wpList_append_run _ rfl _ _ _ _ rfl _ _ rfl rfl _ _ au ?_)|(refine hY rfl (Tm 43) (Tm 44) (ρ.t 24) (ρ.t 24) rfl (ρ.t 9) (h).u E.k aj w (i*E.k) _ _ 1 1 1 ⟨o,0,J⟩ rfl rfl bk.toArray (ρ.t 9) cw dc _ dk df dh an.out ?_;intro n bn dv fb;have bb:=db n (by have:=bj.out;rw[List.toList_toArray,this]at bn;exact bn) dv;have ax:=bb.1 (ρ.t 3) (G-(i+1)) (c-i);have bi:=a6 bb.2;clear bb))
   go_region_law_o (refine step_copy_runI rfl _ _ (ρ.t 24) (ρ.t 24) rfl (Z (So ⟨w,(i+1)*E.k,J⟩) (xs.length-i) (G-(i+1))) (Z (So ⟨g,i*E.k,J⟩) (xs.length-i) (c-i)) (by simp[Act.eval,Act.put]) (by simp[Act.eval,Act.put]) ax ?_)
   go_wp2;go_ret;exact⟨_,rfl,bi.1,bi.2,.inr rfl⟩
end
theorem a0d:a18 prog ⟨fun|22=>364|29=>395|30=>396|n=>n,fun|24=>34|9=>144|0=>0|3=>3|4=>4|n=>n,fun n=>n⟩ 2:=by
 constructor
 case f22=>exact⟨f364.name,by decide,func364.trans (congrArg So (by kernel_rfl))⟩
 case ov=>exact fun args w=>run_callFunc_extern func395 (by kernel_rfl) (by kernel_rfl) (by kernel_rfl) (e:=Extern.SlicesOverlaps.overlaps #[34,34] #[4]) (by kernel_rfl) args w
 all_goals first|(intro w;kernel_rfl)|kernel_rfl
theorem a1r:a18 prog ⟨fun|22=>323|29=>370|30=>371|n=>n,fun|24=>33|9=>3|0=>0|3=>3|4=>4|n=>n,fun n=>n⟩ 1:=by
 constructor
 case f22=>exact⟨f323.name,by decide,func323.trans (congrArg So (by kernel_rfl))⟩
 case ov=>exact fun args w=>run_callFunc_extern func370 (by kernel_rfl) (by kernel_rfl) (by kernel_rfl) (e:=Extern.SlicesOverlaps.overlaps #[33,33] #[4]) (by kernel_rfl) args w
 all_goals first|(intro w;kernel_rfl)|kernel_rfl
theorem a1q:a18 prog ⟨fun|22=>327|29=>375|30=>376|n=>n,fun|24=>37|9=>26|0=>0|3=>3|4=>4|n=>n,fun n=>n⟩ 1:=by
 constructor
 case f22=>exact⟨f327.name,by decide,func327.trans (congrArg So (by kernel_rfl))⟩
 case ov=>exact fun args w=>run_callFunc_extern func375 (by kernel_rfl) (by kernel_rfl) (by kernel_rfl) (e:=Extern.SlicesOverlaps.overlaps #[37,37] #[4]) (by kernel_rfl) args w
 all_goals first|(intro w;kernel_rfl)|kernel_rfl
end
def LC(p:Nat→Bool):Nat→Nat→Nat→Nat
 |0,i,_=>i
 |f+1,i,j=>if i<j then(if p ((i+j)/2)then LC p f ((i+j)/2+1) j else LC p f i ((i+j)/2))else i
theorem rE(p:Nat→Bool):∀f i j,i≤j→LC p f i j≤j
 |0,i,j,h=>h
 |f+1,i,j,h=>by
  unfold LC;split
  ·split
   ·exact rE p f _ _ (by omega)
   ·exact c8 (rE p f _ _ (by omega)) (by omega)
  ·exact h
theorem jN(p:Nat→Bool)(f i:Nat):LC p f i i=i:=by cases f;rfl;unfold LC;rw[if_neg (by omega)]
def HT(xs:List o8)(s:ByteArray)(h:Nat):Int:=match xs[h]? with
 |some x=>Lib.compareBytes x.1.data.toList s.data.toList
 |none=>0
def ZZ(xs:List o8)(s:ByteArray):Nat:=LC (fun h=>Dc (HT xs s h<0)) xs.length 0 xs.length
def kZ(xs:List o8)(s:ByteArray):Bool:=Dc (ZZ xs s<xs.length)&&HT xs s (ZZ xs s)==0
theorem a6a(D:Option Ad)(c:Nat)(xs:List o8)(s:ByteArray)(w:Wd)(ag:xs.length≤1000000)(H:h9 w D (p5.row xs)):
  Ca prog 361 #[Z D xs.length c,Y s,Fc (.func 362) #[] #[]] w fun e u=>e=X (Tp #[I M (ZZ xs s:Nat),O (kZ xs s)])∧a9 w u:=by
 obtain⟨R,h⟩:∃R,R=ZZ xs s:=⟨_,rfl⟩;obtain⟨B,j⟩:∃B,B=kZ xs s:=⟨_,rfl⟩;have G:B=(Dc (R<xs.length)&&HT xs s R==0):=by rw[j,h];rfl
 rw[←h,←j];unfold ZZ at h;obtain⟨Q,F⟩:=i6 G H;have L:∀(m:Nat)(N:m<xs.length),HT xs s m=Lib.compareBytes xs[m].1.data.toList s.data.toList:=fun m N=>by unfold HT;rw[e9 N]
 have E:=a6 L;have ab:=fun i=>jN (fun m=>Dc (HT xs s m<0)) 0 i
 clear j G H L ab;go_in;go_wp2_with fail
 go_loopg [9,10] xs.length (fun ac af ae wr=>∃g d f:Nat,af=I M g∧ae=I M d∧g≤d∧d≤xs.length∧d-g≤ac∧d-g≤f∧R=LC (fun m=>Dc (HT xs s m<0)) f g d∧a9 w wr)
 case atStart=>exact⟨0,xs.length,xs.length,rfl,rfl,i5 _,a7 _,by omega,by omega,h,a9.refl _⟩
 case round=>
  clear h;obtain⟨g,d,f,rfl,rfl,aj,W,ai,ah,h,n⟩:=hrel;by_cases aa:g<d
  ·have C:(g+d)/2<xs.length:=by omega
   have k:=F.h n;obtain⟨b,ad,rfl,T⟩:=k.rows (by decide) (by omega);have z:=k.b C (r:=0) rfl;have A:=k.b C (r:=1) rfl;obtain⟨f,rfl⟩:∃S,f=S+1:=⟨f-1,by omega⟩;unfold LC at h;rw[if_pos aa,E _ C]at h;generalize xs[(g+d)/2]=x at*;have l:=CF x s wr;obtain⟨q,a⟩:=x;simp only[p5,a4z]at z A l;dsimp only at h l;generalize Lib.compareBytes q.data.toList s.data.toList=r at*;have t:=a6 l;clear l k;by_cases P:r<0
   ·rw[if_pos (decide_eq_true P)]at h
    have y:=a6 h;clear h;go_wp2_with fail
    apply t.mono;rintro e u⟨rfl,p⟩;go_wp2_with fail
    go_roundg (d-((g+d)/2+1))
    case measure=>omega
    case rel=>exact⟨(g+d)/2+1,d,f,by rw[show((g:Int)+(d:Int))/2+1=(((g+d)/2+1:Nat):Int) by omega],rfl,by omega,W,a7 _,by omega,y.out,n.trans p⟩
   ·rw[decide_eq_false P,if_neg (by decide)]at h
    have y:=a6 h;clear h;go_wp2_with fail
    apply t.mono;rintro e u⟨rfl,p⟩;go_wp2_with fail
    go_roundg ((g+d)/2-g)
    case measure=>omega
    case rel=>exact⟨g,(g+d)/2,f,rfl,by rw[show((g:Int)+(d:Int))/2=(((g+d)/2:Nat):Int) by omega],by omega,by omega,a7 _,by omega,y.out,n.trans p⟩
  ·obtain rfl:g=d:=by omega
   rw[jN]at h;have j:=Q.out;rw[h]at j;subst h;by_cases o:R<xs.length
   ·have k:=F.h n
    obtain⟨b,ad,rfl,T⟩:=k.rows (by decide) (by omega);have z:=k.b o (r:=0) rfl;have A:=k.b o (r:=1) rfl;rw[E _ o]at j;generalize xs[R]=x at*;have l:=CF x s wr;obtain⟨q,a⟩:=x;simp only[p5,a4z]at z A l;dsimp only at j l;generalize Lib.compareBytes q.data.toList s.data.toList=r at*;obtain⟨t,v⟩:=i6 l j;clear l k j;go_wp2_with fail
    apply t.mono;rintro e u⟨rfl,p⟩;go_wp2_with fail
    go_ret2
    exact⟨by rw[v.out];simp[o],n.trans p⟩
   ·have v:=a6 j
    clear j;go_wp2
    go_ret2
    exact⟨by rw[v.out];simp[o],n⟩
section
def NC(m:Int)(xs:List o8)(s:ByteArray)(a:Int):List o8:=if bO m xs then(if kZ xs s then xs.set (ZZ xs s) (s,a)else V8 xs (ZZ xs s) (s,a))else xs
structure L7(w:Wd)(g base:Nat)(m:Int)(v:Va)(xs:List o8):Prop where
 b:b9 w g 36 #[I U8 m,v]
 o:e4 w base 144 p5 v xs
section
variable {w w':Wd} {g base:Nat} {m:Int} {v:Va} {xs:List o8}
theorem L7.h(h:L7 w g base m v xs)(x:a9 w w'):L7 w' g base m v xs:=⟨h.b.h x,h.o.h x⟩
theorem L7.put{u e:Va}(a:b9 w g 36 #[u,e])(b:e4 w base 144 p5 v xs):L7 ((w.setCell ⟨g,0,J⟩ (I U8 m)).setCell ⟨g,1,J⟩ v) g base m v xs:=
 have n:=b.ne a (by decide);have c:=a.f 0 (I U8 m);have d:=b.kept (x4 _ g 0 (I U8 m)) (.inr n)
 ⟨c.f 1 v,d.kept (x4 _ g 1 v) (.inr n)⟩
end
theorem a9.f{W w w':Wd}{row:Option Nat}(e:a9 W w)(c:w.grownBy w' row)(d:∀k,row=So k→W.heap.size≤k):a9 W w':=
 (MV.l (Xa:=fun b=>row=So b) (O1:=fun b=>row=So b) c (fun k a=>a) (fun b a=> .inl a)).b e d
theorem PH{xs:List o8}{s:ByteArray}(h:kZ xs s=Bt):ZZ xs s<xs.length:=by
 unfold kZ at h;simp only[Bool.and_eq_true,decide_eq_true_eq]at h;exact h.1
theorem a1H(m:Int)(cv:0≤m)(f:Option Ad)(c:Nat)(xs:List o8)(s:ByteArray)(a:Int)(w:Wd)(ds:xs.length≤100000)(br:h9 w f (p5.row xs))(bo:∀a,f=So a→a.spot=J):
  Ca prog 312 #[Ag #[I U8 m,Z f xs.length c],Y s,I V a] w fun e w'=>∃v,e=X (Ag #[I U8 m,v])∧e4 w' w 144 p5 v (NC m xs s a)∧a9 w w':=by
 have az:a9 w ((w.alloc (U #[I U8 m,Z f xs.length c] 36)).alloc (U #[I U8 0,Z J 0 0] 36)):=((a9.refl w).alloc _).alloc _;have bi:b9 ((w.alloc (U #[I U8 m,Z f xs.length c] 36)).alloc (U #[I U8 0,Z J 0 0] 36)) w 36 #[I U8 m,Z f xs.length c]:=(b9.new w _ _).alloc _;have bl:b9 ((w.alloc (U #[I U8 m,Z f xs.length c] 36)).alloc (U #[I U8 0,Z J 0 0] 36)) (w+1) 36 #[I U8 0,Z J 0 0]:=b9.b (by simp);have ba:((w.alloc (U #[I U8 m,Z f xs.length c] 36)).alloc (U #[I U8 0,Z J 0 0] 36)).heap.size=w.heap.size+2:=by simp
 have be:=a6 (gU m f c xs _ (by omega) (br.h az) bo);have key:∀b v,e4 b (w+2) 144 p5 v xs→a9 ((w.alloc (U #[I U8 m,Z f xs.length c] 36)).alloc (U #[I U8 0,Z J 0 0] 36)) b→
   L7 ((b.setCell ⟨w,0,J⟩ (I U8 m)).setCell ⟨w,1,J⟩ v) w (w+2) m v xs∧b9 ((b.setCell ⟨w,0,J⟩ (I U8 m)).setCell ⟨w,1,J⟩ v) (w+1) 36 #[I U8 0,Z J 0 0]∧a9 w ((b.setCell ⟨w,0,J⟩ (I U8 m)).setCell ⟨w,1,J⟩ v)∧((b.setCell ⟨w,0,J⟩ (I U8 m)).setCell ⟨w,1,J⟩ v).heap.size=b.heap.size∧b9 b w 36 #[I U8 m,Z f xs.length c]:=fun b v C ay=>by
  have bj:=bi.h ay;exact⟨L7.put bj C,((bl.h ay).far (by simp) _).far (by simp) _,((az.trans ay).set (p:=⟨w,0,J⟩) (a7 _) _).set (p:=⟨w,1,J⟩) (a7 _) _,by simp,bj⟩
 have bf:=a6 key;obtain⟨R,ag⟩:∃R,R=NC m xs s a:=⟨_,rfl⟩;rw[←ag];unfold NC at ag;obtain⟨cq,bg⟩:=i6 ba ag;rw[ba]at be;clear br az bi bl ba key bo ag;go_in;go_wp2_with fail
 apply be.mono;rintro e b⟨v,rfl,C,bz⟩;obtain⟨ad,bs,bt,dt,ac⟩:=bf b v C bz;have au:=C;obtain⟨t,h,rfl⟩:=C.b;obtain⟨dx,dy⟩:=ac.c2;have dp:=ac.frozen 0;have dq:=ac.frozen 1;obtain⟨dz,ea⟩:=ad.b.c2;obtain⟨n,ak,al,F⟩:=J5 ad bs bt (fun W(ao:a9 ((b.setCell ⟨w,0,J⟩ (I U8 m)).setCell ⟨w,1,J⟩ (Z t xs.length h)) W)=>jC m cv t xs.length h xs W rfl (by omega) (by obtain⟨ch,cr,e,_,_,am⟩:=(ad.o.h ao).inM;cases e;exact am));clear C ad bs bt ac au bf;have du:w+2≤b.heap.size:=by rw[←cq.out];exact bz.size
 have o:=bg.out;clear bg;rcases ah:bO m xs with _|_
 ·rw[ah]at o F
  have G:=a6 (show R=xs from o);clear o ah;go_wp2_with fail
  apply(F _ (a9.refl _)).mono;rintro e ai⟨rfl,q⟩;have bp:=n.h q;have af:=ak.h q;have cw:=al.trans q;have T:=(bp).b;obtain⟨cb,cc⟩:=T.c2;obtain⟨cd,ce⟩:=(af).c2;have cf:=(af).frozen 0;have cg:=(af).frozen 1;have H:=L7.put (m:=m) af (bp).o;have L:=((cw).set (p:=⟨w+1,0,J⟩) (by show w≤w.heap.size+1;omega) (I U8 m)).set (p:=⟨w+1,1,J⟩) (by show w≤w.heap.size+1;omega) (Z t xs.length h);obtain⟨u,D⟩:=i6 H L;clear H L T;go_wp2_with fail
  exact Bp (g0 rfl _ _ _ _ _ _ rfl u.b underlying36 rfl (by kernel_rfl)) rfl ⟨_,rfl,by rw[G.out];exact u.o.mono (by omega),D.out⟩
 ·rw[ah]at o F
  rw[if_pos rfl]at o;have bd:=a6 (fun W(ao:a9 ((b.setCell ⟨w,0,J⟩ (I U8 m)).setCell ⟨w,1,J⟩ (Z t xs.length h)) W)=>a6a t h xs s W (by omega) (by obtain⟨ch,cr,e,_,_,am⟩:=(n.o.h ao).inM;cases e;exact am));have dd:ZZ xs s≤xs.length:=rE _ _ _ _ (i5 _);have ap:=PH (xs:=xs) (s:=s);generalize kZ xs s=cu at*;generalize ZZ xs s=i at*;clear ah;rcases cu with _|_
  ·have G:=a6 (show R=V8 xs i (s,a)from o)
   clear o ap;go_wp2_with fail
   apply(F _ (a9.refl _)).mono;rintro e ai⟨rfl,q⟩;obtain⟨dh,di⟩:=(n.h q).b.c2;have S:=q.alloc (U #[Y s,I V a] 144);have b4:=b9.new ai 144 #[Y s,I V a];obtain⟨aj,d⟩:=i6 b4 S;clear b4 S;have dg:=((n.h d.out).b).cell 1;go_wp2_with fail
   apply(bd _ d.out).mono;rintro e r⟨rfl,l⟩;have j:=n.h (d.trans l);have dj:=j.b.cell 1;obtain⟨dk,dl⟩:=(aj.h l).c2;have dv:b≤r.heap.size:=by have:=(d.trans l).size;omega
   obtain⟨cn,aa,co,cp⟩:=J5 (SZ (E:=p5) a0d a15 (s,a) (Z t xs.length h) xs (w+2) i r (r.alloc (U #[Y s,I V a] 144)) (by omega) dd ((j.o).h ((a9.refl r).alloc _)) (b9.new r _ _) (fun e=>by have:=(j.o.lt e).2;omega) (by simp;omega)) (j.h ((a9.refl r).alloc (U #[Y s,I V a] 144))) ((ak.h (d.trans l)).alloc (U #[Y s,I V a] 144)) ((al.trans (d.trans l)).alloc (U #[Y s,I V a] 144));clear j;go_wp2_with fail
   apply cn.mono;rintro e dm⟨v',rfl,av,aq,dr⟩;have de:So w.heap.size≠(Z t xs.length h).ownBlock:=fun e=>by have:=(aa.o.lt e.symm).1;omega
   have df:So (w.heap.size+1)≠(Z t xs.length h).ownBlock:=fun e=>by have:=(aa.o.lt e.symm).1;omega
   have N:=aa.b.grown aq de;have bm:=co.grown aq df;have bv:=cp.f aq (fun k ar=>by have:=(aa.o.lt ar).1;omega);obtain⟨x,z,y,rfl⟩:=av.f;have eb:=N.cell 1;have ec:=N.frozen 1;have bk:=N.f 1 (Z x z y);have ca:=av.ne N (by decide);have bq:L7 (dm.setCell ⟨w,1,J⟩ (Z x z y)) w (w+2) m (Z x z y) (V8 xs i (s,a)):=⟨bk,av.kept (x4 _ w 1 (Z x z y)) (.inr ca)⟩;have ab:=bm.far (p:=⟨w,1,J⟩) (by simp) (Z x z y);have cx:=bv.set (p:=⟨w,1,J⟩) (a7 _) (Z x z y);clear bk ca N bm bv;have T:=(bq).b;obtain⟨cb,cc⟩:=T.c2;obtain⟨cd,ce⟩:=(ab).c2;have cf:=(ab).frozen 0;have cg:=(ab).frozen 1;have H:=L7.put (m:=m) ab (bq).o;have L:=((cx).set (p:=⟨w+1,0,J⟩) (by show w≤w.heap.size+1;omega) (I U8 m)).set (p:=⟨w+1,1,J⟩) (by show w≤w.heap.size+1;omega) (Z x z y);obtain⟨u,D⟩:=i6 H L;clear H L T;go_wp2_with fail
   exact Bp (g0 rfl _ _ _ _ _ _ rfl u.b underlying36 rfl (by kernel_rfl)) rfl ⟨_,rfl,by rw[G.out];exact u.o.mono (by omega),D.out⟩
  ·have G:=a6 (show R=xs.set i (s,a)from o)
   have au:=ap rfl;clear o ap;obtain⟨g,cs,Jq,rfl,-,cy,-,-,da,-,-⟩:=n.o.blk (by omega);go_wp2_with fail
   apply(F _ (a9.refl _)).mono;rintro e ai⟨rfl,q⟩;obtain⟨dh,di⟩:=(n.h q).b.c2;have S:=q.alloc (U #[Y s,I V a] 144);have b4:=b9.new ai 144 #[Y s,I V a];obtain⟨aj,d⟩:=i6 b4 S;clear b4 S;have dg:=((n.h d.out).b).cell 1;go_wp2_with fail
   apply(bd _ d.out).mono;rintro e r⟨rfl,l⟩;have j:=n.h (d.trans l);have dj:=j.b.cell 1;obtain⟨dk,dl⟩:=(aj.h l).c2;obtain⟨dn,P,bh,ct,-,-,bb,cz,-,aw,bx⟩:=j.o.blk (by omega);cases ct;have ax:P.size=h*2:=aw;have bc:b9 r g 144 P.toList.toArray:=by rw[Array.toArray_toList];exact bb
   have J7:=row_set (E:=p5) xs i (s,a) bh au;have db:So w.heap.size≠So g:=by simp;omega
   have dc:So (w.heap.size+1)≠So g:=by simp;omega
   have ck:=a6 (fun A(an:b9 A g 144 (splice P.toList (i*2) [Y s,I V a]).toArray)(Q:r.grownBy A (So g))=>
    show L7 A w (w+2) m (Z (So ⟨g,0,J⟩) xs.length h) (xs.set i (s,a))∧b9 A (w+1) 36 #[I U8 0,Z J 0 0]∧a9 w A from
    ⟨⟨j.b.grown Q db,e4.mk2 (Jq:=bh) cy an (by simp) cz da (by rw[List.size_toArray,S1 _ _ _ (by simp[ax];omega)];exact aw) (by rw[bx];exact J7)⟩,(ak.h (d.trans l)).grown Q dc,(al.trans (d.trans l)).f Q (fun k ar=>by cases ar;omega)⟩)
   have cj:=a6 bc;have bw:i*2+(#[Y s,I V a]:Array Va).size≤P.toList.length:=by simp[ax];omega
   have bn:∀v∈(#[Y s,I V a]:Array Va).toList,v.oneCell'=Bt:=by simp[Value.oneCell']
   obtain⟨cm,ci⟩:=i6 bw bn;have dw:(i:Int)<xs.length:=by omega
   clear j bb bc aw bx ax J7 bw bn;go_wp2_with(refine y4 rfl 144 (Tm 31) (Tm 30) rfl g (i*2) 144 P.toList #[Y s,I V a] rfl rfl cj cm (by kernel_rfl) ci.out ?_;intro A an Q;obtain⟨ae,B,bu⟩:=ck A an Q;have cb:=ae.b.cell 0;have cc:=ae.b.cell 1;have cd:=B.cell 0;have ce:=B.cell 1;have cf:=B.frozen 0;have cg:=B.frozen 1;have u:=a6 (L7.put (m:=m) B ae.o);have D:=a6 ((bu.set (p:=⟨w+1,0,J⟩) (Nat.le_succ _) (I U8 m)).set (p:=⟨w+1,1,J⟩) (Nat.le_succ _) (Z (So ⟨g,0,J⟩) xs.length h));clear ae B bu)
   exact Bp (g0 rfl _ _ _ _ _ _ rfl u.b underlying36 rfl (by kernel_rfl)) rfl ⟨_,rfl,by rw[G.out];exact u.o.mono (by omega),D.out⟩
end
theorem qJ{d:Type}(p:d→Bool):∀(xs:List d)(i:Nat),(Z7 p xs i= -1∧xs.filter (fun x=> !p x)=xs)∨∃k,k<xs.length∧Z7 p xs i=((i+k:Nat):Int)∧(xs.take (k+1)).filter (fun x=> !p x)=xs.take k
 |[],i=> .inl ⟨rfl,rfl⟩
 |x::r,i=>by
  unfold Z7;cases a:p x
  ·rcases qJ p r (i+1)with⟨b,c⟩|⟨k,b,c,e⟩
   ·exact .inl ⟨by simpa using b,by simp[a,c]⟩
   ·exact .inr ⟨k+1,by simpa using b,by simp only[a4x,if_false];rw[c];congr 1;omega,by simp[a,e]⟩
  ·exact .inr ⟨0,by simp,by simp,by simp[a]⟩
theorem e4.i{d:Type}{E:p6 d}{w:Wd}{base n c:Nat}{e:Ti}{b:Option Ad}{xs:List d}(a:e4 w base e E (Z b n c) xs):h9 w b (E.row xs)∧xs.length=n:=by
 obtain⟨f,g,e,_,_,a⟩:=a.inM;injection e with e1 e2 e3
 subst e1;exact⟨a,e2.symm⟩
theorem FE{P:Pg}{w:Wd}{dT ty:Ti}(b:Ti)(h:P.underlying dT=So (.slice b))(z:Va)(i:∀w,(zeroValue b).run P w= .ok z w)(g a n c:Nat)(cur:Array Va)(t:Ti)(f:b9 w g t cur)(l:0<n)
  (j:a+n*z.cells.size≤cur.size) (e:∀v∈(Builtin.zeroCells z.cells n).toList,v.oneCell'=Bt):
  (Builtin.clear_ #[dT] ty #[Z (So ⟨g,a,J⟩) n c]).run P w= .ok (Tp #[]) (w.setRow g (splice cur.toList a (Builtin.zeroCells z.cells n).toList).toArray):=by
 have k:(Builtin.zeroCells z.cells n).toList.length=n*z.cells.size:=by simp[size_zeroCells]
 have d:=run_storeCells_at P g a t (Builtin.zeroCells z.cells n).toList 0 cur w f (by omega) e;simp only[a4z]at d;obtain⟨m,rfl⟩:∃m,n=m+1:=⟨n-1,by omega⟩;simp[Builtin.clear_,run_underlying h,i,d,splice]
theorem rW{P:Pg}{w:Wd}{c:Array Oper}{rest:List Oper}{b:Oper}{a:Act}{Q:Exit→Act→Wd→Prop}(g:b.guard=J)(x:Operand)(dT:Ti)
  (h:b.op= .call {callee:= .builtin .clear,args:= #[x],argTypes:= #[dT]}) {v:Va} (j:a.eval x=v) {d:Wd} (i:(Builtin.clear_ #[dT] b.type #[v]).run P w= .ok (Tp #[]) d) (e:Wp P c Q rest (a.put b.dst (Tp #[])) d):Wp P c Q (b::rest) a w:=by
 refine wpList_plain g fun k f=> ?_
 unfold Oper.wp execOp;simp only[h,resolve,invoke,builtin,Sem.run_bind,Sem.run_pure,Result.andThen_ok,List.map_toArray,List.map_cons,List.map_nil,j,i];exact f _ _ e
theorem a2R(n:Nat):∀v∈(Builtin.zeroCells (Ag #[Y ⟨#[]⟩,I V 0]).cells n).toList,v.oneCell'=Bt:=fun v b=>by
 simp[Builtin.zeroCells,Value.cells]at b;obtain⟨i,_,rfl⟩:=b;have:i % 2=0∨i % 2=1:=by omega
 rcases this with a|a<;>simp[a,Value.oneCell']
theorem a4U(p:o8→Bool)(f:Nat)(lb:Array Va)(bz:∀args w,(callFunc f args).run prog w= .ok (.enter f args) w)(l:Option Ad)(n c base:Nat)(xs:List o8)(w:Wd)(ck:xs.length≤1000000)(G:e4 w base 144 p5 (Z l n c) xs)
  (ab:∀x∈xs,∀W,w.grownBy W (Z l n c).ownBlock→Ca prog f (#[Ag (p5.c x).toArray]++lb) W fun e ae=>e=X (O (p x))∧a9 W ae):
  Ca prog 365 #[Z l n c,Fc (.func f) #[] lb] w fun e ae=>∃bh,e=X (Z l bh c)∧e4 ae base 144 p5 (Z l bh c) (xs.filter fun x=> !p x)∧w.grownBy ae (Z l n c).ownBlock:=by
 obtain⟨ah,ba⟩:=G.i;have ag:=a6 (ixQ BM p5 (by decide) isAgg144 sizeOf144 p f lb bz l n c xs w (fun x o W ca=>ab x o W (h8 ca _)) ba (by omega) ah);obtain⟨R,T⟩:∃R,R=xs.filter fun x=> !p x:=⟨_,rfl⟩
 rw[←T];obtain⟨an,am,br⟩:=p7 T G ab;have cc:=qJ p xs 0;generalize Z7 p xs 0=cr at*;rcases cc with⟨rfl,D⟩|⟨k,cp,rfl,D⟩
 ·have af:=a6 D
  clear ah G ab D T;go_in;go_wp2_with fail
  apply ag.mono;rintro e ch⟨rfl,o⟩;go_wp2_with fail
  go_ret;exact⟨n,rfl,by rw[an.out,af.out];exact am.h o,h8 o _⟩
 ·subst ba
  obtain⟨g,cs,Jq,rfl,-,av,-,-,-,-,-⟩:=G.blk (by omega);have af:=a6 D;rw[a4E]at ag;have ct:((k:Int)== -1)=Bf:=by first|(simp;done)|(simp;omega)
  clear ah G ab D T;go_in;go_wp2_with fail
  apply ag.mono;rintro e ch⟨rfl,o⟩;go_wp2_with fail
  go_loopw [5,6] (fun cg al wr=>∃(i j:Nat)(ys:List o8),cg=I M i∧al=I M j∧i<j∧j≤xs.length∧ys.length=xs.length∧ys.take i=(xs.take j).filter (fun x=> !p x)∧ys.drop j=xs.drop j∧e4 wr base 144 p5 (Z (So ⟨g,0,J⟩) xs.length c) ys∧w.grownBy wr (So g)) (fun _ al _=>xs.length-(intOf al).toNat)
  case atStart=>exact⟨k,k+1,xs,rfl,by go_num,by omega,by omega,rfl,af.symm,rfl,am.h o,h8 o _⟩
  case round=>
   obtain⟨i,j,ys,rfl,rfl,cn,co,ad,A,H,y,u⟩:=hrel;have C:=y.i.1;obtain⟨cj,d,Q,bw,-,-,q,cb,aw,z,F⟩:=y.blk (by omega);cases bw;have m:d.size=c*2:=z;by_cases aj:j<xs.length
   ·have ai:j<ys.length:=by omega
    have ce:ys[j]=xs[j]:=by
     have t:=List.drop_eq_getElem_cons ai;have bx:=List.drop_eq_getElem_cons aj;rw[H,bx]at t;exact(List.cons.inj t).1.symm
    have aq:=C.b ai (r:=0) rfl;have ar:=C.b ai (r:=1) rfl;have bc:(xs.take (j+1)).filter (fun x=> !p x)=ys.take i++(if p xs[j]then []else [xs[j]]):=by
     rw[a4a aj,List.filter_append,A];cases cd:p xs[j]<;>simp[cd]
    rw[ce]at aq ar;have ak:=br xs[j] (a30 aj) (wr.alloc (U (p5.c xs[j]).toArray 144)) (u.trans (h8 ((a9.refl wr).alloc _) _));generalize xs[j]=x at*;obtain⟨s,a⟩:=x;simp only[p5,a4E,a4z]at aq ar
    change Ca prog f (#[Ag #[Y s,I V a]]++lb) (wr.alloc (U #[Y s,I V a] 144)) _ at ak
    obtain⟨L,bk,N⟩:=p7 ak (b9.new wr 144 #[Y s,I V a]) bc;have bg:ys.drop (j+1)=xs.drop (j+1):=by have:=congrArg (List.drop 1) H;simpa[List.drop_drop]using this
    have ap:=a6 bg;clear ak bc bg;cases ac:p (s,a)
    ·rw[ac]at L N
     have bp:=a6 (fun h B(b:a9 (wr.alloc (U #[Y s,I V a] 144)) h)(S:b9 B g 144 (splice d.toList (i*2) [Y s,I V a]).toArray)(aa:h.grownBy B (So g))=>
      show e4 B base 144 p5 (Z (So ⟨g,0,J⟩) xs.length c) (ys.set i (s,a))∧w.grownBy B (So g)from
      ⟨e4.mk2 (Jq:=Q) av S (by simp[ad]) cb aw (by rw[List.size_toArray,S1 _ _ _ (by simp[m];omega)];exact z) (by rw[F];exact row_set (E:=p5) ys i (s,a) Q (by omega)),(u.trans (h8 (((a9.refl wr).alloc _).trans b) _)).trans aa⟩)
     have ay:i*2+(#[Y s,I V a]:Array Va).size≤d.toList.length:=by simp[m];omega
     have au:∀v∈(#[Y s,I V a]:Array Va).toList,v.oneCell'=Bt:=by simp[Value.oneCell']
     obtain⟨bm,bi,bj⟩:=p7 ay au (fun h(b:a9 (wr.alloc (U #[Y s,I V a] 144)) h)=>show b9 h g 144 d.toList.toArray by rw[Array.toArray_toList];exact q.h (((a9.refl wr).alloc _).trans b));have be:(ys.set i (s,a)).take (i+1)=(xs.take (j+1)).filter (fun x=> !p x):=by
      rw[N.out,a4a (by simp;omega),List.take_set_of_le (a7 _),List.getElem_set_self];rfl
     have bf:(ys.set i (s,a)).drop (j+1)=xs.drop (j+1):=by rw[List.drop_set_of_lt (by omega),ap.out]
     obtain⟨bt,bu⟩:=i6 be bf;have cf:(i:Int)<xs.length:=by omega
     clear y C q z F m ay au A H be bf ac;go_wp2_with fail
     apply L.mono;rintro e h⟨rfl,b⟩;obtain⟨cu,cv⟩:=(bk.h b).c2;go_wp2_with(refine y4 rfl 144 (Tm 33) (Tm 32) rfl g (i*2) 144 d.toList #[Y s,I V a] rfl rfl (bj _ b) bm (by kernel_rfl) bi.out ?_;intro B S aa;have ao:=a6 (bp h B b S aa);clear S aa)
     go_roundw
     case rel=>exact⟨i+1,j+1,ys.set i (s,a),by go_num,by go_num,by omega,by omega,by simp[ad],bt.out,bu.out,ao.1,ao.2⟩
     case measure=>simp[intOf];omega
    ·rw[ac]at L N
     obtain⟨bq,bo⟩:=i6 y u;clear y C q z F m A H ac u;go_wp2_with fail
     apply L.mono;rintro e h⟨rfl,b⟩;go_wp2_with fail
     go_roundw
     case rel=>exact⟨i,j+1,ys,rfl,by go_num,by omega,by omega,ad,by rw[N.out];simp,ap.out,bq.h (((a9.refl wr).alloc _).trans b),bo.trans (h8 (((a9.refl wr).alloc _).trans b) _)⟩
     case measure=>simp[intOf];omega
   ·obtain rfl:j=xs.length:=by omega
    rw[List.take_length]at A;have t:=R4 (p5.row (ys.take i)) (p5.row (ys.drop i)) Q (Builtin.zeroCells (Ag #[Y ⟨#[]⟩,I V 0]).cells (xs.length-i)).toList (by rw[p6.row_length,List.length_drop,ad];simp[Value.cells,size_zeroCells];rfl);have bd:(ys.take i).length=i:=by rw[a4C];omega
    rw[p6.row_take,←F,p6.row_length,bd]at t;have bb:=fun ty bv=>FE (P:=prog) (w:=wr) (dT:=34) (ty:=ty) 144 underlying34 (Ag #[Y ⟨#[]⟩,I V 0]) (fun w=>by kernel_rfl) g (i*2) (xs.length-i) bv d 144 q (by omega) (by simp[Value.cells,m];omega) (a2R _)
    have ax:e4 (wr.setRow g (splice d.toList (i*2) (Builtin.zeroCells (Ag #[Y ⟨#[]⟩,I V 0]).cells (xs.length-i)).toList).toArray) base 144 p5 (Z (So ⟨g,0,J⟩) i c) (xs.filter fun x=> !p x):=by
     rw[←A];refine e4.mk2 (Jq:=(Builtin.zeroCells (Ag #[Y ⟨#[]⟩,I V 0]).cells (xs.length-i)).toList++Q) av (setRow_heap _ _ _ _ _ (0,0) q) bd (by omega) aw ?_ ?_
     ·rw[List.size_toArray,S1 _ _ _ (by simp[Value.cells,size_zeroCells,m];omega)]
      exact z
     ·rw[←a4s];exact t
    have az:w.grownBy (wr.setRow g (splice d.toList (i*2) (Builtin.zeroCells (Ag #[Y ⟨#[]⟩,I V 0]).cells (xs.length-i)).toList).toArray) (So g):=u.trans (E1 wr g _);generalize wr.setRow g (splice d.toList (i*2) (Builtin.zeroCells (Ag #[Y ⟨#[]⟩,I V 0]).cells (xs.length-i)).toList).toArray=ci at*;obtain⟨bs,bl,bn⟩:=p7 bb ax az;have cm:¬c=i:=by omega
    have cf:(i:Int)≤xs.length:=by omega
    have cq:(i:Int)≤c:=by omega
    clear y C q z F m A H bb ax az t u;go_wp2_with(refine rW rfl (Tm 38) 34 rfl rfl (bs _ _) ?_)
    go_ret;exact⟨i,rfl,by rw[an.out];exact bl.out,bn.out⟩
def zD(m:Int)(xs:List o8)(s:ByteArray):List o8:=if bO m xs then xs.filter fun x=> !(x.1.toList==s.toList)else xs
theorem XL(m:Int)(bh:0≤m)(j:Option Ad)(c:Nat)(xs:List o8)(s:ByteArray)(w:Wd)(bw:xs.length≤100000)(aq:h9 w j (p5.row xs))(ao:∀a,j=So a→a.spot=J):
  Ca prog 313 #[Ag #[I U8 m,Z j xs.length c],Y s] w fun e ba=>∃v,e=X (Ag #[I U8 m,v])∧e4 ba w 144 p5 v (zD m xs s)∧a9 w ba:=by
 obtain⟨g,l⟩:∃g,g=((w.alloc (U #[I U8 m,Z j xs.length c] 36)).alloc (U #[Y s] 9)).alloc (U #[I U8 0,Z J 0 0] 36):=⟨_,rfl⟩;have aa:a9 w g:=by rw[l];exact(((a9.refl w).alloc _).alloc _).alloc _
 have ai:b9 g w 36 #[I U8 m,Z j xs.length c]:=by rw[l];exact((b9.new w _ _).alloc _).alloc _
 have am:b9 g (w+1) 9 #[Y s]:=by rw[l];exact(b9.b (by simp)).alloc _
 have ak:b9 g (w+2) 36 #[I U8 0,Z J 0 0]:=by rw[l];exact b9.b (by simp)
 have ab:g=w.heap.size+3:=by rw[l];simp
 have N:=a6 (gU m j c xs g (by omega) (aq.h aa) ao);have key:∀b v,e4 b (w+3) 144 p5 v xs→a9 g b→
   L7 ((b.setCell ⟨w,0,J⟩ (I U8 m)).setCell ⟨w,1,J⟩ v) w (w+3) m v xs∧b9 ((b.setCell ⟨w,0,J⟩ (I U8 m)).setCell ⟨w,1,J⟩ v) (w+2) 36 #[I U8 0,Z J 0 0]∧a9 w ((b.setCell ⟨w,0,J⟩ (I U8 m)).setCell ⟨w,1,J⟩ v)∧b9 b w 36 #[I U8 m,Z j xs.length c]∧b9 ((b.setCell ⟨w,0,J⟩ (I U8 m)).setCell ⟨w,1,J⟩ v) (w+1) 9 #[Y s]:=fun b v u L=>by
  have aj:=ai.h L;exact⟨L7.put aj u,((ak.h L).far (by simp) _).far (by simp) _,((aa.trans L).set (p:=⟨w,0,J⟩) (a7 _) _).set (p:=⟨w,1,J⟩) (a7 _) _,aj,((am.h L).far (by simp) _).far (by simp) _⟩
 have ac:=a6 key;obtain⟨R,G⟩:∃R,R=zD m xs s:=⟨_,rfl⟩;rw[←G];unfold zD at G;obtain⟨ah,af⟩:=i6 ab G;rw[ab]at N;have bf:=a6 l;clear aq aa ai ak am ab key ao G;subst l;go_in;go_wp2_with fail
 apply N.mono;rintro e b⟨v,rfl,u,ay⟩;obtain⟨E,ar,av,D,au⟩:=ac b v u ay;have bx:w+3≤b.heap.size:=by rw[←ah.out];exact ay.size
 clear bf ah N;obtain⟨d,f,rfl⟩:=u.b;obtain⟨bz,ca⟩:=D.c2;have bu:=D.frozen 0;have bv:=D.frozen 1;obtain⟨cb,cc⟩:=E.b.c2;obtain⟨ad,ae,ag,be,B⟩:=gP E ar av au (fun W(S:a9 ((b.setCell ⟨w,0,J⟩ (I U8 m)).setCell ⟨w,1,J⟩ (Z d xs.length f)) W)=>jC m bh d xs.length f xs W rfl (by omega) (E.o.h S).i.1);clear u E ar av D ac au;have n:=af.out;clear af;rcases H:bO m xs with _|_
 ·rw[H]at n B
  have Q:=a6 (show R=xs from n);clear n H;go_wp2_with fail
  apply(B _ (a9.refl _)).mono;rintro e bb⟨rfl,i⟩;have h:=ad.h i;have F:=ae.h i;have bi:=ag.trans i;have y:=(h).b;obtain⟨bo,bp⟩:=y.c2;obtain⟨bq,br⟩:=(F).c2;have bs:=(F).frozen 0;have bt:=(F).frozen 1;have q:=L7.put (m:=m) F (h).o;have r:=((bi).set (p:=⟨w+2,0,J⟩) (by show w≤w.heap.size+2;omega) (I U8 m)).set (p:=⟨w+2,1,J⟩) (by show w≤w.heap.size+2;omega) (Z d xs.length f);obtain⟨o,P⟩:=i6 q r;clear q r y;go_wp2_with fail
  exact Bp (g0 rfl _ _ _ _ _ _ rfl o.b underlying36 rfl (by kernel_rfl)) rfl ⟨_,rfl,by rw[Q.out];exact o.o.mono (by omega),P.out⟩
 ·rw[H]at n B
  have Q:=a6 (show R=xs.filter fun x=> !(x.1.toList==s.toList)from n);clear n H;go_wp2_with fail
  apply(B _ (a9.refl _)).mono;rintro e bb⟨rfl,i⟩;have h:=ad.h i;have cd:=h.b.cell 1;have an:=be.h i;obtain⟨bc,A,bd,bg⟩:=J5 (a4U (fun x=>x.1.toList==s.toList) 366 #[K (w+1:Nat)] (Eo func366 (by decide) rfl) d xs.length f (w+3) xs bb (by omega) h.o (fun x _ W S=>PJ x s (w+1) W ((an.grown S (fun e=>by have:=(h.o.lt e.symm).1;omega)).cell 0))) h (ae.h i) (ag.trans i);clear h an;go_wp2_with fail
  apply bc.mono;rintro e bn⟨z,rfl,ax,T⟩;have bl:So w.heap.size≠(Z d xs.length f).ownBlock:=fun e=>by have:=(A.o.lt e.symm).1;omega
  have bm:So (w.heap.size+2)≠(Z d xs.length f).ownBlock:=fun e=>by have:=(A.o.lt e.symm).1;omega
  have t:=A.b.grown T bl;have al:=bd.grown T bm;have aw:=bg.f T (fun k bk=>by have:=(A.o.lt bk).1;omega);have ce:=t.cell 1;have cf:=t.frozen 1;have az:=ax.ne t (by decide);have ap:L7 (bn.setCell ⟨w,1,J⟩ (Z d z f)) w (w+3) m (Z d z f) (xs.filter fun x=> !(x.1.toList==s.toList)):=⟨t.f 1 _,ax.kept (x4 _ w 1 _) (.inr az)⟩;have C:=al.far (p:=⟨w,1,J⟩) (by simp) (Z d z f);have bj:=aw.set (p:=⟨w,1,J⟩) (a7 _) (Z d z f);clear az t al aw;have y:=(ap).b;obtain⟨bo,bp⟩:=y.c2;obtain⟨bq,br⟩:=(C).c2;have bs:=(C).frozen 0;have bt:=(C).frozen 1;have q:=L7.put (m:=m) C (ap).o;have r:=((bj).set (p:=⟨w+2,0,J⟩) (by show w≤w.heap.size+2;omega) (I U8 m)).set (p:=⟨w+2,1,J⟩) (by show w≤w.heap.size+2;omega) (Z d z f);obtain⟨o,P⟩:=i6 q r;clear q r y;go_wp2_with fail
  exact Bp (g0 rfl _ _ _ _ _ _ rfl o.b underlying36 rfl (by kernel_rfl)) rfl ⟨_,rfl,by rw[Q.out];exact o.o.mono (by omega),P.out⟩
end Go.Proofs.YtiomenjfmagknaaGreat
