/- A part of the proof of TopFront: lemmas on the walks of its calls. -/
import Derived.Test.YtcljlejgllkcjaaGreatM10
set_option maxHeartbeats 12000000
set_option linter.all false
set_option maxRecDepth 100000
namespace Go.Proofs.YtcljlejgllkcjaaGreat
open Go.RowKit Go.ChangeShapes Go.WideShapes Tryz
open Bool renaming and_eq_true→j3,true→Bt,false→Bf
open Ending renaming returned→X
open Go renaming World→Wd,Value→Va,Calls→Ca,callsIn_wide→Cw,TypeId→Ti,Program→Pg,callsIn_of_wp→Co,wpList→Wp
open Go.Proofs renaming enters_of→Eo
open IntKind renaming i64→M,u32→V,u64→U6,u8→U8
open List renaming getElem_mem→g3,take_succ_eq_append_getElem→g2,length_map→i1,length_cons→i4,length_take→m4,append_assoc→p6,length→D
open Nat renaming le_refl→a7,le_trans→b6,zero_le→c6,add_zero→j8
open Obj renaming cells→U
open Operand renaming tmp→Tm
open Option renaming none→J,some→So
open Value renaming int→I,slice→Z,string→Y,pointer→K,bool→O,func→Fc,tuple→Tp,agg→Ag
theorem qA{d:Type}(p:d->Bool):∀(xs:List d)(i:Nat),(Q0 p xs i= -1/\xs.filter (λx=> !p x)=xs)\/∃k,k<D xs/\Q0 p xs i=((i+k:Nat):Int)/\(xs.take (k+1)).filter (λx=> !p x)=xs.take k
 |[],i=> .inl ⟨rfl,rfl⟩
 |x::r,i=>by
  unfold Q0;cases a:p x;rcases qA p r (i+1)with⟨b,c⟩|⟨k,b,c,e⟩
  exact .inl ⟨by simpa using b,by simp[a,c]⟩;exact .inr ⟨k+1,by simpa using b,by simp only[Bool.false_eq_true,if_false];rw[c];congr 1;omega,by simp[a,e]⟩;exact .inr ⟨0,i3,i3,by simp[a]⟩
theorem c7.i{d:Type}{E:s7 d}{w:Wd}{base n c:Nat}{e:Ti}{b:p1}{xs:List d}(a:c7 w base e E (Z b n c) xs):i5 w b (E.row xs)/\D xs=n:=by
 obtain⟨f,g,e,_,_,a⟩:=a.inM;injection e with e1 e2 e3
 subst e1;exact⟨a,e2.symm⟩
theorem EE{P:Pg}{w:Wd}{dT ty:Ti}(a:Ti)(f:P.underlying dT=So (.slice a))(z:Va)(h:∀w,(zeroValue a).run P w= .ok z w)(g o n c:Nat)(cur:Array Va)(t:Ti)(e:e7 w g t cur)(k:0<n)
 (i:o+n*z.cells.size<=cur.size) (d:∀v∈(Builtin.zeroCells z.cells n).toList,v.oneCell'=Bt):
 (Builtin.clear_ #[dT] ty #[Z (So ⟨g,o,J⟩) n c]).run P w= .ok (Tp #[]) (w.setRow g (splice cur.toList o (Builtin.zeroCells z.cells n).toList).toArray):=by
 have j:D (Builtin.zeroCells z.cells n).toList=n*z.cells.size:=by simp[size_zeroCells]
 have b:=run_storeCells_at P g o t (Builtin.zeroCells z.cells n).toList 0 cur w e a8 d;simp only[j8]at b;obtain⟨m,rfl⟩:∃m,n=m+1:=⟨n-1,a8⟩;simp[Builtin.clear_,run_underlying f,h,b,splice]
theorem rS{P:Pg}{w:Wd}{b:Array Oper}{rest:List Oper}{o:Oper}{a:Act}{Q:Exit->Act->Wd->Prop}(f:o.guard=J)(x:Operand)(dT:Ti)
 (g:o.op= .call {callee:= .builtin .clear,args:= #[x],argTypes:= #[dT]}) {v:Va} (i:a.eval x=v) {c:Wd} (h:(Builtin.clear_ #[dT] o.type #[v]).run P w= .ok (Tp #[]) c) (d:Wp P b Q rest (a.put o.dst (Tp #[])) c):Wp P b Q (o::rest) a w:=by
 refine wpList_plain f λj e=> ?_
 unfold Oper.wp execOp;simp only[g,resolve,invoke,builtin,Sem.run_bind,Sem.run_pure,Result.andThen_ok,List.map_toArray,List.map_cons,List.map_nil,i,h];exact e _ _ d
theorem a2P(n:Nat):∀v∈(Builtin.zeroCells (Ag #[Y ⟨#[]⟩,I V 0]).cells n).toList,v.oneCell'=Bt:=λv b=>by simp[Builtin.zeroCells,Value.cells]at b;obtain⟨i,_,rfl⟩:=b;have:i % 2=0\/i % 2=1:=a8;rcases this with a|a<;>simp[a,Value.oneCell']
theorem a45(p:n0->Bool)(f:Nat)(lb:Array Va)(ca:∀args w,(callFunc f args).run prog w= .ok (.enter f args) w)(l:p1)(n c base:Nat)(xs:List n0)(w:Wd)(cm:D xs<=1000000)(H:c7 w base 94 a2J (Z l n c) xs)
 (ac:∀x∈xs,∀W,w.grownBy W (Z l n c).ownBlock->Ca prog f (#[Ag (a2J.c x).toArray]++lb) W λe af=>e=X (O (p x))/\a9 W af):
 Ca prog 421 #[Z l n c,Fc (.func f) #[] lb] w λe af=>∃bi,e=X (Z l bi c)/\c7 af base 94 a2J (Z l bi c) (xs.filter λx=> !p x)/\w.grownBy af (Z l n c).ownBlock:=by
 obtain⟨ai,bb⟩:=H.i;have ah:=a6 (hX BA a2J e6 isAgg94 sizeOf94 p f lb ca l n c xs w (λx o W cb=>ac x o W (j4 cb _)) bb a8 ai);obtain⟨R,aa⟩:∃R,R=xs.filter λx=> !p x:=⟨_,rfl⟩
 rw[<-aa];obtain⟨ao,an,bs⟩:=r6 aa H ac;have cd:=qA p xs 0;generalize Q0 p xs 0=ct at*;rcases cd with⟨rfl,F⟩|⟨k,cq,rfl,F⟩
 ·have ag:=a6 F;clear ai H ac F aa;go_in;go_wp2_with fail;refine l4 ah λci o=>?_;go_wp2;go_ret;exact⟨n,rfl,by rw[ao.O,ag.O];exact an.h o,j4 o _⟩
 subst bb;obtain⟨g,cs,Jq,rfl,-,aw,-,-,-,-,-⟩:=H.blk a8;have ag:=a6 F;rw[Nat.zero_add]at ah;have cu:((k:Int)== -1)=Bf:=by first|(simp;done)|(simp;omega)
 clear ai H ac F aa;go_in;go_wp2_with fail;refine l4 ah λci o=>?_;go_wp2;go_loopw [5,6] (λch am wr=>∃(i j:Nat)(ys:List n0),ch=I M i/\am=I M j/\i<j/\j<=D xs/\D ys=D xs/\ys.take i=(xs.take j).filter (λx=> !p x)/\ys.drop j=xs.drop j/\c7 wr base 94 a2J (Z (So ⟨g,0,J⟩) (D xs) c) ys/\w.grownBy wr (So g)) (λ_ am _=>D xs-(intOf am).toNat);exact⟨k,k+1,xs,rfl,o3,a8,a8,rfl,ag.symm,rfl,an.h o,j4 o _⟩;obtain⟨i,j,ys,rfl,rfl,co,cp,ae,A,L,y,u⟩:=hrel;have C:=y.i.1;obtain⟨ck,d,S,bx,-,-,q,cc,ax,z,G⟩:=y.blk a8;cases bx;have m:d.size=c*2:=z;by_cases ak:j<D xs
 ·have aj:j<D ys:=a8;have cf:ys[j]=xs[j]:=by have t:=List.drop_eq_getElem_cons aj;have bz:=List.drop_eq_getElem_cons ak;rw[L,bz]at t;exact(List.cons.inj t).1.symm
  have ar:=C.l aj (r:=0) rfl;have au:=C.l aj (r:=1) rfl;have bd:(xs.take (j+1)).filter (λx=> !p x)=ys.take i++(if p xs[j]then []else [xs[j]]):=by rw[g2 ak,List.filter_append,A];cases ce:p xs[j]<;>simp[ce]
  rw[cf]at ar au;have al:=bs xs[j] (g3 ak) (wr.alloc (U (a2J.c xs[j]).toArray 94)) (u.trans (j4 ((a9.refl wr).alloc _) _));generalize xs[j]=x at*;obtain⟨s,a⟩:=x;simp only[a2J,Nat.zero_add,j8]at ar au;change Ca prog f (#[Ag #[Y s,I V a]]++lb) (wr.alloc (U #[Y s,I V a] 94)) _ at al;obtain⟨N,bl,Q⟩:=r6 al (e7.new wr 94 #[Y s,I V a]) bd;have bh:ys.drop (j+1)=xs.drop (j+1):=by have:=congrArg (List.drop 1) L;simpa[List.drop_drop]using this
  have aq:=a6 bh;clear al bd bh;cases ad:p (s,a)
  ·rw[ad]at N Q;have bq:=a6 (λh B(b:a9 (wr.alloc (U #[Y s,I V a] 94)) h)(T:e7 B g 94 (splice d.toList (i*2) [Y s,I V a]).toArray)(ab:h.grownBy B (So g))=>
    show c7 B base 94 a2J (Z (So ⟨g,0,J⟩) (D xs) c) (ys.set i (s,a))/\w.grownBy B (So g)from
    ⟨c7.mk2 (Jq:=S) aw T (by simp[ae]) cc ax (by rw[List.size_toArray,M4 _ _ _ (by simp[m];omega)];exact z) (by rw[G];exact row_set (E:=a2J) ys i (s,a) S a8),(u.trans (j4 (((a9.refl wr).alloc _).trans b) _)).trans ab⟩)
   have az:i*2+(#[Y s,I V a]:Array Va).size<=D d.toList:=by simp[m];omega
   have av:∀v∈(#[Y s,I V a]:Array Va).toList,v.oneCell'=Bt:=nA;obtain⟨bn,bj,bk⟩:=r6 az av (λh(b:a9 (wr.alloc (U #[Y s,I V a] 94)) h)=>show e7 h g 94 d.toList.toArray by rw[Array.toArray_toList];exact q.h (((a9.refl wr).alloc _).trans b));have bf:(ys.set i (s,a)).take (i+1)=(xs.take (j+1)).filter (λx=> !p x):=by rw[Q.O,g2 G6,List.take_set_of_le (a7 _),List.getElem_set_self];rfl
   have bg:(ys.set i (s,a)).drop (j+1)=xs.drop (j+1):=by rw[List.drop_set_of_lt a8,aq.O]
   obtain⟨bu,bv⟩:=j0 bf bg;have cg:(i:Int)<D xs:=a8;clear y C q z G m az av A L bf bg ad;go_wp2_with fail;refine l4 N λh b=>?_;obtain⟨cv,cw⟩:=(bl.h b).c2;go_wp2_with(refine D2 rfl 94 (Tm 33) (Tm 32) rfl g (i*2) 94 d.toList #[Y s,I V a] rfl rfl (bk _ b) bn g6 bj.O ?_;intro B T ab;have ap:=a6 (bq h B b T ab);clear T ab);go_roundw;exact⟨i+1,j+1,ys.set i (s,a),o3,o3,a8,a8,by simp[ae],bu.O,bv.O,ap.1,ap.2⟩;simp[intOf];omega
  rw[ad]at N Q;obtain⟨br,bp⟩:=j0 y u;clear y C q z G m A L ad u;go_wp2_with fail;refine l4 N λh b=>?_;go_wp2;go_roundw;exact⟨i,j+1,ys,rfl,o3,a8,a8,ae,by rw[Q.O];simp,aq.O,br.h (((a9.refl wr).alloc _).trans b),bp.trans (j4 (((a9.refl wr).alloc _).trans b) _)⟩;simp[intOf];omega
 obtain rfl:j=D xs:=a8;rw[List.take_length]at A;have t:=M5 (a2J.row (ys.take i)) (a2J.row (ys.drop i)) S (Builtin.zeroCells (Ag #[Y ⟨#[]⟩,I V 0]).cells (D xs-i)).toList (by rw[s7.row_length,List.length_drop,ae];simp[Value.cells,size_zeroCells];rfl);have be:D (ys.take i)=i:=by rw[m4];omega
 rw[s7.row_take,<-G,s7.row_length,be]at t;have bc:=λty bw=>EE (P:=prog) (w:=wr) (dT:=29) (ty:=ty) 94 underlying29 (Ag #[Y ⟨#[]⟩,I V 0]) (λw=>g6) g (i*2) (D xs-i) bw d 94 q a8 (by simp[Value.cells,m];omega) (a2P _)
 have ay:c7 (wr.setRow g (splice d.toList (i*2) (Builtin.zeroCells (Ag #[Y ⟨#[]⟩,I V 0]).cells (D xs-i)).toList).toArray) base 94 a2J (Z (So ⟨g,0,J⟩) i c) (xs.filter λx=> !p x):=by rw[<-A];refine c7.mk2 (Jq:=(Builtin.zeroCells (Ag #[Y ⟨#[]⟩,I V 0]).cells (D xs-i)).toList++S) aw (setRow_heap _ _ _ _ _ (0,0) q) be a8 ax ?_ ?_;rw[List.size_toArray,M4 _ _ _ (by simp[Value.cells,size_zeroCells,m];omega)];exact z;rw[<-p6];exact t
 have ba:w.grownBy (wr.setRow g (splice d.toList (i*2) (Builtin.zeroCells (Ag #[Y ⟨#[]⟩,I V 0]).cells (D xs-i)).toList).toArray) (So g):=u.trans (H0 wr g _);generalize wr.setRow g (splice d.toList (i*2) (Builtin.zeroCells (Ag #[Y ⟨#[]⟩,I V 0]).cells (D xs-i)).toList).toArray=cj at*;obtain⟨bt,bm,bo⟩:=r6 bc ay ba;have cn:¬c=i:=a8;have cg:(i:Int)<=D xs:=a8;have cr:(i:Int)<=c:=a8;clear y C q z G m A L bc ay ba t u;go_wp2_with(refine rS rfl (Tm 38) 29 rfl rfl (bt _ _) ?_);go_ret;exact⟨i,rfl,by rw[ao.O];exact bm.O,bo.O⟩
def oN(m:Int)(xs:List n0)(s:g4):List n0:=if A6 m xs then xs.filter λx=> !(x.1.toList==s.toList)else xs
theorem WZ(m:Int)(bi:0<=m)(j:p1)(c:Nat)(xs:List n0)(s:g4)(w:Wd)(bx:D xs<=100000)(ar:i5 w j (a2J.row xs))(ap:∀a,j=So a->a.spot=J):
 Ca prog 371 #[Ag #[I U8 m,Z j (D xs) c],Y s] w λe bb=>∃v,e=X (Ag #[I U8 m,v])/\c7 bb w 94 a2J v (oN m xs s)/\a9 w bb:=by
 obtain⟨g,l⟩:∃g,g=((w.alloc (U #[I U8 m,Z j (D xs) c] 31)).alloc (U #[Y s] 9)).alloc (U #[I U8 0,Z J 0 0] 31):=⟨_,rfl⟩;have ab:a9 w g:=by rw[l];exact(((a9.refl w).alloc _).alloc _).alloc _
 have aj:e7 g w 31 #[I U8 m,Z j (D xs) c]:=by rw[l];exact((e7.new w _ _).alloc _).alloc _
 have an:e7 g (w+1) 9 #[Y s]:=by rw[l];exact(e7.b i3).alloc _
 have al:e7 g (w+2) 31 #[I U8 0,Z J 0 0]:=by rw[l];exact e7.b i3
 have ac:g=w.heap.size+3:=by rw[l];simp
 have P:=a6 (gF m j c xs g a8 (ar.h ab) ap);have key:∀b v,c7 b (w+3) 94 a2J v xs->a9 g b->
   I3 ((b.setCell ⟨w,0,J⟩ (I U8 m)).setCell ⟨w,1,J⟩ v) w (w+3) m v xs/\e7 ((b.setCell ⟨w,0,J⟩ (I U8 m)).setCell ⟨w,1,J⟩ v) (w+2) 31 #[I U8 0,Z J 0 0]/\a9 w ((b.setCell ⟨w,0,J⟩ (I U8 m)).setCell ⟨w,1,J⟩ v)/\e7 b w 31 #[I U8 m,Z j (D xs) c]/\e7 ((b.setCell ⟨w,0,J⟩ (I U8 m)).setCell ⟨w,1,J⟩ v) (w+1) 9 #[Y s]:=λb v u N=>by
  have ak:=aj.h N
  exact⟨I3.put ak u,((al.h N).far i3 _).far i3 _,((ab.trans N).set (p:=⟨w,0,J⟩) (a7 _) _).set (p:=⟨w,1,J⟩) (a7 _) _,ak,((an.h N).far i3 _).far i3 _⟩
 have ad:=a6 key;obtain⟨R,H⟩:∃R,R=oN m xs s:=⟨_,rfl⟩;rw[<-H];unfold oN at H;obtain⟨ai,ag⟩:=j0 ac H;rw[ac]at P;have bg:=a6 l;clear ar ab aj al an ac key ap H;subst l;go_in;go_wp2_with fail;apply P.mono;rintro e b⟨v,rfl,u,az⟩;obtain⟨F,au,aw,E,av⟩:=ad b v u az;have bz:w+3<=b.heap.size:=by rw[<-ai.O];exact az.size
 clear bg ai P;obtain⟨d,f,rfl⟩:=u.b;obtain⟨ca,cb⟩:=E.c2;have bv:=E.frozen 0;have bw:=E.frozen 1;obtain⟨cc,cd⟩:=F.b.c2;obtain⟨ae,af,ah,bf,B⟩:=Y2 F au aw av (λW(T:a9 ((b.setCell ⟨w,0,J⟩ (I U8 m)).setCell ⟨w,1,J⟩ (Z d (D xs) f)) W)=>iM m bi d (D xs) f xs W rfl a8 (F.o.h T).i.1);clear u F au aw E ad av;have n:=ag.O;clear ag;rcases L:A6 m xs with _|_
 ·rw[L]at n B;have S:=a6 (show R=xs from n);clear n L;go_wp2_with fail;refine l4 (B _ (a9.refl _)) λbc i=>?_;have h:=ae.h i;have G:=af.h i;have bj:=ah.trans i;have y:=(h).b;obtain⟨bp,bq⟩:=y.c2;obtain⟨br,bs⟩:=(G).c2;have bt:=(G).frozen 0;have bu:=(G).frozen 1;have q:=I3.put (m:=m) G (h).o;have r:=((bj).set (p:=⟨w+2,0,J⟩) (by show w<=w.heap.size+2;omega) (I U8 m)).set (p:=⟨w+2,1,J⟩) (by show w<=w.heap.size+2;omega) (Z d (D xs) f);obtain⟨o,Q⟩:=j0 q r;clear q r y;go_wp2_with fail;exact F9 o.b underlying31 ⟨_,rfl,by rw[S.O];exact o.o.mono a8,Q.O⟩
 rw[L]at n B;have S:=a6 (show R=xs.filter λx=> !(x.1.toList==s.toList)from n);clear n L;go_wp2_with fail;refine l4 (B _ (a9.refl _)) λbc i=>?_;have h:=ae.h i;have ce:=h.b.cell 1;have ao:=bf.h i;obtain⟨bd,A,be,bh⟩:=F6 (a45 (λx=>x.1.toList==s.toList) 422 #[K (w+1:Nat)] (Eo func422 e6 rfl) d (D xs) f (w+3) xs bc a8 h.o (λx _ W T=>OQ x s (w+1) W ((ao.grown T (λe=>by have:=(h.o.lt e.symm).1;omega)).cell 0))) h (af.h i) (ah.trans i);clear h ao;go_wp2_with fail;apply bd.mono;rintro e bo⟨z,rfl,ay,aa⟩;have bm:So w.heap.size≠(Z d (D xs) f).ownBlock:=λe=>by have:=(A.o.lt e.symm).1;omega
 have bn:So (w.heap.size+2)≠(Z d (D xs) f).ownBlock:=λe=>by have:=(A.o.lt e.symm).1;omega
 have t:=A.b.grown aa bm;have am:=be.grown aa bn;have ax:=bh.f aa (λk bl=>by have:=(A.o.lt bl).1;omega);have cf:=t.cell 1;have cg:=t.frozen 1;have ba:=ay.ne t e6;have aq:I3 (bo.setCell ⟨w,1,J⟩ (Z d z f)) w (w+3) m (Z d z f) (xs.filter λx=> !(x.1.toList==s.toList)):=⟨t.f 1 _,ay.kept (c8 _ w 1 _) (.inr ba)⟩;have C:=am.far (p:=⟨w,1,J⟩) i3 (Z d z f);have bk:=ax.set (p:=⟨w,1,J⟩) (a7 _) (Z d z f);clear ba t am ax;have y:=(aq).b;obtain⟨bp,bq⟩:=y.c2;obtain⟨br,bs⟩:=(C).c2;have bt:=(C).frozen 0;have bu:=(C).frozen 1;have q:=I3.put (m:=m) C (aq).o;have r:=((bk).set (p:=⟨w+2,0,J⟩) (by show w<=w.heap.size+2;omega) (I U8 m)).set (p:=⟨w+2,1,J⟩) (by show w<=w.heap.size+2;omega) (Z d z f);obtain⟨o,Q⟩:=j0 q r;clear q r y;go_wp2_with fail;exact F9 o.b underlying31 ⟨_,rfl,by rw[S.O];exact o.o.mono a8,Q.O⟩
def j9(s:g4):g4:=s.extract 0 (min s.size 60)
theorem kN{w:Wd}{f r base:Nat}{s:g4}{d:Va}{h:List i6}(v:e7 w f 38 #[d])(y:e7 w r 9 #[Y s])(m:c7 w base 49 h9 d h)(g:base<=w)(ah:D h+1<=1000000)(e:Int):
 Ca prog 366 #[I M e,K f,K r] w λag z=>ag=X (Tp #[])/\∃v',e7 z f 38 #[v']/\c7 z base 49 h9 v' (h++[⟨⟨#[]⟩,0,e,j9 s⟩])/\MV (jI f d) w (jI f v') z:=by
 refine(Cw (n:=1)).1 ?_;obtain⟨ac,ad,B⟩:=r6 v y m;have C:∀a,GA 49 h9 d.ownBlock base d h [⟨⟨#[]⟩,0,e,j9 s⟩] w a->e7 a f 38 #[d]:=λa c=>ac.grown c.g (λe=>m.ne v e6 e.symm)
 have E:∀a,GA 49 h9 d.ownBlock base d h [⟨⟨#[]⟩,0,e,j9 s⟩] w a->e7 a r 9 #[Y s]:=λa c=>ad.grown c.g (λe=>m.ne y e6 e.symm)
 obtain⟨A,ab⟩:=j0 C E;have au:0<=min (s.size:Int) 60:=a8;have av:min (s.size:Int) 60<=s.size:=a8;have aw:(min (s.size:Int) 60).toNat=min s.size 60:=a8;clear C E v y m;refine Co func366 rfl trivial ?_ rfl;simp only[ntmps366,uE,Nat.reduceAdd,Nat.reduceSub];gi_wp2_with fail;refine cB (R:=(GA 49 h9 d.ownBlock base d h [⟨⟨#[]⟩,0,e,j9 s⟩])) ?_;iterate 8 (apply D7;focus (intro x a c;simp only[g0,g5,uV];(repeat intro af;try simp only[af]);have ap:=(A a c).cell 0;have az:=(ab a c).cell 0;gi_wp2_with fail;exact dn rfl rfl (L6.refl _)))
 refine r7 ((q8 #[Y ⟨#[]⟩,I M 0,I M e,Y (j9 s)])) ?_ ?_;·intro x a c;simp only[g0,g5,uV,q8,q7];intro j;simp only[j];gi_wp2_with fail;refine e8 ?_ rfl (GA.f ((a9.refl a).alloc _));exact⟨a,rfl,e7.new _ _ _,λe=>by have:=((c.old B.O).lt e).2;omega⟩
 refine r7 ((q7 w)) ?_ ?_;·intro x a c;simp only[g0,g5,uV,q8,q7];rintro i⟨S,l,T,aj⟩;simp only[i,l];gi_wp2_with(gi_at_builtin;refine a2F rfl _ _ 38 49 rfl P0 base d h rfl (c.old B.O) S 1 1 [⟨⟨#[]⟩,0,e,j9 s⟩] rfl rfl (i5.f T rfl) ah (b6 g c.g.size) ?_;intro ax ay ak al am an ao);refine e8 ?_ rfl (⟨al,λ_=>am,an⟩);exact⟨ak,ao.imp id (λq b g=>by have:=q b g;have:=c.g.size;omega)⟩
 intro x a c;simp only[n9,g0,g5,uV,q8,q7];rintro i F G H L N P j⟨S,l,T,aj⟩⟨p,W⟩;simp only[i,F,G,H,L,N,P,j,l];clear i F G H L N P j l;obtain⟨aa,ai,ae,Q⟩:=p.f;rw[Q]at p W;have o:=A a c;have aq:=o.cell 0;have ar:=o.frozen 0;simp only[Q];gi_wp2_with fail;go_end0;refine⟨rfl,_,o.f 0 _,p.kept (c8 _ f 0 _) (.inr (p.ne o e6)),(MV.l (Xa:=jI f d) (O1:=jI f (Z aa ai ae)) c.g (λk u=> .inr u) ?_).trans (.l (c8 _ f 0 _) (λk u=>by cases u;exact .inl rfl) λb g=> .inl g)⟩;intro b g;rcases g with rfl|g
 exact .inl (.inl rfl);rcases W with t|t
 exact .inl (.inr (by rw[<-t];exact g));exact .inr (t b g)
section
open Go.Lib
def L5(m:Int)(inn:Bool)(a:Int)(xs:List n0)(n:g4):List n0:=if inn then fU m xs n a else oN m xs n
def cX(e:Int)(w:g4):i6:=⟨⟨#[]⟩,0,e,j9 w⟩
def kJ(m:Int)(a:Bool):Bool:=if m=1 then !a else a
def cC(m:Int)(a b:Bool)(σ:List n0×List i6)(w:g4):List n0×List i6:=
 if(r3 w).2=0 then
  if(J2 (r3 w).1.name).2=0 then
   if(r3 w).1.has then
    if !b|| !a then((J2 (r3 w).1.name).1.foldl (L5 m (kJ m a) 0) σ.1,σ.2++[cX 161 w])
    else((J2 (r3 w).1.name).1.foldl (L5 m Bt (r3 w).1.act) σ.1,σ.2)
   else((J2 (r3 w).1.name).1.foldl (L5 m (kJ m a) (r3 w).1.act) σ.1,σ.2)
  else(σ.1,σ.2++[cX (J2 (r3 w).1.name).2 w])
 else(σ.1,σ.2++[cX (r3 w).2 w])
def I2(m:Int)(a:Bool):Int:=if m=0 then(if a then 2 else 1)else m
def B5(m:Int)(xs:List n0)(a:g4)(b:Bool):Int×List n0×List i6:=
 if A6 m xs then
  if(l3 a).length=0 then(0,[],[])
  else(I2 m (j6 a).2,(l3 (j6 a).1).foldl (cC (I2 m (j6 a).2) (j6 a).2 b) (xs,[]))
 else(m,xs,[])
theorem lA(s:g4):∀x∈l3 s,x.size<=s.size:=λx a=>by unfold l3 goFieldsP at a;obtain⟨b,_,rfl⟩:=List.mem_map.1 a;simp only[ByteArray.size_extract];omega
theorem Y6(p:Nat->Bool)(s:g4):∀(f c:Nat)(b:Option Nat)(a:List (Nat×Nat)),D (spansFromP p s f c b a).1<=D a+f
 |0,_,_,a=>a7 _
 |f+1,c,b,a=>by unfold spansFromP;split;split;cases b;exact b6 (Y6 p s f _ _ _) a8;exact b6 (Y6 p s f _ _ _) G6;cases b;exact b6 (Y6 p s f _ _ _) a8;exact b6 (Y6 p s f _ _ _) a8;exact Nat.le_add_right _ _
theorem x7(s:g4):D (l3 s)<=s.size+1:=by have a:=Y6 mX s s.size 0 J [];unfold l3 goFieldsP spansOfP;rw[i1];generalize spansFromP mX s s.size 0 J []=r at*;obtain⟨c,b⟩:=r;unfold closeSpans;simp only[List.length_nil]at a;cases b;simp;omega;simp;omega
theorem C1(s:g4):(j6 s).1.size<=s.size:=by show(Lib.trimPrefix s.data.toList sV.data.toList).length<=s.data.size;unfold Lib.trimPrefix;split;rw[List.length_drop,Array.length_toList];omega;rw[Array.length_toList];exact a7 _
theorem Z5{d:Type}[DecidableEq d]:∀(l k:List d),l.Nodup->(∀x∈l,x∈k)->D l<=D k
 |[],k,_,_=>c6 _
 |x::r,k,hn,hs=>by
  have a:=hs x List.mem_cons_self;have f:=Z5 r (k.erase x) (List.nodup_cons.1 hn).2 λc b=>(List.mem_erase_of_ne (λe:c=x=>(List.nodup_cons.1 hn).1 (by rw[<-e];exact b))).2 (hs c (List.mem_cons_of_mem _ b))
  have:=List.length_erase_of_mem a;have:=List.length_pos_of_mem a;simp only[i4];omega
def VY:List (List UInt8):=H8.map (·.1.toList)
theorem FQ{s:g4}(a:w7 s=Bt):s.toList∈VY:=by
 unfold w7 X7 at a;cases b:H8.find? (λc=>c.1.toList==s.toList)with
 |none=>rw[b]at a;cases a
 |some c=>
  have d:=List.mem_of_find?_eq_some b
  have e:=List.find?_some b
  rw[<-eq_of_beq e]
  exact List.mem_map_of_mem d
theorem K8:∀(xs:List n0)(p:Option g4),MS p xs=Bt->(xs.map (·.1.toList)).Pairwise (·<·)/\(∀x∈xs,w7 x.1=Bt/\x2 x.2=Bt)/\∀q,p=So q->∀x∈xs,q.toList<x.1.toList
 |[],p,_=>⟨List.Pairwise.nil,λx b=>(by cases b),λq _ x b=>(by cases b)⟩
 |x::r,p,b=>by
  unfold MS at b;simp only[j3]at b;obtain⟨⟨⟨f,g⟩,h⟩,i⟩:=b;obtain⟨k,l,e⟩:=K8 r (So x.1) i;refine⟨?_,?_,?_⟩;rw[List.map_cons];refine List.pairwise_cons.2 ⟨λc a=> ?_,k⟩;obtain⟨z,j,rfl⟩:=List.mem_map.1 a;exact e x.1 rfl z j;intro c a;rcases List.mem_cons.1 a with rfl|a
  exact⟨f,g⟩;exact l c a;rintro q rfl c a;have d:q.toList<x.1.toList:=by have:Op.bytesLess q.toList x.1.toList=Bt:=h;rw[bytesLess_eq]at this;exact of_decide_eq_true this
  rcases List.mem_cons.1 a with rfl|a
  exact d;exact List.lt_trans d (e x.1 rfl c a)
theorem R2{m:Int}{xs:List n0}(h:A6 m xs=Bt):MS J xs=Bt:=by unfold A6 at h;split at h;cases h;split at h;cases h;exact h
theorem Z9{m:Int}{xs:List n0}(c:A6 m xs=Bt):D xs<=40:=by
 obtain⟨d,f,_⟩:=K8 xs J (R2 c);have g:(xs.map (·.1.toList)).Nodup:=List.Pairwise.imp (R:=(·<·)) (S:=(·≠·)) (λ{a b} c(e:a=b)=>by rw[e]at c;exact List.lt_irrefl _ c) d;have:=Z5 (xs.map (·.1.toList)) VY g λj i=>by obtain⟨x,h,rfl⟩:=List.mem_map.1 i;exact FQ (f x h).1
 rw[i1]at this;exact this
theorem BE{a:Type}(xs:List a)(i:Nat)(x:a):D (P4 xs i x)=D xs+1:=by unfold P4;simp[m4,List.length_drop];omega
theorem TK(m:Int)(xs:List n0)(s:g4)(a:Int):D (fU m xs s a)<=max (D xs) 41:=by unfold fU;split;rename_i h;have:=Z9 h;split;simp;omega;rw[BE];omega;omega
theorem YQ(m:Int)(inn:Bool)(a:Int)(xs:List n0)(n:g4):D (L5 m inn a xs n)<=max (D xs) 41:=by unfold L5;split;exact TK m xs n a;unfold oN;split;exact b6 (List.length_filter_le _ _) a8;omega
theorem kX(m:Int)(inn:Bool)(a:Int):∀(l:C2)(xs:List n0),D (l.foldl (L5 m inn a) xs)<=max (D xs) 41
 |[],xs=>by simp;omega
 |n::r,xs=>by have b:=YQ m inn a xs n;have c:=kX m inn a r (L5 m inn a xs n);simp only[List.foldl_cons];omega
theorem RS(m:Int)(t s:Bool)(σ:List n0×List i6)(w:g4):D (cC m t s σ w).1<=max (D σ.1) 41/\D (cC m t s σ w).2<=D σ.2+1:=by
 have h:=λinn a=>kX m inn a (J2 (r3 w).1.name).1 σ.1
 unfold cC;split;split;split;split;exact⟨h _ _,i3⟩;exact⟨h _ _,i3⟩;exact⟨h _ _,i3⟩;exact⟨by show D σ.1<=_;omega,i3⟩;exact⟨by show D σ.1<=_;omega,i3⟩
theorem jL(m:Int)(t s:Bool):∀(l:C2)(σ:List n0×List i6),D (l.foldl (cC m t s) σ).1<=max (D σ.1) 41/\D (l.foldl (cC m t s) σ).2<=D σ.2+D l
 |[],σ=>⟨by simp;omega,a7 _⟩
 |w::r,σ=>by have a:=RS m t s σ w;have b:=jL m t s r (cC m t s σ w);simp only[List.foldl_cons,i4];omega
theorem CB(s:g4):D (D0 s).1<=1000:=by unfold D0;split;exact c6 _;split;exact c6 _;have b:=BD s;have a:=Lib.compact_length_le (mI (cT (M0 8 s)));show(iX _).length<=_;unfold iX;rw[nK];rw[O0,Y7]at a;omega
theorem tS(s:g4):D (J2 s).1<=1000:=by unfold J2;split;exact CB s;split<;>simp
end
section
def sT(S:List Ti):Obj->Bool
 |U _ t _=>S.contains t
 |_=>Bf
structure Tv(B:Nat)(S:List Ti)(w w':Wd):Prop where
 os:w'.os=w.os
 tape:w'.tape=w.tape
 output:w'.output=w.output
 size:w<=w'.heap.size
 keep:∀b o,w.heap[b]? =So o->b<B\/sT S o=Bf->w'.heap[b]? =So o
section
variable {B:Nat} {S:List Ti} {w w' w2 W:Wd}
theorem Tv.refl(B:Nat)(S:List Ti)(w:Wd):Tv B S w w:=⟨rfl,rfl,rfl,a7 _,λ_ _ h _=>h⟩
theorem Tv.trans(a:Tv B S w w')(k:Tv B S w' w2):Tv B S w w2:=⟨k.os.trans a.os,k.tape.trans a.tape,k.output.trans a.output,b6 a.size k.size,λb o d c=>k.keep b o (a.keep b o d c) c⟩
theorem Tv.f(x:a9 w w'):Tv B S w w':=⟨x.os,x.tape,x.output,x.size,λb o a _=>(x.block (Array.getElem?_eq_some_iff.1 a).1).trans a⟩
theorem Tv.h(h:Tv B S w w')(x:a9 w' w2):Tv B S w w2:=h.trans (.f x)
theorem Tv.b(a:Tv B S w w')(x:a9 W w)(f:W<=B):a9 W w':=
 ⟨a.os.trans x.os,a.tape.trans x.tape,a.output.trans x.output,b6 x.size a.size,λb c=>by
  have d:b<w.heap.size:=Nat.lt_of_lt_of_le c x.size;have e:w.heap[b]? =So w.heap[b]:=Array.getElem?_eq_getElem d;rw[a.keep b _ e (.inl a8),<-e];exact x.block c⟩
theorem Tv.blk{g:Nat}{t:Ti}{cs:Array Va}(a:Tv B S w w')(k:e7 w g t cs)(b:g<B\/S.contains t=Bf):e7 w' g t cs:=a.keep g _ k b
theorem Tv.own{b:Type}{base:Nat}{e:Ti}{E:s7 b}{v:Va}{xs:List b}(f:Tv B S w w')(k:c7 w base e E v xs)(i:S.contains e=Bf):c7 w' base e E v xs:=by
 obtain⟨d,c,j,h,a⟩:=k;refine⟨d,c,j,h,?_⟩;rcases a with a|⟨g,cap,cur,k1,k2,k3,k4⟩
 exact .inl a;exact .inr ⟨g,cap,cur,k1,k2,f.keep g _ k3 (.inr i),k4⟩
theorem Tv.l{row:Option Nat}(a:w.grownBy w' row)(h:∀k,row=So k->B<=k/\∃o,w.heap[k]? =So o/\sT S o=Bt):Tv B S w w':=
 ⟨a.os,a.tape,a.output,a.size,λb o d c=>by
  refine(a.block b (Array.getElem?_eq_some_iff.1 d).1 λe=> ?_).trans d;obtain⟨i,j,f,g⟩:=h b e.symm;rw[d]at f;cases f;rcases c with c|c
  ·omega
  ·rw[c]at g;cases g⟩
theorem Tv.r{g:Nat}{t:Ti}{cs:Array Va}(k:e7 w g t cs)(a:B<=g)(b:S.contains t=Bt)(i:Nat)(u:Va):Tv B S w (w.setCell ⟨g,i,J⟩ u):=
 .l (c8 _ _ _ u) λd c=>by cases c;exact⟨a,_,k,b⟩
theorem Tv.ofOwn{d:Type}{base:Nat}{e:Ti}{E:s7 d}{v:Va}{xs:List d}(k:c7 w base e E v xs)(i:w.grownBy w' v.ownBlock)(f:B<=base)(h:S.contains e=Bt):Tv B S w w':=
 .l i λj a=>⟨b6 f (k.lt a).1,by
  obtain⟨l,c,rfl,m,b⟩:=k;rcases b with⟨b,_⟩|⟨g,cap,cur,k1,k2,k3,k4⟩
  ·rw[b]at a;cases a
  ·rw[k1]at a;cases a;exact⟨_,k3,h⟩⟩
theorem Tv.ofBx{m:Type}{base bo:Nat}{e i:Ti}{E:s7 m}{v v':Va}{xs:List m}(l:e7 w bo i #[v])(k:c7 w base e E v xs)(f:MV (jI bo v) w (jI bo v') w')(s:B<=base)(t:B<=bo)(n:S.contains e=Bt)(p:S.contains i=Bt):Tv B S w w':=
 ⟨f.os,f.tape,f.output,f.size,λb o h a=>by
  refine(f.keep b (Array.getElem?_eq_some_iff.1 h).1 λd=> ?_).trans h;rcases d with rfl|d
  ·unfold e7 at l
   rw[h]at l;cases l;rcases a with a|a
   ·omega
   ·have:sT S (U #[v] i (0,0))=Bt:=p
    rw[a]at this;cases this
  ·have u:=(k.lt d).1
   obtain⟨q,c,rfl,r,j⟩:=k;rcases j with⟨j,_⟩|⟨g,cap,cur,k1,k2,k3,k4⟩
   ·rw[j]at d;cases d
   ·rw[k1]at d
    cases d;rw[k3]at h;cases h;rcases a with a|a
    ·omega
    ·have:sT S (U cur e (0,0))=Bt:=n
     rw[a]at this;cases this⟩
end
end
section
def S3:List Ti:=[31,38,49]
structure SI(w0 w:Wd)(F N Xa B:Nat)(m:Int)(v vn:Va)(xs:List n0)(ns:List i6):Prop where
 l:I3 w F B m v xs
 n:e7 w N 31 #[I U8 0,Z J 0 0]
 k:e7 w Xa 38 #[vn]
 o:c7 w B 49 h9 vn ns
 t:Tv B S3 w0 w
 hF:B<=F
 hK:B<=Xa
 hN:F≠N
 hB:B<=w
section
variable {w0 w w':Wd} {F N Xa B:Nat} {m:Int} {v vn:Va} {xs:List n0} {ns:List i6}
theorem SI.h(h:SI w0 w F N Xa B m v vn xs ns)(x:a9 w w'):SI w0 w' F N Xa B m v vn xs ns:=⟨h.l.h x,h.n.h x,h.k.h x,h.o.h x,h.t.h x,h.hF,h.hK,h.hN,b6 h.hB x.size⟩
theorem SI.own(h:SI w0 w F N Xa B m v vn xs ns):SI w w F N Xa B m v vn xs ns:=⟨h.l,h.n,h.k,h.o,.refl _ _ _,h.hF,h.hK,h.hN,h.hB⟩
theorem SI.from(h:SI w0 w F N Xa B m v vn xs ns){W:Wd}(t:Tv B S3 W w0):SI W w F N Xa B m v vn xs ns:=⟨h.l,h.n,h.k,h.o,t.trans h.t,h.hF,h.hK,h.hN,h.hB⟩
theorem SI.note(a:SI w0 w F N Xa B m v vn xs ns){v':Va}{e:List i6}(f:e7 w' Xa 38 #[v'])(h:c7 w' B 49 h9 v' e)(b:MV (jI Xa vn) w (jI Xa v') w'):SI w0 w' F N Xa B m v v' xs e:=by
 have d:∀{g:Nat}{cs:Array Va},e7 w g 31 cs->e7 w' g 31 cs:=λk=>b.blk k λc=>by
  rcases c with rfl|c
  exact k.ne a.k e6 rfl;exact a.o.ne k e6 c
 have i:Tv B [38,49] w w':= .ofBx a.k a.o b (a7 _) a.hK e6 e6;exact⟨⟨d a.l.b,i.own a.l.o e6⟩,d a.n,f,h,a.t.trans (.ofBx a.k a.o b (a7 _) a.hK e6 e6),a.hF,a.hK,a.hN,b6 a.hB b.size⟩
theorem SI.put(a:SI w0 w F N Xa B m v vn xs ns){v':Va}{ys:List n0}(b:c7 w B 94 a2J v' ys):SI w0 ((w.setCell ⟨F,0,J⟩ (I U8 m)).setCell ⟨F,1,J⟩ v') F N Xa B m v' vn ys ns:=by
 have k0:Xa≠F:=λe=>by have:=a.k;rw[e]at this;exact this.ne a.l.b e6 rfl
 have b1:=a.l.b.f 0 (I U8 m);exact⟨I3.put a.l.b b,(a.n.far (p:=⟨F,0,J⟩) a.hN.symm _).far (p:=⟨F,1,J⟩) a.hN.symm _,(a.k.far (p:=⟨F,0,J⟩) k0 _).far (p:=⟨F,1,J⟩) k0 _,
  (a.o.kept (c8 _ F 0 _) (.inr (a.o.ne a.l.b e6))).kept (c8 _ F 1 _) (.inr (a.o.ne a.l.b e6)),
  (a.t.trans (.r a.l.b a.hF e6 0 _)).trans (.r b1 a.hF e6 1 _),a.hF,a.hK,a.hN,by simpa using a.hB⟩
theorem SI.far(a:SI w0 w F N Xa B m v vn xs ns){g:Nat}{t:Ti}{cs:Array Va}(k:e7 w g t cs)(c:t≠31)(f:t≠38)(h:t≠49)(j:t≠94)(q:w0<=g)(i:Nat)(u:Va):SI w0 (w.setCell ⟨g,i,J⟩ u) F N Xa B m v vn xs ns:=
 ⟨⟨a.l.b.far (p:=⟨g,i,J⟩) (λe=>by subst e;exact k.ne a.l.b c rfl) u,a.l.o.kept (c8 _ g i u) (.inr (a.l.o.ne k (Ne.symm j)))⟩,a.n.far (p:=⟨g,i,J⟩) (λe=>by subst e;exact k.ne a.n c rfl) u,a.k.far (p:=⟨g,i,J⟩) (λe=>by subst e;exact k.ne a.k f rfl) u,
  a.o.kept (c8 _ g i u) (.inr (a.o.ne k (Ne.symm h))),⟨a.t.os,a.t.tape,a.t.output,by simpa using a.t.size,λb o d l=>by
   have n:=(Array.getElem?_eq_some_iff.1 d).1;rw[(c8 w g i u).block b (Nat.lt_of_lt_of_le n a.t.size) (λe=>by cases e;omega)];exact a.t.keep b o d l⟩,a.hF,a.hK,a.hN,by simpa using a.hB⟩
end
theorem ixA(aa:Wd):(Instr.index 464 (Ag #[O Bt,O Bf,O Bf,O Bt]) (I U8 0)).run prog aa= .ok (Ag #[O Bt,O Bf]) aa:=g6
theorem ixB(aa:Wd):(Instr.index 464 (Ag #[O Bt,O Bf,O Bf,O Bt]) (I U8 1)).run prog aa= .ok (Ag #[O Bf,O Bt]) aa:=g6
theorem ixC(aa:Wd)(a b:Bool):(Instr.index 463 (Ag #[O a,O b]) (I M 0)).run prog aa= .ok (O a) aa:=g6
theorem ixD(aa:Wd)(a b:Bool):(Instr.index 463 (Ag #[O a,O b]) (I M 1)).run prog aa= .ok (O b) aa:=g6
theorem BL(m:Int)(fg:0<=m)(aq:p1)(c:Nat)(xs:List n0)(s:g4)(H:Bool)(w:Wd)(jn:s.size<=100000)(ji:D xs<=100000)(fk:i5 w aq (a2J.row xs))(fh:∀a,aq=So a->a.spot=J):
 Ca prog 284 #[Ag #[I U8 m,Z aq (D xs) c],Y s,O H] w λe w'=>∃v vn,e=X (Tp #[Ag #[I U8 (B5 m xs s H).1,v],vn])/\c7 w' w 94 a2J v (B5 m xs s H).2.1/\c7 w' w 49 h9 vn (B5 m xs s H).2.2/\a9 w w':=by
 obtain⟨ao,bo⟩:∃ao,ao=(w.alloc (U #[I U8 m,Z aq (D xs) c] 31)).alloc (U #[I U8 0,Z J 0 0] 31):=⟨_,rfl⟩;have dz:a9 w ao:=by rw[bo];exact((a9.refl w).alloc _).alloc _
 have ey:e7 ao w 31 #[I U8 m,Z aq (D xs) c]:=by rw[bo];exact(e7.new w _ _).alloc _
 have fa:e7 ao (w+1) 31 #[I U8 0,Z J 0 0]:=by rw[bo];exact e7.b i3
 have ea:ao=w.heap.size+2:=by rw[bo];simp
 have cu:=a6 (gF m aq c xs ao a8 (fk.h dz) fh);have key:∀Q v,c7 Q (w+2) 94 a2J v xs->a9 ao Q->
   I3 ((Q.setCell ⟨w,0,J⟩ (I U8 m)).setCell ⟨w,1,J⟩ v) w w m v xs/\e7 ((Q.setCell ⟨w,0,J⟩ (I U8 m)).setCell ⟨w,1,J⟩ v) (w+1) 31 #[I U8 0,Z J 0 0]/\a9 w ((Q.setCell ⟨w,0,J⟩ (I U8 m)).setCell ⟨w,1,J⟩ v)/\e7 Q w 31 #[I U8 m,Z aq (D xs) c]:=λQ v br dy=>by
  have ez:=ey.h dy
  have L:=I3.put (m:=m) ez br
  exact⟨⟨L.b,L.o.mono a8⟩,((fa.h dy).far i3 _).far i3 _,((dz.trans dy).set (p:=⟨w,0,J⟩) (a7 _) _).set (p:=⟨w,1,J⟩) (a7 _) _,ez⟩
 have ej:=a6 key;obtain⟨R,cg⟩:∃R,R=B5 m xs s H:=⟨_,rfl⟩;rw[<-cg];unfold B5 at cg;obtain⟨es,bn⟩:=j0 ea cg;rw[ea]at cu;clear fk dz ey fa ea key fh cg;subst bo;go_in;go_wp2_with fail;apply cu.mono;rintro e Q⟨v,rfl,br,fv⟩;obtain⟨cf,fl,bp,ce⟩:=ej Q v br fv;have jo:w+2<=Q.heap.size:=by rw[<-es.O];exact fv.size
 clear es cu;obtain⟨ax,bd,rfl⟩:=br.b;obtain⟨hz,t⟩:=ce.c2;have hn:=ce.frozen 0;have dl:=ce.frozen 1;obtain⟨ia,ib⟩:=cf.b.c2;obtain⟨bz,ca,cb,bl⟩:=F6 cf fl bp (λW(hr:a9 ((Q.setCell ⟨w,0,J⟩ (I U8 m)).setCell ⟨w,1,J⟩ (Z ax (D xs) bd)) W)=>iM m fg ax (D xs) bd xs W rfl a8 (cf.o.h hr).i.1);clear br cf fl bp ce ej;have z:=bn.O;clear bn;rcases be:A6 m xs with _|_
 ·rw[be]at z bl;have C:=a6 (show R=(m,xs,[])from z);clear z be;go_wp2_with fail;refine l4 (bl _ (a9.refl _)) λn o=>?_;have gd:=(bz.h o).b;obtain⟨cp,cq⟩:=gd.c2;have E:=ca.h o;obtain⟨ee,im⟩:=E.c2;have io:=E.frozen 0;have ip:=E.frozen 1;have am:=I3.put (m:=m) E (bz.h o).o;have an:=((cb.trans o).set (p:=⟨w+1,0,J⟩) (Nat.le_succ _) (I U8 m)).set (p:=⟨w+1,1,J⟩) (Nat.le_succ _) (Z ax (D xs) bd);obtain⟨ak,bk⟩:=j0 am an;clear am an gd E;go_wp2_with fail;exact s0 rfl ak.b underlying31 ⟨_,_,by rw[C.O],by rw[C.O];exact ak.o,by rw[C.O];exact c7.nil _ _ _ _,bk.O⟩
 have ht:=be;rw[be]at z bl;rw[if_pos rfl]at z;have ep:=a6 (S8 s a8);have jq:=x7 s;by_cases ck:D (l3 s)=0
 ·rw[if_pos ck]at z;obtain⟨C,hc⟩:=j0 z ck;clear z be;generalize l3 s=i at*;go_wp2_with fail;refine l4 (bl _ (a9.refl _)) λn o=>?_;go_wp2_with fail;apply(ep _).mono;rintro e ed⟨u,rfl,bs,bt⟩;obtain⟨gn,hf,rfl⟩:=bs.b;have E:=ca.h (o.trans bt);obtain⟨ee,im⟩:=E.c2;have io:=E.frozen 0;have ip:=E.frozen 1;have hx:((D i:Int)==0)=Bt:=by rw[hc.O];rfl
  have am:=I3.put (m:=0) E (c7.nil ed w 94 a2J);have an:=((cb.trans (o.trans bt)).set (p:=⟨w+1,0,J⟩) (Nat.le_succ _) (I U8 0)).set (p:=⟨w+1,1,J⟩) (Nat.le_succ _) (Z J 0 0);obtain⟨ak,bk⟩:=j0 am an;clear am an E bs;go_wp2_with fail;exact s0 rfl ak.b underlying31 ⟨_,_,by rw[C.O],by rw[C.O];exact ak.o,by rw[C.O];exact c7.nil _ _ _ _,bk.O⟩
 rw[if_neg ck]at z;have hx:((D (l3 s):Int)==0)=Bf:=beq_eq_false_iff_ne.2 a8;clear be;have eo:=a6 (jJ s);have hv:=C1 s;generalize j6 s=ij at*;obtain⟨rs,h⟩:=ij;dsimp only at z eo hv;have ha:=a6 (S8 rs a8);have jp:=x7 rs;have hw:=lA rs;generalize l3 rs=i at*;have fo:A6 m xs=Bt->I2 m h=1\/I2 m h=2:=λab=>by unfold A6 at ab;unfold I2;split at ab;cases ab;by_cases ac:m=0;rw[if_pos ac];cases h;exact .inl rfl;exact .inr rfl;rw[if_neg ac];omega
 have cw:=a6 (fo ht);clear fo ck;have bn:=a6 z;clear z;go_wp2_with fail;refine l4 (bl _ (a9.refl _)) λn o=>?_;go_wp2_with fail;apply(ep _).mono;rintro e ed⟨u,rfl,bs,bt⟩;obtain⟨gn,hf,rfl⟩:=bs.b;have fw:=o.trans bt;have de:=a6 fw;clear bs o bt fw;go_upto_if 37 with(go_at_call 290;refine l4 (eo _) λgh bg=>?_);go_cut [10] (λic ah=>ic=I M (if h then 1 else 0)/\a9 ed ah);·cases h;all_goals go_wp2;go_meet;exact⟨rfl,bg⟩
 obtain⟨rfl,cm⟩:=hcut;clear bg;have cc:=bz.h (de.trans cm);have et:=ca.h (de.trans cm);have ew:=cb.trans (de.trans cm);have cp:=cc.b.cell 0;have cq:=cc.b.frozen 0;obtain⟨az,ba,df⟩:=r6 cc et ew;clear cc et ew cm;obtain⟨gk,dw⟩:∃gk:Int,gk=if h then 1 else 0:=⟨_,rfl⟩
 have er:=a6 dw;rw[<-dw];clear dw;go_upto_if 40 with fail;go_cut [] (λah=>I3 ah w w (I2 m h) (Z ax (D xs) bd) xs/\e7 ah (w+1) 31 #[I U8 0,Z J 0 0]/\a9 w ah)
 ·by_cases ac:m=0;·subst ac;have bf:=er.O;cases h;all_goals simp only[Bool.false_eq_true,if_false,if_true]at bf;subst bf;go_wp2;go_meet;exact⟨⟨az.b.f 0 _,az.o.kept (c8 _ w 0 _) (.inr (az.o.ne az.b e6))⟩,ba.far (p:=⟨w,0,J⟩) i3 _,df.set (p:=⟨w,0,J⟩) (a7 _) _⟩
  have jf:(m==0)=Bf:=beq_eq_false_iff_ne.2 ac;have fq:I2 m h=m:=if_neg ac;have gu:=a6 fq;clear fq ac;go_wp2;go_meet;exact⟨by rw[gu.O];exact az.O,ba.O,df.O⟩
 obtain⟨dh,eu,ex⟩:=hcut;clear cp cq az ba df;generalize I2 m h=b at*;have cp:=dh.b.cell 0;obtain⟨el,bb,dg⟩:=r6 dh eu ex;clear dh eu ex;go_wp2_with fail;apply(ha _).mono;rintro e bj⟨ka,rfl,dt,bh⟩;obtain⟨iu,je,rfl⟩:=dt.b;have hb:=a6 dt;have fx:w<=wc.heap.size:=dg.size;have dp:SI bj bj w (w+1) wc w b (Z ax (D xs) bd) (Z J 0 0) xs []:=
  ⟨(el.h (((a9.refl wc).alloc _).trans bh)),bb.h (((a9.refl wc).alloc _).trans bh),(e7.new _ _ _).h bh,c7.nil _ _ _ _,.refl _ _ _,a7 _,fx,a8,b6 fx (((a9.refl wc).alloc _).trans bh).size⟩
 obtain⟨he,en⟩:=j0 (dg.trans (((a9.refl wc).alloc (U #[Z J 0 0] 38)).trans bh)) dp;generalize wc.heap.size=Xa at*;generalize(Z ax (D xs) bd:Va)=v0 at dp en;clear dt dp cp el bb dg bh bz ca cb ia ib hz t hn dl;obtain⟨σ,bu⟩:∃σ:Nat->List n0×List i6,σ=λk=>(i.take k).foldl (cC b h H) (xs,[]):=⟨_,rfl⟩
 have gc:∀k(dq:k<D i),σ (k+1)=cC b h H (σ k) i[k]:=λk dq=>by rw[bu];simp only;rw[g2 dq,List.foldl_append];rfl
 have ga:∀k,D (σ k).1<=100000/\D (σ k).2<=k:=λk=>by have ab:=jL b h H (i.take k) (xs,[]);rw[bu];simp only[m4,List.length_nil]at ab⊢;omega
 have fy:σ 0=(xs,[]):=by rw[bu];rfl
 have gb:R=(b,σ (D i)):=by rw[bn.O,bu];simp only[List.take_length]
 obtain⟨dd,db,da,dc⟩:=F6 gc ga fy gb;clear bu gc ga fy gb bn;go_wp2;go_loopg [48] (D i) (λdm ig wr=>∃(k:Nat)(v' il:Va),k<=D i/\D i-k<=dm/\ig=I M k/\SI bj wr w (w+1) Xa w b v' il (σ k).1 (σ k).2);exact⟨0,v0,_,c6 _,a8,rfl,by rw[da.O];exact en.O⟩;obtain⟨k,v,vn,dq,jk,rfl,f⟩:=hrel;by_cases dr:k<D i
 ·have dx:=f.t.own hb e6;obtain⟨hq,jd,iw,rfl,-,-,-,-,-,-,-⟩:=dx.blk a8;have ja:wr.cell? ⟨hq,k,J⟩=So (Y i[k]):=by have:=dx.i.1.elt0 dr (r:=0) rfl;rwa[show k*x4.k+0=k from Nat.mul_one k]at this
  have g:=dd k dr;unfold cC at g;have jr:=hw i[k] (g3 dr);have hu:=db k;generalize i[k]=ad at*;generalize σ k=gm at*;obtain⟨ae,bi⟩:=gm;dsimp only at g hu f;obtain⟨em,cx⟩:=j0 (ZV ad a8) (a4H (r3 ad).1.name);have fp:=tS (r3 ad).1.name;generalize r3 ad=r at*;obtain⟨⟨nm,au,bq⟩,dk⟩:=r;dsimp only[QE.val]at g em cx fp;generalize J2 nm=q at*;obtain⟨d,dj⟩:=q;dsimp only at g cx fp;obtain⟨eh,gr⟩:=j0 f (e7.new wr 9 #[Y ad]);have jx:(k:Int)<D i:=a8;clear dx f;go_wp2_with fail;refine l4 (em _) λn o=>?_;obtain⟨ay,cs,cv⟩:=r6 (eh.h ((((a9.refl wr).alloc (U #[Y ad] 9)).trans o).alloc (U #[Y nm,I V au,O bq] 458))) ((gr.h o).alloc (U #[Y nm,I V au,O bq] 458)) (e7.new n 458 #[Y nm,I V au,O bq]);by_cases ci:dk=0
  ·subst ci;rw[if_pos rfl]at g;have cq:=cv.cell 0;go_wp2_with fail;apply(cx _).mono;rintro e gh⟨kb,rfl,ds,bg⟩;obtain⟨ef,fb,rfl⟩:=ds.b;obtain⟨ai,ct,eg,ba⟩:=F6 (ay.h bg) (cs.h bg) (cv.h bg) ds;clear ay cs cv ds;by_cases ch:dj=0
   ·subst ch;rw[if_pos rfl]at g;have ee:=ai.l.b.cell 0;have ft:IntKind.u8.wrap (b-1)=b-1:=by rcases cw.O with rfl|rfl<;>rfl
    have gz:=a6 ft;have hs:bj<=n.heap.size:=b6 eh.t.size (((a9.refl wr).alloc (U #[Y ad] 9)).trans o).size;clear ft;go_wp2_with fail;refine gP ?_;repeat
     first
      |(apply D7;focus (intro x S ap;simp only[g0,o7,uV];(repeat intro cd;try simp only[cd]);have fg:=(ai.h ap).l.b.cell 0;have kd:=gz.O;go_wp2_with(go_at_call 369;refine l4 (a1w S) λgj aw=>?_);exact dn rfl rfl (by first|exact aw|exact a9.refl _)))
      |(refine r7 (.is (Ag #[O (kJ b Bf),O (kJ b Bt)])) ?_ ?_
        ·intro x S ap
         simp only[g0,o7,uV]
         intro fc fd
         simp only[fc,fd]
         (refine cw.elim (λab=> ?_) (λab=> ?_))<;>(have js:=ixA S;have jt:=ixB S;rw[ab];go_wp2_with fail;refine e8 ?_ rfl (a9.refl _);rfl))
      |(refine r7 (.is (O (kJ b h))) ?_ ?_
        ·intro x S ap
         simp only[g0,o7,uV]
         intro fe ff
         simp only[fe,ff]
         (refine(Bool.eq_false_or_eq_true h).elim (λfu=> ?_) (λfu=> ?_))<;>(have bf:=er.O;rw[fu]at bf⊢;simp only[Bool.false_eq_true,if_false,if_true]at bf;rw[bf];have ju:=ixC S (kJ b Bf) (kJ b Bt);have jv:=ixD S (kJ b Bf) (kJ b Bt);go_wp2_with fail;refine e8 ?_ rfl (a9.refl _);rfl))
    intro x S ap;simp only[n9,g0,o7,uV];repeat(intro cd;try simp only[cd];clear cd)
    obtain⟨af,gq,bx,bb⟩:=F6 (ai.h ap) (ct.h ap) (eg.h ap) (ba.h ap);clear ai ct eg ba;clear cq ee;obtain⟨ir,iq⟩:=bx.d2 2 1;go_upto_block 2 with fail;go_cut [18] (λie ah=>∃(inn:Bool)(co:Va)(T:Int)(cn:List i6),ie=O inn/\SI bj ah w (w+1) Xa w b v co ae cn/\e7 ah n 458 #[Y nm,I V T,O bq]/\c7 ah n 9 x4 (Z ef (D d) fb) d/\σ (k+1)=(d.foldl (L5 b inn T) ae,cn))
    ·rcases bq with _|_
     ·rw[if_neg e6]at g;have al:=a6 g;clear g;go_wp2;go_meet;exact⟨kJ b h,vn,au,bi,rfl,af.O,bx.O,bb.mono i3,al.O⟩
     rw[if_pos rfl]at g;have bc:=a6 (kN af.k gq af.o af.hB a8 161);have key:(!H|| !h)=Bt->∀y P,e7 y Xa 38 #[P]->c7 y w 49 h9 P (bi++[cX 161 ad])->MV (jI Xa vn) S (jI Xa P) y->e7 y n 458 #[Y nm,I V au,O Bt]/\
       SI bj (y.setCell ⟨n,1,J⟩ (I V 0)) w (w+1) Xa w b v P ae (bi++[cX 161 ad])/\e7 (y.setCell ⟨n,1,J⟩ (I V 0)) n 458 #[Y nm,I V 0,O Bt]/\c7 (y.setCell ⟨n,1,J⟩ (I V 0)) n 9 x4 (Z ef (D d) fb) d/\σ (k+1)=(d.foldl (L5 b (kJ b h) 0) ae,bi++[cX 161 ad]):=λdv y P t G A=>by
      have gg:Tv w S3 S y:= .ofBx af.k af.o A (a7 _) af.hK e6 e6
      have aa:=gg.blk bx (.inr e6)
      have gf:=(gg.own bb e6).mono (b2:=n) i3
      have ih:=af.note t G A
      exact⟨aa,ih.far aa e6 e6 e6 e6 hs 1 _,aa.f 1 _,gf.kept (c8 _ n 1 _) (.inr (gf.ne aa e6)),by rw[g,if_pos dv]⟩
     have ek:=a6 key;have fr:(!H|| !h)=Bf->σ (k+1)=(d.foldl (L5 b Bt au) ae,bi):=λdv=>by rw[g,if_neg (by rw[dv];decide)]
     have gx:=a6 fr;clear g key fr;clear dd db da dc;cases H;rotate_left
     ·cases h;rotate_left
      ·have bm:=a6 (gx rfl);go_wp2;go_meet;exact⟨Bt,vn,au,bi,rfl,af.O,bx.O,bb.mono i3,bm.O⟩
      have bm:=a6 (ek rfl);go_wp2_with fail;apply bc.mono;rintro e y⟨rfl,P,t,G,A⟩;obtain⟨aa,bv,eb,ec,bw⟩:=bm y P t G A;have dl:=aa.cell 1;have ho:=aa.frozen 1;obtain⟨ar,cy⟩:=j0 bv bw;clear bv bw t G A;go_wp2;go_meet;exact⟨_,P,0,_,rfl,ar.O,eb,ec,cy.O⟩
     have bm:=a6 (ek rfl);go_wp2_with fail;apply bc.mono;rintro e y⟨rfl,P,t,G,A⟩;obtain⟨aa,bv,eb,ec,bw⟩:=bm y P t G A;have dl:=aa.cell 1;have ho:=aa.frozen 1;obtain⟨ar,cy⟩:=j0 bv bw;clear bv bw t G A;go_wp2;go_meet;exact⟨_,P,0,_,rfl,ar.O,eb,ec,cy.O⟩
    obtain⟨inn,co,T,cn,rfl,fj,fi,fm,fs⟩:=hcut;clear iq ir g;obtain⟨ei,gs,gv,gy⟩:=F6 fj fi fm fs;have ac:0<=b:=by rcases cw.O with ab|ab<;>omega
    clear fj fi fm fs;go_wp2;go_loopg [97] (D d) (λdm ii DH=>∃(j:Nat)(v':Va),j<=D d/\D d-j<=dm/\ii=I M j/\SI wc DH w (w+1) Xa w b v' co ((d.take j).foldl (L5 b inn T) ae) cn);exact⟨0,v,c6 _,a8,rfl,ei.own⟩;obtain⟨j,v',jm,jl,rfl,l⟩:=hrel;by_cases fn:j<D d
    ·have cj:=l.t.own gv e6;obtain⟨hp,jc,iv,rfl,-,-,-,-,-,-,-⟩:=cj.blk a8;have fc:wr.cell? ⟨hp,j,J⟩=So (Y d[j]):=by have:=cj.i.1.elt0 fn (r:=0) rfl;rwa[show j*x4.k+0=j from Nat.mul_one j]at this
     have jj:=kX b inn T (d.take j) ae;have du:(d.take (j+1)).foldl (L5 b inn T) ae=L5 b inn T ((d.take j).foldl (L5 b inn T) ae) d[j]:=by rw[g2 fn,List.foldl_append];rfl
     generalize d[j]=gl at*;generalize(d.take j).foldl (L5 b inn T) ae=ys at*;have hh:=(l.t.blk gs (.inr e6)).cell 1;obtain⟨hi,fd⟩:=l.l.b.c2;have fe:=l.l.b.frozen 0;have ff:=l.l.b.frozen 1;obtain⟨cr,di,rfl⟩:=l.l.o.b;obtain⟨aj,al⟩:=j0 l du;have jw:(j:Int)<D d:=a8;cases inn;·have cz:=a6 (WZ b ac cr di ys gl wr a8 l.l.o.i.1 l.l.o.spot);clear cj l du;go_wp2_with fail;apply cz.mono;rintro e gj⟨ik,rfl,av,aw⟩;have ar:=a6 ((aj.h aw).put (av.mono aj.hB));have ag:=(aj.h aw).l.b;obtain⟨hj,hk⟩:=ag.c2;have hl:=ag.frozen 0;have hm:=ag.frozen 1;obtain⟨gp,hy,hg,rfl⟩:=av.f;clear av ag;go_wp2;go_roundg (D d-(j+1));exact⟨j+1,_,a8,a8,o3,by rw[al.O];exact ar.O⟩;omega
     have cz:=a6 (a1v b ac cr di ys gl T wr a8 l.l.o.i.1 l.l.o.spot);clear cj l du;go_wp2_with fail;apply cz.mono;rintro e gj⟨ik,rfl,av,aw⟩;have ar:=a6 ((aj.h aw).put (av.mono aj.hB));have ag:=(aj.h aw).l.b;obtain⟨hj,hk⟩:=ag.c2;have hl:=ag.frozen 0;have hm:=ag.frozen 1;obtain⟨gp,hy,hg,rfl⟩:=av.f;clear av ag;go_wp2;go_roundg (D d-(j+1));exact⟨j+1,_,a8,a8,o3,by rw[al.O];exact ar.O⟩;omega
    obtain rfl:j=D d:=a8;rw[List.take_length]at l;have aj:=a6 (l.from ei.t);clear l;go_wp2;go_roundg (D i-(k+1));exact⟨k+1,v',co,a8,a8,o3,by rw[gy.O];exact aj.O⟩;omega
   rw[if_neg ch]at g;have hi:(dj !=0)=Bt:=by simp[ch]
   obtain⟨al,bc⟩:=j0 g (kN ai.k ct ai.o ai.hB a8 dj);clear g ch;go_wp2_with fail;apply bc.mono;rintro e kc⟨rfl,v',t,G,A⟩;go_wp2;go_roundg (D i-(k+1));exact⟨k+1,v,v',a8,a8,o3,by rw[al.O];exact ai.note t G A⟩;omega
  rw[if_neg ci]at g;have hh:(dk !=0)=Bt:=by simp[ci]
  obtain⟨al,bc⟩:=j0 g (kN ay.k cs ay.o ay.hB a8 dk);clear g ci;go_wp2_with fail;apply bc.mono;rintro e gh⟨rfl,v',t,G,A⟩;go_wp2;go_roundg (D i-(k+1));exact⟨k+1,v,v',a8,a8,o3,by rw[al.O];exact ay.note t G A⟩;omega
 obtain rfl:k=D i:=a8;have fz:=dc.O;generalize σ (D i)=gm at*;have C:=a6 fz;obtain⟨ix,b1⟩:=f.l.b.c2;have b2:=f.k.cell 0;obtain⟨b3,b4⟩:=f.n.c2;have iy:=f.n.frozen 0;have iz:=f.n.frozen 1;have bp:=f.t.b he (a7 _);have jh:Xa≠w+1:=λe=>by have k:=f.k;rw[e]at k;exact k.ne f.n e6 rfl
 have jg:w≠w.heap.size+1:=a8;have am:=I3.put (m:=b) f.n f.l.o;have ev:=(f.o.kept (c8 _ (w+1) 0 (I U8 b)) (.inr (f.o.ne f.n e6))).kept (c8 _ (w+1) 1 v) (.inr (f.o.ne f.n e6));have an:=(bp.set (p:=⟨w+1,0,J⟩) (Nat.le_succ _) (I U8 b)).set (p:=⟨w+1,1,J⟩) (Nat.le_succ _) v;obtain⟨cr,jz,di,rfl⟩:=f.l.o.f;obtain⟨it,jy,jb,rfl⟩:=f.o.f;obtain⟨ak,gw,bk⟩:=r6 am ev an;clear am ev an bp f fz dc dd db da;go_wp2_with fail;go_region
 all_goals go_wp2_with fail;exact s0 rfl ak.b.drew underlying31 ⟨_,_,by rw[C.O],by rw[C.O];exact ak.o.h (a9.refl _).drew,by rw[C.O];exact gw.h (a9.refl _).drew,bk.drew⟩
end
def B6:s7 Int:=⟨1,λx=>[I M x],λ_=>rfl,nA⟩
def F4:s7 Int:=⟨1,λx=>[I V x],λ_=>rfl,nA⟩
theorem gB:kZ prog 28 3 (I M 0) 1 8:=⟨underlying28,g6,rfl,e6,e6⟩
theorem RB:kZ prog 33 32 (I V 0) 1 4:=⟨underlying33,g6,rfl,e6,e6⟩
structure j2 where
 ar:o5
 fm:Int
 fc:List n0
 dy:Int
 lm:Int
 lc:List n0
 fa:o5
 am:Int
 sp:Int
 we:Bool
 pe:Bool
 rt:Bool
 np:Bool
def i7(p:j2)(a b c d:Va):Array Va:= #[a,I U8 p.fm,b,I V p.dy,I U8 p.lm,c,d,I U8 p.am,I U6 p.sp,O p.we,O p.pe,O p.rt,O p.np]
def yH{d:Type}(w:Wd)(E:s7 d)(v:Va)(xs:List d):Prop:=∃b c,v=Z b (D xs) c/\i5 w b (E.row xs)/\∀a,b=So a->a.spot=J
theorem yH.h{b:Type}{w a:Wd}{E:s7 b}{v:Va}{xs:List b}(d:yH w E v xs)(x:a9 w a):yH a E v xs:=let⟨A,c,e,m,s⟩:=d;⟨A,c,e,m.h x,s⟩
theorem c7.rd{b:Type}{w:Wd}{base:Nat}{e:Ti}{E:s7 b}{v:Va}{xs:List b}(a:c7 w base e E v xs):yH w E v xs:=by obtain⟨d,c,rfl⟩:=a.b;exact⟨d,c,rfl,a.i.1,a.spot⟩
theorem c7.low{c:Type}{w:Wd}{base:Nat}{e:Ti}{E:s7 c}{v:Va}{xs:List c}(a:c7 w base e E v xs){b:Nat}(d:b<base)(i:Nat)(u:Va):c7 (w.setCell ⟨b,i,J⟩ u) base e E v xs:=
 a.kept (c8 _ b i u) (.inr λe=>by have:=(a.lt e).1;omega)
structure R7(w:Wd)(p:j2)(va vf vl vm:Va):Prop where
 a:yH w B6 va p.ar
 f:yH w a2J vf p.fc
 l:yH w a2J vl p.lc
 m:yH w F4 vm p.fa
structure m7(w:Wd)(base:Nat)(p:j2)(va vf vl vm:Va):Prop where
 a:c7 w base 3 B6 va p.ar
 f:c7 w base 94 a2J vf p.fc
 l:c7 w base 94 a2J vl p.lc
 m:c7 w base 32 F4 vm p.fa
structure j2.small(p:j2):Prop where
 a:D p.ar<=100000
 f:D p.fc<=100000
 l:D p.lc<=100000
 m:D p.fa<=100000
theorem m7.rd{w:Wd}{base:Nat}{p:j2}{b c d e:Va}(a:m7 w base p b c d e):R7 w p b c d e:=⟨a.a.rd,a.f.rd,a.l.rd,a.m.rd⟩
theorem m7.h{w f:Wd}{base:Nat}{p:j2}{b c d e:Va}(a:m7 w base p b c d e)(x:a9 w f):m7 f base p b c d e:=⟨a.a.h x,a.f.h x,a.l.h x,a.m.h x⟩
theorem R7.h{w f:Wd}{p:j2}{b c d e:Va}(a:R7 w p b c d e)(x:a9 w f):R7 f p b c d e:=⟨a.a.h x,a.f.h x,a.l.h x,a.m.h x⟩
theorem N3{P:Pg}{a:Go.Shelf.Ren}{f:Type}(L:SlLaysE0.n41 P a)(E:s7 f){z:Va}{b:Nat}(h:kZ P (a.t 22) (a.t 23) z E.k b)(l:∀w,(Go.sizeOf (a.t 23)).run P w= .ok E.k w){v:Va}{xs:List f}{w:Wd}(k:D xs<=1000000)(i:yH w E v xs):
 Ca P (a.f 41) #[v] w λe d=>∃v,e=X v/\c7 d w (a.t 23) E v xs/\a9 w d:=by
 obtain⟨g,c,rfl,j,m⟩:=i;exact clE L E h l g c xs w k j
end Go.Proofs.YtcljlejgllkcjaaGreat
