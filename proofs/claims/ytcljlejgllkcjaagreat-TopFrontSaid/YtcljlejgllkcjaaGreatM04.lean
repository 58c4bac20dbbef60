/- A part of the proof of TopFront: lemmas on the walks of its calls. -/
import Derived.Laws.EntriesVeiled
import Derived.Test.YtcljlejgllkcjaaGreatM03
set_option maxHeartbeats 12000000
set_option linter.all false
set_option maxRecDepth 100000
namespace Go.Proofs.YtcljlejgllkcjaaGreat
open Go.RowKit Go.ChangeShapes Go.WideShapes Tryz
open Bool renaming and_eq_true→j3,true→Bt,false→Bf
open Decidable renaming decide→Dc
open Ending renaming returned→X
open Go renaming World→Wd,Value→Va,Calls→Ca,callsIn_wide→Cw,undef→Un,TypeId→Ti,strOfNums→Sn,callsIn_of_wp_marks→Cm,callsIn_of_wp→Co,CallsIn→Ci
open Go.Proofs renaming enters_of→Eo
open IntKind renaming i64→M,u32→V,u16→U1,u8→U8
open IntWalk renaming i64_in→h7
open List renaming getD_eq_getElem?_getD→b9,getElem?_eq_getElem→e9,length_append→g1,getElem_mem→g3,range→m9,replicate→p4,append_assoc→p6,length→D
open Nat renaming le_refl→a7,le_trans→b6,zero_le→c6
open Obj renaming cells→U
open Operand renaming tmp→Tm
open Option renaming none→J,some→So
open Value renaming int→I,slice→Z,string→Y,pointer→K,bool→O,func→Fc,tuple→Tp,agg→Ag
section
attribute [local go_sem] Oper.semAt_some
def y5:Nat->g4->C2
 |0,_=>[]
 |f+1,r=>if r.size=0 then []else(H2 r 10).1::y5 f (H2 r 10).2.1
def mO:Nat->C2->List (Nat×g4)
 |_,[]=>[]
 |k,x::r=>(k,x)::mO (k+1) r
theorem T8:∀(k:Nat)(l:C2),D (mO k l)=D l
 |_,[]=>rfl
 |k,x::r=>by simp[mO,T8 (k+1) r]
theorem kR(r:g4)(a:0<r.size):(H2 r 10).2.1.size<r.size:=by
 rcases eN r 10 with⟨_,e⟩|⟨k,b,_,e⟩
 rw[e];exact a;rw[e];simp only[ByteArray.size_extract];omega
theorem dE:∀(f:Nat)(r:g4),r.size<=f->y5 f r=y5 r.size r
 |0,r,h=>by rw[(a8:r.size=0)]
 |f+1,r,h=>by by_cases a:r.size=0;unfold y5;rw[if_pos a,a];have c:=kR r a8;obtain⟨m,b⟩:∃m,r.size=m+1:=⟨r.size-1,a8⟩;rw[b];unfold y5;rw[if_neg a,if_neg a8,dE f _ a8,dE m _ a8]
theorem dD(r:g4)(a:0<r.size):y5 r.size r=(H2 r 10).1::y5 (H2 r 10).2.1.size (H2 r 10).2.1:=by have c:=kR r a;obtain⟨m,b⟩:∃m,r.size=m+1:=⟨r.size-1,a8⟩;rw[b];show(if r.size=0 then []else _)=_;rw[if_neg a8,dE m _ a8]
def o0(s:g4):List (Nat×g4):=mO 1 (y5 s.size s)
theorem NR(l s n c B:Nat)(m:p1)(xs:o5)(ae:D xs=n)(ak:n<=900000)(Jq:List (Nat×g4)->Wd->Prop)(A:AbidesFrom B Jq)
 (p:∀pre x W,Jq pre W->x.2.size<=n->D pre<D (o0 (Sn xs))->YieldAt .wide 1 prog l #[I M (x:Nat×g4).1,Y x.2] W λe W'=>e=X (O Bt)/\Jq (pre++[x]) W'/\True)
 (W:Wd) (Q:W.cell? ⟨s,0,J⟩=So (Z m n c)) (E:i5 W m (l8 U8 xs)) (f:Jq [] W):
 Ci .wide 2 prog 40 #[Fc (.yield l) #[] #[],K s] W λe W'=>(∃v,e=X v)/\∃ys,ys=o0 (Sn xs)/\Jq ys W':=by
 have ab:=qW m n c xs W ae E;have w:(Sn xs).size<=n:=by
  have:(Sn xs).size=D xs:=by simp[Sn,ByteArray.size]
  omega
 generalize Sn xs=S at*;obtain⟨j,k⟩:∃j,j=o0 S:=⟨_,rfl⟩;rw[<-k]at p;refine Co func40 rfl trivial ?_ rfl;simp only[ntmps40,uE,Nat.reduceAdd,Nat.reduceSub];gi_wp2;gi_loopw [3,4] (λr i wr=>∃(pre:List (Nat×g4))(t:g4),r=Y t/\t.size<=n/\D pre+t.size<=n/\i=I M (D pre+1:Nat)/\j=pre++mO (D pre+1) (y5 t.size t)/\Jq pre wr) (λr _ _=>match r with|Y t=>t.size|_=>0);exact⟨[],S,rfl,w,by simpa using w,rfl,k,f⟩;clear Q E f ab;obtain⟨pre,t,rfl,an,am,rfl,g,o⟩:=hrel;by_cases f:t.size=0
 ·have u:=o9 t;rw[decide_eq_true f]at u;have R:j=pre:=by rw[g,f];simp[y5,mO]
  subst R;gi_wp2;go_end0;exact⟨⟨_,rfl⟩,_,k,o⟩
 have u:=o9 t;rw[decide_eq_false f]at u;rw[dD t a8]at g;have ad:=kR t a8;have z:=a6 (DR t 10 a8);have G:D pre<D j:=by rw[g,g1];simp[mO]
 obtain⟨kk,d⟩:∃kk:Nat,D pre+1=kk:=⟨_,rfl⟩;have P:=a6 G;have al:=aD t 10;have h:=λx(W:Wd)(ac:Jq pre W)=>p pre (D pre+1,x) W ac
 rw[d]at h g;dsimp only at h;replace h:=a6 h;generalize H2 t 10=C at*;obtain⟨a,b,q⟩:=C;dsimp only at*;have L:=a6 g;have y:IntKind.i64.wrap ((kk:Int)+1)=((kk+1:Nat):Int):=by rw[h7 _ a8];simp
 rw[d];have N:=a6 d;clear d;clear g k G p w;gi_wp2_with(refine⟨trivial,?_⟩;gi_at_call 41;refine C0 ((Cw (n:=1)).2 (z _)) λy H=>?_);have af:=H;have F:Jq pre y:=A _ _ _ J o (j4 af J) aL;obtain⟨aj,tmps,ah,ai,ag,aa⟩:=h a y F a8 P.O;clear h o A H F z;rw[ag];gi_wp2;apply aa.mono;rintro e W3⟨rfl,T,_⟩;gi_wp2;go_roundw;have d:=N.O;exact⟨pre++[(kk,a)],b,rfl,a8,by rw[g1];simp;omega,by rw[g1,<-d];simp,by rw[L.O,g1,p6,<-d];rfl,T⟩;show b.size<t.size;exact ad
theorem AT(a:p1)(n c:Nat)(w:Wd):
 Ci .wide 2 prog 24 #[Z a n c] w λe b=>e=X (Fc (.func 40) #[] #[K w])/\b=w.alloc (U #[Z a n c] 22):=by
 refine Co func24 rfl trivial ?_ rfl;simp only[ntmps24,uE,Nat.reduceAdd,Nat.reduceSub];gi_wp2;go_ret;exact⟨rfl,rfl⟩
theorem lQ(s n c:Nat)(a:p1)(xs:o5)(m:D xs=n)(k:n<=900000)(w:Wd)(o:s<w)(e:w.cell? ⟨s,0,J⟩=So (Z a n c))(h:i5 w a (l8 U8 xs)):
 aH .wide 2 prog 40 #[K s] (λx:Nat×g4=> #[I M x.1,Y x.2]) (λx _=>x.2.size<=n) (λ_ _=>True) (λys=>ys=o0 (Sn xs)) (D (o0 (Sn xs))) w:=λl Jq W b g j d=>by
 have f:=(b.cell (p:=⟨s,0,J⟩) o).trans e;have i:i5 W a (l8 U8 xs):=h.h b;exact NR l s n c W a xs m k Jq g j W f i d
end
section
structure MV(Xa:Nat->Prop)(w:Wd)(O':Nat->Prop)(w':Wd):Prop where
 os:w'.os=w.os
 tape:w'.tape=w.tape
 output:w'.output=w.output
 size:w.heap.size<=w'.heap.size
 keep:∀b,b<w.heap.size->¬Xa b->w'.heap[b]? =w.heap[b]?
 own:∀b,O' b->Xa b\/w.heap.size<=b
section
variable {Xa O1 O2:Nat->Prop} {w w1 w2 W:Wd}
theorem MV.refl(Xa:Nat->Prop)(w:Wd):MV Xa w Xa w:=⟨rfl,rfl,rfl,a7 _,λ_ _ _=>rfl,λ_ h=> .inl h⟩
theorem MV.trans(a:MV Xa w O1 w1)(k:MV O1 w1 O2 w2):MV Xa w O2 w2:=
 ⟨k.os.trans a.os,k.tape.trans a.tape,k.output.trans a.output,b6 a.size k.size,λb d f=>(k.keep b (Nat.lt_of_lt_of_le d a.size) λc=>by
  rcases a.own b c with e|e
  ·exact f e
  ·omega).trans (a.keep b d f),λb d=>by
  rcases k.own b d with c|c
  ·exact a.own b c
  ·exact .inr (b6 a.size c)⟩
theorem MV.f(a:a9 w w1):MV Xa w Xa w1:=⟨a.os,a.tape,a.output,a.size,λb c _=>a.block c,λ_ a=> .inl a⟩
theorem MV.h(h:MV Xa w O1 w1)(x:a9 w1 w2):MV Xa w O1 w2:=h.trans (.f x)
theorem MV.b(a:MV Xa w O1 w1)(x:a9 W w)(e:∀b,Xa b->W.heap.size<=b):a9 W w1:=
 ⟨a.os.trans x.os,a.tape.trans x.tape,a.output.trans x.output,b6 x.size a.size,λb c=>(a.keep b (Nat.lt_of_lt_of_le c x.size) λd=>by have:=e b d;omega).trans (x.block c)⟩
theorem MV.l{row:Option Nat}(g:w.grownBy w1 row)(f:∀k,row=So k->Xa k)(d:∀b,O1 b->Xa b\/w.heap.size<=b):MV Xa w O1 w1:=
 ⟨g.os,g.tape,g.output,g.size,λb c a=>g.block b c λe=>a (f b e.symm),d⟩
theorem MV.blk{g:Nat}{t:Ti}{cs:Array Va}(a:MV Xa w O1 w1)(k:e7 w g t cs)(b:¬Xa g):e7 w1 g t cs:=(a.keep g k.lt b).trans k
theorem MV.inM{c:p1}{xs:List Va}(g:MV Xa w O1 w1)(k:i5 w c xs)(h:∀a,c=So a->¬Xa a.block):i5 w1 c xs:=λj u i=>by obtain⟨b,f,d,e⟩:=k j u i;refine⟨b,f,d,?_⟩;rw[<-e];exact World.cell?_of_block (w:=w) (a:=⟨b,f+j,J⟩) (g.keep b (block_lt_of_cell e) (h _ d))
theorem MV.mono{P f:Nat->Prop}(a:MV Xa w O1 w1)(g:∀b,Xa b->P b)(h:∀b,f b->O1 b\/P b\/w.heap.size<=b):MV P w f w1:=
 ⟨a.os,a.tape,a.output,a.size,λb e j=>a.keep b e λi=>j (g b i),λb e=>by
  rcases h b e with c|c
  ·rcases a.own b c with d|d
   ·exact .inl (g b d)
   ·exact .inr d
  ·exact c⟩
end
theorem c7.ne{d:Type}{w:Wd}{base:Nat}{e:Ti}{E:s7 d}{v:Va}{xs:List d}(h:c7 w base e E v xs){g:Nat}{t:Ti}{cs:Array Va}(k:e7 w g t cs)(j:e≠t):v.ownBlock≠So g:=λa=>by
 obtain⟨m,c,rfl,l⟩:=h;rcases l.2 with⟨b,_⟩|⟨f,cap,cur,b,_,i,_⟩
 rw[b]at a;cases a;rw[b]at a;injection a with a
 have a:f=g:=a;subst a;unfold e7 at k;rw[i]at k;injection k with k
 injection k with _ k2
 exact j k2
theorem c7.new{c:Type}{w:Wd}{base n:Nat}{e:Ti}{E:s7 c}{xs:List c}{cs:Array Va}(d:base<=w)(a:cs.toList=E.row xs)(f:D xs=n)(g:n<=1000000):c7 (w.alloc (U cs e)) base e E (Z w n n) xs:=by subst f;have b:=E.row_length xs;refine⟨_,_,rfl,b,.inr ⟨w,D xs,cs,rfl,d,heap_alloc_new _ _,a7 _,by unfold maxLen;omega,by rw[<-b,<-a];simp,?_⟩⟩;rw[List.take_of_length_le (by rw[a,b];exact a7 _),a]
theorem c7.f{b:Type}{w:Wd}{base:Nat}{e:Ti}{E:s7 b}{v:Va}{xs:List b}(d:c7 w base e E v xs):∃a n c,v=Z a n c:=let⟨a,c,hv,_⟩:=d;⟨a,_,c,hv⟩
theorem e7.ne{w:Wd}{g a:Nat}{t c:Ti}{cs d:Array Va}(b:e7 w g t cs)(k:e7 w a c d)(f:t≠c):g≠a:=λe=>by
 subst e;unfold e7 at b k;rw[b]at k;injection k with k
 injection k with _ k2
 exact f k2
def jI(bo:Nat)(v:Va)(b:Nat):Prop:=b=bo\/v.ownBlock=So b
theorem jI.ge{W:Wd}{c:Type}{w:Wd}{base:Nat}{e:Ti}{E:s7 c}{v:Va}{xs:List c}{bo:Nat}(d:c7 w base e E v xs)(g:W<=bo)(f:W<=base):∀b,jI bo v b->W.heap.size<=b:=λb a=>by
 rcases a with rfl|a
 exact g;exact b6 f (d.lt a).1
theorem xT{l:Type}{w0 w1 w2:Wd}{base:Nat}{e:Ti}{E:s7 l}{v v':Va}{xs ys:List l}{bo:Nat}{c:Ti}(i:e≠c)(a:e7 w1 bo c #[v])(p:c7 w1 base e E v xs)(n:MV (jI bo v) w0 (jI bo v) w1)
 (j:c7 w2 base e E v' ys) (h:w1.grownBy w2 v.ownBlock) (m:v'.ownBlock=v.ownBlock\/v'.ownBlock=So w1.heap.size):
 e7 w2 bo c #[v]/\e7 (w2.setCell ⟨bo,0,J⟩ v') bo c #[v']/\c7 (w2.setCell ⟨bo,0,J⟩ v') base e E v' ys/\MV (jI bo v) w0 (jI bo v') (w2.setCell ⟨bo,0,J⟩ v'):=by
 have f:e7 w2 bo c #[v]:=a.grown h (λd=>p.ne a i d.symm);have o:=j.ne f i;refine⟨f,f.f 0 v',j.kept (c8 _ _ _ v') (.inr o),n.trans ((MV.l (O1:=jI bo v') h (λk g=> .inr g) ?_).trans (.l (c8 _ _ _ v') (λk g=>by cases g;exact .inl rfl) λb a=> .inl a))⟩;intro b a;rcases a with rfl|a
 exact .inl (.inl rfl);rcases m with d|d
 exact .inl (.inr (by rw[<-d];exact a));rw[d]at a;injection a with a;exact .inr (Nat.le_of_eq a)
end
section
attribute [local go_sem] Oper.semAt_some
def CtI(w:Wd)(z:Nat)(pre:List (Nat×g4))(W:Wd):Prop:=e7 W w 3 #[I M (D pre)]/\Below w w W/\z<=W
theorem a17(w:Wd)(z:Nat)(g:w<z):OwnFrom z (CtI w z):=λpre W W' row⟨d,b,f⟩ a c=>
 ⟨i2 d a λr e=>(c r e).2,b.grown a b.size (λr e=>b6 (Nat.le_of_lt g) (c r e).1),b6 f a.size⟩
theorem pT:∀(f:Nat)(r:g4),D (y5 f r)<=f
 |0,_=>a7 _
 |f+1,r=>by unfold y5;split;exact c6 _;have:=pT f (H2 r 10).2.1;simp;omega
theorem FG(s:g4):D (o0 s)<=s.size:=by unfold o0;rw[T8];exact pT _ _
theorem iV(a:p1)(n c:Nat)(xs:o5)(w:Wd)(y:D xs=n)(u:n<=900000)(p:i5 w a (l8 U8 xs)):
 Ci .wide 3 prog 12 #[Z a n c] w λe r=>e=X (I M (D (o0 (Sn xs))))/\a9 w r:=by
 have E:D (o0 (Sn xs))<=900000:=b6 (FG _) (by simp only[Sn,ByteArray.size];simp;omega);refine Cm func12 rfl trivial ?_ rfl;simp only[ntmps12,uE,Nat.reduceAdd,Nat.reduceSub];gi_wp2_with(refine⟨trivial,?_⟩;gi_at_call 24;apply(AT a n c _).mono;rintro e r⟨rfl,rfl⟩);have i:e7 ((w.alloc (U #[I M 0] 3)).alloc (U #[Z a n c] 22)) w 3 #[I M 0]:=(e7.new w _ _).alloc _;have f:e7 ((w.alloc (U #[I M 0] 3)).alloc (U #[Z a n c] 22)) (w+1) 22 #[Z a n c]:=e7.b i3;have j:Below w w ((w.alloc (U #[I M 0] 3)).alloc (U #[Z a n c] 22)):=((a9.refl w).alloc _).alloc _;have N:((w.alloc (U #[I M 0] 3)).alloc (U #[Z a n c] 22)).heap.size=w.heap.size+2:=i3;generalize(w.alloc (U #[I M 0] 3)).alloc (U #[Z a n c] 22)=w0 at*;have q:i5 w0 a (l8 U8 xs):=p.h j;refine G8 rfl e6 (gf:=40) (lb:= #[K (w+1:Nat)]) rfl trivial (Eo func40 g6 rfl)
  (aH.toB (lQ (w+1) n c a xs y u w0 f.lt (by rw[f.cell];rfl) q)) (λt k=>trivial)
  (λW l o A v t h L=>trivial) (Below.refl _ _) (λ_=>rfl)
  (λx W l o A m v h=>m)
  (CtI w w0) (λ_ _ _=>trivial) (a17 w w0 a8)
  ⟨i,j,a7 _⟩
  (λx:Nat×g4=> {tmps:= #[Z a n c,Un,I M 0,K w,Z a n c,Fc (.func 40) #[] #[K (w+1:Nat)],I M x.1,Y x.2,Un,Un,Un],defers:=[]}) ?Aa ?Ab ?Ac
 case Aa=>intro l S W B d;gi_wp2;simpa using d
 case Ab=>
  rintro l pre⟨Q,R⟩ W⟨b,g,F⟩ m H;have h:=b.cell 0;have G:=b.frozen 0;have P:IntKind.i64.wrap ((D pre:Int)+1)=((D pre+1:Nat):Int):=by rw[h7 _ a8];simp
  clear i f q p;dsimp only;gi_wp2;refine⟨(KeepsOthers.setCell _ _ _).from _,trivial,?_,a9.set g (a7 _) _,b6 a8 (c8 _ _ _ _).size⟩;rw[g1];exact b.f 0 _
 rintro s xs W C z⟨b,g,_⟩ d;subst z;have h:=b.cell 0;gi_wp2;refine⟨i3,.inl ⟨_,_,rfl,run_takeDeferred d,?_⟩⟩;exact⟨_,results_tmp rfl _ _ _,rfl,Below.trans (show Below w w W from g) (belowK_b (w:=w) (a7 _) W s _ _ a8 d rfl rfl)⟩
def G1:s7 (Nat×g4):=⟨2,λx=>[I M x.1,Y x.2],λ_=>rfl,nA⟩
theorem a5y:kZ prog 158 213 (Ag #[I M 0,Y ⟨#[]⟩]) 2 24:=⟨underlying158,g6,rfl,e6,e6⟩
def H7(n:Nat)(t:g4):List (Nat×g4):=if(H6 t).size=0 then []else [(n,H6 t)]
def yB(a bo:Nat)(v:Va)(b:Nat):Prop:=b=a\/jI bo v b
theorem oR(n:Nat)(t:g4)(an:t.size<=100000000)(a bo base:Nat)(v:Va)(xs:List (Nat×g4))(ao:D xs+1<=1000000)(w:Wd)(B:e7 w a 213 #[I M n,Y t])(Q:e7 w bo 158 #[v])(aa:c7 w base 213 G1 v xs)(be:a<base)(al:base<=w):
 Ca prog 139 #[K a,K bo] w λe x=>e=X (Tp #[])/\∃v',e7 x a 213 #[I M 0,Y ⟨#[]⟩]/\e7 x bo 158 #[v']/\c7 x base 213 G1 v' (xs++H7 n t)/\MV (yB a bo v) w (yB a bo v') x:=by
 have ab:=a6 (kB t an);have R:H7 n t=if(H6 t).size=0 then []else [(n,H6 t)]:=rfl
 generalize H7 n t=l at*;generalize H6 t=c at*;have L:=a6 R;clear R;have S:=o9 c;have aq:=B.cell 1;go_in;go_wp2_with fail;refine l4 (ab _) λh r=>?_;have b1:=B.h r;have ay:=b1.frozen 1;have au:=b1.cell 1;have b2:=b1.f 1 (Y c);have C:a≠bo:=B.ne Q e6;have y:e7 (h.setCell ⟨a,1,J⟩ (Y c)) bo 158 #[v]:=(Q.h r).grown (c8 _ _ _ (Y c)) (λe=>by injection e with e;exact C e.symm);have m:c7 (h.setCell ⟨a,1,J⟩ (Y c)) base 213 G1 v xs:=(aa.h r).kept (c8 _ _ _ (Y c)) (.inr (λe=>by have:=(aa.lt e).1;omega));have E:∀(v:Va)(i:Nat)(u:Va)(W:Wd),MV (yB a bo v) W (yB a bo v) (W.setCell ⟨a,i,J⟩ u):=λv i u W=> .l (c8 _ _ _ u) (λk am=>by cases am;exact .inl rfl) λb aj=> .inl aj
 have z:=(MV.f (Xa:=yB a bo v) r).trans (E v 1 (Y c) h);have ak:=b6 al z.size;obtain⟨ar,ad⟩:=b2.d2 1 0;have az:=b2.frozen 0;have bd:=y.cell 0;have P:=a6 E;clear E;have T:∀(v':Va)(ys:List (Nat×g4))(W:Wd),e7 W a 213 (#[I M n,Y t].setIfInBounds 1 (Y c))->e7 W bo 158 #[v']->c7 W base 213 G1 v' ys->MV (yB a bo v) w (yB a bo v') W->ys=xs++l->
   ∃v',e7 ((W.setCell ⟨a,0,J⟩ (I M 0)).setCell ⟨a,1,J⟩ (Y ⟨#[]⟩)) a 213 #[I M 0,Y ⟨#[]⟩]/\e7 ((W.setCell ⟨a,0,J⟩ (I M 0)).setCell ⟨a,1,J⟩ (Y ⟨#[]⟩)) bo 158 #[v']/\c7 ((W.setCell ⟨a,0,J⟩ (I M 0)).setCell ⟨a,1,J⟩ (Y ⟨#[]⟩)) base 213 G1 v' (xs++l)/\MV (yB a bo v) w (yB a bo v') ((W.setCell ⟨a,0,J⟩ (I M 0)).setCell ⟨a,1,J⟩ (Y ⟨#[]⟩)):=λv' ys W ae af ag ah ai=>by
  subst ai
  have k:∀{W:Wd}(u:Va)(i:Nat),c7 W base 213 G1 v' (xs++l)->c7 (W.setCell ⟨a,i,J⟩ u) base 213 G1 v' (xs++l):=λu i f=>f.kept (c8 _ _ _ u) (.inr (λe=>by have:=(f.lt e).1;omega))
  have k2:∀{W:Wd}(u:Va)(i:Nat),e7 W bo 158 #[v']->e7 (W.setCell ⟨a,i,J⟩ u) bo 158 #[v']:=λu i f=>f.grown (c8 _ _ _ u) (λe=>by injection e with e;exact C e.symm)
  exact⟨v',(ae.f 0 _).f 1 _,k2 _ _ (k2 _ _ af),k _ _ (k _ _ ag),(ah.trans (P _ _ _ _)).trans (P _ _ _ _)⟩
 have N:=a6 T;clear T;by_cases o:c.size=0;·rw[decide_eq_true o]at S;go_wp2;go_end0;exact⟨rfl,N v xs _ b2 y m z (by rw[L.O,if_pos o];simp)⟩
 rw[decide_eq_false o]at S;have key:∀(g:Wd)(d:Va),c7 g base 213 G1 d (xs++[(n,c)])->((h.setCell ⟨a,1,J⟩ (Y c)).alloc (U #[I M n,Y c] 213)).grownBy g v.ownBlock->(d.ownBlock=v.ownBlock\/d.ownBlock=So ((h.setCell ⟨a,1,J⟩ (Y c)).alloc (U #[I M n,Y c] 213)).heap.size)->
   e7 g bo 158 #[v]/\e7 (g.setCell ⟨bo,0,J⟩ d) bo 158 #[d]/\c7 (g.setCell ⟨bo,0,J⟩ d) base 213 G1 d (xs++[(n,c)])/\MV (jI bo v) (h.setCell ⟨a,1,J⟩ (Y c)) (jI bo d) (g.setCell ⟨bo,0,J⟩ d)/\e7 (g.setCell ⟨bo,0,J⟩ d) a 213 (#[I M n,Y t].setIfInBounds 1 (Y c)):=λg d q p A=>by
  obtain⟨s,F,G,H⟩:=xT e6 (y.h ((a9.refl _).alloc _)) (m.h ((a9.refl _).alloc _)) (MV.f ((a9.refl _).alloc _)) q p A
  exact⟨s,F,G,H,((b2.h ((a9.refl _).alloc _)).grown p (λe=>by have:=(m.lt e.symm).1;omega)).grown (c8 _ _ _ d) (λe=>by injection e with e;exact C e)⟩
 have ac:=a6 key;clear key;go_wp2_with(at_builtin;refine h8 rfl (Tm 9) (Tm 11) 158 213 rfl a5y base _ xs rfl (m.h ((a9.refl _).alloc _)) _ 1 1 [(n,c)] rfl rfl (cF i3 rfl) ao (b6 ak i3) ?_;intro d g q bf p A;obtain⟨s,F,G,H,j⟩:=ac _ _ q p A;have av:=s.cell 0;have ba:=s.frozen 0;have bb:=j.frozen 0;have bc:=j.frozen 1;have aw:=j.cell 0;have ax:=j.cell 1;obtain⟨ap,bg,ad,rfl⟩:=q.f);go_end0;refine⟨rfl,N _ _ _ j F G (z.trans (H.mono (λb f=> .inr f) λb f=> ?_)) (by rw[L.O,if_neg o])⟩;rcases f with f|f
 exact .inr (.inl (.inl f));exact .inl f
end
section
attribute [local go_sem] Oper.semAt_some
theorem MV.from{Oq O1:Nat->Prop}{W W':Wd}(c:MV Oq W O1 W')(B:Nat)(e:∀b o,Oq b->W.heap[b]? =So o->o.isCells=Bt):KeepsFrom B W W':=
 ⟨c.size,λk o _ a d=>(c.keep k (Array.getElem?_eq_some_iff.1 a).1 (λf=>by rw[e k o f a]at d;cases d)).trans a⟩
theorem e7.isC{W:Wd}{g:Nat}{t:Ti}{cs:Array Va}(b:e7 W g t cs){o:Obj}(a:W.heap[g]? =So o):o.isCells=Bt:=by
 unfold e7 at b;rw[b]at a;injection a with a
 subst a;rfl
theorem c7.isC{i:Type}{W:Wd}{base:Nat}{e:Ti}{E:s7 i}{v:Va}{xs:List i}(f:c7 W base e E v xs){b:Nat}(a:v.ownBlock=So b){o:Obj}(d:W.heap[b]? =So o):o.isCells=Bt:=by
 obtain⟨k,c,rfl,f⟩:=f;rcases f.2 with⟨h,_⟩|⟨g,cap,cur,h,_,j,_⟩
 rw[h]at a;cases a;rw[h]at a;injection a with a
 have a:g=b:=a;subst a;rw[j]at d;injection d with d
 subst d;rfl
theorem c7.r{a:Type}{W W':Wd}{base:Nat}{e:Ti}{E:s7 a}{v:Va}{xs:List a}{row:Option Nat}(b:c7 W base e E v xs)(d:W.grownBy W' row)(f:∀r,row=So r->∃o:Obj,W.heap[r]? =So o/\o.isCells=Bf):c7 W' base e E v xs:=
 let⟨A,c,hv,ho⟩:=b;⟨A,c,hv,Q8 ho d f⟩
theorem c7.putObj{b:Type}{W:Wd}{base:Nat}{e:Ti}{E:s7 b}{v:Va}{xs:List b}(d:c7 W base e E v xs){l:Nat}{o:Obj}(a:Obj)(g:W.heap[l]? =So o)(f:o.isCells=Bf):c7 (W.putObj l a) base e E v xs:=
 let⟨A,c,hv,ho⟩:=d;⟨A,c,hv,ownsRow_putObj ho a g f⟩
def yT(s:g4):Bool:=Lib.hasSuffix s.data.toList [92]
def fS(s:g4):g4:=⟨(Lib.trimSuffix s.data.toList [92]).toArray⟩
abbrev KJ:=List (Nat×g4)×Nat×g4
def rZ(σ:KJ)(x:Nat×g4):Nat:=if σ.2.1=0 then x.1 else σ.2.1
def C6(σ:KJ)(x:Nat×g4):KJ:=
 if x5 x.2=Bt then σ
 else if yT x.2=Bt then(σ.1,rZ σ x,σ.2.2++(fS x.2++⟨#[32]⟩))
 else(σ.1++H7 (rZ σ x) (σ.2.2++x.2),0,⟨#[]⟩)
def s3(l:List (Nat×g4)):KJ:=l.foldl C6 ([],0,⟨#[]⟩)
def T2(s:g4):List (Nat×g4):=(s3 (o0 s)).1++H7 (s3 (o0 s)).2.1 (s3 (o0 s)).2.2
def y9(s:g4):List (Nat×g4)×Int:=if 65536<s.size then([],3)else if 1000<D (o0 s) then([],4)else(T2 s,0)
theorem U7(l:List (Nat×g4))(x):s3 (l++[x])=C6 (s3 l) x:=by simp[s3]
structure HE(w:Wd)(n z:Nat)(pre:List (Nat×g4))(W:Wd):Prop where
 ou:∃v,e7 W w 158 #[v]/\c7 W (w+4) 213 G1 v (s3 pre).1
 now:e7 W (w+1) 213 #[I M (s3 pre).2.1,Y (s3 pre).2.2]
 done:e7 W (w+2) 1 #[Fc (.func 139) #[] #[K (w+1:Nat),K w]]
 len:D (s3 pre).1<=D pre
 sz:(s3 pre).2.2.size<=D pre*(n+1)
 h:a9 w W
 z:z<=W
theorem a13(w:Wd)(n z:Nat)(l:w<=z):OwnFrom z (HE w n z):=λpre W W' row⟨⟨v,d,f⟩,g,h,i,j,c,k⟩ a b=>
 ⟨⟨v,i2 d a λr e=>(b r e).2,f.r a λr e=>(b r e).2⟩,i2 g a λr e=>(b r e).2,i2 h a λr e=>(b r e).2,i,j,
  Below.grown c a c.size (λr e=>b6 l (b r e).1),b6 k a.size⟩
theorem eF(s:g4):(fS s).size<=s.size:=by unfold fS Lib.trimSuffix;simp only[ByteArray.size];split<;>simp
theorem kP(n:Nat)(t:g4):D (H7 n t)<=1:=by unfold H7;split<;>simp
theorem a44(a bo:Nat)(v:Va)(i:Nat)(u:Va)(W:Wd):MV (yB a bo v) W (yB a bo v) (W.setCell ⟨a,i,J⟩ u):= .l (c8 _ _ _ u) (λk d=>by cases d;exact .inl rfl) λb c=> .inl c
theorem HE.bd{w:Wd}{n z:Nat}{pre:List (Nat×g4)}{W:Wd}(b:HE w n z pre W){v v':Va}{W':Wd}(d:c7 W (w+4) 213 G1 v (s3 pre).1)(c:MV (yB (w+1) w v) W (yB (w+1) w v') W'):e7 W' (w+2) 1 #[Fc (.func 139) #[] #[K (w+1:Nat),K w]]:=
 c.blk b.done λa=>by
  rcases a with a|a|a
  ·omega
  ·omega
  ·have:=(d.lt a).1;omega
theorem HE.step{w:Wd}{n z:Nat}{pre:List (Nat×g4)}{W:Wd}(B:Nat)(c:HE w n z pre W){v v':Va}{W':Wd}{x:Nat×g4}(k:e7 W w 158 #[v])(g:c7 W (w+4) 213 G1 v (s3 pre).1)(e:MV (yB (w+1) w v) W (yB (w+1) w v') W')
 {σ:KJ} (d:C6 (s3 pre) x=σ) (h:e7 W' w 158 #[v']) (i:c7 W' (w+4) 213 G1 v' σ.1) (j:e7 W' (w+1) 213 #[I M σ.2.1,Y σ.2.2]) (q:x.2.size<=n):
 KeepsFrom B W W'/\True/\HE w n z (pre++[x]) W':=by
 have m:D σ.1<=D (pre++[x]):=by have:=c.len;rw[<-d,g1];unfold C6;split;simp;omega;split;simp;omega;have:=kP (rZ (s3 pre) x) ((s3 pre).2.2++x.2);simp;omega
 have p:σ.2.2.size<=D (pre++[x])*(n+1):=by have:=c.sz;rw[<-d,g1,List.length_singleton,Nat.succ_mul];unfold C6;split;omega;split;have:=eF x.2;simp only[ByteArray.size_append];have:(⟨#[32]⟩:g4).size=1:=rfl;omega;show(0:Nat)<=_;omega
 have l:=c.bd g e;refine⟨e.from B λb o a f=> ?_,trivial,⟨⟨v',h,?_⟩,?_,l,?_,?_,e.b c.h λb a=> ?_,b6 c.z e.size⟩⟩;rcases a with rfl|rfl|a
 exact c.now.isC f;exact k.isC f;exact g.isC a f;rw[U7,d];exact i;rw[U7,d];exact j;rw[U7,d];exact m;rw[U7,d];exact p;rcases a with rfl|rfl|a
 omega;omega;have:=(g.lt a).1;omega
theorem sp4{W:Wd}{a bo base i:Nat}{u v:Va}{xs:List (Nat×g4)}(c:e7 W bo 158 #[v])(b:c7 W base 213 G1 v xs)(d:a≠bo)(f:a<base):e7 (W.setCell ⟨a,i,J⟩ u) bo 158 #[v]/\c7 (W.setCell ⟨a,i,J⟩ u) base 213 G1 v xs:=
 ⟨c.grown (c8 _ _ _ u) (λe=>by injection e with e;exact d e.symm),b.kept (c8 _ _ _ u) (.inr (λe=>by have:=(b.lt e).1;omega))⟩
structure ZM(w1:Wd)(v:Va)(out:List (Nat×g4))(W W':Wd)(num:Int)(text:g4):Prop where
 n:e7 W' (w1+1) 213 #[I M num,Y text]
 b:e7 W' w1 158 #[v]
 oo:c7 W' (w1+4) 213 G1 v out
 m:MV (yB (w1+1) w1 v) W (yB (w1+1) w1 v) W'
section
variable {w1 W W':Wd} {v:Va} {out:List (Nat×ByteArray)} {num:Int} {text:ByteArray}
theorem ZM.sn(h:ZM w1 v out W W' num text)(x:Int):ZM w1 v out W (W'.setCell ⟨w1+1,0,J⟩ (I M x)) x text:=
 ⟨h.n.f 0 _,(sp4 h.b h.oo a8 a8).1,(sp4 h.b h.oo a8 a8).2,h.m.trans (a44 _ _ _ _ _ _)⟩
theorem ZM.txt(h:ZM w1 v out W W' num text)(t:g4):ZM w1 v out W (W'.setCell ⟨w1+1,1,J⟩ (Y t)) num t:=
 ⟨h.n.f 1 _,(sp4 h.b h.oo a8 a8).1,(sp4 h.b h.oo a8 a8).2,h.m.trans (a44 _ _ _ _ _ _)⟩
end
theorem RV(m:p1)(n c:Nat)(xs:o5)(w:Wd)(br:D xs=n)(bl:i5 w m (l8 U8 xs))(bj:n<=65536)(ag:D (o0 (Sn xs))<=1000):
 Ci .wide 3 prog 84 #[Z m n c] w λe aa=>∃v,e=X (Tp #[v,I M 0])/\c7 aa w 213 G1 v (T2 (Sn xs))/\a9 w aa:=by
 obtain⟨bh,bi⟩:=j0 bl br;clear bl br;have ck:Dc (65536<(n:Int))=Bf:=by simp;omega
 have bg:=a6 (callsIn_wide.1 (iV m n c xs w bi a8 bh.O));have bw:Dc (1000<(D (o0 (Sn xs)):Int))=Bf:=by simp;omega
 obtain⟨R,ar⟩:∃R,R=T2 (Sn xs):=⟨_,rfl⟩;rw[<-ar];have bu:=a6 ar;obtain⟨ak,ao⟩:∃ak,ak=o0 (Sn xs):=⟨_,rfl⟩;rw[<-ao]at bg bw ag;have bf:=a6 ao;clear ao ar;refine Cm func84 rfl trivial ?_ rfl;simp only[ntmps84,uE,Nat.reduceAdd,Nat.reduceSub];gi_wp2_with(first
  |(refine⟨trivial,?_⟩;gi_at_call 12;apply((Cw (n:=2)).2 bg.O).mono;rintro e w1⟨rfl,aj⟩)
  |(refine⟨trivial,?_⟩;gi_at_call 24;apply(AT m n c _).mono;rintro e aa⟨rfl,rfl⟩))
 generalize F:(((w1.alloc (U #[Z J 0 0] 158)).alloc (U #[I M 0,Y ⟨#[]⟩] 213)).alloc (U #[Fc (.func 139) #[] #[K (w1+1:Nat),K w1]] 1)).alloc (U #[Z m n c] 22)=w0 at*;have am:e7 w0 w1 158 #[Z J 0 0]:=by rw[<-F];exact(((e7.new w1 _ _).alloc _).alloc _).alloc _
 have b1:e7 w0 (w1+1) 213 #[I M 0,Y ⟨#[]⟩]:=by rw[<-F];exact((e7.b i3).alloc _).alloc _
 have b2:e7 w0 (w1+2) 1 #[Fc (.func 139) #[] #[K (w1+1:Nat),K w1]]:=by rw[<-F];exact(e7.b i3).alloc _
 have b3:e7 w0 (w1+3) 22 #[Z m n c]:=by rw[<-F];exact e7.b i3
 have bk:a9 w1 w0:=by rw[<-F];exact((((a9.refl w1).alloc _).alloc _).alloc _).alloc _
 have ay:w0=w1.heap.size+4:=by rw[<-F];simp
 clear F;have s:=a6 ay;have aq:i5 w0 m (l8 U8 xs):=(bh.h aj).h bk;simp only[Nat.add_assoc,Nat.reduceAdd];clear ay;refine G8 rfl e6 (gf:=40) (lb:= #[K (w1+3:Nat)]) rfl trivial (Eo func40 g6 rfl)
  (aH.toB (lQ (w1+3) n c m xs bi a8 w0 b3.lt (by rw[b3.cell];rfl) aq)) (λC k=>trivial)
  (λW l o cg cc C ah cp=>trivial) (Below.refl _ _) (λ_=>rfl)
  (λx W l o cg E cc ah=>E)
  (HE w1 n w0) (λ_ _ _=>trivial) (a13 w1 n w0 (by have:=s.O;omega))
  ⟨⟨_,am,c7.nil _ _ _ _⟩,b1,b2,a7 _,c6 _,bk,a7 _⟩
  (λx:Nat×g4=> {tmps:= #[Z m n c,Un,Z J 0 0,I M 0,K w1,K (w1+1:Nat),K (w1+2:Nat),I M x.1,Y x.2,Un,Un,O Bf,Z m n c,I M n,O Bf,O Bf,Z m n c,I M (D ak),O Bf,
   Fc (.func 139) #[] #[K (w1+1:Nat),K w1],Z m n c,Fc (.func 40) #[] #[K (w1+3:Nat)],I M x.1,Y x.2,Un,Un,Un,Un,Un,Un,Un,Un,Un,Un,Un,Un,Un,Un,Un,Un,Un,Un,Un,Un,Un,Un,Un,Un,Un,Un,Un,Un,Un],defers:=[]}) ?Aa ?Ab ?Ac
 case Aa=>intro l cq W ch S;gi_wp2;simpa using S
 case Ab=>
  rintro l pre⟨p,d⟩ W t E bp;obtain⟨v,j,u⟩:=t.ou;have T:=t.now;have ai:=t.sz;rw[<-bf.O]at bp;have bq:D pre*(n+1)<=999*65537:=Nat.mul_le_mul a8 a8;obtain⟨g,ab,ac⟩:=r6 (λ(v':Va)(W':Wd)(au)(σ:KJ) cf bj ag bx bz=>t.step (x:=(p,d)) (v':=v') (W':=W') w0 j u au (σ:=σ) cf bj ag bx bz) (λ(W':Wd) au=>t.bd (v':=v) (W':=W') u au) t.len;have aw:C6 (s3 pre) (p,d)=if x5 d=Bt then s3 pre else if yT d=Bt then((s3 pre).1,rZ (s3 pre) (p,d),(s3 pre).2.2++(fS d++⟨#[32]⟩))else((s3 pre).1++H7 (rZ (s3 pre) (p,d)) ((s3 pre).2.2++d),0,⟨#[]⟩):=rfl
  unfold rZ at aw;rw[aw]at g;generalize s3 pre=σ at*;obtain⟨out,num,text⟩:=σ;dsimp only at*;obtain⟨A,N,af⟩:=r6 (wT d a8) (λW=>show Ca prog 142 #[Y d,Y ⟨#[92]⟩] W λe aa=>e=X (Tp #[Y (fS d),O (yT d)])/\W=aa from gX d ⟨#[92]⟩ a8 W) t.z;obtain⟨nm,av⟩:∃nm,nm=(if num=0 then p else num):=⟨_,rfl⟩;rw[<-av]at g;have ad:=a6 av;have co:=eF d;have cr:¬9223372036854775807<text.size+d.size:=a8;have cs:¬9223372036854775807<(fS d).size+1:=a8;have ct:¬9223372036854775807<text.size+((fS d).size+1):=a8;obtain⟨ae,Q,r⟩:=r6 ai T u;clear t aw av am b1 b2 aq ai T u;cases ah:x5 d
  ·rw[ah]at A g;simp only[Bool.false_eq_true,if_false]at g;have cn:D pre<=999:=a8;clear bp;cases bs:yT d
   ·rw[bs]at N g;simp only[Bool.false_eq_true,if_false]at g;by_cases q:num=0
    ·have an:((num:Int)==0)=Bt:=by simp[q]
     obtain rfl:p=nm:=(ad.trans (by simp[q])).symm;gi_wp2_with(first
      |(refine⟨trivial,?_⟩
        gi_at_call 141
        refine(CallsIn.inRound l ((Cw (n:=0)).2 (A _))).mono ?_
        rintro e z⟨rfl,f⟩
        have h:ZM w1 v out W z num text:=⟨Q.h f,j.h f,r.h f,.f f⟩
        have az:=h.n.cell 0
        have ba:=h.n.frozen 0
        have i:=h.sn p
        have bb:=i.n.cell 1
        have bc:=i.n.frozen 1
        have a:=i.txt ((text++d))
        have bd:=(ab _ a.m).cell 0)
      |(refine⟨trivial,?_⟩
        gi_at_call 142
        refine(CallsIn.inRound l ((Cw (n:=0)).2 (N _))).mono ?_
        rintro e be⟨rfl,rfl⟩)
      |(refine⟨trivial,?_⟩
        gi_at_call 139
        refine(CallsIn.inRound l ((Cw (n:=0)).2 (oR p (text++d) (by have:=ae.O;rw[ByteArray.size_append];omega) (w1+1) w1 (w1+4) v out (by have:=ac.O;omega) _ a.n a.b a.oo a8 (b6 (by have:=s.O;have:=af.O;omega) a.m.size)))).mono ?_
        rintro e L⟨rfl,H,P,B,G,y⟩))
     exact g H _ (a.m.trans y) _ rfl B G P E
    have an:((num:Int)==0)=Bf:=by simp[q]
    obtain rfl:num=nm:=(ad.trans (by simp[q])).symm;gi_wp2_with(first
     |(refine⟨trivial,?_⟩
       gi_at_call 141
       refine(CallsIn.inRound l ((Cw (n:=0)).2 (A _))).mono ?_
       rintro e z⟨rfl,f⟩
       have h:ZM w1 v out W z num text:=⟨Q.h f,j.h f,r.h f,.f f⟩
       have az:=h.n.cell 0
       have ba:=h.n.frozen 0
       have i:=h
       have bb:=i.n.cell 1
       have bc:=i.n.frozen 1
       have a:=i.txt ((text++d))
       have bd:=(ab _ a.m).cell 0)
     |(refine⟨trivial,?_⟩
       gi_at_call 142
       refine(CallsIn.inRound l ((Cw (n:=0)).2 (N _))).mono ?_
       rintro e be⟨rfl,rfl⟩)
     |(refine⟨trivial,?_⟩
       gi_at_call 139
       refine(CallsIn.inRound l ((Cw (n:=0)).2 (oR num (text++d) (by have:=ae.O;rw[ByteArray.size_append];omega) (w1+1) w1 (w1+4) v out (by have:=ac.O;omega) _ a.n a.b a.oo a8 (b6 (by have:=s.O;have:=af.O;omega) a.m.size)))).mono ?_
       rintro e L⟨rfl,H,P,B,G,y⟩))
    exact g H _ (a.m.trans y) _ rfl B G P E
   rw[bs]at N g;simp only[if_true]at g;by_cases q:num=0
   ·have an:((num:Int)==0)=Bt:=by simp[q]
    obtain rfl:p=nm:=(ad.trans (by simp[q])).symm;gi_wp2_with(first
     |(refine⟨trivial,?_⟩
       gi_at_call 141
       refine(CallsIn.inRound l ((Cw (n:=0)).2 (A _))).mono ?_
       rintro e z⟨rfl,f⟩
       have h:ZM w1 v out W z num text:=⟨Q.h f,j.h f,r.h f,.f f⟩
       have az:=h.n.cell 0
       have ba:=h.n.frozen 0
       have i:=h.sn p
       have bb:=i.n.cell 1
       have bc:=i.n.frozen 1
       have a:=i.txt ((text++(fS d++⟨#[32]⟩)))
       have bd:=(ab _ a.m).cell 0)
     |(refine⟨trivial,?_⟩
       gi_at_call 142
       refine(CallsIn.inRound l ((Cw (n:=0)).2 (N _))).mono ?_
       rintro e be⟨rfl,rfl⟩)
     |(refine⟨trivial,?_⟩
       gi_at_call 139
       refine(CallsIn.inRound l ((Cw (n:=0)).2 (oR p (text++(fS d++⟨#[32]⟩)) (by have:=ae.O;rw[ByteArray.size_append];omega) (w1+1) w1 (w1+4) v out (by have:=ac.O;omega) _ a.n a.b a.oo a8 (b6 (by have:=s.O;have:=af.O;omega) a.m.size)))).mono ?_
       rintro e L⟨rfl,H,P,B,G,y⟩))
    exact g v _ a.m _ rfl a.b a.oo a.n E
   have an:((num:Int)==0)=Bf:=by simp[q]
   obtain rfl:num=nm:=(ad.trans (by simp[q])).symm;gi_wp2_with(first
    |(refine⟨trivial,?_⟩
      gi_at_call 141
      refine(CallsIn.inRound l ((Cw (n:=0)).2 (A _))).mono ?_
      rintro e z⟨rfl,f⟩
      have h:ZM w1 v out W z num text:=⟨Q.h f,j.h f,r.h f,.f f⟩
      have az:=h.n.cell 0
      have ba:=h.n.frozen 0
      have i:=h
      have bb:=i.n.cell 1
      have bc:=i.n.frozen 1
      have a:=i.txt ((text++(fS d++⟨#[32]⟩)))
      have bd:=(ab _ a.m).cell 0)
    |(refine⟨trivial,?_⟩
      gi_at_call 142
      refine(CallsIn.inRound l ((Cw (n:=0)).2 (N _))).mono ?_
      rintro e be⟨rfl,rfl⟩)
    |(refine⟨trivial,?_⟩
      gi_at_call 139
      refine(CallsIn.inRound l ((Cw (n:=0)).2 (oR num (text++(fS d++⟨#[32]⟩)) (by have:=ae.O;rw[ByteArray.size_append];omega) (w1+1) w1 (w1+4) v out (by have:=ac.O;omega) _ a.n a.b a.oo a8 (b6 (by have:=s.O;have:=af.O;omega) a.m.size)))).mono ?_
      rintro e L⟨rfl,H,P,B,G,y⟩))
   exact g v _ a.m _ rfl a.b a.oo a.n E
  rw[ah]at A g;simp only[if_true]at g;gi_wp2_with(refine⟨trivial,?_⟩;gi_at_call 141;refine(CallsIn.inRound l ((Cw (n:=0)).2 (A _))).mono ?_;rintro e z⟨rfl,f⟩);exact g v _ (.f f) _ rfl (j.h f) (r.h f) (Q.h f) E
 rintro al ys W cm ax⟨⟨v,j,u⟩,T,bn,cd,ai,cb,ay⟩ S;have bo:D ys<=1000:=by rw[ax,<-bf.O];exact ag
 have bq:D ys*(n+1)<=1000*65537:=Nat.mul_le_mul bo a8;have bm:R=(s3 ys).1++H7 (s3 ys).2.1 (s3 ys).2.2:=by rw[bu.O,ax];rfl
 have bv:=a6 bm;clear bm ax;generalize s3 ys=σ at*;obtain⟨out,num,text⟩:=σ;dsimp only at*;have bt:=a6 (oR num text a8 (w1+1) w1 (w1+4) v out a8 W T j u a8 (by have:=s.O;omega));have ci:=bn.cell 0;have r:=a6 u;clear u T bn am b1 b2 aq j bq bo cd ai;gi_wp2_with(refine⟨trivial,?_⟩;gi_at_call 139;apply((Cw (n:=2)).2 bt.O).mono;rintro e L⟨rfl,H,P,B,G,y⟩;have cj:=B.cell 0);have ca:¬yB (w1+1) w1 v al:=λC=>by
  have:=s.O;rcases C with C|C|C
  omega;omega;have:=r.isC C S;cases this
 have ap:=(y.keep al (Array.getElem?_eq_some_iff.1 S).1 ca).trans S;refine⟨i3,.inl ⟨_,_,rfl,run_takeDeferred ap,?_⟩⟩;have ce:a9 w L:=aj.trans (y.b cb λb j=>by
  rcases j with rfl|rfl|j
  omega;omega;have:=(r.lt j).1;omega)
 exact⟨_,results_tmp2 rfl _ _ _,H,rfl,by rw[bv.O];exact(G.mono (by have:=aj.size;omega)).putObj _ ap rfl,Below.trans (show Below w w L from ce) (belowK_b (w:=w) (a7 _) L al _ _ (by have:=s.O;have:=aj.size;omega) ap rfl rfl)⟩
theorem FF(b:p1)(n c:Nat)(xs:o5)(w:Wd)(a:D xs=n)(f:i5 w b (l8 U8 xs)):
 Ca prog 84 #[Z b n c] w λe i=>∃v,e=X (Tp #[v,I M (y9 (Sn xs)).2])/\c7 i w 213 G1 v (y9 (Sn xs)).1/\a9 w i:=by
 have h:(Sn xs).size=n:=by simp only[Sn,ByteArray.size];simp[a]
 unfold y9;rw[h];by_cases d:65536<n
 ·have k:Dc (65536<(n:Int))=Bt:=by simp;omega
  rw[if_pos d];clear d f a h;go_in;go_wp2;go_ret2;exact⟨_,rfl,c7.nil _ _ _ _,a9.refl _⟩
 have k:Dc (65536<(n:Int))=Bf:=by simp;omega
 rw[if_neg d];by_cases g:1000<D (o0 (Sn xs))
 ·have j:=a6 (callsIn_wide.1 (iV b n c xs w a a8 f));have m:Dc (1000<(D (o0 (Sn xs)):Int))=Bt:=by simp;omega
  rw[if_pos g];clear d g f a h;generalize(o0 (Sn xs)).length=L at*;go_in;go_wp2_with fail;refine l4 j λw1 l=>?_;go_wp2;go_ret2;exact⟨_,rfl,c7.nil _ _ _ _,l⟩
 rw[if_neg g];exact callsIn_wide.1 (RV b n c xs w a f a8 a8)
end
section
structure i6 where
 file:g4
 line:Int
 err:Int
 text:g4
def h9:s7 i6:=⟨4,λx=>[Y x.file,I M x.line,I M x.err,Y x.text],λ_=>rfl,nA⟩
theorem P0:kZ prog 38 49 (Ag #[Y ⟨#[]⟩,I M 0,I M 0,Y ⟨#[]⟩]) 4 48:=⟨underlying38,g6,rfl,e6,e6⟩
structure m8 where
 file:g4
 line:Int
 sec:g4
 key:g4
 val:g4
def z8:s7 m8:=⟨5,λx=>[Y x.file,I M x.line,Y x.sec,Y x.key,Y x.val],λ_=>rfl,nA⟩
theorem a1W:kZ prog 58 89 (Ag #[Y ⟨#[]⟩,I M 0,Y ⟨#[]⟩,Y ⟨#[]⟩,Y ⟨#[]⟩]) 5 72:=⟨underlying58,g6,rfl,e6,e6⟩
theorem c7.apart{h i:Type}{W W':Wd}{b1 b2:Nat}{a e:Ti}{d:s7 h}{l:s7 i}{f g:Va}{xs:List h}{ys:List i}(b:c7 W b1 a d f xs)(k:c7 W b2 e l g ys)(n:a≠e)(m:W.grownBy W' g.ownBlock):c7 W' b1 a d f xs:=by obtain⟨j,c,o,b⟩:=b;obtain⟨B,p,q,k⟩:=k;exact⟨j,c,o,MQ b k n m⟩
structure US where
 sec:g4
 inn:Bool
 all:List m8
 notes:List i6
structure UI(w:Wd)(br bn bf base:Nat)(file:g4)(fx fy:Va)(σ:US)(va vn:Va):Prop where
 r:e7 w br 163 #[Y file,Y σ.sec,O σ.inn,va,Fc (.func 83) #[] #[K bn,K bf]]
 n:e7 w bn 38 #[vn]
 f:e7 w bf 24 #[Y file,fx,fy]
 a:c7 w base 89 z8 va σ.all
 m:c7 w base 49 h9 vn σ.notes
 lr:br<base
 ln:bn<base
 lf:bf<base
 hb:base<=w
def uO(br bn:Nat)(va vn:Va)(b:Nat):Prop:=b=br\/b=bn\/va.ownBlock=So b\/vn.ownBlock=So b
section
variable {w w':Wd} {br bn bf base:Nat} {file:ByteArray} {fx fy va vn:Va} {σ:US}
theorem UI.h(h:UI w br bn bf base file fx fy σ va vn)(x:a9 w w'):UI w' br bn bf base file fx fy σ va vn:=
 ⟨h.r.h x,h.n.h x,h.f.h x,h.a.h x,h.m.h x,h.lr,h.ln,h.lf,b6 h.hb x.size⟩
theorem UI.mvA(a:UI w br bn bf base file fx fy σ va vn){x:m8}{v':Va}(d:w.grownBy w' va.ownBlock)(h:c7 w' base 89 z8 v' (σ.all++[x]))(j:v'.ownBlock=va.ownBlock\/∀b,v'.ownBlock=So b->w.heap.size<=b):
 UI (w'.setCell ⟨br,3,J⟩ v') br bn bf base file fx fy {σ with all:=σ.all++[x]} v' vn/\MV (uO br bn va vn) w (uO br bn v' vn) (w'.setCell ⟨br,3,J⟩ v')/\e7 w' br 163 #[Y file,Y σ.sec,O σ.inn,va,Fc (.func 83) #[] #[K bn,K bf]]:=by
 have g:∀k,k<base->So k≠va.ownBlock:=λk f e=>by have:=(a.a.lt e.symm).1;omega
 have i:=a.r.grown d (g _ a.lr);refine⟨⟨i.f 3 v',(a.n.grown d (g _ a.ln)).grown (c8 _ _ _ v') (λe=> ?_),(a.f.grown d (g _ a.lf)).grown (c8 _ _ _ v') (λe=> ?_),h.kept (c8 _ _ _ v') (.inr λe=> ?_),(a.m.apart a.a e6 d).kept (c8 _ _ _ v') (.inr λe=> ?_),a.lr,a.ln,a.lf,b6 a.hb (b6 d.size (c8 _ _ _ v').size)⟩,(MV.l (O1:=uO br bn v' vn) d (λk f=> .inr (.inr (.inl f))) ?_).trans (.l (c8 _ _ _ v') (λk f=>by cases f;exact .inl rfl) λb c=> .inl c),i⟩;injection e with e;exact a.n.ne a.r e6 e
 injection e with e;exact a.f.ne a.r e6 e
 have:=(h.lt e).1;have:=a.lr;omega;have:=(a.m.lt e).1;have:=a.lr;omega;intro b c;rcases c with c|c|c|c
 exact .inl (.inl c);exact .inl (.inr (.inl c));rcases j with e|e
 exact .inl (.inr (.inr (.inl (by rw[<-e];exact c))));exact .inr (e b c);exact .inl (.inr (.inr (.inr c)))
theorem UI.mvN(a:UI w br bn bf base file fx fy σ va vn){x:i6}{v':Va}(d:w.grownBy w' vn.ownBlock)(h:c7 w' base 49 h9 v' (σ.notes++[x]))(j:v'.ownBlock=vn.ownBlock\/v'.ownBlock=So w.heap.size):
 UI (w'.setCell ⟨bn,0,J⟩ v') br bn bf base file fx fy {σ with notes:=σ.notes++[x]} va v'/\MV (uO br bn va vn) w (uO br bn va v') (w'.setCell ⟨bn,0,J⟩ v')/\e7 w' bn 38 #[vn]:=by
 have g:∀k,k<base->So k≠vn.ownBlock:=λk f e=>by have:=(a.m.lt e.symm).1;omega
 have i:=a.n.grown d (g _ a.ln);refine⟨⟨(a.r.grown d (g _ a.lr)).grown (c8 _ _ _ v') (λe=> ?_),i.f 0 v',(a.f.grown d (g _ a.lf)).grown (c8 _ _ _ v') (λe=> ?_),(a.a.apart a.m e6 d).kept (c8 _ _ _ v') (.inr λe=> ?_),h.kept (c8 _ _ _ v') (.inr λe=> ?_),a.lr,a.ln,a.lf,b6 a.hb (b6 d.size (c8 _ _ _ v').size)⟩,(MV.l (O1:=uO br bn va v') d (λk f=> .inr (.inr (.inr f))) ?_).trans (.l (c8 _ _ _ v') (λk f=>by cases f;exact .inr (.inl rfl)) λb c=> .inl c),i⟩;injection e with e;exact a.r.ne a.n e6 e
 injection e with e;exact a.f.ne a.n e6 e
 have:=(a.a.lt e).1;have:=a.ln;omega;have:=(h.lt e).1;have:=a.ln;omega;intro b c;rcases c with c|c|c|c
 exact .inl (.inl c);exact .inl (.inr (.inl c));exact .inl (.inr (.inr (.inl c)));rcases j with e|e
 exact .inl (.inr (.inr (.inr (by rw[<-e];exact c))));rw[e]at c;injection c with c;exact .inr (Nat.le_of_eq c)
theorem UI.mvS(a:UI w br bn bf base file fx fy σ va vn)(s:g4):UI ((w.setCell ⟨br,1,J⟩ (Y s)).setCell ⟨br,2,J⟩ (O Bt)) br bn bf base file fx fy {σ with sec:=s,inn:=Bt} va vn/\MV (uO br bn va vn) w (uO br bn va vn) ((w.setCell ⟨br,1,J⟩ (Y s)).setCell ⟨br,2,J⟩ (O Bt)):=by
 have c:∀{l:Type}{W:Wd}{e:Ti}{E:s7 l}{v:Va}{xs:List l}(i:Nat)(u:Va),c7 W base e E v xs->c7 (W.setCell ⟨br,i,J⟩ u) base e E v xs:=λi u k=>k.kept (c8 _ _ _ u) (.inr λe=>by have:=(k.lt e).1;have:=a.lr;omega)
 have j:=a.n.ne a.r e6;have h:=a.f.ne a.r e6;have d:∀{W:Wd}{g:Nat}{t:Ti}{cs:Array Va}(i:Nat)(u:Va),e7 W g t cs->g≠br->e7 (W.setCell ⟨br,i,J⟩ u) g t cs:=λi u k o=>k.grown (c8 _ _ _ u) (λe=>by injection e with e;exact o e)
 have f:∀(W:Wd)(i:Nat)(u:Va),MV (uO br bn va vn) W (uO br bn va vn) (W.setCell ⟨br,i,J⟩ u):=λW i u=> .l (c8 _ _ _ u) (λk n=>by cases n;exact .inl rfl) λb m=> .inl m
 exact⟨⟨(a.r.f 1 _).f 2 _,d _ _ (d _ _ a.n j) j,d _ _ (d _ _ a.f h) h,c _ _ (c _ _ a.a),c _ _ (c _ _ a.m),a.lr,a.ln,a.lf,b6 a.hb (b6 (c8 _ _ _ _).size (c8 _ _ _ _).size)⟩,(f _ _ _).trans (f _ _ _)⟩
end
theorem TT{w:Wd}{br bn bf base:Nat}{file:g4}{fx fy va vn:Va}{σ:US}(a:UI w br bn bf base file fx fy σ va vn)(j:D σ.notes+1<=1000000)(n e:Int)(t:g4):
 Ca prog 83 #[I M n,I M e,Y t,K bn,K bf] w λg w'=>g=X (Tp #[])/\∃v',UI w' br bn bf base file fx fy {σ with notes:=σ.notes++[⟨file,n,e,t⟩]} va v'/\MV (uO br bn va vn) w (uO br bn va v') w':=by
 have q:=a.n.cell 0;have r:=a.f.cell 0;have H:=a6 a;have b:=a.h ((a9.refl w).alloc (U #[Y file,I M n,I M e,Y t] 49));have l:=b.hb;have k:=b.m;have f:=a6 b;clear a b;go_in;go_wp2_with(at_builtin;refine h8 rfl (Tm 8) (Tm 15) 38 49 rfl P0 base _ σ.notes rfl k _ 1 1 [⟨file,n,e,t⟩] rfl rfl (cF i3 rfl) j l ?_;intro z A c x i h;obtain⟨m,o,d⟩:=f.mvN i c h;have u:=d.cell 0;have v:=d.frozen 0;obtain⟨p,y,s,rfl⟩:=c.f);go_end0;exact⟨rfl,_,m,(MV.f ((a9.refl w).alloc _)).trans o⟩
end
structure Sy where
 code:Int
 k:Int
 th:Int
 el:Int
 deriving DecidableEq
def Sy.cells(i:Sy):Array Va:= #[I U1 i.code,I V i.k,I M i.th,I M i.el]
def Sy.val(i:Sy):Va:=Ag i.cells
def KK(x:Int):Prop:= -9223372036854775808<=x/\x<9223372036854775808
def Sy.ok(i:Sy):Prop:=(0<=i.code/\i.code<65536)/\(0<=i.k/\i.k<4294967296)/\KK i.th/\KK i.el
def sc(a:List Sy):List Va:=a.flatMap λi=>i.cells.toList
def i0:Sy:=⟨0,0,0,0⟩
theorem Q6(i:Sy)(a:List Sy):sc (i::a)=i.cells.toList++sc a:=rfl
theorem LV(a b:List Sy):sc (a++b)=sc a++sc b:=by simp[sc]
theorem M8:∀a:List Sy,D (sc a)=4*D a
 |[]=>rfl
 |i::a=>by rw[Q6,g1,M8 a];simp[Sy.cells];omega
theorem SE:∀b:List Sy,∀u∈sc b,u.oneCell'=Bt:=λb u c=>by obtain⟨i,_,a⟩:=List.mem_flatMap.1 c;simp only[Sy.cells,List.mem_cons,List.not_mem_nil,or_false]at a;rcases a with rfl|rfl|rfl|rfl<;>rfl
theorem zE:∀(a:List Sy)(k r:Nat)(b:k<D a),r<4->(sc a)[k*4+r]? =a[k].cells.toList[r]?
 |i::a,0,r,_,hr=>by rw[Q6,List.getElem?_append_left (by simp[Sy.cells];omega)];simp
 |i::a,k+1,r,b,hr=>by
  have c:k<D a:=by simpa using b
  rw[Q6,List.getElem?_append_right (by simp[Sy.cells];omega)];have e:(k+1)*4+r-D i.cells.toList=k*4+r:=by simp[Sy.cells];omega
  rw[e,zE a k r c hr];simp
theorem G7{w:Wd}{b c:Nat}{a:List Sy}(d:i5 w (So ⟨b,c,J⟩) (sc a)){k:Nat}(e:k<D a):
 w.cell? ⟨b,c+k*4,J⟩=So (I U1 a[k].code)/\w.cell? ⟨b,c+k*4+1,J⟩=So (I V a[k].k)/\w.cell? ⟨b,c+k*4+2,J⟩=So (I M a[k].th)/\w.cell? ⟨b,c+k*4+3,J⟩=So (I M a[k].el):=by
 refine⟨d.cell (k:=k*4) ?_,d.cell (k:=k*4+1) ?_,d.cell (k:=k*4+2) ?_,d.cell (k:=k*4+3) ?_⟩;exact zE a k 0 e a8;exact zE a k 1 e a8;exact zE a k 2 e a8;exact zE a k 3 e a8
theorem oP{w:Wd}{a:p1}{c:List Sy}(d:i5 w a (sc c))(f:0<D c):∃b e,a=So ⟨b,e,J⟩/\b<w.heap.size:=d.some_ (by rw[M8];omega)
def a2L(c:Int):Bool:=c==21||c==37||c==53||c==69
def a4C(s:Sy):Bool:=s.th==0&&s.el==0
def P6(a b n:Int):Bool:=Dc (a<n)&&Dc (n<b)
def Z8(s:Sy)(a b:Int):Bool:=
 if s.code==32 then a4C s&&(s.k % 4==0&&Dc (s.k<64))
 else if s.code==84||s.code==6 then a4C s
 else if s.code==5 then(s.k==0&&s.el==0)&&P6 a b s.th
 else a2L s.code&&P6 a b s.th&&P6 a b s.el
def eS(a:List Sy):Bool:=Dc (1<=D a)&&Dc (D a<=131072)&&(a.getD (D a-1) i0).code==6&&(m9 (D a)).all λi=>Z8 (a.getD i i0) i (D a)
def bX(s:Sy):Bool:=s.code==5||a2L s.code
def dF(s:Sy)(k i:Nat):Bool:=(!bX s&& !(s.code==6)&&Dc (i=k+1))||(bX s&&s.th==(i:Int))||(a2L s.code&&s.el==(i:Int))
def dX(a:List Sy)(l:List Bool)(k:Nat):List Bool:=
 if !l.getD k Bf||(a.getD k i0).code==6 then l
 else if !bX (a.getD k i0)then l.set (k+1) Bt
 else if a2L (a.getD k i0).code then(l.set (a.getD k i0).th.toNat Bt).set (a.getD k i0).el.toNat Bt
 else l.set (a.getD k i0).th.toNat Bt
def F1(a:List Sy)(k:Nat):List Bool:=(m9 k).foldl (dX a) ((p4 (D a) Bf).set 0 Bt)
theorem bO(a:List Sy)(k:Nat):F1 a (k+1)=dX a (F1 a k) k:=by simp[F1,List.range_succ,List.foldl_append]
def eA(a:List Sy):List Bool:=F1 a (D a)
def r5(a:List Sy)(i:Nat):Bool:=(F1 a i).getD i Bf
theorem xV(a:List Sy)(l:List Bool)(k:Nat):D (dX a l k)=D l:=by unfold dX;(repeat' split)<;>simp
theorem L4(a:List Sy):∀k,D (F1 a k)=D a
 |0=>by simp[F1]
 |k+1=>by rw[bO,xV,L4 a k]
theorem uF(l:List Bool)(i j:Nat)(a:Bool):(l.set i a).getD j Bf=if i=j/\j<D l then a else l.getD j Bf:=by simp only[b9,List.getElem?_set];by_cases b:i=j;subst b;by_cases c:i<D l;simp[c];simp[c];simp[b]
structure C5(ps:List Sy):Prop where
 l1:1<=D ps
 l2:D ps<=131072
 last:(ps.getD (D ps-1) i0).code=6
 one:∀i,i<D ps->Z8 (ps.getD i i0) i (D ps)=Bt
theorem iH{b:List Sy}(a:eS b=Bt):C5 b:=by unfold eS at a;simp only[j3,decide_eq_true_eq,List.all_eq_true,List.mem_range,beq_iff_eq]at a;exact⟨a.1.1.1,a.1.1.2,a.1.2,a.2⟩
inductive N9(s:Sy)(a n:Int):Prop where
 |ld (h:s.code=32) (t:s.th=0) (e:s.el=0) (k:s.k % 4=0/\s.k<64):N9 s a n
 |an (h:s.code=84) (t:s.th=0) (e:s.el=0):N9 s a n
 |re (h:s.code=6) (t:s.th=0) (e:s.el=0):N9 s a n
 |ja (h:s.code=5) (k:s.k=0) (e:s.el=0) (t:a<s.th/\s.th<n):N9 s a n
 |as (h:s.code=21\/s.code=37\/s.code=53\/s.code=69) (t:a<s.th/\s.th<n) (e:a<s.el/\s.el<n):N9 s a n
theorem E3{s:Sy}{a n:Int}(b:Z8 s a n=Bt):N9 s a n:=by unfold Z8 a4C P6 a2L at b;by_cases c:s.code=32;simp[c]at b;exact .ld c b.1.1 b.1.2 ⟨b.2.1,b.2.2⟩;by_cases d:s.code=84;simp[d]at b;exact .an d b.1 b.2;by_cases e:s.code=6;simp[e]at b;exact .re e b.1 b.2;by_cases f:s.code=5;simp[f]at b;exact .ja f b.1.1 b.1.2 b.2;simp[c,d,e,f]at b;exact .as (by have:=b.1.1;omega) b.1.2 b.2
theorem a4D(l:List Bool)(i j:Nat)(a:j<D l):(l.set i Bt).getD j Bf=(l.getD j Bf||decide (i=j)):=by rw[uF];by_cases e:i=j<;>simp[e,a]
theorem gA(t j:Nat):((t:Int)==(j:Int))=Dc (t=j):=by by_cases e:t=j;simp[e];have:¬((t:Int)=j):=a8;simp[e,this]
theorem b1(d x y:Bool):(Bt&&Bt&&d||false&&x||false&&y)=d:=by cases d<;>rfl
theorem b2(d x y:Bool):(Bf&&Bt&&d||true&&x||false&&y)=x:=by cases d<;>cases x<;>rfl
theorem b3(d x y:Bool):(Bf&&Bt&&d||true&&x||true&&y)=(x||y):=by cases d<;>cases x<;>cases y<;>rfl
theorem b4(d x y:Bool):(Bt&&Bf&&d||false&&x||false&&y)=Bf:=by cases d<;>rfl
theorem kC{s:Sy}{a n:Int}(c:N9 s a n)(k i:Nat):dF s k i=if s.code=6 then Bf else if s.code=32\/s.code=84 then Dc (i=k+1)else if s.code=5 then s.th==(i:Int)else(s.th==(i:Int)||s.el==(i:Int)):=by
 unfold dF bX a2L;rcases c with⟨b,_,_,_⟩|⟨b,_,_⟩|⟨b,_,_⟩|⟨b,_,_,_⟩|⟨b,_,_⟩
 rw[b];exact b1 _ _ _;rw[b];exact b1 _ _ _;rw[b];exact b4 _ _ _;rw[b];exact b2 _ _ _;rcases b with b|b|b|b<;>rw[b]<;>exact b3 _ _ _
theorem rG{s:Sy}{a n:Int}(d:N9 s a n)(c:List Sy)(l:List Bool)(k:Nat)(f:c.getD k i0=s)(e:l.getD k Bf=Bt):
 dX c l k=if s.code=6 then l else if s.code=32\/s.code=84 then l.set (k+1) Bt else if s.code=5 then l.set s.th.toNat Bt else(l.set s.th.toNat Bt).set s.el.toNat Bt:=by
 unfold dX bX a2L;rw[f,e];rcases d with⟨b,_,_,_⟩|⟨b,_,_⟩|⟨b,_,_⟩|⟨b,_,_,_⟩|⟨b,_,_⟩
 rw[b];rfl;rw[b];rfl;rw[b];rfl;rw[b];rfl;rcases b with b|b|b|b<;>rw[b]<;>rfl
theorem pU{e:List Sy}(h:C5 e)(k i:Nat)(g:k<D e)(a:dF (e.getD k i0) k i=Bt):k<i:=by
 have f:=E3 (h.one k g);rw[kC f]at a;generalize e.getD k i0=s at*;rcases f with⟨b,c,d,_⟩|⟨b,c,d⟩|⟨b,c,d⟩|⟨b,_,d,c⟩|⟨b,c,d⟩
 rw[if_neg a8,if_pos a8]at a;have:=of_decide_eq_true a;omega;rw[if_neg a8,if_pos a8]at a;have:=of_decide_eq_true a;omega;rw[if_pos b]at a;cases a;rw[if_neg a8,if_neg a8,if_pos b]at a;have:=eq_of_beq a;omega;rw[if_neg a8,if_neg a8,if_neg a8]at a;rcases Bool.or_eq_true _ _▸a with a|a
 have:=eq_of_beq a;omega;have:=eq_of_beq a;omega
theorem uZ{a:List Sy}(m:C5 a)(l:List Bool)(p:D l=D a)(k j:Nat)(i:k<D a)(o:j<D a):
 (dX a l k).getD j Bf=(l.getD j Bf||(l.getD k Bf&&dF (a.getD k i0) k j)):=by
 have f:=E3 (m.one k i);have c:j<D l:=a8;rcases h:l.getD k Bf with _|_
 have:dX a l k=l:=by unfold dX;rw[h];rfl
 rw[this];simp;rw[kC f,rG f a l k rfl h];generalize a.getD k i0=s at*;rcases f with⟨b,d,e,_⟩|⟨b,d,e⟩|⟨b,d,e⟩|⟨b,_,e,d⟩|⟨b,d,e⟩
 rw[if_neg a8,if_pos a8,if_neg a8,if_pos a8,a4D l _ j c,Bool.true_and,show Dc (k+1=j)=Dc (j=k+1)from by rw[decide_eq_decide];omega];rw[if_neg a8,if_pos a8,if_neg a8,if_pos a8,a4D l _ j c,Bool.true_and,show Dc (k+1=j)=Dc (j=k+1)from by rw[decide_eq_decide];omega];rw[if_pos b,if_pos b,Bool.true_and,Bool.or_false];obtain⟨t,g⟩:∃t:Nat,s.th=t:=⟨s.th.toNat,a8⟩;rw[if_neg a8,if_neg a8,if_pos b,if_neg a8,if_neg a8,if_pos b,Bool.true_and,g,Int.toNat_natCast,gA,a4D l _ j c];obtain⟨t,g⟩:∃t:Nat,s.th=t:=⟨s.th.toNat,a8⟩;obtain⟨u,n⟩:∃u:Nat,s.el=u:=⟨s.el.toNat,a8⟩;rw[if_neg a8,if_neg a8,if_neg a8,if_neg a8,if_neg a8,if_neg a8,Bool.true_and,g,n,Int.toNat_natCast,Int.toNat_natCast,gA,gA,a4D _ _ j (by rw[List.length_set];exact c),a4D l _ j c,Bool.or_assoc]
theorem kV{a:List Sy}(d:C5 a)(j:Nat)(c:j<D a):∀i,i<=D a->(F1 a i).getD j Bf=(Dc (j=0)||(m9 i).any λk=>r5 a k&&dF (a.getD k i0) k j)
 |0,_=>by
  simp only[F1,List.range_zero,List.foldl_nil,List.any_nil,Bool.or_false];rw[uF];by_cases b:0=j;simp[<-b];omega;have:¬j=0:=λe=>b e.symm
  simp[b,this,b9,c]
 |i+1,b=>by rw[bO,uZ d _ (L4 a i) i j a8 c,kV d j c i a8,List.range_succ,List.any_append];simp[r5,Bool.or_assoc]
theorem jA{b:List Sy}(c:C5 b)(j:Nat)(d:j<D b):∀a,j+a<=D b->(F1 b (j+a)).getD j Bf=r5 b j
 |0,_=>rfl
 |a+1,h=>by rw[<-Nat.add_assoc,bO,uZ c _ (L4 b _) (j+a) j a8 d,jA c j d a a8];cases e:dF (b.getD (j+a) i0) (j+a) j;simp;have:=pU c (j+a) j a8 e;omega
theorem HH{a:List Sy}(g:C5 a):eA a=(m9 (D a)).map (r5 a):=by
 have f:D (eA a)=D a:=L4 a _;refine List.ext_getElem (by rw[f];simp) λj c h=> ?_
 have d:j<D a:=a8;have b:=jA g j d (D a-j) a8;rw[(a8:j+(D a-j)=D a)]at b;have e:(eA a)[j]=(eA a).getD j Bf:=by rw[b9,e9 c];rfl
 rw[e];simp only[List.getElem_map,List.getElem_range];exact b
theorem BF:(prog.info? 417).map (λi=>(i.zero,i.size,i.bytes))=So (So (Ag #[I U1 0,I V 0,I M 0,I M 0]),4,24):=g6
theorem V2(c:Int)(W:Wd):Ca prog 438 #[I U1 c] W λe i=>e=X (O (a2L c))/\W=i:=by
 obtain⟨R,f⟩:∃R,a2L c=R:=⟨_,rfl⟩;rw[f];have a:=a6 f;clear f;rcases b:(c==21)with _|_
 ·rcases d:(c==37)with _|_
  ·rcases g:(c==53)with _|_
   ·rcases h:(c==69)with _|_
    all_goals go_in;go_wp2;go_ret;exact⟨by rw[<-a.O];unfold a2L;rw[b,d,g,h];rfl,rfl⟩
   go_in;go_wp2;go_ret;exact⟨by rw[<-a.O];unfold a2L;rw[b,d,g];rfl,rfl⟩
  go_in;go_wp2;go_ret;exact⟨by rw[<-a.O];unfold a2L;rw[b,d];rfl,rfl⟩
 go_in;go_wp2;go_ret;exact⟨by rw[<-a.O];unfold a2L;rw[b];rfl,rfl⟩
theorem N8(x a z:Int)(d f:Nat)(W:Wd)(h:e7 W d 3 #[I M a])(i:e7 W f 3 #[I M z]):
 Ca prog 437 #[I M x,K d,K f] W λe k=>e=X (O (P6 a z x))/\W=k:=by
 obtain⟨R,b⟩:∃R,P6 a z x=R:=⟨_,rfl⟩;rw[b];have c:=a6 b;clear b;have l:=h.cell 0;have m:=i.cell 0;rcases g:Dc (a<x)with _|_
 ·go_in;go_wp2;go_ret;exact⟨by rw[<-c.O];unfold P6;rw[g];rfl,rfl⟩
 rcases j:Dc (x<z)with _|_
 all_goals go_in;go_wp2;go_ret;exact⟨by rw[<-c.O];unfold P6;rw[g,j];rfl,rfl⟩
theorem a4l:(⟨0,0,0,0,0,0,0,0,0⟩:mY).ok:=⟨by unfold QA;decide,by unfold QA;decide,by unfold kY;decide,by unfold kY;decide,by unfold kY;decide,by unfold kY;decide,by unfold kY;decide,by unfold kY;decide,by unfold kY;decide⟩
theorem vE(k:Int):(I4 k==0)=(k % 4==0&&Dc (k<64)):=by unfold I4 I6;by_cases a:k % 4=0;by_cases b:k<64;simp[a,b];simp[a,b];simp[a]
theorem a0X(s:Sy)(u:s.ok)(a z:Int)(W:Wd):
 Ca prog 394 #[s.val,I M a,I M z] W λe y=>e=X (O (Z8 s a z))/\a9 W y:=by
 obtain⟨R,q⟩:∃R,Z8 s a z=R:=⟨_,rfl⟩;rw[q];have f:=a6 q;clear q;have j:0<=s.k/\s.k<4294967296:=u.2.1;obtain⟨co,k,th,el⟩:=s;unfold Sy.val Sy.cells;dsimp only at*;have b:=(((a9.refl W).alloc (U #[I U1 co,I V k,I M th,I M el] 417)).alloc (U #[I M a] 3)).alloc (U #[I M z] 3);have B:=((e7.new W 417 #[I U1 co,I V k,I M th,I M el]).alloc (U #[I M a] 3)).alloc (U #[I M z] 3);have A:e7 (((W.alloc (U #[I U1 co,I V k,I M th,I M el] 417)).alloc (U #[I M a] 3)).alloc (U #[I M z] 3)) (W+1) 3 #[I M a]:=(e7.b i3).alloc _;have C:e7 (((W.alloc (U #[I U1 co,I V k,I M th,I M el] 417)).alloc (U #[I M a] 3)).alloc (U #[I M z] 3)) (W+1+1) 3 #[I M z]:=e7.b i3;have t:=a6 (λW'=>yJ ⟨0,0,0,0,0,0,0,0,0⟩ a4l k W' j.1 j.2);have m:=vE k;clear u j;have d:=a9.refl W;rcases r:(th==0)with _|_<;>rcases o:(el==0)with _|_
 all_goals
  rcases g:(co==32)with _|_
  ·clear t m;rcases h:(co==84)with _|_
   ·rcases i:(co==6)with _|_
    ·rcases l:(co==5)with _|_
     ·rcases p:a2L co with _|_
      ·go_in;go_wp2_with(first
        |(go_at_call 437;apply(N8 _ a z _ _ _ DF DF).mono;rintro e c⟨rfl,rfl⟩)
        |(go_at_call 438;apply(V2 _ _).mono;rintro e c⟨rfl,rfl⟩))
       go_ret;exact⟨by rw[<-f.O];simp[Z8,a4C,g,h,i,l,p],by first|exact b|exact b.trans d⟩
      rcases n:P6 a z th with _|_
      ·go_in;go_wp2_with(first
        |(go_at_call 437;apply(N8 _ a z _ _ _ DF DF).mono;rintro e c⟨rfl,rfl⟩)
        |(go_at_call 438;apply(V2 _ _).mono;rintro e c⟨rfl,rfl⟩))
       go_ret;exact⟨by rw[<-f.O];simp[Z8,a4C,g,h,i,l,p,n],by first|exact b|exact b.trans d⟩
      rcases w:P6 a z el with _|_
      all_goals
       go_in;go_wp2_with(first
        |(go_at_call 437;apply(N8 _ a z _ _ _ DF DF).mono;rintro e c⟨rfl,rfl⟩)
        |(go_at_call 438;apply(V2 _ _).mono;rintro e c⟨rfl,rfl⟩))
       go_ret;exact⟨by rw[<-f.O];simp[Z8,a4C,g,h,i,l,p,n,w],by first|exact b|exact b.trans d⟩
     rcases j:(k==0)with _|_
     ·go_in;go_wp2_with(first
       |(go_at_call 437;apply(N8 _ a z _ _ _ DF DF).mono;rintro e c⟨rfl,rfl⟩)
       |(go_at_call 438;apply(V2 _ _).mono;rintro e c⟨rfl,rfl⟩))
      go_ret;exact⟨by rw[<-f.O];simp[Z8,a4C,g,h,i,l,j],by first|exact b|exact b.trans d⟩
     rcases n:P6 a z th with _|_
     all_goals
      go_in;go_wp2_with(first
       |(go_at_call 437;apply(N8 _ a z _ _ _ DF DF).mono;rintro e c⟨rfl,rfl⟩)
       |(go_at_call 438;apply(V2 _ _).mono;rintro e c⟨rfl,rfl⟩))
      go_ret;exact⟨by rw[<-f.O];simp[Z8,a4C,g,h,i,l,j,o,n],by first|exact b|exact b.trans d⟩
    go_in;go_wp2_with(first
     |(go_at_call 437;apply(N8 _ a z _ _ _ DF DF).mono;rintro e c⟨rfl,rfl⟩)
     |(go_at_call 438;apply(V2 _ _).mono;rintro e c⟨rfl,rfl⟩))
    go_ret;exact⟨by rw[<-f.O];simp[Z8,a4C,g,h,i,r,o],by first|exact b|exact b.trans d⟩
   go_in;go_wp2_with(first
    |(go_at_call 437;apply(N8 _ a z _ _ _ DF DF).mono;rintro e c⟨rfl,rfl⟩)
    |(go_at_call 438;apply(V2 _ _).mono;rintro e c⟨rfl,rfl⟩))
   go_ret;exact⟨by rw[<-f.O];simp[Z8,a4C,g,h,r,o],by first|exact b|exact b.trans d⟩
  rcases x:(I4 k==0)with _|_
  all_goals rw[x]at m;have v:=a6 m;clear m;go_in;go_wp2_with(go_at_call 191;refine l4 (t _) λc d=>?_);go_ret;exact⟨by rw[<-f.O];unfold Z8 a4C;rw[<-v.O];simp[g,r,o],by first|exact b|exact b.trans d⟩
theorem nP(a:List Sy)(b:D a=0\/131072<D a\/(a.getD (D a-1) i0).code≠6\/∃k,k<D a/\Z8 (a.getD k i0) k (D a)=Bf):eS a=Bf:=by
 cases e:eS a;rfl;exfalso;have:=iH e;rcases b with b|b|b|⟨k,d,b⟩
 have:=this.l1;omega;have:=this.l2;omega;exact b this.last;have c:=this.one k d;rw[b]at c;cases c
theorem VD(a:List Sy)(b:1<=D a)(c:D a<=131072)(d:(a.getD (D a-1) i0).code=6)(e:∀k,k<D a->Z8 (a.getD k i0) k (D a)=Bt):eS a=Bt:=by unfold eS;rw[j3,j3,j3];exact⟨⟨⟨decide_eq_true b,decide_eq_true c⟩,by rw[d];rfl⟩,List.all_eq_true.2 λk f=>e k (List.mem_range.1 f)⟩
theorem nX{a:List Sy}{k:Nat}(b:k<D a):a.getD k i0=a[k]:=by rw[b9,e9 b];rfl
theorem KC(x:p1)(n c:Nat)(a:List Sy)(w:Wd)(Q:D a=n)(P:∀i∈a,i.ok)(ar:n<=maxLen)(E:i5 w x (sc a)):
 Ca prog 316 #[Z x n c] w λe al=>e=X (O (eS a))/\a9 w al:=by
 obtain⟨R,p⟩:∃R,eS a=R:=⟨_,rfl⟩;rw[p];have d:=a6 p;clear p;obtain⟨g,b,ac⟩:=r6 E Q P;clear E Q P;by_cases C:n=0;·subst C;go_wp2;go_ret;exact⟨by rw[<-d.O,nP a (.inl b.O)];try rfl,a9.refl _⟩
 by_cases H:131072<n
 ·have am:Dc ((n:Int)<1)=Bf:=by simp;omega
  have an:Dc ((131072:Int)<n)=Bt:=by simp;omega
  go_wp2;go_ret;exact⟨by rw[<-d.O,nP a (.inr (.inl (by rw[b.O];exact H)))];try rfl,a9.refl _⟩
 obtain⟨m,rfl⟩:∃m,n=m+1:=⟨n-1,a8⟩;have t:m<D a:=by rw[b.O];omega
 obtain⟨ao,aw,rfl,_⟩:=oP g a8;obtain⟨f,_,_,_⟩:=G7 g t;have am:Dc (((m:Int)+1)<1)=Bf:=by simp;omega
 have an:Dc ((131072:Int)<(m:Int)+1)=Bf:=by simp;omega
 have aq:(((m+1:Nat)):Int)=(m:Int)+1:=a8;have av:(m:Int)<=131071:=a8;have au:(0:Int)<=m:=a8;have ax:IntKind.i64.wrap ((m:Int)+1-1)=m:=by rw[(a8:(m:Int)+1-1=m)];exact h7 _ a8
 have N:a.getD (D a-1) i0=a[m]:=by rw[b.O,Nat.add_sub_cancel];exact nX t
 have B:=a6 N;clear N C H;rcases q:(a[m].code !=6)with _|_
 ·have o:a[m].code=6:=by simpa using q
  have y:=a6 o;rw[o]at f;clear q o;clear f;obtain⟨f,_,_,_⟩:=G7 g t;rw[y.O]at f;go_in;go_wp2_with fail;clear f;go_loopw [25] (λv W=>∃k:Nat,k<=m+1/\v=I M k/\(∀j,j<k->Z8 (a.getD j i0) j ((m:Int)+1)=Bt)/\a9 w W) (λv _=>(m+1)-(intOf v).toNat);exact⟨0,c6 _,rfl,(λj ae=>a8),a9.refl _⟩;obtain⟨k,r,rfl,F,u⟩:=hrel;have z:=a6 F;clear F;by_cases af:k<m+1
  ·have h:k<D a:=by rw[b.O];exact af
   obtain⟨ah,ai,aj,ak⟩:=G7 (g.h u) h;obtain⟨ad,A⟩:=j0 (ac _ (g3 h)) (nX h);have k1:(0:Int)<=k:=a8;have k2:(k:Int)<(m:Int)+1:=a8;have k3:(k:Int)<=131071:=a8;generalize a[k]=s at*;obtain⟨co,kk,th,el⟩:=s;dsimp only at ah ai aj ak;have T:=a6 (λW'=>a0X ⟨co,kk,th,el⟩ ad k ((m:Int)+1) W');go_wp2_with fail;refine l4 (T _) λay ag=>?_;have S:=(u.alloc _).trans ag;rcases G:Z8 ⟨co,kk,th,el⟩ k ((m:Int)+1)with _|_
   ·have l:=a6 G;go_wp2;go_ret;exact⟨by rw[<-d.O,nP a (.inr (.inr (.inr ⟨k,h,by rw[A.O,b.O];exact l.O⟩)))];try rfl,S⟩
   have l:=a6 G;go_wp2;go_roundw;refine⟨k+1,a8,o3,λj ae=> ?_,S⟩;by_cases e:j=k;subst e;rw[A.O];exact l.O;exact z j a8;simp[intOf];omega
  obtain rfl:k=m+1:=a8;go_wp2;go_ret;exact⟨by rw[<-d.O,VD a (by rw[b.O];omega) (by rw[b.O];omega) (by rw[B.O];exact y.O) (λk r=>by rw[b.O]at r⊢;exact z k r)];try rfl,u⟩
 have aa:=a6 q;generalize L:a[m].code=ap at*;have ab:=a6 L;clear L;go_wp2;go_ret;exact⟨by rw[<-d.O,nP a (.inr (.inr (.inl (by rw[B.O,ab.O];have:=aa.O;simpa using this))))];try rfl,a9.refl _⟩
end Go.Proofs.YtcljlejgllkcjaaGreat
