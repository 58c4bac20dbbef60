/- A part of the proof of TopFront: lemmas on the walks of its calls. -/
import Derived.Test.YtcljlejgllkcjaaGreatM21
set_option maxHeartbeats 12000000
set_option linter.all false
set_option maxRecDepth 100000
namespace Go.Proofs.YtcljlejgllkcjaaGreat
open Go.RowKit Go.ChangeShapes Go.WideShapes Tryz
open Bool renaming and_eq_true→j3,true→Bt,false→Bf
open Decidable renaming decide→Dc
open Ending renaming returned→X
open Go renaming World→Wd,Value→Va,Calls→Ca,callsIn_wide→Cw,undef→Un,bodyPost_ret→Bp,TypeId→Ti,results_none→Rz,callsIn_of_wp→Co,CallsIn→Ci,rounds_succ→Rs
open Go.Proofs renaming enters_of→Eo
open IntKind renaming i64→M,u32→V,u64→U6,u16→U1,u8→U8
open IntWalk renaming i64_in→h7
open List renaming getElem_mem→g3,take_succ_eq_append_getElem→g2,length_take→m4,length→D
open Nat renaming le_refl→a7,le_trans→b6,zero_le→c6
open Obj renaming cells→U
open Operand renaming tmp→Tm
open Option renaming none→J,some→So
open Value renaming int→I,slice→Z,string→Y,pointer→K,bool→O,func→Fc,tuple→Tp,agg→Ag,nilFunc→Nf
section
attribute [local go_sem] Oper.semAt_some
structure GC(g base:Nat)(ag:List m8)(W W':Wd):Prop where
 gr:W.grownBy W' (So g)
 ce:∀cs,e7 W g 60 cs->∃cs',e7 W' g 60 cs'/\(cs'=cs\/∃v,cs'=cs.setIfInBounds 20 v/\c7 W' base 89 z8 v ag)
section
variable {g base:Nat} {ag:List m8} {W W':Wd}
theorem GC.h(h:W.grownBy W' J):GC g base ag W W':=⟨y7 h _,λcs k=>⟨cs,k.grown h i3,.inl rfl⟩⟩
theorem GC.f(h:a9 W W'):GC g base ag W W':= .h (j4 h J)
instance (g base:Nat)(ag:List m8):L6 (GC g base ag) where
 refl W:= .h ⟨rfl,rfl,rfl,a7 _,λ_ _ _=>rfl⟩
 trans a b c h k:=⟨h.gr.trans k.gr,λcs q=>by
  obtain⟨n,j,d⟩:=h.ce cs q;obtain⟨o,p,e⟩:=k.ce n j;refine⟨o,p,?_⟩;rcases e with e|⟨m,e,i⟩
  ·rcases d with d|⟨l,d,f⟩
   ·exact .inl (e.trans d)
   ·exact .inr ⟨l,e.trans d,f.kept k.gr (.inr (f.ne j e6))⟩
  ·rcases d with d|⟨l,d,f⟩
   ·exact .inr ⟨m,by rw[e,d],i⟩
   ·exact .inr ⟨m,by rw[e,d];simp,i⟩⟩
 drew W:= .h (E4 W)
def a5i:VR (GC g base ag):=⟨λ_ c=>∃cs v,e7 c g 60 cs/\20<cs.size/\cs[20]? =So v/\c7 c base 89 z8 v ag,λ_ W W'⟨cs,v,q,b,h,e⟩ k=>by
 obtain⟨d,f,a⟩:=k.ce cs q;rcases a with a|⟨j,a,i⟩
 exact⟨d,v,f,by rw[a];exact b,by rw[a];exact h,e.kept k.gr (.inr (e.ne q e6))⟩;exact⟨d,j,f,by rw[a];simpa using b,by rw[a];simp[b],i⟩⟩
theorem GC.set{cs:Array Va}{v:Va}(q:e7 W g 60 cs)(a:c7 W base 89 z8 v ag):GC g base ag W (W.setCell ⟨g,20,J⟩ v):=⟨c8 _ _ _ v,λc b=>by refine⟨_,b.f 20 v,.inr ⟨v,rfl,a.kept (c8 _ g 20 v) (.inr (a.ne q e6))⟩⟩⟩
def rY{c:Type}(e:Ti)(d:e≠60)(E:s7 c)(xs:List c):VR (GC g base ag):=⟨λv a=>(∃cs,e7 a g 60 cs)/\c7 a base e E v xs,λ_ W W'⟨⟨cs,q⟩,b⟩ k=>⟨let⟨c2,q2,_⟩:=k.ce cs q;⟨c2,q2⟩,b.kept k.gr (.inr (b.ne q d))⟩⟩
def sB(h:List i6):VR (GC g base ag):=⟨λx c=>∃a b,x=Tp #[a,b]/\(∃cs,e7 c g 60 cs)/\c7 c base 89 z8 a ag/\c7 c base 49 h9 b h,λ_ W W'⟨a,b,f,⟨cs,q⟩,d,e⟩ k=>⟨a,b,f,let⟨c2,q2,_⟩:=k.ce cs q;⟨c2,q2⟩,d.kept k.gr (.inr (d.ne q e6)),e.kept k.gr (.inr (e.ne q e6))⟩⟩
end
theorem GC.mkr{g base:Nat}{ag:List m8}{W b:Wd}{p:j2}{d h i j l k:Va}{u:s8}{f:Va}{c:Bool}{e:Va}(m:GC g base ag W b)(n:e7 W g 60 (bE p d h i j l k u f c e)):∃v,e7 b g 60 (bE p d h i j l k u f c v):=by obtain⟨cs,q,a|⟨v,a,_⟩⟩:=m.ce _ n;exact⟨e,by rw[<-a];exact q⟩;exact⟨v,by rw[a]at q;exact q⟩
theorem a0v{g base:Nat}{ag:List m8}{b:Wd}{p:j2}{f i j k m l:Va}{u:s8}{h:Va}{d:Bool}{v:Va}(a:e7 b g 60 (bE p f i j k m l u h d v)){x:Va}(n:(a5i (g:=g) (base:=base) (ag:=ag)).p x b):c7 b base 89 z8 v ag:=by
 obtain⟨cs,r,q,_,c,o⟩:=n;have e:cs=bE p f i j k m l u h d v:=by
  unfold e7 at q a;rw[q]at a;injection a with a
  injection a with a
 rw[e]at c;have:v=r:=by injection c
 rw[this];exact o
theorem SR(g:Nat)(p:j2)(T aa ab ac ad ba:Va)(u:PF)(h:p1)(c:Nat)(ds:List PF)(S:Bool)(bs:Va)(w:Wd)(H:e7 w g 60 (bE p T aa ab ac ad ba u.1 (Z h (D ds) c) S bs))
 (bh:D ds<=1000000) (bi:QD u) (ar:∀p∈ds,QD p) (au:∀a,w.grownBy a (So g)->i5 a h (q9.row (ds.map (·.1)))/\L8 a u/\∀p∈ds,L8 a p):
 Ca prog 15 #[K g] w λe F=>∃m o,e=X (O (Dc (D (l5 (j5 u) (ds.map j5)).2=0)))/\e7 F g 60 (bE p T aa ab ac ad o u.1 (Z h (D ds) c) S m)/\c7 F w 89 z8 m (l5 (j5 u) (ds.map j5)).1/\c7 F w 49 h9 o (l5 (j5 u) (ds.map j5)).2/\w.grownBy F (So g):=by
 have ae:=a6 (λa(be:i5 a h (q9.row (ds.map (·.1))))(bf:L8 a u)(bg:∀p∈ds,L8 a p)=>PB u h c ds a bh be bf bi (λp av=>⟨bg p av,ar p av⟩));generalize l5 (j5 u) (ds.map j5)=R at*;obtain⟨ag,d⟩:=R;dsimp only at*;obtain⟨k,G⟩:=j0 (λa(b:GC g w ag w a)=>b.mkr H) (λa(b:GC g w ag w a)=>au a b.gr);have ce:=H.lt;clear H ar au;unfold p7 at ae;go_in;go_wp2_with fail;refine wpIn_wide.1 (cB (R:=(GC g w ag)) (n:=1) ?_);repeat
  first
   |(apply D7;focus (intro x a b;simp only[g0,g5,uV];(repeat intro bc;try simp only[bc]);gi_wp2_with fail;exact dn rfl rfl (L6.refl _)))
   |(refine r7 (.is (Ag #[Y u.1.name,I M u.1.dir,Z u.1.A u.1.n u.1.c])) ?_ ?_
     ·intro x a b
      simp only[g0,g5,uV,sB,rY]
      intro s
      simp only[s]
      obtain⟨bq,l⟩:=k a b
      have bb:a.cell? ⟨g,15,J⟩=So (Y u.1.name):=l.cell 15
      have bv:a.cell? ⟨g,16,J⟩=So (I M u.1.dir):=l.cell 16
      have bz:a.cell? ⟨g,17,J⟩=So (Z u.1.A u.1.n u.1.c):=l.cell 17
      gi_wp2_with fail
      refine e8 ?_ rfl (L6.refl _)
      rfl)
   |(refine r7 (.is (Z h (D ds) c)) ?_ ?_
     ·intro x a b
      simp only[g0,g5,uV,sB,rY]
      intro y
      simp only[y]
      obtain⟨bq,l⟩:=k a b
      have bb:a.cell? ⟨g,18,J⟩=So (Z h (D ds) c):=l.cell 18
      gi_wp2_with fail
      refine e8 ?_ rfl (L6.refl _)
      rfl)
   |(refine r7 ((sB d)) ?_ ?_
     ·intro x a b
      simp only[g0,g5,uV,sB,rY]
      intro t z
      simp only[t,z]
      gi_wp2_with(refine⟨trivial,?_⟩;gi_at_call 29;apply((Cw (n:=0)).2 (ae a (G a b).1 (G a b).2.1 (G a b).2.2)).mono;rintro e cg⟨br,bt,rfl,bm,bo,aw⟩)
      refine e8 ?_ rfl (GC.f aw)
      exact⟨br,bt,rfl,(k a b).elim (λv q=>⟨_,q.h aw⟩),bm.mono b.gr.size,bo.mono b.gr.size⟩)
   |(refine r7 ((sB d)) ?_ ?_
     ·intro x a b
      simp only[g0,g5,uV,sB,rY]
      rintro ax
      gi_wp2_with fail
      refine e8 ?_ rfl (GC.f (a9.refl a))
      exact ax)
   |(refine r7 ((rY 89 e6 z8 ag)) ?_ ?_
     ·intro x a b
      simp only[g0,g5,uV,sB,rY]
      rintro⟨m,o,A,B,P,Q⟩
      rw[A]
      gi_wp2_with fail
      refine e8 ?_ rfl (GC.f (a9.refl a))
      exact⟨B,P⟩)
   |(refine r7 ((rY 49 e6 h9 d)) ?_ ?_
     ·intro x a b
      simp only[g0,g5,uV,sB,rY]
      rintro⟨m,o,A,B,P,Q⟩
      rw[A]
      gi_wp2_with fail
      refine e8 ?_ rfl (GC.f (a9.refl a))
      exact⟨B,Q⟩)
   |(refine r7 (a5i) ?_ ?_
     ·intro x a b
      simp only[g0,g5,uV,sB,rY]
      rintro r L
      simp only[r]
      obtain⟨E,f⟩:=k a b
      have ca:a.cell? ⟨g,20,J⟩=So E:=f.cell 20
      have cd:=f.frozen 20
      obtain⟨bu,cf,cb,bd⟩:=L.2.f
      have C:=L.2
      rw[bd]at C⊢
      gi_wp2_with fail
      refine e8 ?_ rfl (GC.set f C)
      exact⟨_,_,f.f 20 _,by simp[bE],rfl,C.kept (c8 _ g 20 _) (.inr (C.ne f e6))⟩)
 intro x a b;simp only[n9,g0,g5,uV,sB,rY];rintro af ah am an s t ao ap y z ax⟨m,o,A,B,P,Q⟩ L ay ai r bl aj ak al;simp only[af,ah,am,an,s,t,ao,ap,y,z,ai,r,aj,ak,al];clear af ah am an s t ao ap y z ai r aj ak al;obtain⟨E,f⟩:=k a b;have az:=a0v f bl;obtain⟨i,j,aq,_⟩:=ay.2.inM;have N:=ay.2;rw[aq]at N;have bw:a.cell? ⟨g,14,J⟩=So ba:=f.cell 14;have cc:=f.frozen 14;have b3:e7 (a.setCell ⟨g,14,J⟩ (Z i (D d) j)) g 60 (bE p T aa ab ac ad (Z i (D d) j) u.1 (Z h (D ds) c) S E):=f.f 14 _;have bx:(a.setCell ⟨g,14,J⟩ (Z i (D d) j)).cell? ⟨g,14,J⟩=So (Z i (D d) j):=b3.cell 14;have bj:=b.gr.trans (c8 a g 14 (Z i (D d) j));have bn:=az.kept (c8 _ g 14 (Z i (D d) j)) (.inr (az.ne f e6));have bp:=N.kept (c8 _ g 14 (Z i (D d) j)) (.inr (N.ne f e6));simp only[aq];gi_wp2_with fail;go_wp2;go_ret;have bk:((D d:Int)==0)=Dc (D d=0):=by rw[Bool.eq_iff_iff,beq_iff_eq,decide_eq_true_iff];omega
 refine⟨E,_,?_,b3,bn,bp,bj⟩;show X (O ((D d:Int)==0))=_;rw[bk]
end
def a4E(p:j2)(a b c d f e:Va):Array Va:=
 #[a,I U8 p.fm,b,I V p.dy,I U8 p.lm,c,d,I U8 p.am,I U6 p.sp,O p.we,O p.pe,O p.rt,O p.np,f,e]
theorem zJ(p:j2)(d f g h i:Va)(b:p1)(c:Nat)(a:List i6)(w:Wd)(o:D a<=1000000)(l:i5 w b (h9.row a)):
 Ca prog 8 #[Ag (a4E p d f g h i (Z b (D a) c))] w λe r=>e=X (O (!p8 a))/\a9 w r:=by
 have k:=λcs=>e7.new w 40 cs
 have j:=λcs=>(a9.refl w).alloc (U cs 40)
 have m:=a6 (jV b (D a) c a _ rfl o (l.h (j (a4E p d f g h i (Z b (D a) c)))));have s:(w.alloc (U (a4E p d f g h i (Z b (D a) c)) 40)).cell? ⟨w,14,J⟩=So (Z b (D a) c):=(k (a4E p d f g h i (Z b (D a) c))).cell 14;have n:=a6 (j (a4E p d f g h i (Z b (D a) c)));clear k j l;generalize p8 a=R at*;generalize a4E p d f g h i (Z b (D a) c)=cs at*;go_in;go_wp2_with fail;refine l4 m λt q=>?_;go_wp2;go_ret;exact⟨rfl,n.trans q⟩
def VP.stk(l:List Q5):VP:=⟨λv w=>eV w v l,λ_ _ _ h x=>h.h x⟩
def VP.tup(l:List Q5):VP:=⟨λt w=>∃v,t=Tp #[v,I M 0]/\eV w v l,λ_ _ _⟨v,a,b⟩ x=>⟨v,a,b.h x⟩⟩
theorem zK(g:Nat)(p:j2)(q r s t ab ao:Va)(u:s8)(an:Va)(h:Bool)(am:Va)(w:Wd)(S:e7 w g 60 (bE p q r s t ab ao u an h am))
 (ai:p.small) (ae:0<=p.fm/\0<=p.lm) (W:∀x∈p.ar,0<=x/\x<6) (ag:D p.ar<=6) (T:R7 w p q r s t) (ah:F0 p=Bt):
 Ca prog 17 #[K g] w λe ap=>e=X (O Bt)/\∃A v,a9 w A/\ap=A.setCell ⟨g,13,J⟩ v/\eV A v (bN h p):=by
 have B:=a6 (λa(b:a9 w a)=>yZ p q r s t h a ai ae W ag (T.h b) ah);unfold i7 at B;generalize bN h p=n at*;have d:=a6 S;clear S T W;go_in;go_wp2_with fail;refine gP ?_;repeat
  first
   |(apply D7;focus (intro x a b;simp only[g0,o7,uV];(repeat intro ac;try simp only[ac]);have au:a.cell? ⟨g,0,J⟩=So q:=(d.h b).cell 0;have av:a.cell? ⟨g,1,J⟩=So (I U8 p.fm):=(d.h b).cell 1;have ba:a.cell? ⟨g,2,J⟩=So r:=(d.h b).cell 2;have bb:a.cell? ⟨g,3,J⟩=So (I V p.dy):=(d.h b).cell 3;have bc:a.cell? ⟨g,4,J⟩=So (I U8 p.lm):=(d.h b).cell 4;have bd:a.cell? ⟨g,5,J⟩=So s:=(d.h b).cell 5;have be:a.cell? ⟨g,6,J⟩=So t:=(d.h b).cell 6;have bf:a.cell? ⟨g,7,J⟩=So (I U8 p.am):=(d.h b).cell 7;have bg:a.cell? ⟨g,8,J⟩=So (I U6 p.sp):=(d.h b).cell 8;have bh:a.cell? ⟨g,9,J⟩=So (O p.we):=(d.h b).cell 9;have aw:a.cell? ⟨g,10,J⟩=So (O p.pe):=(d.h b).cell 10;have ax:a.cell? ⟨g,11,J⟩=So (O p.rt):=(d.h b).cell 11;have ay:a.cell? ⟨g,12,J⟩=So (O p.np):=(d.h b).cell 12;have az:a.cell? ⟨g,19,J⟩=So (O h):=(d.h b).cell 19;go_wp2_with fail;exact dn rfl rfl (a9.refl _)))
   |(refine r7 (VP.tup n) ?_ ?_
     ·intro x a b
      simp only[g0,o7,uV,VP.stk,VP.tup]
      intro j k
      simp only[j,k]
      go_wp2_with(go_at_call 31;apply(B a b).mono;rintro e bi⟨o,rfl,i,al⟩)
      refine e8 ?_ rfl (al)
      exact⟨o,rfl,i⟩)
   |(refine r7 (VP.tup n) ?_ ?_
     ·intro x a b
      simp only[g0,o7,uV,VP.stk,VP.tup]
      rintro⟨o,l,i⟩
      simp only[l]
      go_wp2_with fail
      refine e8 ?_ rfl (a9.refl _)
      exact⟨o,rfl,i⟩)
   |(refine r7 (VP.stk n) ?_ ?_
     ·intro x a b
      simp only[g0,o7,uV,VP.stk,VP.tup]
      rintro⟨aa,f,m⟩
      simp only[f]
      go_wp2_with fail
      refine e8 ?_ rfl (a9.refl _)
      exact m)
   |(refine r7 (.is (I M 0)) ?_ ?_
     ·intro x a b
      simp only[g0,o7,uV,VP.stk,VP.tup]
      rintro⟨aa,f,m⟩
      simp only[f]
      go_wp2_with fail
      refine e8 ?_ rfl (a9.refl _)
      rfl)
   |(refine r7 (VP.stk n) ?_ ?_
     ·intro x a b
      simp only[g0,o7,uV,VP.stk,VP.tup]
      rintro y
      go_wp2_with fail
      refine e8 ?_ rfl (a9.refl _)
      exact y)
 intro x a b;simp only[n9,g0,o7,uV,VP.stk,VP.tup];rintro E F L N j P Q R k⟨o,l,i⟩⟨aa,f,m⟩ y G z H;simp only[E,F,L,N,j,P,Q,R,k,l,f,G,H];clear E F L N j P Q R k l f G H;obtain⟨xs,ak,aj,af⟩:=z.ex;obtain⟨aq,c,ad,-,-⟩:=ak;have k13:=(d.h b).frozen 13;have ar:a.cell? ⟨g,13,J⟩=So ab:=(d.h b).cell 13;have C:=a6 z;clear i m y z aj af;simp only[ad]at C⊢;go_wp2;go_ret;exact⟨rfl,a,_,b,rfl,C.O⟩
def YL(u:s8):i6:=⟨u.name,0,2,⟨#[]⟩⟩
theorem EO(g base:Nat)(p:j2)(l m o r S f:Va)(u:s8)(Q:Va)(t:Bool)(P:Va)(h:List i6)(w:Wd)(ba:e7 w g 60 (bE p l m o r S f u Q t P))
 (bn:p.small) (bj:0<=p.fm/\0<=p.lm) (bc:R7 w p l m o r) (be:F0 p=Bf) (bb:c7 w base 49 h9 f h) (N:base<=w) (cd:D h<=900000) (bd:base<=g):
 Ca prog 17 #[K g] w λe T=>e=X (O Bf)/\∃bi,e7 T g 60 (bE p l m o r (Z J 0 0) bi u Q t P)/\c7 T base 49 h9 bi (h++[YL u])/\Tv base [49,60] w T:=by
 refine(Cw (n:=1)).1 ?_;have ac:=a6 (λc(a:a9 w c)=>DU p l m o r t c bn bj (bc.h a) be);unfold i7 at ac;obtain⟨d,ad⟩:=j0 ba bb;clear ba bc bb be;refine Co func17 rfl trivial ?_ rfl;simp only[ntmps17,uE,Nat.reduceAdd,Nat.reduceSub];gi_wp2_with fail;refine a2V ?_;repeat(apply D7;focus (intro x c a;simp only[g0,g5,uV];(repeat intro j;try simp only[j]);have ce:c.cell? ⟨g,0,J⟩=So l:=(d.h a).cell 0;have cf:c.cell? ⟨g,1,J⟩=So (I U8 p.fm):=(d.h a).cell 1;have ck:c.cell? ⟨g,2,J⟩=So m:=(d.h a).cell 2;have cm:c.cell? ⟨g,3,J⟩=So (I V p.dy):=(d.h a).cell 3;have cn:c.cell? ⟨g,4,J⟩=So (I U8 p.lm):=(d.h a).cell 4;have co:c.cell? ⟨g,5,J⟩=So o:=(d.h a).cell 5;have cp:c.cell? ⟨g,6,J⟩=So r:=(d.h a).cell 6;have cq:c.cell? ⟨g,7,J⟩=So (I U8 p.am):=(d.h a).cell 7;have cr:c.cell? ⟨g,8,J⟩=So (I U6 p.sp):=(d.h a).cell 8;have cs:c.cell? ⟨g,9,J⟩=So (O p.we):=(d.h a).cell 9;have cg:c.cell? ⟨g,10,J⟩=So (O p.pe):=(d.h a).cell 10;have ch:c.cell? ⟨g,11,J⟩=So (O p.rt):=(d.h a).cell 11;have ci:c.cell? ⟨g,12,J⟩=So (O p.np):=(d.h a).cell 12;have cj:c.cell? ⟨g,19,J⟩=So (O t):=(d.h a).cell 19;gi_wp2_with(refine⟨trivial,?_⟩;gi_at_call 31;refine C0 ((Cw (n:=0)).2 (ac c a)) λbv bo=>?_);exact dn rfl rfl (by first|exact bo|exact a9.refl _)))
 intro x c a;simp only[n9,g0,o7,uV];repeat(intro j;try simp only[j];clear j)
 have W:=d.h a;have ag:=ad.h a;obtain⟨ab,y,ae⟩:=r6 W ag a;have af:∀L,GA 49 h9 f.ownBlock base f h [YL u] c L->e7 L g 60 (bE p l m o r S f u Q t P):=λL bk=>ab.grown bk.g (λe=>y.ne ab e6 e.symm)
 have G:=a6 af;have bm:D h+1<=1000000:=a8;have bl:base<=c.heap.size:=b6 N a.size;clear W ag af a d ad;gi_wp2_with fail;refine cB (R:=(GA 49 h9 f.ownBlock base f h [YL u])) ?_;repeat
  first
   |(apply D7;focus (intro x c a;simp only[g0,g5,uV];(repeat intro j;try simp only[j]);have bw:c.cell? ⟨g,14,J⟩=So f:=(G c a).cell 14;have bx:c.cell? ⟨g,15,J⟩=So (Y u.name):=(G c a).cell 15;gi_wp2_with fail;exact dn rfl rfl (L6.refl _)))
   |(refine r7 ((q8 #[Y u.name,I M 0,I M 2,Y ⟨#[]⟩])) ?_ ?_
     ·intro x c a
      simp only[g0,g5,uV,q8,q7]
      intro A
      simp only[A]
      gi_wp2_with fail
      refine e8 ?_ rfl (GA.f ((a9.refl c).alloc _))
      exact⟨c,rfl,e7.new _ _ _,λe=>by have:=((a.old y.O).lt e).2;omega⟩)
   |(refine r7 ((q7 w)) ?_ ?_
     ·intro x c a
      simp only[g0,g5,uV,q8,q7]
      rintro C⟨az,B,bf,bp⟩
      simp only[C,B]
      gi_wp2_with(gi_at_builtin;go_loud (refine a2F rfl _ _ 38 49 rfl P0 base f h rfl (a.old y.O) az 1 1 [YL u] rfl rfl (i5.f bf rfl) bm (b6 bl a.g.size) ?_;intro ct bv bq br bs bt bu))
      refine e8 ?_ rfl (⟨br,λ_=>bs,bt⟩)
      exact⟨bq,bu.imp id (λq b N=>by have:=q b N;have:=a.g.size;have:=ae.size;omega)⟩)
 intro x c a;simp only[n9,g0,g5,uV,q8,q7];rintro ai aj ap aq ar C au av aw ax ak al A⟨az,B,bf,bp⟩⟨s,bg⟩ am an ao;simp only[ai,aj,ap,aq,ar,C,au,av,aw,ax,ak,al,A,B,am,an,ao];clear ai aj ap aq ar C au av aw ax ak al A B am an ao;obtain⟨v,E,z,ay⟩:=s.f;rw[ay]at s bg;have k:=G _ a;have ca:c.cell? ⟨g,14,J⟩=So f:=k.cell 14;have cc:=k.frozen 14;have i:=k.f 14 (Z v E z);have cb:=i.frozen 13;have bz:(c.setCell ⟨g,14,J⟩ (Z v E z)).cell? ⟨g,13,J⟩=So S:=i.cell 13;have H:=s.kept (c8 _ g 14 (Z v E z)) (.inr (s.ne k e6));have ah:=H.kept (c8 _ g 13 (Z J 0 0)) (.inr (H.ne i e6));have aa:=i.f 13 (Z J 0 0);have bh:Tv base [49,60] w ((c.setCell ⟨g,14,J⟩ (Z v E z)).setCell ⟨g,13,J⟩ (Z J 0 0)):=(((Tv.f ae.O).trans (.ofOwn y a.g (a7 _) e6)).trans (.r k bd e6 14 _)).trans (.r i bd e6 13 _);have F:=a6 (And.intro aa (And.intro ah bh));clear H ah aa bh i k s bg;simp only[ay];gi_wp2_with fail;go_ret;exact⟨rfl,_,F.1,F.2.1,F.2.2⟩
def a60(w:Wd)(q:j2×List Q5×List i6)(e:Ending)(a:Wd):Prop:=∃b c d f h g,e=X (Ag (a4E q.1 b c d f h g))/\m7 a w q.1 b c d f/\eV a h q.2.1/\c7 a w 49 h9 g q.2.2/\a9 w a/\∀v∈(a4E q.1 b c d f h g).toList,v.oneCell'=Bt
def fK(a:Bool)(u:g9)(ds:List g9):j2×List Q5×List i6:=
 ((if(l5 u ds).2.length=0 then if p8 (i8 (l5 u ds).1).2 then A5 0 else if F0 (i8 (l5 u ds).1).1 then(i8 (l5 u ds).1).1 else A5 0 else A5 0),KA a u ds)
theorem pJ(w:Wd)(b:Nat):m7 w b (A5 0) r8 r8 r8 r8:=⟨c7.nil _ _ _ _,c7.nil _ _ _ _,c7.nil _ _ _ _,c7.nil _ _ _ _⟩
theorem oQ(w:Wd):eV w (Z J 0 0) []:=⟨[],B4.nil _ _ _,λx h=>(by cases h),rfl⟩
theorem DT{w a:Wd}{v:Va}{l:List Q5}{g:Nat}{cs:Array Va}(c:eV w v l)(k:e7 w g 40 cs)(q:w.grownBy a (So g)):eV a v l:=
 let⟨xs,h1,h2,h3⟩:=c.ex
 ⟨xs,h1.kept λb cs r=>r.grown q (λe=>by injection e with e;exact r.ne k e6 e),λf d=>(h2 f d).kept λb cs r=>r.grown q (λe=>by injection e with e;exact r.ne k e6 e),h3⟩
theorem a3z{l:List m8}(h:p8 (i8 l).2=Bf):eW (i8 l).1:=by have k:=(a4c l (A5 2147483648,[]) (bC _)).1;unfold i8 at h⊢;split;rename_i q;rw[if_pos q]at h;rw[h]at q;cases q;exact k
theorem pD(u:PF)(o:p1)(c:Nat)(ds:List PF)(m:Bool)(w:Wd)(cd:i5 w o (q9.row (ds.map (·.1))))(cm:L8 w u)(cf:∀p∈ds,L8 w p)(ci:QD u)(ch:∀p∈ds,QD p)(dv:D ds<=1000000)(ep:D (j5 u).data+m6 (ds.map j5)<=40000):
 Ca prog 6 #[p7 u.1,Z o (D ds) c,O m] w (a60 w (fK m (j5 u) (ds.map j5))):=by
 obtain⟨dq,dr,cg⟩:=fX (j5 u) (ds.map j5);have bh:=(e7.new w 24 #[Y u.1.name,I M u.1.dir,Z u.1.A u.1.n u.1.c]).alloc (U #[Z J 0 0,I U8 0,Z J 0 0,I V 0,I U8 0,Z J 0 0,Z J 0 0,I U8 0,I U6 0,O Bf,O Bf,O Bf,O Bf,Z J 0 0,Z J 0 0] 40);have au:=(((a9.refl w).alloc (U #[Y u.1.name,I M u.1.dir,Z u.1.A u.1.n u.1.c] 24)).alloc (U #[Z J 0 0,I U8 0,Z J 0 0,I V 0,I U8 0,Z J 0 0,Z J 0 0,I U8 0,I U6 0,O Bf,O Bf,O Bf,O Bf,Z J 0 0,Z J 0 0] 40)).alloc (U #[Z J 0 0,I U8 0,Z J 0 0,I V 0,I U8 0,Z J 0 0,Z J 0 0,I U8 0,I U6 0,O Bf,O Bf,O Bf,O Bf,Z J 0 0,Z J 0 0,Y u.1.name,I M u.1.dir,Z u.1.A u.1.n u.1.c,Z o (D ds) c,O m,Z J 0 0] 60);have bi:e7 (((w.alloc (U #[Y u.1.name,I M u.1.dir,Z u.1.A u.1.n u.1.c] 24)).alloc (U #[Z J 0 0,I U8 0,Z J 0 0,I V 0,I U8 0,Z J 0 0,Z J 0 0,I U8 0,I U6 0,O Bf,O Bf,O Bf,O Bf,Z J 0 0,Z J 0 0] 40)).alloc (U #[Z J 0 0,I U8 0,Z J 0 0,I V 0,I U8 0,Z J 0 0,Z J 0 0,I U8 0,I U6 0,O Bf,O Bf,O Bf,O Bf,Z J 0 0,Z J 0 0,Y u.1.name,I M u.1.dir,Z u.1.A u.1.n u.1.c,Z o (D ds) c,O m,Z J 0 0] 60)) (w+1) 40 #[Z J 0 0,I U8 0,Z J 0 0,I V 0,I U8 0,Z J 0 0,Z J 0 0,I U8 0,I U6 0,O Bf,O Bf,O Bf,O Bf,Z J 0 0,Z J 0 0]:=(e7.b i3).alloc _;have bg:e7 (((w.alloc (U #[Y u.1.name,I M u.1.dir,Z u.1.A u.1.n u.1.c] 24)).alloc (U #[Z J 0 0,I U8 0,Z J 0 0,I V 0,I U8 0,Z J 0 0,Z J 0 0,I U8 0,I U6 0,O Bf,O Bf,O Bf,O Bf,Z J 0 0,Z J 0 0] 40)).alloc (U #[Z J 0 0,I U8 0,Z J 0 0,I V 0,I U8 0,Z J 0 0,Z J 0 0,I U8 0,I U6 0,O Bf,O Bf,O Bf,O Bf,Z J 0 0,Z J 0 0,Y u.1.name,I M u.1.dir,Z u.1.A u.1.n u.1.c,Z o (D ds) c,O m,Z J 0 0] 60)) (w+1+1) 60 (bE (A5 0) (Z J 0 0) (Z J 0 0) (Z J 0 0) (Z J 0 0) (Z J 0 0) (Z J 0 0) u.1 (Z o (D ds) c) m (Z J 0 0)):=e7.b i3;have C:=a6 (SR (w+1+1) (A5 0) _ _ _ _ _ _ u o c ds m _ _ bg dv ci ch λeh dn=>by have e:=au.grown dn (λk e=>by cases e;omega);exact⟨cd.h e,cm.h e,λp dw=>(cf p dw).h e⟩)
 have br:=a6 (i3:(((w.alloc (U #[Y u.1.name,I M u.1.dir,Z u.1.A u.1.n u.1.c] 24)).alloc (U #[Z J 0 0,I U8 0,Z J 0 0,I V 0,I U8 0,Z J 0 0,Z J 0 0,I U8 0,I U6 0,O Bf,O Bf,O Bf,O Bf,Z J 0 0,Z J 0 0] 40)).alloc (U #[Z J 0 0,I U8 0,Z J 0 0,I V 0,I U8 0,Z J 0 0,Z J 0 0,I U8 0,I U6 0,O Bf,O Bf,O Bf,O Bf,Z J 0 0,Z J 0 0,Y u.1.name,I M u.1.dir,Z u.1.A u.1.n u.1.c,Z o (D ds) c,O m,Z J 0 0] 60)).heap.size=w.heap.size+3);have ce:fK m (j5 u) (ds.map j5)=if(l5 (j5 u) (ds.map j5)).2.length=0 then(if p8 (i8 (l5 (j5 u) (ds.map j5)).1).2 then(A5 0,[],(i8 (l5 (j5 u) (ds.map j5)).1).2)else if F0 (i8 (l5 (j5 u) (ds.map j5)).1).1 then((i8 (l5 (j5 u) (ds.map j5)).1).1,bN m (i8 (l5 (j5 u) (ds.map j5)).1).1,(i8 (l5 (j5 u) (ds.map j5)).1).2)else(A5 0,[],(i8 (l5 (j5 u) (ds.map j5)).1).2++[YL u.1]))else(A5 0,[],(l5 (j5 u) (ds.map j5)).2):=by unfold fK KA;split;split;rfl;split<;>rfl;rfl
 obtain⟨R,ak⟩:∃R,R=fK m (j5 u) (ds.map j5):=⟨_,rfl⟩;rw[<-ak];rw[ce]at ak;obtain⟨ap,bq,bj⟩:=r6 ak au bi;clear cd cm cf ci ch bi bg au ak ce;obtain⟨⟨aa,aw⟩,cj⟩:∃q,q=l5 (j5 u) (ds.map j5):=⟨_,rfl⟩;rw[<-cj]at C ap dq dr cg;clear cj;dsimp only at*;have ei:=Eo (P:=prog) func15 g6 rfl;have ej:=Eo (P:=prog) func16 g6 rfl;have ek:=Eo (P:=prog) func17 g6 rfl;have el:∀(g:Nat)(W:Wd),(Instr.index 61 (Ag #[Fc (.func 15) #[K (So ⟨g,0,J⟩)] #[],Fc (.func 16) #[K (So ⟨g,0,J⟩)] #[],Fc (.func 17) #[K (So ⟨g,0,J⟩)] #[]]) (I M 0)).run prog W= .ok (Fc (.func 15) #[K (So ⟨g,0,J⟩)] #[]) W:=λg W=>g6
 have em:∀(g:Nat)(W:Wd),(Instr.index 61 (Ag #[Fc (.func 15) #[K (So ⟨g,0,J⟩)] #[],Fc (.func 16) #[K (So ⟨g,0,J⟩)] #[],Fc (.func 17) #[K (So ⟨g,0,J⟩)] #[]]) (I M 1)).run prog W= .ok (Fc (.func 16) #[K (So ⟨g,0,J⟩)] #[]) W:=λg W=>g6
 have en:∀(g:Nat)(W:Wd),(Instr.index 61 (Ag #[Fc (.func 15) #[K (So ⟨g,0,J⟩)] #[],Fc (.func 16) #[K (So ⟨g,0,J⟩)] #[],Fc (.func 17) #[K (So ⟨g,0,J⟩)] #[]]) (I M 2)).run prog W= .ok (Fc (.func 17) #[K (So ⟨g,0,J⟩)] #[]) W:=λg W=>g6
 unfold p7;obtain⟨bx,bz,ca⟩:=bh.c3;clear bh;go_in;go_wp2_with fail;refine wp_loop_rounds 4 ?_;rw[Rs];by_cases al:D aw=0
 ·have av:Dc (D aw=0)=Bt:=by simp[al]
  rw[av]at C;have i:=ap.O;rw[if_pos al]at i;have bm:=a6 i;clear i;go_wp2_with fail;apply C.mono;rintro e be⟨ee,ef,rfl,af,O1,E,H⟩;have aj:=bq.grown H (λk e=>by cases e;omega);have ai:=bj.grown H (λe=>by injection e with e;omega);have dz:=H.size;rw[br.O]at dz;obtain⟨cs,df,rfl⟩:=O1.b;obtain⟨S,bp,bo⟩:=r6 (EN (w+1+1) (A5 0) _ _ _ _ _ _ u.1 (Z o (D ds) c) m cs df aa be af a8 O1.i.1 (λa dp=>by have:=cg a dp;omega) a8) aj ai;clear aj ai af O1 E bx bz ca C;go_wp2_with fail;rw[Rs];cases ac:p8 (i8 aa).2
  ·have y:=a3z ac;rw[ac]at S;have i:=bm.O;rw[ac,if_neg e6]at i;have bn:=a6 i;clear i;have eo:=K7 aa;generalize i8 aa=ax at*;obtain⟨q,cn⟩:=ax;dsimp only at*;go_wp2_with fail;apply S.mono;rintro e ao⟨az,ba,bb,bc,bd,rfl,z,r,s,L⟩;have G:=bp.grown L (λk e=>by cases e;omega);have F:=bo.grown L (λe=>by injection e with e;omega);have er:=L.size;have dt:∀x∈q.ar,0<=x/\x<6:=λx dx=>by have:=y.a.m x dx;simp only[gN,List.mem_cons,List.not_mem_nil,or_false]at this;omega
   clear S;go_wp2_with fail;rw[Rs];cases am:F0 q;·have ag:=a6 (EO (w+1+1) w q az ba bb bc _ bd u.1 (Z o (D ds) c) m _ cn ao z y.small ⟨y.fm,y.lm⟩ r.rd am (s.mono a8) a8 a8 a8);have i:=bn.O;rw[am,if_neg e6]at i;obtain⟨h,aq,ar⟩:=r6 i F G;clear i z r s G F;go_wp2_with fail;apply ag.mono;rintro e j⟨rfl,fi,A,bs,ay⟩;have db:=ay.b ar (a7 _);have da:=ay.blk aq (.inr e6);clear ay;obtain⟨Q,ad,ab,rfl⟩:=(bs).f;have bw:(j).cell? ⟨w+1+1,14,J⟩=So (Z Q ad ab):=(A).cell 14;obtain⟨v,T,t⟩:=r6 bs db da;go_wp2_with(refine q6 t.O ?_;intro bf B n);exact F9 B underlying40 ⟨_,_,_,_,_,_,by rw[h.O];rfl,by rw[h.O];exact pJ _ _,by rw[h.O];exact oQ _,by rw[h.O];exact v.kept n (.inr (v.ne t e6)),T.grown n (λk e=>by cases e;omega),by rw[h.O];simp[a4E,Value.oneCell',A5,r8]⟩
   have ag:=a6 (zK (w+1+1) q az ba bb bc _ bd u.1 (Z o (D ds) c) m _ ao z y.small ⟨y.fm,y.lm⟩ dt y.lens.1 r.rd am);have i:=bn.O;rw[am,if_pos rfl]at i;have h:=a6 i;obtain⟨cp,ea,dc,di⟩:=r.a.f;obtain⟨cq,eb,dd,dj⟩:=r.f.f;obtain⟨cr,ec,de,dk⟩:=r.l.f;obtain⟨ct,nm,dg,dl⟩:=r.m.f;obtain⟨cu,ed,dh,dm⟩:=s.f;subst di dj dk dl dm;obtain⟨bk,cx,cv,aq,ar⟩:=Y2 (s.mono (b2:=w) a8) (r.mono (b2:=w) a8) z F G;clear i z r s G F;go_wp2_with fail;apply ag.mono;rintro e fj⟨rfl,j,fh,N,rfl,co⟩;obtain⟨b,an,ck,du⟩:=co.ex;obtain⟨d,f,rfl,cb,cc⟩:=an;have an:B4 j 76 iA (Z d (D b) f) b:=⟨d,f,rfl,cb,cc⟩;have A:=cv.h N;have ae:Tv w [60] j (j.setCell ⟨w+1+1,13,J⟩ (Z d (D b) f)):= .r A a8 e6 13 _;have l:=A.f 13 (Z d (D b) f);have bv:=ae.b (ar.trans N) (a7 _);have bu:=ae.blk (aq.h N) (.inr e6);have bt:=(bk.h N).kept (c8 _ (w+1+1) 13 (Z d (D b) f)) (.inr ((bk.h N).ne A e6));have S4:eV (j.setCell ⟨w+1+1,13,J⟩ (Z d (D b) f)) (Z d (D b) f) (bN m q):=⟨b,an.tv ae e6,λeg dy=>(ck eg dy).tv ae e6,du⟩;obtain⟨ah,cz,bl,cw,cy⟩:=Y2 bu bv bt ((cx.h N).grown A e6 (c8 _ (w+1+1) 13 (Z d (D b) f))) S4;have es:(j.setCell ⟨w+1+1,13,J⟩ (Z d (D b) f)).cell? ⟨w+1+1,0,J⟩=So (Z cp ea dc):=l.cell 0;have et:(j.setCell ⟨w+1+1,13,J⟩ (Z d (D b) f)).cell? ⟨w+1+1,1,J⟩=So (I U8 q.fm):=l.cell 1;have ez:(j.setCell ⟨w+1+1,13,J⟩ (Z d (D b) f)).cell? ⟨w+1+1,2,J⟩=So (Z cq eb dd):=l.cell 2;have fa:(j.setCell ⟨w+1+1,13,J⟩ (Z d (D b) f)).cell? ⟨w+1+1,3,J⟩=So (I V q.dy):=l.cell 3;have fb:(j.setCell ⟨w+1+1,13,J⟩ (Z d (D b) f)).cell? ⟨w+1+1,4,J⟩=So (I U8 q.lm):=l.cell 4;have fc:(j.setCell ⟨w+1+1,13,J⟩ (Z d (D b) f)).cell? ⟨w+1+1,5,J⟩=So (Z cr ec de):=l.cell 5;have fd:(j.setCell ⟨w+1+1,13,J⟩ (Z d (D b) f)).cell? ⟨w+1+1,6,J⟩=So (Z ct nm dg):=l.cell 6;have fe:(j.setCell ⟨w+1+1,13,J⟩ (Z d (D b) f)).cell? ⟨w+1+1,7,J⟩=So (I U8 q.am):=l.cell 7;have ff:(j.setCell ⟨w+1+1,13,J⟩ (Z d (D b) f)).cell? ⟨w+1+1,8,J⟩=So (I U6 q.sp):=l.cell 8;have fg:(j.setCell ⟨w+1+1,13,J⟩ (Z d (D b) f)).cell? ⟨w+1+1,9,J⟩=So (O q.we):=l.cell 9;have eu:(j.setCell ⟨w+1+1,13,J⟩ (Z d (D b) f)).cell? ⟨w+1+1,10,J⟩=So (O q.pe):=l.cell 10;have ev:(j.setCell ⟨w+1+1,13,J⟩ (Z d (D b) f)).cell? ⟨w+1+1,11,J⟩=So (O q.rt):=l.cell 11;have ew:(j.setCell ⟨w+1+1,13,J⟩ (Z d (D b) f)).cell? ⟨w+1+1,12,J⟩=So (O q.np):=l.cell 12;have ex:(j.setCell ⟨w+1+1,13,J⟩ (Z d (D b) f)).cell? ⟨w+1+1,13,J⟩=So (Z d (D b) f):=l.cell 13;have ey:(j.setCell ⟨w+1+1,13,J⟩ (Z d (D b) f)).cell? ⟨w+1+1,14,J⟩=So (Z cu ed dh):=l.cell 14;clear bu bv bt S4 A l ae an cb cc ck co ag;go_wp2_with fail;rw[Rs];go_wp2_with(refine q6 ah.O ?_;intro bf B n);exact F9 B underlying40 ⟨_,_,_,_,_,_,by rw[h.O];rfl,by rw[h.O];exact cw.grown ah e6 n,by rw[h.O];exact DT cy ah n,by rw[h.O];exact bl.kept n (.inr (bl.ne ah e6)),cz.grown n (λk e=>by cases e;omega),by rw[h.O];simp[a4E,Value.oneCell']⟩
  rw[ac]at S;have i:=bm.O;rw[ac,if_pos rfl]at i;have h:=a6 i;clear i;generalize i8 aa=ax at*;obtain⟨q,cn⟩:=ax;dsimp only at*;go_wp2_with fail;apply S.mono;rintro e ao⟨az,ba,bb,bc,bd,rfl,z,r,s,L⟩;have G:=bp.grown L (λk e=>by cases e;omega);have F:=bo.grown L (λe=>by injection e with e;omega);have s:=s.mono (b2:=w) a8;clear r;obtain⟨Q,ad,ab,rfl⟩:=(s).f;have bw:(ao).cell? ⟨w+1+1,14,J⟩=So (Z Q ad ab):=(z).cell 14;obtain⟨v,T,t⟩:=r6 s G F;go_wp2_with(refine q6 t.O ?_;intro bf B n);exact F9 B underlying40 ⟨_,_,_,_,_,_,by rw[h.O];rfl,by rw[h.O];exact pJ _ _,by rw[h.O];exact oQ _,by rw[h.O];exact v.kept n (.inr (v.ne t e6)),T.grown n (λk e=>by cases e;omega),by rw[h.O];simp[a4E,Value.oneCell',A5,r8]⟩
 have av:Dc (D aw=0)=Bf:=by simp[al]
 rw[av]at C;have i:=ap.O;rw[if_neg al]at i;have h:=a6 i;clear i;go_wp2_with fail;apply C.mono;rintro e be⟨ee,ef,rfl,af,O1,E,H⟩;have aj:=bq.grown H (λk e=>by cases e;omega);have ai:=bj.grown H (λe=>by injection e with e;omega);have E:=E.mono (b2:=w) (by rw[br.O];omega);clear O1 bx bz ca;obtain⟨Q,ad,ab,rfl⟩:=(E).f;have bw:(be).cell? ⟨w+1+1,14,J⟩=So (Z Q ad ab):=(af).cell 14;obtain⟨v,T,t⟩:=r6 E aj ai;go_wp2_with(refine q6 t.O ?_;intro bf B n);exact F9 B underlying40 ⟨_,_,_,_,_,_,by rw[h.O];rfl,by rw[h.O];exact pJ _ _,by rw[h.O];exact oQ _,by rw[h.O];exact v.kept n (.inr (v.ne t e6)),T.grown n (λk e=>by cases e;omega),by rw[h.O];simp[a4E,Value.oneCell',A5,r8]⟩
def jc(b:Bool):Int:=cond b 21 53
def jk(b:Bool):Nat:=cond b 10 12
def B2(b:Bool):Nat:=cond b 355 357
theorem nPr(b:Bool)(x a:Int)(d:0<=x/\x<4294967296)(f:0<=a/\a<4294967296)(W:Wd):Ca prog (B2 b) #[I V x,I V a] W λe c=>e=X (O (cond b (x==a) (Dc (a<=x))))/\W=c:=by
 cases b;·show Ca prog 357 _ _ _;go_in;go_wp2;go_ret;exact⟨rfl,rfl⟩
 show Ca prog 355 _ _ _;go_in;go_wp2;go_ret;exact⟨rfl,rfl⟩
def IZ:Array Va:= #[I U1 4,Fc (.func 345) #[] #[],Nf,I U1 20,Fc (.func 346) #[] #[],Nf,I U1 36,Fc (.func 347) #[] #[],Nf,I U1 52,Fc (.func 348) #[] #[],Nf,I U1 68,Fc (.func 349) #[] #[],Nf,I U1 84,Fc (.func 350) #[] #[],Nf,I U1 100,Fc (.func 351) #[] #[],Nf,I U1 116,Fc (.func 352) #[] #[],Nf,I U1 164,Fc (.func 353) #[] #[],Nf,I U1 132,Fc (.func 354) #[] #[],Nf,I U1 21,Nf,Fc (.func 355) #[] #[],I U1 37,Nf,Fc (.func 356) #[] #[],I U1 53,Nf,Fc (.func 357) #[] #[],I U1 69,Nf,Fc (.func 358) #[] #[]]
theorem a3R(W:Wd):Ca prog 273 #[] W λe d=>e=X (Ag IZ)/\a9 W d:=by
 go_in;have b:∀cs:Array Va,e7 (W.alloc (U cs 380)) W 380 cs:=λcs=>e7.new W _ cs
 go_wp2_with(first|(refine x6 rfl 380 _ rfl IZ g6 ?_)|(refine j1 rfl 380 (Tm 0) (Tm 15) rfl W 380 _ IZ rfl rfl (b _) g6 g6 (List.all_eq_true.1 (g6:(IZ.toList.all λv=>v.oneCell')=Bt)) ?_;intro f a c));exact F9 a underlying380 ⟨rfl,((a9.refl W).alloc _).grown c (λk e=>by cases e;exact a7 _)⟩
def nCd:o5:=[4,20,36,52,68,84,100,116,164,132,21,37,53,69]
theorem nIx:∀(k:Nat),k<14->∀W:Wd,(Instr.index 380 (Ag IZ) (I M k)).run prog W= .ok (Ag #[I U1 (nCd.getD k 0),IZ.getD (3*k+1) Un,IZ.getD (3*k+2) Un]) W
 |0,_,_=>g6
 |1,_,_=>g6
 |2,_,_=>g6
 |3,_,_=>g6
 |4,_,_=>g6
 |5,_,_=>g6
 |6,_,_=>g6
 |7,_,_=>g6
 |8,_,_=>g6
 |9,_,_=>g6
 |10,_,_=>g6
 |11,_,_=>g6
 |12,_,_=>g6
 |13,_,_=>g6
 |n+14,h,_=>absurd h a8
theorem a6A:∀k:Fin 14,(IZ.getD (3*k.val+1) Un).oneCell'=Bt/\(IZ.getD (3*k.val+2) Un).oneCell'=Bt:=e6
theorem a5J:∀(b:Bool)(k:Fin 14),k.val<jk b->(nCd.getD k.val 0==jc b)=Bf:=e6
theorem nBy(b:Bool)(W:Wd):Ca prog 193 #[I U1 (jc b)] W λe L=>e=X (Ag #[I U1 (jc b),Nf,Fc (.func (B2 b)) #[] #[]])/\a9 W L:=by
 have s:=a6 (λW=>sQ (jc b) W);rw[show vL (jc b)=Bf by cases b<;>decide]at s;have E:=a6 a3R;have S:jk b<14:=by cases b<;>decide
 obtain⟨A,B,C,h⟩:=F6 (λk(a:k<=jk b)=>nIx k a8) (λk(a:k<jk b)=>show(nCd.getD k 0==jc b)=Bf from a5J b ⟨k,a8⟩ a) (λk(a:k<jk b)=>show(IZ.getD (3*k+1) Un).oneCell'=Bt/\(IZ.getD (3*k+2) Un).oneCell'=Bt from a6A ⟨k,a8⟩) (show nCd.getD (jk b) 0=jc b/\IZ.getD (3*jk b+1) Un=Nf/\IZ.getD (3*jk b+2) Un=Fc (.func (B2 b)) #[] #[] by cases b<;>exact⟨rfl,rfl,rfl⟩);have t:=(a9.refl W).alloc (U #[I U1 0,Nf,Nf] 292);have r:=e7.new W 292 #[I U1 0,Nf,Nf];generalize IZ=m at*;generalize H:Ag m=Q at*;generalize jc b=c at*;generalize jk b=n at*;generalize B2 b=j at*;clear H;go_in;go_wp2_with fail;refine l4 (s _) λaa o=>?_;go_wp2_with fail;refine l4 (E _) λN p=>?_;obtain⟨F,z⟩:=j0 (t.trans (o.trans p)) (r.h (o.trans p));clear t r o p;go_wp2;go_loopw [10] (λi wr=>∃k:Nat,k<=n/\i=I M k/\a9 N wr) (λi _=>n-(intOf i).toNat);exact⟨0,c6 _,rfl,.refl _⟩;obtain⟨k,a,rfl,x⟩:=hrel;have k1:(k:Int)<14:=a8;have hi:=A k a;by_cases l:k<n;·have T:=B k l;generalize nCd.getD k 0=q at*;obtain⟨u,v⟩:=C k l;have f:=a6 x;clear x;generalize m.getD (3*k+1) Un=ab at*;generalize m.getD (3*k+2) Un=ac at*;go_wp2_with(refine q6 (e7.new _ _ _) ?_ (hx1q:=by simp;exact⟨rfl,u,v⟩);intro P d g;have R:=d.cell 0;have G:=a6 ((f.alloc _).grown g (λk e=>by cases e;exact f.size));clear d g u v);go_roundw;exact⟨k+1,l,o3,G.O⟩;simp[intOf];omega
 obtain rfl:k=n:=a8;rw[h.1,h.2.1,h.2.2]at hi;have y:=e7.new wr 292 #[I U1 c,Nf,Fc (.func j) #[] #[]];have w:=(z.h x).alloc (U #[I U1 c,Nf,Fc (.func j) #[] #[]] 292);have f:=a6 (F.trans (x.alloc (U #[I U1 c,Nf,Fc (.func j) #[] #[]] 292)));clear x;go_wp2_with(first|(refine D1 y underlying292 ?_)|(refine q6 w ?_;intro P d g));exact F9 d underlying292 ⟨rfl,f.grown g (λk e=>by cases e;exact a7 _)⟩
def iS(b a:Int):mY:=⟨b,a,0,0,0,0,0,0,0⟩
def mc(a t:Int)(o:Bool)(b ar:Int):Array Va:= #[I V a,I V 0,I V 0,I V 0,I V 0,I V 0,I V 0,I V 0,I V 0,I V 0,I V 0,I V 0,I V 0,I V 0,I V 0,I V 0,I V 0,I V 0,I V b,I V ar,I U6 0,I U6 0,I U6 0,I U6 0,I U6 0,I U6 0,I U6 0,I V t,O o]
def bH(c b a k:Int):Va:=Ag #[I U1 c,I U8 b,I U8 a,I V k]
def MP(g B:Nat)(w:Wd)(cs:Array Va)(v:Va)(e:Ending)(a:Wd):Prop:=e=X v/\e7 a g 135 cs/\Tv B [135] w a
theorem a5r(l j k a t d ar:Int)(o:Bool)(i:I6 k=Bt/\0<=k/\k<4294967296)(p:(iS d ar).ok)(g B:Nat)(w:Wd)(n:e7 w g 135 (mc a t o d ar))(v:B<=g):
 Ca prog 126 #[K g,bH 32 l j k] w (MP g B w (mc ((iS d ar).word k) t o d ar) (Tp #[])):=by
 have f:=a6 (λW=>yJ (iS d ar) p k W i.2.1 i.2.2);rw[show I4 k=0 by unfold I4;rw[if_pos i.1]]at f;obtain⟨q,m⟩:=j0 (e7.new w 141 #[I U1 32,I U8 l,I U8 j,I V k]) ((a9.refl w).alloc (U #[I U1 32,I U8 l,I U8 j,I V k] 141));have c:=a6 (n.h m.O);clear n i p;generalize(iS d ar).word k=y0 at*;unfold bH;dsimp only[mY.val,a5Z,iS]at f;unfold mc at*;go_in;go_wp2_with fail;generalize w.alloc (U #[I U1 32,I U8 l,I U8 j,I V k] 141)=w0 at*;refine gP ?_;repeat(apply D7;focus (intro x u b;simp only[g0,o7,uV];(repeat intro h;try simp only[h]);have A:=(c.h b).cell 18;have C:=(c.h b).cell 19;have E:=(c.h b).cell 20;have F:=(c.h b).cell 21;have G:=(c.h b).cell 22;have H:=(c.h b).cell 23;have L:=(c.h b).cell 24;have N:=(c.h b).cell 25;have P:=(c.h b).cell 26;have Q:=(q.h b).cell 3;go_wp2_with(refine l4 (f _) λR y=>?_);exact dn rfl rfl (by first|exact y|exact a9.refl _)))
 intro x u b;simp only[n9,g0,o7,uV];repeat(intro h;try simp only[h];clear h)
 have e:=c.h b;have z:=e.cell 0;have T:=e.frozen 0;obtain⟨s,r⟩:=j0 (Tv.f (B:=B) (S:=[135]) (m.trans b)|>.trans (.r e v e6 0 (I V y0))) (e.f 0 (I V y0));clear e c f m b;go_wp2;go_end0;exact⟨rfl,r.O,s.O⟩
theorem a0R(b:Bool)(d a k:Int)(g:Nat)(W:Wd):Ca prog 192 #[K g,bH (jc b) d a k] W λe m=>e=X (I V k)/\a9 W m:=by have f:=a6 (λW=>sQ (jc b) W);rw[show vL (jc b)=Bf by cases b<;>decide]at f;unfold bH;generalize jc b=c at*;have i:=e7.new W 141 #[I U1 c,I U8 d,I U8 a,I V k];have l:=(a9.refl W).alloc (U #[I U1 c,I U8 d,I U8 a,I V k] 141);go_in;go_wp2_with fail;refine l4 (f _) λn h=>?_;have q:=(i.h h).cell 3;have j:=a6 (l.trans h);go_wp2;go_ret;exact⟨rfl,j.O⟩
def jd(b:Bool)(x y:Int):Bool:=cond b (x==y) (Dc (y<=x))
theorem a5s(b:Bool)(f d k a t L ar:Int)(o:Bool)(A:0<=k/\k<4294967296)(z:0<=a/\a<4294967296)(j:0<=f/\f<256/\0<=d/\d<256)(g:Nat)(w:Wd)(y:e7 w g 135 (mc a t o L ar)):
 Ca prog 129 #[K g,bH (jc b) f d k] w λe Q=>e=X (I M (if jd b a k then f else d))/\a9 w Q:=by
 obtain⟨r,u,p⟩:=r6 (nBy b) (λW=>a0R b f d k g W) (λW=>nPr b a k z A W);have F:=a6 (show∀args w,(callFunc (B2 b) args).run prog w= .ok (.enter (B2 b) args) w by cases b;exact Eo func357 g6 rfl;exact Eo func355 g6 rfl)
 have G:=a6 (show∀W,(Instr.field 292 (Ag #[I U1 (jc b),Nf,Fc (.func (B2 b)) #[] #[]]) 2).run prog W= .ok (Fc (.func (B2 b)) #[] #[]) W from λW=>g6);have ab:(jc b==5)=Bf:=by cases b<;>rfl
 have R:0<=f:=j.1;have S:f<256:=j.2.1;have T:0<=d:=j.2.2.1;have aa:d<256:=j.2.2.2;unfold bH at*;change Ca _ _ _ _ _;obtain⟨l,n⟩:∃l,l=jd b a k:=⟨_,rfl⟩;unfold jd at n;rw[<-n]at p;rw[show jd b a k=l by unfold jd;exact n.symm];clear n j A z;generalize jc b=c at*;obtain⟨i,q⟩:=j0 (e7.new w 141 #[I U1 c,I U8 f,I U8 d,I V k]) ((a9.refl w).alloc (U #[I U1 c,I U8 f,I U8 d,I V k] 141));have s:=a6 (y.h q.O);have C:=i.cell 0;clear y;unfold mc at*;go_in;go_wp2_with fail;generalize w.alloc (U #[I U1 c,I U8 f,I U8 d,I V k] 141)=w0 at*;refine gP ?_;repeat(apply D7;focus (intro x H h;simp only[g0,o7,uV];(repeat intro m;try simp only[m]);have C:=(i.h h).cell 0;have N:=(i.h h).cell 1;have P:=(i.h h).cell 2;have ac:=(i.h h).cell 3;have ad:=(s.h h).cell 0;have ae:=F.O;have af:=G.O;go_wp2_with(first|(refine l4 (r _) λE B=>?_)|(refine l4 (u _) λE B=>?_)|(apply(p _).mono;rintro e E⟨rfl,rfl⟩));exact dn rfl rfl (by first|exact B|exact a9.refl _)))
 intro x H h;simp only[n9,g0,o7,uV];repeat(intro m;try simp only[m];clear m)
 obtain⟨N,P⟩:=(i.h h).d2 1 2;have v:=a6 (q.trans h);clear h C i q s r u p;cases l;·go_wp2;go_ret;exact⟨rfl,v.O⟩
 go_wp2;go_ret;exact⟨rfl,v.O⟩
def jX(i:B7)(left:Int):Bool:=(i.code==32&&I6 i.k)||i.code==6||((i.code==21||i.code==53)&&Dc (max i.jt i.jf<left))
structure WH(c jt jf k left q:Int):Prop where
 e0:0<=jt
 e1:jt<256
 e2:0<=jf
 e3:jf<256
 e4:0<=k
 e5:k<4294967296
 n1:(c==96)=Bf
 n2:(c==97)=Bf
 n3:(c==52)=Bf
 n4:(c==100)=Bf
 n5:(c==116)=Bf
 n6:(c==5)=Bf
 n7:(q==2)=Bf
 w:(c==32)=Bf\/(c==32)=Bt/\(k % 4 !=0)=Bf/\Dc (64<=k)=Bf
 j:(q==4)=Bf\/(q==4)=Bt/\Dc (left<=max jt jf)=Bf
def wF:Nat->Nat
 |0=>333
 |1=>335
 |2=>336
 |3=>337
 |4=>338
 |_=>339
theorem nW(l:Nat)(t:l<6)(c g f k left q:Int)(s:WH c g f k left q)(n:∀W,Ca prog 70 #[I U1 c] W λe b=>e=X (I U8 q)/\a9 W b)(m:∀W,Ca prog 334 #[I U1 c] W λe b=>e=X (O Bt)/\a9 W b)(W:Wd):
 Ca prog (wF l) #[bH c g f k,I M left] W λe b=>e=X (O Bf)/\a9 W b:=by
 obtain⟨r,p,d,h⟩:=F6 n m (e7.new W 141 #[I U1 c,I U8 g,I U8 f,I V k]) ((a9.refl W).alloc (U #[I U1 c,I U8 g,I U8 f,I V k] 141));clear n m;unfold bH;obtain⟨u,v,x,y,z,A,C,E,F,G,H,L,N,w,j⟩:=s;obtain rfl|rfl|rfl|rfl|rfl|rfl:l=0\/l=1\/l=2\/l=3\/l=4\/l=5:=a8
 all_goals simp only[wF];clear t;rcases w with w|⟨w,o,T⟩<;>rcases j with j|⟨j,B⟩
 all_goals go_in;go_wp2_with(first|(go_at_call 334;refine l4 (p _) λo a=>?_;have i:=a6 (h.trans a);clear a)|(go_at_call 70;refine l4 (r _) λo a=>?_;have i:=a6 (h.trans a);have P:=(d.h a).cell 0;have Q:=(d.h a).cell 1;have R:=(d.h a).cell 2;have S:=(d.h a).cell 3;clear a));go_ret;first|exact⟨rfl,i.O⟩|exact⟨rfl,h.O⟩
theorem a0F{i:B7}(hi:i.ok){left:Int}(e:jX i left=Bt):(dV i.code).2=Bt/\WH i.code i.jt i.jf i.k left (dV i.code).1.cls:=by
 obtain⟨g,a,b,d⟩:=hi;obtain⟨c,l,j,k⟩:=i;unfold jX at e;dsimp only at*;simp only[Bool.or_eq_true,j3,beq_iff_eq,decide_eq_true_eq]at e;rcases e with(⟨rfl,f⟩|rfl)|⟨rfl|rfl,h⟩
 refine⟨e6,a.1,a.2,b.1,b.2,d.1,d.2,rfl,rfl,rfl,rfl,rfl,rfl,e6,.inr ⟨rfl,?_⟩,.inl e6⟩;unfold I6 at f;simp at f;simp;omega;exact⟨e6,a.1,a.2,b.1,b.2,d.1,d.2,rfl,rfl,rfl,rfl,rfl,rfl,e6,.inl rfl,.inl e6⟩;exact⟨e6,a.1,a.2,b.1,b.2,d.1,d.2,rfl,rfl,rfl,rfl,rfl,rfl,e6,.inl rfl,.inr ⟨e6,by simp;omega⟩⟩;exact⟨e6,a.1,a.2,b.1,b.2,d.1,d.2,rfl,rfl,rfl,rfl,rfl,rfl,e6,.inl rfl,.inr ⟨e6,by simp;omega⟩⟩
def wE:o5:=[40,41,43,44,45,42]
def wA:Array Va:= #[I M 40,Fc (.func (wF 0)) #[] #[],I M 41,Fc (.func (wF 1)) #[] #[],I M 43,Fc (.func (wF 2)) #[] #[],I M 44,Fc (.func (wF 3)) #[] #[],I M 45,Fc (.func (wF 4)) #[] #[],I M 42,Fc (.func (wF 5)) #[] #[]]
theorem wIx:∀(k:Nat),k<6->∀W:Wd,(Instr.index 371 (Ag wA) (I M k)).run prog W= .ok (Ag #[I M (wE.getD k 0),Fc (.func (wF k)) #[] #[]]) W
 |0,_,_=>g6
 |1,_,_=>g6
 |2,_,_=>g6
 |3,_,_=>g6
 |4,_,_=>g6
 |5,_,_=>g6
 |n+6,h,_=>absurd h a8
theorem wEn:∀(k:Nat),k<6->∀args w,(callFunc (wF k) args).run prog w= .ok (.enter (wF k) args) w
 |0,_=>Eo func333 g6 rfl
 |1,_=>Eo func335 g6 rfl
 |2,_=>Eo func336 g6 rfl
 |3,_=>Eo func337 g6 rfl
 |4,_=>Eo func338 g6 rfl
 |5,_=>Eo func339 g6 rfl
 |n+6,h=>absurd h a8
theorem a0O(W:Wd):Ca prog 266 #[] W λe d=>e=X (Ag wA)/\a9 W d:=by
 go_in;have b:∀cs:Array Va,e7 (W.alloc (U cs 371)) W 371 cs:=λcs=>e7.new W _ cs
 go_wp2_with(first|(refine x6 rfl 371 _ rfl wA g6 ?_)|(refine j1 rfl 371 (Tm 0) (Tm 7) rfl W 371 _ wA rfl rfl (b _) g6 g6 (List.all_eq_true.1 (g6:(wA.toList.all λv=>v.oneCell')=Bt)) ?_;intro f a c));exact F9 a underlying371 ⟨rfl,((a9.refl W).alloc _).grown c (λk e=>by cases e;exact a7 _)⟩
theorem a5p(i:B7)(hi:i.ok)(left:Int)(C:0<=left/\left<100000)(r:jX i left=Bt)(W:Wd):Ca prog 187 #[i.val,I M left] W λe L=>e=X (I M 0)/\a9 W L:=by
 obtain⟨q,u⟩:=a0F hi r;have s:=λW=>K9 i.code W
 have l:=λW=>NW i.code W
 rw[q]at l;obtain⟨c,d,b,k⟩:=i;dsimp only at*;obtain⟨p,o,z,y,f,g⟩:=dK (λj t W=>nW j t c d b k left _ u s l W) a0O wIx wEn (e7.new W 141 #[I U1 c,I U8 d,I U8 b,I V k]) ((a9.refl W).alloc (U #[I U1 c,I U8 d,I U8 b,I V k] 141));obtain⟨T,aa⟩:=C;have lm:max left 0=left:=a8;clear u s l r hi q;generalize B:Ag wA=P at*;clear B;unfold bH at p;change Ca _ _ #[Ag #[I U1 c,I U8 d,I U8 b,I V k],_] _ _;go_in;go_wp2_with fail;refine l4 (o _) λN m=>?_;replace f:=a6 (f.h m);replace g:=a6 (g.trans m);clear m o;go_wp2;go_loopw [8] (λi wr=>∃k:Nat,k<=6/\i=I M k/\a9 N wr) (λi _=>6-(intOf i).toNat);exact⟨0,e6,rfl,.refl _⟩;obtain⟨j,t,rfl,x⟩:=hrel;by_cases a:j<6;·have hi:=z j a;have S:=y j a;have w:=a6 (p j a);have n:=f.h (x.alloc (U #[I M (wE.getD j 0),Fc (.func (wF j)) #[] #[]] 370));obtain⟨E,F,G,H⟩:=n.c4;have h:=a6 (x.alloc (U #[I M (wE.getD j 0),Fc (.func (wF j)) #[] #[]] 370));clear n x;generalize wF j=R at*;generalize wE.getD j 0=Q at*;go_wp2_with fail;refine l4 (w _) λab v=>?_;have A:=a6 (h.trans v);clear v E F G H;go_wp2;go_roundw;exact⟨j+1,a,o3,A.O⟩;simp[intOf];omega
 obtain rfl:j=6:=a8;have h:=a6 (g.trans x);clear x;go_wp2;go_ret;exact⟨rfl,h.O⟩
theorem a3Q(c b a k:Int)(f:(c==96)=Bf)(g:(c==97)=Bf)(W:Wd):Ca prog 269 #[bH c b a k] W λe h=>e=X (I U1 0)/\a9 W h:=by
 have i:(c !=96)=Bt:=by simpa using f
 have j:(c !=97)=Bt:=by simpa using g
 have d:=(a9.refl W).alloc (U #[I U1 c,I U8 b,I U8 a,I V k] 141);unfold bH;go_in;go_wp2;go_ret;exact⟨rfl,d⟩
theorem a0P(c d b k:Int)(a:((dV c).1.cls==2)=Bf)(W:Wd):Ca prog 342 #[bH c d b k] W λe j=>e=X (I U1 0)/\a9 W j:=by
 have g:=a6 (K9 c);have l:((dV c).1.cls !=2)=Bt:=by simpa using a
 have i:=(a9.refl W).alloc (U #[I U1 c,I U8 d,I U8 b,I V k] 141);clear a;generalize(dV c).1.cls=q at*;unfold bH;go_in;go_wp2_with(go_at_call 70;refine l4 (g _) λm f=>?_;have h:=a6 (i.trans f);clear f);go_ret;exact⟨rfl,h.O⟩
theorem an0(s:Int):bits .andNot U1 0 s=0:=by simp[bits];rfl
theorem a3P(g:p1)(n c:Nat)(a:List B7)(q:D a=n)(k:Nat)(d:k<n)(s:Int)(j p:Nat)(f:∀i∈a,(i.code==96)=Bf/\(i.code==97)=Bf)(W:Wd)(b:i5 W g (pc a))(l:e7 W j 74 #[Z g n c]):
 Ca prog 268 #[I M k,I U1 s,K j,K p] W λe t=>e=X (Tp #[])/\a9 W t:=by
 subst q;obtain⟨u,z,rfl,-⟩:=S1 b a8;obtain⟨A,B,C,E⟩:=a4f b d;have h:=a6 (λW=>a3Q a[k].code a[k].jt a[k].jf a[k].k (f _ (g3 d)).1 (f _ (g3 d)).2 W);have r:=l.cell 0;have k0:(0:Int)<=k:=a8;have k1:(k:Int)<D a:=a8;have v:=an0 s;have w:((0:Int) !=0)=Bf:=rfl;unfold bH at h;clear f b l;generalize a[k]=P at*;obtain⟨co,y,x,kk⟩:=P;dsimp only at*;go_in;go_wp2_with(go_at_call 269;refine l4 (h _) λF m=>?_;have o:=a6 m;clear m);go_end0;exact⟨rfl,o.O⟩
def wR(l:o5):Array Va:=(l.map (I U1)).toArray
theorem wQ(l:o5)(k:Nat)(a:k<D l):(wR l)[k]? =So (I U1 l[k]):=by simp[wR,a]
theorem pM(l:o5)(k:Nat)(m:Int):(wR l).setIfInBounds k (I U1 m)=wR (l.set k m):=by simp[wR,List.map_set]
theorem rA(l:List Bool)(k:Nat)(m:Bool):(G3 l).setIfInBounds k (O m)=G3 (l.set k m):=by simp[G3,List.map_set]
structure YY(n gS gR bS bR:Nat)(W:Wd):Prop where
 s:∃l:o5,D l=n/\e7 W gS 139 (wR l)
 r:∃l:List Bool,D l=n/\e7 W gR 4 (G3 l)
 bs:e7 W bS 443 #[Z gS n n]
 br:e7 W bR 444 #[Z gR n n]
theorem YY.h{n i h g f:Nat}{W W':Wd}(e:YY n i h g f W)(x:a9 W W'):YY n i h g f W':=
 let⟨l,a,b⟩:=e.s;let⟨m,c,d⟩:=e.r;⟨⟨l,a,b.h x⟩,⟨m,c,d.h x⟩,e.bs.h x,e.br.h x⟩
theorem a2r(n k a b h g B:Nat)(m:Int)(w:Wd)(L:YY k a b h g w)(ab:n<k)(u:B<=a/\B<=b):
 Ca prog 340 #[I M n,I U1 m,K g,K h] w λe E=>(∃v,e=X v)/\YY k a b h g E/\Tv B [139,4] w E:=by
 have ac:(0:Int)<=n:=a8;have ad:(n:Int)<k:=a8;obtain⟨⟨S,A,f⟩,⟨R,z,d⟩,j,i⟩:=L;have ae:=i.cell 0;have af:=j.cell 0;have ag:=(d.cell n).trans (L3 R n a8);have ah:=(f.cell n).trans (wQ S n a8);have N:=d.frozen n;have P:=f.frozen n;have q:b≠a:=d.ne f e6;have Q:g≠a:=i.ne f e6;have T:g≠b:=i.ne d e6;have W:h≠a:=j.ne f e6;have aa:h≠b:=j.ne d e6;have F:=a6 (λ(x c:Int)=>by have H:=f.f n (I U1 x);have C:=d.grown (c8 w a n (I U1 x)) (λe=>q (by injection e));have y:=C.f n (O Bt);have l:=H.grown (c8 _ b n (O Bt)) (λe=>q (by injection e with e;exact e.symm));have o:=l.f n (I U1 c);have p:=y.grown (c8 _ a n (I U1 c)) (λe=>q (by injection e));have t:=(Tv.r (B:=B) (S:=[139,4]) f u.1 e6 n (I U1 x)).trans ((Tv.r C u.2 e6 n (O Bt)).trans (Tv.r l u.1 e6 n (I U1 c)));rw[pM,pM]at o;rw[rA]at p;exact(⟨⟨⟨_,by simp[A],o⟩,⟨_,by simp[z],p⟩,t.blk j (.inr e6),t.blk i (.inr e6)⟩,t⟩:YY k a b h g (((w.setCell ⟨a,n,J⟩ (I U1 x)).setCell ⟨b,n,J⟩ (O Bt)).setCell ⟨a,n,J⟩ (I U1 c))/\Tv B [139,4] w (((w.setCell ⟨a,n,J⟩ (I U1 x)).setCell ⟨b,n,J⟩ (O Bt)).setCell ⟨a,n,J⟩ (I U1 c))))
 have G:=a6 (λ(c:Int)=>by have y:=d.f n (O Bt);have l:=f.grown (c8 w b n (O Bt)) (λe=>q (by injection e with e;exact e.symm));have o:=l.f n (I U1 c);have p:=y.grown (c8 _ a n (I U1 c)) (λe=>q (by injection e));have t:=(Tv.r (B:=B) (S:=[139,4]) d u.2 e6 n (O Bt)).trans (Tv.r l u.1 e6 n (I U1 c));rw[pM]at o;rw[rA]at p;exact(⟨⟨⟨_,by simp[A],o⟩,⟨_,by simp[z],p⟩,t.blk j (.inr e6),t.blk i (.inr e6)⟩,t⟩:YY k a b h g ((w.setCell ⟨b,n,J⟩ (O Bt)).setCell ⟨a,n,J⟩ (I U1 c))/\Tv B [139,4] w ((w.setCell ⟨b,n,J⟩ (O Bt)).setCell ⟨a,n,J⟩ (I U1 c))))
 generalize R[n]' a8=r at*;generalize S[n]' a8=s at*;clear i j d f A z;cases r;all_goals go_in;go_wp2;go_end0;first|exact⟨⟨_,rfl⟩,F _ _⟩|exact⟨⟨_,rfl⟩,G _⟩
section
attribute [local go_sem] Oper.semAt_some
def KT(W W':Wd):Prop:=∀b t cs,e7 W b t cs->[139,4].contains t=Bf->e7 W' b t cs
def QV(i:B7):Prop:=(dV i.code).1.cls=5\/(dV i.code).1.cls=1\/(dV i.code).1.cls=4/\(i.code==5)=Bf/\i.jt≠i.jf
theorem a3O(l ar au Q B:Nat)(i:B7)(hi:i.ok)(aj:QV i)(a h:Nat)(bd:a<=100000/\h<=100000)(Jq:o5->Wd->Prop)(am:AbidesFrom B Jq)
 (an:∀pre x W,Jq pre W->D pre<2->((a:Int)<x/\x<h)->YieldAt .wide 1 prog l #[I M x] W λe W'=>e=X (O Bt)/\Jq (pre++[x]) W'/\KT W W')
 (W:Wd) (p:e7 W ar 141 i.cells) (F:e7 W au 3 #[I M a]) (P:e7 W Q 3 #[I M h]) (ab:Jq [] W):
 Ci .wide 2 prog 414 #[Fc (.yield l) #[] #[],K ar,K au,K Q] W λe W'=>(∃v,e=X v)/\∃xs,True/\Jq xs W':=by
 have C:=a6 (λW=>K9 i.code W);have al:=p.cell 0;have E:=a6 (λ(W':Wd)(e:a9 W W')=>am _ _ _ J ab (j4 e J) aL);clear am;obtain⟨co,d,c,k⟩:=i;unfold QV at aj;dsimp only[B7.cells]at p al C aj;generalize(dV co).1.cls=q at*;obtain⟨_,⟨bi,bj⟩,⟨az,ba⟩,k0,k1⟩:=hi;dsimp only at bi bj az ba;obtain⟨ca,cb⟩:=bd;have aq:IntKind.i64.wrap ((a:Int)+1)=(a:Int)+1:=h7 _ a8;rcases aj with rfl|rfl|⟨rfl,bc,be⟩
 ·refine Co func414 rfl trivial ?_ rfl;simp only[ntmps414,uE,Nat.reduceAdd,Nat.reduceSub];gi_wp2_with fail;gi_wp2_with(first|(refine⟨trivial,?_⟩;gi_at_call 70;refine C0 ((Cw (n:=1)).2 (C _)) λr f=>?_)|(refine⟨trivial,?_⟩;gi_at_call 415;apply((Cw (n:=1)).2 (fJ J 0 0 e6 _)).mono;rintro e R⟨rfl,rfl⟩));gi_loopw [51] (λk wr=>k=I M 0/\wr=r) (λ_ _=>0);exact⟨rfl,rfl⟩;obtain⟨rfl,rfl⟩:=hrel;gi_wp2;go_end0;exact⟨⟨_,rfl⟩,[],trivial,E _ f⟩
 ·refine Co func414 rfl trivial ?_ rfl;simp only[ntmps414,uE,Nat.reduceAdd,Nat.reduceSub];gi_wp2_with fail;gi_wp2_with(first|(refine⟨trivial,?_⟩;gi_at_call 70;refine C0 ((Cw (n:=1)).2 (C _)) λr f=>?_;have bt:=(F.h f).cell 0)|(refine⟨trivial,?_⟩;gi_at_call 415;apply((Cw (n:=1)).2 (fJ _ 1 1 e6 _)).mono;rintro e R⟨rfl,rfl⟩));have g:=e7.new r 3 #[I M ((a:Int)+1)];have y:=f.alloc (U #[I M ((a:Int)+1)] 3);have G:Jq (List.take 0 [((a:Int)+1)]) _:=E _ y;have j:=P.h y;generalize r.alloc (U #[I M ((a:Int)+1)] 3)=R at*;generalize r.heap.size=aa at*;have af:∀k(u:k<[((a:Int)+1)].length),#[I M ((a:Int)+1)][k]? =So (I M [((a:Int)+1)][k]):=λk u=>by
   obtain rfl:k=0:=by simpa using u
   rfl
  have S:=a6 (show∀b∈[((a:Int)+1)],(a:Int)<b by simp;omega);generalize ag: #[I M ((a:Int)+1)]=cs at*;have m:=a6 (show [((a:Int)+1)].length=1 from rfl);generalize [((a:Int)+1)]=L at*;clear ag C E al bt p F P ab f y aq;gi_loopw [51] (λk wr=>∃kk:Nat,kk<=D L/\k=I M kk/\Jq (L.take kk) wr/\e7 wr aa 3 cs/\e7 wr Q 3 #[I M h]) (λk _=>D L-(intOf k).toNat);exact⟨0,c6 _,rfl,G,g,j⟩;clear G g j;obtain⟨k,u,rfl,s,g,j⟩:=hrel;by_cases w:k<D L
  ·have ax:=(g.cell k).trans (af k w);have ay:=j.cell 0;have b1:(0:Int)<=k:=a8;first
    |have b2:(k:Int)<1:=by have:=m.O;omega
    |have b2:(k:Int)<2:=by have:=m.O;omega
   have N:L.take (k+1)=L.take k++[L[k]]:=by rw[g2 w]
   have t:=λ(ah:L[k]<(h:Int))=>an (L.take k) L[k] wr s (by have:=m.O;rw[m4];omega) ⟨S _ (g3 w),ah⟩
   rw[<-N]at t;clear N;generalize L[k]=b at*;by_cases A:b<(h:Int)
   ·have T:Dc ((h:Int)<=b)=Bf:=by simp;omega
    obtain⟨bb,tmps,av,aw,bg,ae⟩:=t A;clear A;gi_wp2;apply ae.mono;rintro e W3⟨rfl,ad,H⟩;have ai:=H _ _ _ g e6;have ac:=H _ _ _ j e6;gi_wp2;go_roundw;exact⟨k+1,a8,o3,ad,ai,ac⟩;simp[intOf];omega
   have T:Dc ((h:Int)<=b)=Bt:=by simp;omega
   clear t;gi_wp2;refine⟨aL,?_⟩;gi_wp2;refine Bp (Rz rfl _ _ _) rfl ?_;exact⟨⟨_,rfl⟩,_,trivial,s⟩
  rcases(show k=1\/k=2 by have:=m.O;omega)with rfl|rfl
  all_goals
   first
    |(exfalso;have:=m.O;omega)
    |(gi_wp2;go_end0;exact⟨⟨_,rfl⟩,_,trivial,s⟩)
 have bf:min d c<max d c:=a8;have bk:IntKind.i64.wrap (min d c)=min d c:=h7 _ a8;have bl:IntKind.i64.wrap (max d c)=max d c:=h7 _ a8;have bm:0<=min d c:=a8;have bn:max d c<256:=a8;have bx:IntKind.i64.wrap ((a:Int)+1+min d c)=(a:Int)+1+min d c:=h7 _ a8;have bz:IntKind.i64.wrap ((a:Int)+1+max d c)=(a:Int)+1+max d c:=h7 _ a8;have ao:(a:Int)+1+min d c≠(a:Int)+1+max d c:=a8;have S:=a6 (show∀b∈[(a:Int)+1+min d c,(a:Int)+1+max d c],(a:Int)<b by simp;omega);generalize bh:(a:Int)+1+min d c=z at*;generalize A:(a:Int)+1+max d c=b at*;refine Co func414 rfl trivial ?_ rfl;simp only[ntmps414,uE,Nat.reduceAdd,Nat.reduceSub];gi_wp2_with fail;gi_wp2_with(refine⟨trivial,?_⟩;gi_at_call 70;refine C0 ((Cw (n:=1)).2 (C _)) λr f=>?_;have bo:=(p.h f).cell 0;have bp:=(p.h f).cell 1;have bq:=(p.h f).cell 2;have br:=(p.h f).cell 3;have bs:=(F.h f).cell 0;have bu:=λo:Obj=>((p.h f).alloc o).cell 0;have bv:=λo:Obj=>((p.h f).alloc o).cell 3;have bw:=λo:Obj=>((F.h f).alloc o).cell 0);refine⟨trivial,?_⟩;have g:=e7.new r 3 #[I M z,I M b];have ap:=f.alloc (U #[I M z,I M b] 3);refine C0 ((Cw (n:=1)).2 (sI r 2 z b e6 ao _ (g.cell 0) (g.cell 1))) λR ak=>?_;have y:a9 W R:=ap.trans ak;replace g:=g.h ak;clear ap ak;gi_wp2_with fail;have G:Jq (List.take 0 [z,b]) _:=E _ y;have j:=P.h y;generalize r.heap.size=aa at*;have af:∀k(u:k<[z,b].length),(#[I M z,I M b]:Array Va)[k]? =So (I M [z,b][k]):=λk u=>by (match k,u with|0,_=>rfl|1,_=>rfl)
 generalize ag:(#[I M z,I M b]:Array Va)=cs at*;have m:=a6 (show [z,b].length=2 from rfl);generalize [z,b]=L at*;clear ag C E al bo bp bq br bs bu bv bw p F P ab f y aq bx bz bh A ao bf bk bl bm bn be bc;gi_loopw [51] (λk wr=>∃kk:Nat,kk<=D L/\k=I M kk/\Jq (L.take kk) wr/\e7 wr aa 3 cs/\e7 wr Q 3 #[I M h]) (λk _=>D L-(intOf k).toNat);exact⟨0,c6 _,rfl,G,g,j⟩;clear G g j;obtain⟨k,u,rfl,s,g,j⟩:=hrel;by_cases w:k<D L
 ·have ax:=(g.cell k).trans (af k w);have ay:=j.cell 0;have b1:(0:Int)<=k:=a8;first
   |have b2:(k:Int)<1:=by have:=m.O;omega
   |have b2:(k:Int)<2:=by have:=m.O;omega
  have N:L.take (k+1)=L.take k++[L[k]]:=by rw[g2 w]
  have t:=λ(ah:L[k]<(h:Int))=>an (L.take k) L[k] wr s (by have:=m.O;rw[m4];omega) ⟨S _ (g3 w),ah⟩
  rw[<-N]at t;clear N;generalize L[k]=b at*;by_cases A:b<(h:Int)
  ·have T:Dc ((h:Int)<=b)=Bf:=by simp;omega
   obtain⟨bb,tmps,av,aw,bg,ae⟩:=t A;clear A;gi_wp2;apply ae.mono;rintro e W3⟨rfl,ad,H⟩;have ai:=H _ _ _ g e6;have ac:=H _ _ _ j e6;gi_wp2;go_roundw;exact⟨k+1,a8,o3,ad,ai,ac⟩;simp[intOf];omega
  have T:Dc ((h:Int)<=b)=Bt:=by simp;omega
  clear t;gi_wp2;refine⟨aL,?_⟩;gi_wp2;refine Bp (Rz rfl _ _ _) rfl ?_;exact⟨⟨_,rfl⟩,_,trivial,s⟩
 rcases(show k=1\/k=2 by have:=m.O;omega)with rfl|rfl
 all_goals
  first
   |(exfalso;have:=m.O;omega)
   |(gi_wp2;go_end0;exact⟨⟨_,rfl⟩,_,trivial,s⟩)
end
end Go.Proofs.YtcljlejgllkcjaaGreat
