/- A part of the proof of TopFront: lemmas on the walks of its calls. -/
import Derived.Lib.AppendZerosOnto
import Derived.Lib.OwnBridge
import Derived.Shelf.Slices.CompactS
import Derived.Shelf.Slices.In.SortNone
import Derived.Shelf.Sort.Plain
import Derived.Shelf.Spec.SlicesInsert
import Derived.Test.YtcljlejgllkcjaaGreatM08
set_option maxHeartbeats 12000000
set_option linter.all false
set_option maxRecDepth 100000
namespace Go.Proofs.YtcljlejgllkcjaaGreat
open Go.RowKit Go.ChangeShapes Go.WideShapes Tryz
open Bool renaming and_eq_true→j3,true→Bt,false→Bf
open Decidable renaming decide→Dc
open Ending renaming returned→X
open Go renaming World→Wd,Value→Va,Calls→Ca,callsIn_wide→Cw,undef→Un,TypeId→Ti,Addr→Ad,Program→Pg,callsIn_of_wp_marks→Cm,CallsIn→Ci,wpList→Wp
open Go.Proofs renaming enters_of→Eo
open IntKind renaming i64→M,u32→V,u16→U1,u8→U8
open IntWalk renaming i64_in→h7
open List renaming getD_eq_getElem?_getD→b9,getElem?_eq_getElem→e9,length_append→g1,getElem_mem→g3,length_cons→i4,range→m9,length_take→m4,replicate→p4,append_assoc→p6,length→D
open Nat renaming le_refl→a7,le_trans→b6,add_zero→j8
open Obj renaming cells→U
open Operand renaming tmp→Tm
open Option renaming none→J,some→So
open Value renaming int→I,slice→Z,string→Y,pointer→K,bool→O,func→Fc,tuple→Tp,agg→Ag
section
attribute [local go_sem] Oper.semAt_some
structure HO where
 bk:List B7
 pl:o5
 far:Int
def tU(b:List Sy)(a:HO)(i:Nat):HO:=
 ⟨a.bk++(eR (D a.bk) a.pl (b.getD i i0)).1.reverse,a.pl.set i (D (a.bk++(eR (D a.bk) a.pl (b.getD i i0)).1.reverse):Int),a.far+(eR (D a.bk) a.pl (b.getD i i0)).2⟩
def kA(a:List Sy)(pre:R8):HO:=pre.foldl (tU a) ⟨[],p4 (D a) 0,0⟩
theorem VJ(a:List Sy)(pre:R8)(i:Nat):kA a (pre++[i])=tU a (kA a pre) i:=by simp[kA,List.foldl_append]
theorem UC(nb:Nat)(a:o5)(s:Sy):D (eR nb a s).1<=3/\0<=(eR nb a s).2/\(eR nb a s).2<=1/\1<=D (eR nb a s).1:=by unfold eR;(repeat' split)<;>simp
structure LBd(n k:Nat)(st:HO):Prop where
 h1:D st.bk<=3*k
 h2:D st.pl=n
 h3:∀x∈st.pl,0<=x/\x<=D st.bk
 h4:0<=st.far
 h5:st.far<=k
 h6:k<=D st.bk
theorem VI(c:List Sy)(n k:Nat)(a:HO)(b:LBd n k a)(i:Nat):LBd n (k+1) (tU c a i):=by
 obtain⟨g,e,f,h,j,l⟩:=b;unfold tU;obtain⟨k1,k2,k3,k4⟩:=UC (D a.bk) a.pl (c.getD i i0);generalize eR (D a.bk) a.pl (c.getD i i0)=o at*;refine⟨?_,?_,λx d=> ?_,?_,?_,?_⟩;dsimp only;rw[g1,List.length_reverse];omega;dsimp only;rw[List.length_set];exact e;dsimp only at d⊢;rw[g1,List.length_reverse]at*;rcases List.mem_or_eq_of_mem_set d with b|b
 have:=f x b;omega;rw[b];omega;dsimp only;omega;dsimp only;omega;dsimp only;rw[g1,List.length_reverse];omega
theorem AV(b:List Sy)(n:Nat):∀(pre:R8)(k:Nat)(a:HO),LBd n k a->LBd n (k+D pre) (pre.foldl (tU b) a)
 |[],k,a,h=>h
 |i::pre,k,a,h=>by have:=AV b n pre (k+1) _ (VI b n k a h i);rw[i4,(a8:k+(D pre+1)=k+1+D pre)];exact this
theorem FE(a:List Sy)(pre:R8):LBd (D a) (D pre) (kA a pre):=by have:=AV a (D a) pre 0 ⟨[],p4 (D a) 0,0⟩ ⟨i3,i3,λx b=>by have:=List.eq_of_mem_replicate b;simp[this],i3,i3,i3⟩;rw[Nat.zero_add]at this;exact this
theorem OG:(prog.info? 3).map (λi=>(i.zero,i.size,i.bytes))=So (So (I M 0),1,8):=g6
theorem NJ(n:Nat):madeCells #[I M 0] n=(l8 M (p4 n 0)).toArray:=by apply Array.toList_inj.1;rw[toList_madeCells_one];simp[l8]
def a2t(b:p1)(n c a g d:Nat)(co kk th el:Int):Act:=
 {tmps:= #[Z b n c,Un,K J,O Bf,K (a+1+1:Nat),I M d,K g,Z b n c,O Bt,O Bf,Z b n c,I M n,Z a n n,Ag #[Z J 0 0,Z a n n,I M 0],K (a+1:Nat),Z b n c,Fc (.func 395) #[] #[K (a+1+1+1:Nat)],I M d,Ag #[I U1 co,I V kk,I M th,I M el],Un,Un,Un,Un,Un,Un,Un,Un,Un,Un,Un,Un,Un,Un,Un],defers:=[]}
def a6g(a:p1)(n c f:Nat)(d:List Sy)(x e:Nat)(b:Act)(W:Wd):Prop:=
 ∃g co kk th el,e<=g/\d.getD x i0=⟨co,kk,th,el⟩/\b=a2t a n c f g x co kk th el/\e7 W g 417 #[I U1 co,I V kk,I M th,I M el]
structure a2M(w1:Wd)(A:p1)(n c z1:Nat)(ps:List Sy)(pre:R8)(W:Wd):Prop where
 ex:∃v,LK (z1+1) z1 n z1 (kA ps pre).bk (kA ps pre).pl (kA ps pre).far v W
 b4:e7 W (z1+1+1) 333 #[K (z1+1:Nat)]
 b5:e7 W (z1+1+1+1) 180 #[Z A n c]
 h:a9 w1 W
 z:z1+4<=W
theorem QB(h:Wd)(i:p1)(n c f:Nat)(k:h=f)(j:List Sy):OwnFrom (f+4) (a2M h i n c f j):=λpre W W' row b a g=>by
 have d:∀r,row=So r->∃o:Obj,W.heap[r]? =So o/\o.isCells=Bf:=λr e=>(g r e).2
 obtain⟨v,L⟩:=b.ex;exact⟨⟨v,i2 L.k a d,Q8 L.r a d,i2 L.q a d⟩,i2 b.b4 a d,i2 b.b5 a d,b.h.grown a (λr e=>by have:=(g r e).1;omega),b6 b.z a.size⟩
theorem a9.pu{a W W':Wd}{g:Nat}{h:Option Nat}(c:a9 a W)(d:PU g h W W')(j:a<=g)(i:∀b,h=So b->a.heap.size<=b):a9 a W':=
 ⟨d.os.trans c.os,d.tape.trans c.tape,d.output.trans c.output,b6 c.size d.size,λk f=>(d.keep k (Nat.lt_of_lt_of_le f c.size) a8 (λe=>by have:=i k e;omega)).trans (c.block f)⟩
theorem PU.keeps{g B:Nat}{v:Va}{base n:Nat}{e t:Ti}{xs:List Va}{cs:Array Va}{W W':Wd}(b:PU g v.ownBlock W W')(d:e7 W g t cs)(h:W.ownsRow base e 4 v n xs):KeepsFrom B W W':=
 KeepsOthers.from ⟨b.size,λk o a c=>(b.keep k (Array.getElem?_eq_some_iff.1 a).1 (λq=>by
  subst q;unfold e7 at d;rw[d]at a;injection a with a
  subst a;cases c) (λq=>by
  rcases h.2 with⟨rfl,_⟩|⟨i,cap,cur,rfl,_,f,_⟩
  ·cases q
  ·cases q
   rw[f]at a;injection a with a
   subst a;cases c)).trans a⟩ _
theorem NM(h:p1)(n c:Nat)(d:List Sy)(w:Wd)(am:D d=n)(bg:∀i∈d,i.ok)(al:eS d=Bt)(aj:i5 w h (sc d)):
 Ci .wide 3 prog 247 #[Z h n c] w λe ao=>∃aw bn base v,e=X (Tp #[K (So ⟨aw,0,J⟩),O Bt])/\
 LK aw bn n base (kA d (m9 n).reverse).bk (kA d (m9 n).reverse).pl (kA d (m9 n).reverse).far v ao/\a9 w ao/\w.heap.size<=base:=by
 have bb:=iH al;have cc:n<=131072:=by have:=bb.l2;omega
 obtain⟨H,ar⟩:=j0 am (KC h n c d w am bg (by unfold maxLen;omega) aj);rw[al]at ar;have dd:∀w:Wd,(Instr.makeSlice 28 (I M (n:Int)) (I M (n:Int))).run prog w= .ok (Z w n n) (w.alloc (U (l8 M (p4 n 0)).toArray 3)):=λw=>by rw[<-NJ];exact J3 28 3 (I M 0) 8 underlying28 OG rfl M M n n (a7 _) a8 a8 w
 have aq:=a6 aj;clear am aj al;refine Cm func247 rfl trivial ?_ rfl;simp only[ntmps247,uE,Nat.reduceAdd,Nat.reduceSub];gi_wp2_with(first
  |(refine⟨trivial,?_⟩;gi_at_call 316;apply((Cw (n:=2)).2 ar.O).mono;rintro e m⟨rfl,ac⟩)
  |(refine⟨trivial,?_⟩;gi_at_call 317;apply(CU h n c _).mono;rintro e ao⟨rfl,rfl⟩))
 generalize F:m.heap.size=a at*;have bu:e7 ((((m.alloc (U (Array.replicate n (I M 0)) 3)).alloc (U #[Z J 0 0,Z a n n,I M 0] 337)).alloc (U #[K (a+1:Nat)] 333)).alloc (U #[Z h n c] 180)) a 3 (Array.replicate n (I M 0)):=(((e7.b F.symm).alloc _).alloc _).alloc _;have bt:e7 ((((m.alloc (U (Array.replicate n (I M 0)) 3)).alloc (U #[Z J 0 0,Z a n n,I M 0] 337)).alloc (U #[K (a+1:Nat)] 333)).alloc (U #[Z h n c] 180)) (a+1) 337 #[Z J 0 0,Z a n n,I M 0]:=((e7.b (by simp[F])).alloc _).alloc _;have bs:e7 ((((m.alloc (U (Array.replicate n (I M 0)) 3)).alloc (U #[Z J 0 0,Z a n n,I M 0] 337)).alloc (U #[K (a+1:Nat)] 333)).alloc (U #[Z h n c] 180)) (a+1+1) 333 #[K (a+1:Nat)]:=(e7.b (by simp[F])).alloc _;have ai:e7 ((((m.alloc (U (Array.replicate n (I M 0)) 3)).alloc (U #[Z J 0 0,Z a n n,I M 0] 337)).alloc (U #[K (a+1:Nat)] 333)).alloc (U #[Z h n c] 180)) (a+1+1+1) 180 #[Z h n c]:=e7.b (by simp[F]);have ax:a9 m ((((m.alloc (U (Array.replicate n (I M 0)) 3)).alloc (U #[Z J 0 0,Z a n n,I M 0] 337)).alloc (U #[K (a+1:Nat)] 333)).alloc (U #[Z h n c] 180)):=((((a9.refl m).alloc _).alloc _).alloc _).alloc _;have ci:((((m.alloc (U (Array.replicate n (I M 0)) 3)).alloc (U #[Z J 0 0,Z a n n,I M 0] 337)).alloc (U #[K (a+1:Nat)] 333)).alloc (U #[Z h n c] 180)).heap.size=a+4:=by simp[F]
 generalize(((m.alloc (U (Array.replicate n (I M 0)) 3)).alloc (U #[Z J 0 0,Z a n n,I M 0] 337)).alloc (U #[K (a+1:Nat)] 333)).alloc (U #[Z h n c] 180)=w0 at*;have bw:i5 w0 h (sc d):=(aq.h ac).h ax;have cd:(Array.replicate n (I M 0))=(l8 M (p4 n 0)).toArray:=by simp[l8]
 have cb:kA d []=⟨[],p4 n 0,0⟩:=by unfold kA;rw[H.O];rfl
 refine A4 rfl e6 (gf:=395) (lb:= #[K (a+1+1+1:Nat)]) rfl trivial (Eo func395 g6 rfl)
  (mD (a+1+1+1) n c h d H a8 w0 ai.lt (by rw[ai.cell];rfl) bw) (λy k=>y.trans k)
  (λW l o P _ aa T _=>⟨λan=>cell_kept an (grownBy_putObj' W l P) (λr e=>by cases e;exact⟨o,aa,T⟩),λan j u cf=>by
   obtain⟨b,cm,e,bz⟩:=an j u cf
   exact⟨b,cm,e,cell_kept bz (grownBy_putObj' W l P) (λr e=>by cases e;exact⟨o,aa,T⟩)⟩⟩) (Below.refl _ _) (λ_=>rfl)
  (λx W l o P az _ _=>az)
  (a2M m h n c a d) (by rw[ci];exact QB m h n c a F d)
  ⟨⟨Z J 0 0,by rw[cb];exact⟨bt,World.ownsRow_nil _ _ _ _,by rw[<-cd];exact bu⟩⟩,bs,ai,ax,a8⟩
  (a6g h n c a d)
  (λx cu bl W l o P⟨g,co,ck,cj,kk,bo,bp,bq,br⟩ aa T=>⟨g,co,ck,cj,kk,bo,bp,bq,i2 br (grownBy_putObj' W l P) (λr e=>by cases e;exact⟨o,aa,T⟩)⟩)
  (λ_ _ _ y _=>y) (λW W' e=>⟨λy=>e.cell y,λy=>y.h e⟩) ?Aa ?Ab ?Ac
 case Aa=>intro l x W cv az N;obtain⟨⟨co,kk,th,el⟩,C⟩:∃E,d.getD x i0=E:=⟨_,rfl⟩;simp only[C,Sy.val,Sy.cells];gi_wp2;exact N _ _ ((a9.refl W).alloc _) ⟨W,co,kk,th,el,a7 _,C,rfl,e7.new _ _ _⟩
 case Ab=>
  rintro l pre f cw W bl _ q cg⟨g,co,kk,th,el,dh,C,rfl,bx⟩ _ dc;obtain⟨v,L⟩:=q.ex;have ak:f<D d:=by rw[H.O];exact cg
  have ba:=E3 (bb.one f ak);have bh:(d.getD f i0).ok:=by rw[nX ak];exact bg _ (g3 ak)
  rw[C,H.O]at ba;rw[C]at bh;have z:=FE d pre;rw[H.O]at z;have ab:=VJ d pre f;unfold tU at ab;rw[C]at ab;have ad:=a6 ((Cw (n:=0)).2 (a6v (a+1) a n a (kA d pre).bk (kA d pre).pl (kA d pre).far v W ⟨co,kk,th,el⟩ f a8 bh ba z.h2 cc (by have:=z.h1;omega) z.h3 ⟨z.h4,by have:=z.h5;omega⟩ a8 (by have:=q.z;omega) L));simp only[Sy.val,Sy.cells]at ad;have bj:=q.b4.cell 0;obtain⟨cn,cp,cq,cr⟩:=(bx).c4;have di:(0:Int)<=f:=a8;have dj:(f:Int)<n:=a8;unfold a2t;gi_wp2_with(refine⟨trivial,?_⟩;gi_at_call 318;apply(CallsIn.inRound l ad.O).mono;rintro e ap⟨⟨dk,rfl⟩,ah⟩);obtain⟨dl,R,_⟩:=ah.ex;have G:=ah.pu;obtain⟨cs,ct,rfl⟩:=R.val;have df:=G.size;have dg:=q.z;have ce:∀b,v.ownBlock=So b->a<=b:=λb e=>(L.r.lt b e).1
  have au:e7 ap (a+1+1) 333 #[K (a+1:Nat)]:=(G.keep (a+1+1) a8 a8 (E1 L.r q.b4 e6)).trans q.b4;have bm:e7 ap (a+1+1+1) 180 #[Z h n c]:=(G.keep (a+1+1+1) a8 a8 (E1 L.r q.b5 e6)).trans q.b5;have bv:a9 m ap:=q.h.pu G a8 (λb e=>by have:=ce b e;omega);have ca:=G.keeps (B:=w0) L.k L.r;obtain⟨A,bc⟩:∃b,(kA d pre).bk++(eR (D (kA d pre).bk) (kA d pre).pl ⟨co,kk,th,el⟩).1.reverse=b:=⟨_,rfl⟩;obtain⟨cz,bd⟩:∃b,(kA d pre).far+(eR (D (kA d pre).bk) (kA d pre).pl ⟨co,kk,th,el⟩).2=b:=⟨_,rfl⟩;rw[bc,bd]at ab;rw[bc,bd]at R;have de:=z.h2;have ag:((l8 M (kA d pre).pl).toArray)[f]? =So (I M ((kA d pre).pl[f]' a8)):=by rw[List.getElem?_toArray,Q9 a8]
  generalize(kA d pre).pl[f]' a8=p at ag;obtain⟨bk,ae⟩:=j0 ag R;clear bj cn cp cq cr ag ah G ad R;gi_wp2_with fail;refine aO ?_;repeat(apply D7;focus (intro x af s;simp only[g0,g5,uV];(repeat intro S;try simp only[S]);have cx:=(au.h s).cell 0;have cu:=(ae.k.h s).cell 1;have a:=(ae.k.h s).cell 0;gi_wp2_with fail;exact dn rfl rfl (a9.refl _)))
  intro x af s;simp only[n9,g0,o7,uV];repeat(intro S;try simp only[S];clear S)
  have t:=ae.h s;have cy:=(t.q.cell f).trans bk.O;have da:=t.q.frozen f;gi_wp2_with fail;have ay:a9 m (af.setCell ⟨a,f,J⟩ (I M (D A:Int))):=(bv.trans s).set (p:=⟨a,f,J⟩) (by show m<=a;omega) _;have av:=(bm.h s).far (p:=⟨a,f,J⟩) (by show a+1+1+1≠a;omega) (I M (D A:Int));refine⟨KeepsFrom.trans ca (KeepsFrom.trans (KeepsOthers.from ⟨s.size,λk o be _=>(s.block (Array.getElem?_eq_some_iff.1 be).1).trans be⟩ _) ((KeepsOthers.setCell _ _ _).from _)),⟨λ_=>by rw[av.cell];rfl,λ_=>(aq.h ac).h ay⟩,
   ⟨⟨Z cs (D A) ct,?_⟩,(au.h s).far (by show a+1+1≠a;omega) _,av,ay,by have:=s.size;simp;omega⟩⟩
  rw[ab];dsimp only;refine⟨t.k.far (by show a+1≠a;omega) _,t.r.kept (c8 af a f _) (.inr (E1 t.r t.q e6)),?_⟩;have bi:=t.q.f f (I M (D A:Int));have e:(l8 M (kA d pre).pl).toArray.setIfInBounds f (I M (D A:Int))=(l8 M ((kA d pre).pl.set f (D A:Int))).toArray:=by simp[l8,List.map_set]
  rw[e]at bi;exact bi
 rintro Q ys W db ch q N;obtain⟨v,L⟩:=q.ex;have bj:=q.b4.cell 0;have bf:∀r,So Q=So r->∃o:Obj,W.heap[r]? =So o/\o.isCells=Bf:=λr e=>by cases e;exact⟨_,N,rfl⟩
 rw[ch]at L;gi_wp2;refine⟨i3,.inl ⟨_,_,rfl,run_takeDeferred N,?_⟩⟩;exact⟨_,results_tmp2 rfl _ _ _,a+1,a,a,v,rfl,⟨i2 L.k (grownBy_putObj' W Q _) bf,ownsRow_putObj L.r _ N rfl,i2 L.q (grownBy_putObj' W Q _) bf⟩,ac.trans (q.h.grown (grownBy_putObj' W Q _) (λr e=>by cases e;omega)),by have:=ac.size;omega⟩
attribute [local go_sem] Oper.semAt_some
def eU(a:List Sy):HO:=kA a (m9 (D a)).reverse
theorem NN(b:p1)(n c:Nat)(a:List Sy)(w:Wd)(f:D a=n)(m:∀i∈a,i.ok)(l:eS a=Bt)(k:i5 w b (sc a)):
 Ca prog 247 #[Z b n c] w λe g=>∃d h base v,e=X (Tp #[K (So ⟨d,0,J⟩),O Bt])/\LK d h n base (eU a).bk (eU a).pl (eU a).far v g/\a9 w g/\w.heap.size<=base:=by
 have j:=callsIn_wide.1 (NM b n c a w f m l k);unfold eU;rw[f];exact j
theorem set4:∀(l:List B7)(k:Nat)(aa:B7),k<D l->((((pc l).set (k*4) (I U1 aa.code)).set (k*4+1) (I U8 aa.jt)).set (k*4+2) (I U8 aa.jf)).set (k*4+3) (I V aa.k)=pc (l.set k aa)
 |[],_,_,h=>by simp at h
 |i::ps,0,aa,_=>by rw[aY,List.set_cons_zero,aY];rfl
 |i::ps,k+1,aa,h=>by have ih:=set4 ps k aa (by simpa using h);rw[aY,List.set_cons_succ,aY,<-ih];rw[(a8:(k+1)*4=k*4+1+1+1+1),(a8:k*4+1+1+1+1+1=(k*4+1)+1+1+1+1),(a8:k*4+1+1+1+1+2=(k*4+2)+1+1+1+1),(a8:k*4+1+1+1+1+3=(k*4+3)+1+1+1+1)];simp only[B7.cells,List.cons_append,List.nil_append,List.set_cons_succ]
theorem tF(l:List B7)(b:List Va)(k:Nat)(a:B7)(c:k<D l):
 (((((pc l++b).toArray.setIfInBounds (k*4) (I U1 a.code)).setIfInBounds (k*4+1) (I U8 a.jt)).setIfInBounds (k*4+2) (I U8 a.jf)).setIfInBounds (k*4+3) (I V a.k))=(pc (l.set k a)++b).toArray:=by
 have d:=Z4 l;apply Array.toList_inj.1;simp only[Array.toList_setIfInBounds,List.toList_toArray];rw[List.set_append_left _ _ a8,List.set_append_left _ _ (by rw[List.length_set];omega),List.set_append_left _ _ (by rw[List.length_set,List.length_set];omega),List.set_append_left _ _ (by rw[List.length_set,List.length_set,List.length_set];omega),set4 l k a c]
theorem uD(l:List B7)(i k:Nat)(a:B7)(h:k<D l):(l.set i a).getD k a39=if i=k then a else l.getD k a39:=by simp only[b9,List.getElem?_set];by_cases e:i=k;subst e;simp[h];simp[e]
theorem SM(g m c:Nat)(bw:m<=400000)(t:Ti)(cur:List Va)(f:List B7)(ah:D f=m)(bl:∃h,cur=pc f++h)(W:Wd)(d:e7 W g t cur.toArray):
 Ca prog 248 #[Z g m c] W λe au=>(∃u,e=X u)/\W.grownBy au (So g)/\∃h,e7 au g t (pc f.reverse++h).toArray:=by
 obtain⟨h,rfl⟩:=bl;have Q:=a6 ah;clear ah;have w0:IntKind.i64.wrap ((m:Int)-1)=(m:Int)-1:=h7 _ a8;go_wp2;go_loopw [2,3] (λa b wr=>∃(i:Nat)(n:Int)(l:List B7),n=(m:Int)-1-i/\2*i<=m+1/\a=I M i/\b=I M n/\D l=m/\(∀k,k<m->l.getD k a39=if k<i\/m-1-k<i then f.getD (m-1-k) a39 else f.getD k a39)/\W.grownBy wr (So g)/\e7 wr g t (pc l++h).toArray) (λa b _=>(intOf b-intOf a).toNat);exact⟨0,_,f,a8,a8,rfl,rfl,Q.O,λk _=>i3,⟨rfl,rfl,rfl,a7 _,λ_ _ _=>rfl⟩,d⟩;clear d w0;obtain⟨i,n,l,aj,hi,rfl,rfl,C,B,A,d⟩:=hrel;obtain⟨az,S⟩:=j0 C B;by_cases bv:(i:Int)<n
 ·obtain⟨j,rfl⟩:∃j:Nat,n=j:=⟨n.toNat,a8⟩;have bs:i<j:=a8;have bt:j<m:=a8;have T:i<D l:=a8;have aa:j<D l:=a8;have CI:∀r,r<4->((pc l++h).toArray)[i*4+r]? =l[i].cells.toList[r]? :=λr ab=>by rw[List.getElem?_toArray,List.getElem?_append_left (by rw[Z4];omega),pK l i r T ab]
  have o:∀r,r<4->((pc l++h).toArray)[j*4+r]? =l[j].cells.toList[r]? :=λr ab=>by rw[List.getElem?_toArray,List.getElem?_append_left (by rw[Z4];omega),pK l j r aa ab]
  have ak:=(d.cell (i*4)).trans (CI 0 a8);have al:=(d.cell (i*4+1)).trans (CI 1 a8);have am:=(d.cell (i*4+2)).trans (CI 2 a8);have an:=(d.cell (i*4+3)).trans (CI 3 a8);have ao:=(d.cell (j*4)).trans (o 0 a8);have ap:=(d.cell (j*4+1)).trans (o 1 a8);have aq:=(d.cell (j*4+2)).trans (o 2 a8);have ar:=(d.cell (j*4+3)).trans (o 3 a8);have bb:=d.frozen (i*4);have bc:=d.frozen (i*4+1);have bd:=d.frozen (i*4+2);have be:=d.frozen (i*4+3);have bf:=d.frozen (j*4);have bg:=d.frozen (j*4+1);have bh:=d.frozen (j*4+2);have bi:=d.frozen (j*4+3);have bx:(0:Int)<=i:=a8;have bz:(i:Int)<m:=a8;have ca:(0:Int)<=j:=a8;have cb:(j:Int)<m:=a8;have cc:(j:Int)<=400000:=a8;have cd:(i:Int)<j:=a8;have ba:=a6 aj;clear CI o C B aj;have ac:l.getD i a39=l[i]:=by rw[b9,e9 T];rfl
  have ad:l.getD j a39=l[j]:=by rw[b9,e9 aa];rfl
  obtain⟨ax,ay,N,L⟩:=F6 ac ad A d;clear ac ad A d;generalize l[i]=P at*;generalize l[j]=R at*;obtain⟨E,G,F,H⟩:=P;obtain⟨v,x,w,y⟩:=R;simp only[B7.cells,List.getElem?_cons_zero,List.getElem?_cons_succ]at ak al am an ao ap aq ar;go_wp2_with fail;go_region
  have b1:=(((L.f (i*4) (I U1 v)).f (i*4+1) (I U8 x)).f (i*4+2) (I U8 w)).f (i*4+3) (I V y);rw[tF l h i ⟨v,x,w,y⟩ T]at b1;have b2:=(((b1.f (j*4) (I U1 E)).f (j*4+1) (I U8 G)).f (j*4+2) (I U8 F)).f (j*4+3) (I V H);rw[tF (l.set i ⟨v,x,w,y⟩) h j ⟨E,G,F,H⟩ (by rw[List.length_set];exact aa)]at b2;have ae:=((((((((N.trans (c8 wr g (i*4) (I U1 v))).trans (c8 _ g (i*4+1) (I U8 x))).trans (c8 _ g (i*4+2) (I U8 w))).trans (c8 _ g (i*4+3) (I V y))).trans (c8 _ g (j*4) (I U1 E))).trans (c8 _ g (j*4+1) (I U8 G))).trans (c8 _ g (j*4+2) (I U8 F))).trans (c8 _ g (j*4+3) (I V H)));obtain⟨av,aw⟩:=j0 (b2.drew) (ae.trans (y7 (E4 _) (So g)));have ce:IntKind.i64.wrap ((j:Int)-1)=(j:Int)-1:=h7 _ a8;clear b1 b2 ae ak al am an ao ap aq ar bb bc bd be bf bg bh bi;go_wp2;go_roundw;have br:=ba.O;have bo:=az.O;refine⟨i+1,(j:Int)-1,(l.set i ⟨v,x,w,y⟩).set j ⟨E,G,F,H⟩,a8,a8,o3,rfl,by rw[List.length_set,List.length_set];exact bo,λk bm=> ?_,aw.O,av.O⟩;have af:=S i a8;have ag:=S j a8;rw[ax.O,if_neg a8]at af;rw[ay.O,if_neg a8]at ag;rw[uD _ _ _ _ (by rw[List.length_set];omega),uD _ _ _ _ a8];by_cases z:j=k;subst z;rw[if_pos rfl,if_pos a8,af,(a8:m-1-j=i)];rw[if_neg z];by_cases p:i=k;subst p;rw[if_pos rfl,if_pos a8,ag,(a8:m-1-i=j)];rw[if_neg p,S k bm];by_cases s:k<i\/m-1-k<i;rw[if_pos s,if_pos a8];rw[if_neg s,if_neg a8];simp[intOf];omega
 have bp:l=f.reverse:=by
  refine List.ext_getElem (by rw[C,List.length_reverse,Q.O]) λk bk bq=> ?_
  have bj:=B k a8;have bn:k<D l:=bk;have z:l.getD k a39=l[k]:=by rw[b9,e9 bn];rfl
  have bu:=Q.O;rw[List.getElem_reverse,<-z,bj];have p:∀q,(ai:q<D f)->f.getD q a39=f[q]:=λq ai=>by rw[b9,e9 ai];rfl
  by_cases s:k<i\/m-1-k<i;rw[if_pos s,p _ a8];congr 1;omega;rw[if_neg s,p _ a8];congr 1;omega
 subst bp;obtain⟨N,L⟩:=j0 A d;clear A d B C;go_wp2;go_end0;exact⟨⟨_,rfl⟩,N.O,h,L.O⟩
theorem VL(h:p1)(n c:Nat)(a:List Sy)(w:Wd)(s:D a=n)(r:∀i∈a,i.ok)(o:i5 w h (sc a))(j:eS a=Bt)(ab:D (eU a).bk<=4096):
 Ca prog 162 #[Z h n c] w λe x=>∃g C d,e=X (Tp #[Z (So ⟨g,0,J⟩) (D (eU a).bk) C,I M 0])/\e7 x g 141 (pc (eU a).bk.reverse++d).toArray/\w.heap.size<=g/\a9 w x:=by
 have H:=a6 (NN h n c a w s r j o);have W:1<=D (eU a).bk:=by have:=(FE a (m9 (D a)).reverse).h6;have aa:=(iH j).l1;rw[List.length_reverse,List.length_range]at this;unfold eU;omega
 generalize eU a=f at*;have ai:Dc ((4096:Int)<D f.bk)=Bf:=by simp;omega
 clear s r o j;go_in;go_wp2_with fail;apply H.mono;rintro e y⟨E,S,base,v,rfl,L,Q,ad⟩;have B:=L.k.cell 0;obtain⟨G,⟨ag,T⟩|⟨g,cap,cur,rfl,ac,l,af,ae,P,t⟩⟩:=L.r;omega;have m:e7 y g 141 (cur.toList).toArray:=by unfold e7;simpa using l
 have N:E≠g:=λe=>by
  subst e;have b:=L.k;unfold e7 at b;rw[l]at b;injection b with b
  injection b with _ b
  exact absurd b e6
 have p:∃d,cur.toList=pc f.bk++d:=⟨cur.toList.drop (D f.bk*4),by rw[<-t,List.take_append_drop]⟩;obtain⟨A,z⟩:=j0 (SM g (D f.bk) cap a8 _ cur.toList f.bk rfl p y m) L.k;clear G l P t m p L;go_wp2_with fail;apply A.mono;rintro e ah⟨⟨u,rfl⟩,q,d,F⟩;have R:=(z.grown q (λe=>by injection e with e;exact N e)).cell 0;clear B;go_wp2;go_ret2;exact⟨g,cap,d,rfl,F,a8,Q.grown q (λk e=>by cases e;omega)⟩
end
def a3U(aa:Nat):Deferred:= {target:= .collected aa,args:= #[]}
def bF(a:R8)(W:Wd):Prop:=a.Nodup/\∀b∈a,W.heap[b]? =So (.deferred (So []))
def V8(b:R8)(W:Wd):Wd:=b.foldl (λW a=>W.putObj a (.deferred J)) W
theorem iJ{f:Fence}{n:Nat}{P:Pg}{b:Func}{tmps:Array Va}{R:Ending->Wd->Prop}:∀(a:R8)(W:Wd),bF a W->(∃v,(results b tmps).run P (V8 a W)= .ok v (V8 a W)/\R (X v) (V8 a W))->
 LeavesInM f n P b tmps R (a.map a3U) .returning W
 |[],W,_,h=>h
 |aa::a,W,hm,h=>by obtain⟨e,c⟩:=hm;have g:=c aa i3;refine⟨i3,.inl ⟨aa,_,rfl,run_takeDeferred g,?_⟩⟩;refine iJ a _ ⟨(List.nodup_cons.1 e).2,λE d=> ?_⟩ h;refine(World.putObj_heap_other ?_).trans (c E (by simp[d]));rintro rfl;exact(List.nodup_cons.1 e).1 d
theorem fB:∀(a:R8)(W:Wd)(b:Nat),b∉a->(V8 a W).heap[b]? =W.heap[b]?
 |[],W,b,_=>rfl
 |aa::a,W,b,h=>by
  have c:b≠aa:=λe=>h (by simp[e])
  have:=fB a (W.putObj aa (.deferred J)) b (λk=>h (by simp[k]));exact this.trans (World.putObj_heap_other c)
theorem hQ:∀(a:R8)(W:Wd),(V8 a W).heap.size=W.heap.size
 |[],W=>rfl
 |aa::a,W=>by have:=hQ a (W.putObj aa (.deferred J));exact this.trans (by simp[World.putObj])
theorem hT:∀(a:R8)(W:Wd),(V8 a W).os=W.os/\(V8 a W).tape=W.tape/\(V8 a W).output=W.output
 |[],W=>⟨rfl,rfl,rfl⟩
 |aa::a,W=>by have:=hT a (W.putObj aa (.deferred J));exact this
section
attribute [local go_sem] Oper.semAt_some
end
section
attribute [local go_sem] Oper.semAt_some
end
section
structure Vm where
 a:Int
 x:Int
 cs:o5
 told:Int
 over:Bool
structure Vm.ok(s:Vm):Prop where
 a:QA s.a
 x:QA s.x
 len:D s.cs=16
 cs:∀k,QA (s.cs.getD k 0)
 told:QA s.told
section
variable {W W':Wd} {g:Nat} {d:mY} {s:Vm}
end
end
def fH(c:List Bool)(a:Nat):Bool:=c.getD a Bf
def yE(c:List Bool)(a:Nat):Bool:=fH c a&&((a !=0&&a !=2)||(fH c 0&&fH c 2&&a==0))
def fG(c:List Bool):Nat->Nat
 |0=>2
 |a+1=>fG c a+(if yE c a then 1 else 0)
def QH(c:List Bool):Nat->List It
 |0=>[.put ⟨32,4,0,0⟩]
 |a+1=>QH c a++(if yE c a then [.jmp 21 (J5 a) 1 (fG c a),.here (fG c a)]else [])
def sG(c:List Bool):Nat->Int
 |0=> -1
 |a+1=>if fH c a&&(a==0||a==2)&& !(fH c 0&&fH c 2)then a else sG c a
def BN(c:List Bool):List It:=if sG c 6<0 then []else [.jmp 21 (J5 (sG c 6)) (fG c 6) 0,.here (fG c 6),.put ⟨32,0,0,0⟩,if sG c 6=2 then .jmp 69 1073741824 1 0 else .jmp 69 1073741824 0 1]
def xC(c:List Bool):List It:=QH c 6++(BN c++[.here 0,.put ⟨6,2147483648,0,0⟩,.here 1,.put ⟨6,2147418112,0,0⟩])
structure bZ(ps:List Sy):Prop where
 may:C5 ps
 ok:∀s∈ps,s.ok
 len:D ps<=1365
instance :DecidablePred Sy.ok:=λs=>by unfold Sy.ok KK;infer_instance
def a3j(r:List Sy):Bool:=eS r&&r.all (λs=>decide s.ok)&&Dc (D r<=1365)
theorem a0o{r:List Sy}(h:a3j r=Bt):bZ r:=by unfold a3j at h;simp only[j3,List.all_eq_true,decide_eq_true_eq]at h;exact⟨iH h.1.1,h.1.2,h.2⟩
theorem a4b:∀a b c d e f:Bool,a3j (O5 (xC [a,b,c,d,e,f]))=Bt:=yA
theorem a2y{c:List Bool}(h:D c=6):bZ (O5 (xC c)):=by
 match c,h with
 |[c0,c1,c2,c3,c4,c5],_=>exact a0o (a4b c0 c1 c2 c3 c4 c5)
theorem bZ.opt{r:List Sy}(h:bZ r):bZ (Y1 r):=
 ⟨a0D h.may,a1E (fR (R9 h.may)) (a23 (R9 h.may) (fQ (R9 h.may)) (SD h.may h.ok)),b6 (a3G h.may) h.len⟩
def aW(r:List Sy):List B7:=(eU r).bk.reverse
theorem bZ.bk{r:List Sy}(h:bZ r):D (eU r).bk<=4096:=by have:=(FE r (m9 (D r)).reverse).h1;have:=h.len;rw[List.length_reverse,List.length_range]at*;unfold eU;omega
def mB(c:Bool)(a b:List Sy):List B7:=if c then(if(aW a).length<D (aW (Y1 b)) then aW a else aW (Y1 b))else aW a
section
variable {α:Type} {E:s7 α}
theorem M5{c:Type}(a B C cs:List c)(b:D cs=D B):splice (a++B++C) (D a) cs=a++cs++C:=by unfold splice;rw[b,<-g1,List.drop_left,p6 a B C,List.take_left,p6]
theorem s7.row_take(xs:List α)(i:Nat):E.row (xs.take i)++E.row (xs.drop i)=E.row xs:=by rw[<-E.row_append,List.take_append_drop]
theorem c7.blk{w:Wd}{base n c:Nat}{e:Ti}{b:p1}{xs:List α}(f:c7 w base e E (Z b n c) xs)(q:0<D xs):∃g cs Jq,b=So ⟨g,0,J⟩/\n=D xs/\base<=g/\e7 w g e cs/\n<=c/\c<=maxLen/\cs.size=c*E.k/\cs.toList=E.row xs++Jq:=by
 obtain⟨o,p,a,r,d⟩:=f;injection a with e1 e2 e3
 subst e1 e2 e3;rcases d with⟨_,d⟩|⟨g,cap,cur,a,l,m,h,i,j,k⟩
 omega;injection a with e1 e2 e3
 subst e1 e3;exact⟨g,cur,cur.toList.drop (D xs*E.k),rfl,rfl,l,m,h,i,j,by rw[<-k,List.take_append_drop]⟩
theorem c7.mk2{w:Wd}{base n c g:Nat}{e:Ti}{xs:List α}{cs:Array Va}{Jq:List Va}(a:base<=g)(B:e7 w g e cs)(f:D xs=n)(b:n<=c)(d:c<=maxLen)(h:cs.size=c*E.k)(i:cs.toList=E.row xs++Jq):c7 w base e E (Z g n c) xs:=by subst f;refine⟨_,c,rfl,E.row_length xs,.inr ⟨g,c,cs,rfl,a,B,b,d,h,?_⟩⟩;rw[i,<-E.row_length xs,List.take_left]
theorem row_set(xs:List α)(i:Nat)(x:α)(Jq:List Va)(hi:i<D xs):splice (E.row xs++Jq) (i*E.k) (E.c x)=E.row (xs.set i x)++Jq:=by
 have a:xs=xs.take i++(xs[i]::xs.drop (i+1)):=by rw[<-List.drop_eq_getElem_cons hi,List.take_append_drop]
 have b:i*E.k=D (E.row (xs.take i)):=by rw[E.row_length,m4,Nat.min_eq_left a8]
 have e:E.row xs++Jq=E.row (xs.take i)++E.c xs[i]++(E.row (xs.drop (i+1))++Jq):=by
  conv=>lhs;rw[a]
  rw[E.row_append,E.row_cons];simp
 rw[e,b,M5 _ _ _ _ (by rw[E.len,E.len]),List.set_eq_take_append_cons_drop,if_pos hi,E.row_append,E.row_cons];simp
theorem e7.splice1{w:Wd}{g:Nat}{t:Ti}{cs:Array Va}(a:e7 w g t cs)(o:Nat)(u:Va)(b:o<cs.size):e7 (w.setCell ⟨g,o,J⟩ u) g t (splice cs.toList o [u]).toArray:=by
 have e:(splice cs.toList o [u]).toArray=cs.setIfInBounds o u:=by apply Array.ext';unfold splice;simp[List.set_eq_take_append_cons_drop,b]
 rw[e];exact a.f o u
theorem M4{a:Type}(L cs:List a)(o:Nat)(b:o+D cs<=D L):D (splice L o cs)=D L:=by unfold splice;simp;omega
theorem jP{P:Pg}{w:Wd}{dT B ty:Ti}(e:Ti)(z:P.underlying dT=So (.slice e))(a:Nat)(l:(P.info? e).map (·.size)=So a)
 (g o h n d c m:Nat) (b:Ad) (cur:Array Va) (t:Ti) (r:e7 w g t cur) (x:min d h=m) (cs:List Va) (s:D cs=m*a) (C:o+m*a<=cur.size)
 (q:i5 w (So b) cs) (p:∀v∈cs,v.oneCell'=Bt):
 (Builtin.copy_ #[dT,B] ty #[Z (So ⟨g,o,J⟩) h n,Z (So b) d c]).run P w= .ok (goInt m) (w.setRow g (splice cur.toList o cs).toArray):=by
 cases f:P.info? e with
 |none=>simp[f]at l
 |some i=>
  have hi:i.size=a:=by simpa[f]using l
  have k:=run_storeCells_at P g o t cs 0 cur w r a8 p
  have u:=run_firstCells_some (P:=P) (w:=w) a m b d c cs s (λj v A=>q.add A)
  have y:Nat.min d h=m:=x
  simp only[j8]at k
  simp[Builtin.copy_,run_underlying z,Builtin.lenOf,sizeOf,typeInfo,f,hi,y,u,k,splice]
theorem gT{P:Pg}{w:Wd}{n:Array Oper}{rest:List Oper}{o:Oper}{a:Act}{Q:Exit->Act->Wd->Prop}(z:o.guard=J)(k s:Operand)(dT L:Ti)
 (C:o.op= .call {callee:= .builtin .copy,args:= #[k,s],argTypes:= #[dT,L]}) (f:Ti) (H:P.underlying dT=So (.slice f)) (d:Nat) (G:(P.info? f).map (·.size)=So d)
 (g of h j i c m:Nat) (b:Ad) (x:a.eval k=Z (So ⟨g,of,J⟩) h j) (F:a.eval s=Z (So b) i c) (cur:Array Va) (t:Ti) (l:e7 w g t cur) (B:min i h=m) (cs:List Va) (A:D cs=m*d) (y:of+m*d<=cur.size)
 (u:i5 w (So b) cs) (q:∀v∈cs,v.oneCell'=Bt) (p:∀e,e7 e g t (splice cur.toList of cs).toArray->w.grownBy e (So g)->e=w.heap.size->Wp P n Q rest (a.put o.dst (goInt m)) e):Wp P n Q (o::rest) a w:=by
 refine wpList_plain z λN r=> ?_
 unfold Oper.wp execOp;simp only[C,resolve,invoke,builtin,Sem.run_bind,Sem.run_pure,Result.andThen_ok,List.map_toArray,List.map_cons,List.map_nil,x,F,jP f H d G g of h j i c m b cur t l B cs A y u q];exact r _ _ (p _ (setRow_heap w g cur _ t (0,0) l) (H0 w g _) i3)
end
def y1:List (g4×C2):=[(⟨#[64,98,97,115,105,99,45,105,111]⟩,[⟨#[114,101,97,100]⟩,⟨#[119,114,105,116,101]⟩,⟨#[99,108,111,115,101]⟩]),(⟨#[64,99,108,111,99,107]⟩,[⟨#[99,108,111,99,107,95,115,101,116,116,105,109,101]⟩,⟨#[115,101,116,116,105,109,101,111,102,100,97,121]⟩]),(⟨#[64,100,101,98,117,103]⟩,[⟨#[112,116,114,97,99,101]⟩,⟨#[112,101,114,115,111,110,97,108,105,116,121]⟩]),(⟨#[64,102,105,108,101]⟩,[⟨#[64,98,97,115,105,99,45,105,111]⟩,⟨#[111,112,101,110]⟩,⟨#[111,112,101,110,97,116]⟩,⟨#[105,111,99,116,108]⟩]),(⟨#[64,109,101,109,111,114,121]⟩,[⟨#[98,114,107]⟩,⟨#[109,109,97,112]⟩,⟨#[109,112,114,111,116,101,99,116]⟩,⟨#[109,117,110,109,97,112]⟩,⟨#[112,107,101,121,95,109,112,114,111,116,101,99,116]⟩,⟨#[115,104,109,97,116]⟩]),(⟨#[64,109,111,100,117,108,101]⟩,[⟨#[100,101,108,101,116,101,95,109,111,100,117,108,101]⟩,⟨#[102,105,110,105,116,95,109,111,100,117,108,101]⟩,⟨#[105,110,105,116,95,109,111,100,117,108,101]⟩]),(⟨#[64,109,111,117,110,116]⟩,[⟨#[109,111,117,110,116]⟩,⟨#[117,109,111,117,110,116,50]⟩]),(⟨#[64,110,101,115,116]⟩,[⟨#[64,110,101,115,116,45,50]⟩,⟨#[107,105,108,108]⟩]),(⟨#[64,110,101,115,116,45,50]⟩,[⟨#[64,110,101,115,116,45,51]⟩,⟨#[103,101,116,117,105,100]⟩]),(⟨#[64,110,101,115,116,45,51]⟩,[⟨#[64,110,101,115,116,45,52]⟩,⟨#[115,101,116,117,105,100]⟩]),(⟨#[64,110,101,115,116,45,52]⟩,[⟨#[64,110,101,115,116,45,53]⟩,⟨#[101,120,105,116]⟩]),(⟨#[64,110,101,115,116,45,53]⟩,[⟨#[114,101,97,100]⟩]),(⟨#[64,110,101,116,119,111,114,107]⟩,[⟨#[98,105,110,100]⟩,⟨#[99,111,110,110,101,99,116]⟩,⟨#[108,105,115,116,101,110]⟩,⟨#[115,111,99,107,101,116]⟩]),(⟨#[64,112,114,105,118,105,108,101,103,101,100]⟩,[⟨#[64,99,108,111,99,107]⟩,⟨#[64,109,111,100,117,108,101]⟩,⟨#[64,109,111,117,110,116]⟩,⟨#[64,114,101,98,111,111,116]⟩,⟨#[98,112,102]⟩,⟨#[115,101,116,117,105,100]⟩]),(⟨#[64,112,114,111,99,101,115,115]⟩,[⟨#[99,108,111,110,101]⟩,⟨#[99,108,111,110,101,51]⟩,⟨#[101,120,101,99,118,101]⟩,⟨#[101,120,105,116]⟩,⟨#[102,111,114,107]⟩,⟨#[107,105,108,108]⟩,⟨#[115,101,116,110,115]⟩,⟨#[117,110,115,104,97,114,101]⟩]),(⟨#[64,114,101,98,111,111,116]⟩,[⟨#[114,101,98,111,111,116]⟩]),(⟨#[64,114,101,115,111,117,114,99,101,115]⟩,[⟨#[115,99,104,101,100,95,115,101,116,97,116,116,114]⟩,⟨#[115,99,104,101,100,95,115,101,116,115,99,104,101,100,117,108,101,114]⟩]),(⟨#[64,115,121,115,116,101,109]⟩,[⟨#[64,102,105,108,101]⟩,⟨#[64,109,101,109,111,114,121]⟩,⟨#[64,110,101,116,119,111,114,107]⟩,⟨#[64,112,114,111,99,101,115,115]⟩,⟨#[103,101,116,117,105,100]⟩])]
structure ZP where
 name:g4
 G:Nat
 has:C2
def OL:s7 ZP:=⟨2,λg=>[Y g.name,Z g.G (D g.has) (D g.has)],λ_=>rfl,λx u a=>by simp at a;rcases a with rfl|rfl<;>rfl⟩
def dL(B:Nat)(w:Wd)(l:List ZP):Prop:=∀g∈l,B<=g.G/\i5 w g.G (x4.row g.has)
theorem dL.h{B:Nat}{w c:Wd}{l:List ZP}(a:dL B w l)(x:a9 w c):dL B c l:=λg b=>⟨(a g b).1,(a g b).2.h x⟩
theorem dL.snoc{B:Nat}{w c:Wd}{l:List ZP}(b:dL B w l)(x:a9 w c)(g:ZP)(e:B<=g.G)(f:i5 w g.G (x4.row g.has)):dL B c (l++[g]):=λd a=>by
 rcases List.mem_append.1 a with a|a
 exact⟨(b d a).1,(b d a).2.h x⟩;rw[List.mem_singleton.1 a];exact⟨e,f.h x⟩
theorem a5M(s:g4)(G n:Nat)(W:Wd):Ca prog 461 #[Y s,Z G n n] W λe b=>e=X (Ag #[Y s,Z G n n])/\a9 W b:=by have a:=(a9.refl W).alloc (U #[Y s,Z G n n] 536);go_in;go_wp2;exact F9 (e7.new _ _ _) underlying536 ⟨rfl,a⟩
theorem FZ(W:Wd):Ca prog 455 #[] W λe d=>∃(f:Nat)(c:List ZP),e=X (Z f 18 18)/\c.map (λg=>(g.name,g.has))=y1/\i5 d f (OL.row c)/\dL W d c/\a9 W d:=by
 have b:=a6 a5M;have P:dL W W []:=λg ad=>by cases ad
 have a:=a9.refl W;go_in;go_wp2_with fail;refine l4 (b ⟨#[64,98,97,115,105,99,45,105,111]⟩ _ _ _) λz h=>?_;replace P:=(P.h ((a9.refl _).alloc _)).snoc h ⟨⟨#[64,98,97,115,105,99,45,105,111]⟩,W,[⟨#[114,101,97,100]⟩,⟨#[119,114,105,116,101]⟩,⟨#[99,108,111,115,101]⟩]⟩ a.size (i5.f (e7.new W _ _) rfl);replace a:=(a.alloc _).trans h;go_wp2_with fail;refine l4 (b ⟨#[64,99,108,111,99,107]⟩ _ _ _) λN i=>?_;replace P:=(P.h ((a9.refl _).alloc _)).snoc i ⟨⟨#[64,99,108,111,99,107]⟩,z,[⟨#[99,108,111,99,107,95,115,101,116,116,105,109,101]⟩,⟨#[115,101,116,116,105,109,101,111,102,100,97,121]⟩]⟩ a.size (i5.f (e7.new z _ _) rfl);replace a:=(a.alloc _).trans i;go_wp2_with fail;refine l4 (b ⟨#[64,100,101,98,117,103]⟩ _ _ _) λQ r=>?_;replace P:=(P.h ((a9.refl _).alloc _)).snoc r ⟨⟨#[64,100,101,98,117,103]⟩,N,[⟨#[112,116,114,97,99,101]⟩,⟨#[112,101,114,115,111,110,97,108,105,116,121]⟩]⟩ a.size (i5.f (e7.new N _ _) rfl);replace a:=(a.alloc _).trans r;go_wp2_with fail;refine l4 (b ⟨#[64,102,105,108,101]⟩ _ _ _) λR s=>?_;replace P:=(P.h ((a9.refl _).alloc _)).snoc s ⟨⟨#[64,102,105,108,101]⟩,Q,[⟨#[64,98,97,115,105,99,45,105,111]⟩,⟨#[111,112,101,110]⟩,⟨#[111,112,101,110,97,116]⟩,⟨#[105,111,99,116,108]⟩]⟩ a.size (i5.f (e7.new Q _ _) rfl);replace a:=(a.alloc _).trans s;go_wp2_with fail;refine l4 (b ⟨#[64,109,101,109,111,114,121]⟩ _ _ _) λS t=>?_;replace P:=(P.h ((a9.refl _).alloc _)).snoc t ⟨⟨#[64,109,101,109,111,114,121]⟩,R,[⟨#[98,114,107]⟩,⟨#[109,109,97,112]⟩,⟨#[109,112,114,111,116,101,99,116]⟩,⟨#[109,117,110,109,97,112]⟩,⟨#[112,107,101,121,95,109,112,114,111,116,101,99,116]⟩,⟨#[115,104,109,97,116]⟩]⟩ a.size (i5.f (e7.new R _ _) rfl);replace a:=(a.alloc _).trans t;go_wp2_with fail;refine l4 (b ⟨#[64,109,111,100,117,108,101]⟩ _ _ _) λT u=>?_;replace P:=(P.h ((a9.refl _).alloc _)).snoc u ⟨⟨#[64,109,111,100,117,108,101]⟩,S,[⟨#[100,101,108,101,116,101,95,109,111,100,117,108,101]⟩,⟨#[102,105,110,105,116,95,109,111,100,117,108,101]⟩,⟨#[105,110,105,116,95,109,111,100,117,108,101]⟩]⟩ a.size (i5.f (e7.new S _ _) rfl);replace a:=(a.alloc _).trans u;go_wp2_with fail;refine l4 (b ⟨#[64,109,111,117,110,116]⟩ _ _ _) λaa v=>?_;replace P:=(P.h ((a9.refl _).alloc _)).snoc v ⟨⟨#[64,109,111,117,110,116]⟩,T,[⟨#[109,111,117,110,116]⟩,⟨#[117,109,111,117,110,116,50]⟩]⟩ a.size (i5.f (e7.new T _ _) rfl);replace a:=(a.alloc _).trans v;go_wp2_with fail;refine l4 (b ⟨#[64,110,101,115,116]⟩ _ _ _) λab w=>?_;replace P:=(P.h ((a9.refl _).alloc _)).snoc w ⟨⟨#[64,110,101,115,116]⟩,aa,[⟨#[64,110,101,115,116,45,50]⟩,⟨#[107,105,108,108]⟩]⟩ a.size (i5.f (e7.new aa _ _) rfl);replace a:=(a.alloc _).trans w;go_wp2_with fail;refine l4 (b ⟨#[64,110,101,115,116,45,50]⟩ _ _ _) λac x=>?_;replace P:=(P.h ((a9.refl _).alloc _)).snoc x ⟨⟨#[64,110,101,115,116,45,50]⟩,ab,[⟨#[64,110,101,115,116,45,51]⟩,⟨#[103,101,116,117,105,100]⟩]⟩ a.size (i5.f (e7.new ab _ _) rfl);replace a:=(a.alloc _).trans x;go_wp2_with fail;refine l4 (b ⟨#[64,110,101,115,116,45,51]⟩ _ _ _) λA y=>?_;replace P:=(P.h ((a9.refl _).alloc _)).snoc y ⟨⟨#[64,110,101,115,116,45,51]⟩,ac,[⟨#[64,110,101,115,116,45,52]⟩,⟨#[115,101,116,117,105,100]⟩]⟩ a.size (i5.f (e7.new ac _ _) rfl);replace a:=(a.alloc _).trans y;go_wp2_with fail;refine l4 (b ⟨#[64,110,101,115,116,45,52]⟩ _ _ _) λB j=>?_;replace P:=(P.h ((a9.refl _).alloc _)).snoc j ⟨⟨#[64,110,101,115,116,45,52]⟩,A,[⟨#[64,110,101,115,116,45,53]⟩,⟨#[101,120,105,116]⟩]⟩ a.size (i5.f (e7.new A _ _) rfl);replace a:=(a.alloc _).trans j;go_wp2_with fail;refine l4 (b ⟨#[64,110,101,115,116,45,53]⟩ _ _ _) λC k=>?_;replace P:=(P.h ((a9.refl _).alloc _)).snoc k ⟨⟨#[64,110,101,115,116,45,53]⟩,B,[⟨#[114,101,97,100]⟩]⟩ a.size (i5.f (e7.new B _ _) rfl);replace a:=(a.alloc _).trans k;go_wp2_with fail;refine l4 (b ⟨#[64,110,101,116,119,111,114,107]⟩ _ _ _) λE l=>?_;replace P:=(P.h ((a9.refl _).alloc _)).snoc l ⟨⟨#[64,110,101,116,119,111,114,107]⟩,C,[⟨#[98,105,110,100]⟩,⟨#[99,111,110,110,101,99,116]⟩,⟨#[108,105,115,116,101,110]⟩,⟨#[115,111,99,107,101,116]⟩]⟩ a.size (i5.f (e7.new C _ _) rfl);replace a:=(a.alloc _).trans l;go_wp2_with fail;refine l4 (b ⟨#[64,112,114,105,118,105,108,101,103,101,100]⟩ _ _ _) λF m=>?_;replace P:=(P.h ((a9.refl _).alloc _)).snoc m ⟨⟨#[64,112,114,105,118,105,108,101,103,101,100]⟩,E,[⟨#[64,99,108,111,99,107]⟩,⟨#[64,109,111,100,117,108,101]⟩,⟨#[64,109,111,117,110,116]⟩,⟨#[64,114,101,98,111,111,116]⟩,⟨#[98,112,102]⟩,⟨#[115,101,116,117,105,100]⟩]⟩ a.size (i5.f (e7.new E _ _) rfl);replace a:=(a.alloc _).trans m;go_wp2_with fail;refine l4 (b ⟨#[64,112,114,111,99,101,115,115]⟩ _ _ _) λG n=>?_;replace P:=(P.h ((a9.refl _).alloc _)).snoc n ⟨⟨#[64,112,114,111,99,101,115,115]⟩,F,[⟨#[99,108,111,110,101]⟩,⟨#[99,108,111,110,101,51]⟩,⟨#[101,120,101,99,118,101]⟩,⟨#[101,120,105,116]⟩,⟨#[102,111,114,107]⟩,⟨#[107,105,108,108]⟩,⟨#[115,101,116,110,115]⟩,⟨#[117,110,115,104,97,114,101]⟩]⟩ a.size (i5.f (e7.new F _ _) rfl);replace a:=(a.alloc _).trans n;go_wp2_with fail;refine l4 (b ⟨#[64,114,101,98,111,111,116]⟩ _ _ _) λH o=>?_;replace P:=(P.h ((a9.refl _).alloc _)).snoc o ⟨⟨#[64,114,101,98,111,111,116]⟩,G,[⟨#[114,101,98,111,111,116]⟩]⟩ a.size (i5.f (e7.new G _ _) rfl);replace a:=(a.alloc _).trans o;go_wp2_with fail;refine l4 (b ⟨#[64,114,101,115,111,117,114,99,101,115]⟩ _ _ _) λL p=>?_;replace P:=(P.h ((a9.refl _).alloc _)).snoc p ⟨⟨#[64,114,101,115,111,117,114,99,101,115]⟩,H,[⟨#[115,99,104,101,100,95,115,101,116,97,116,116,114]⟩,⟨#[115,99,104,101,100,95,115,101,116,115,99,104,101,100,117,108,101,114]⟩]⟩ a.size (i5.f (e7.new H _ _) rfl);replace a:=(a.alloc _).trans p;go_wp2_with fail;refine l4 (b ⟨#[64,115,121,115,116,101,109]⟩ _ _ _) λae q=>?_;replace P:=(P.h ((a9.refl _).alloc _)).snoc q ⟨⟨#[64,115,121,115,116,101,109]⟩,L,[⟨#[64,102,105,108,101]⟩,⟨#[64,109,101,109,111,114,121]⟩,⟨#[64,110,101,116,119,111,114,107]⟩,⟨#[64,112,114,111,99,101,115,115]⟩,⟨#[103,101,116,117,105,100]⟩]⟩ a.size (i5.f (e7.new L _ _) rfl);replace a:=(a.alloc _).trans q;go_wp2;go_ret;exact⟨_,_,rfl,rfl,cF i3 rfl,P.h ((a9.refl _).alloc _),a.alloc _⟩
section
open Go.Shelf Go.Sort
theorem a5F:Lays.n190 prog ⟨λ|190=>446|125=>136|258=>456|128=>203|129=>204|302=>462|303=>463|304=>464|305=>465|306=>466|307=>467|308=>468|309=>469|310=>470|333=>472|329=>275|330=>276|334=>473|335=>474|336=>137|344=>475|n=>n,λ|31=>186|46=>211|51=>32|53=>34|183=>297|182=>296|131=>301|218=>382|222=>385|228=>450|229=>275|n=>n,λn=>n⟩:=by constructor<;>first|(intro w;kernel_rfl)|kernel_rfl
theorem a5E:Lays.n194 prog ⟨λ|194=>447|n=>n,λ|31=>186|n=>n,λn=>n⟩:=by constructor<;>first|(intro w;kernel_rfl)|kernel_rfl
def mI(xs:C2):List (List UInt8):=xs.map (·.data.toList)
def ZK(xs:List (List UInt8)):C2:=xs.map λl=>⟨l.toArray⟩
theorem IS(xs:C2):ZK (mI xs)=xs:=by unfold ZK mI;rw[List.map_map];refine(List.map_congr_left λs _=> ?_).trans (List.map_id xs);cases s;simp
theorem vW(a:List (List UInt8)):x4.row (ZK a)=a.map encStr:=by rw[a4S,ZK,List.map_map];rfl
def cT(xs:C2):C2:=ZK ((mI xs).mergeSort λx y=>Dc (x<=y))
def iX(xs:C2):C2:=ZK (Lib.compact (mI xs))
theorem HV(xs:C2):x4.row xs=(mI xs).map encStr:=by rw[<-vW,IS]
theorem O0(xs:C2):D (mI xs)=D xs:=by simp[mI]
theorem nK(xs:List (List UInt8)):D (ZK xs)=D xs:=by simp[ZK]
theorem Y7(xs:C2):D (cT xs)=D xs:=by unfold cT;rw[nK,List.length_mergeSort,O0]
theorem a3f(v:Va)(xs:C2)(base:Nat)(w:Wd)(F:D xs<=1000000)(b:c7 w base 9 x4 v xs):
 Ca prog 446 #[v] w λe d=>e=X (Tp #[])/\c7 d base 9 x4 v (cT xs)/\w.grownBy d v.ownBlock:=by
 obtain⟨h,c,rfl,b⟩:=b;rcases b.2 with⟨i,k⟩|⟨g,cap,cur,i,q,s,l,m,o,C⟩
 have A:xs=[]:=List.eq_nil_of_length_eq_zero k;subst A;have B:cT []=[]:=List.eq_nil_of_length_eq_zero (by rw[Y7];rfl);rw[B];exact(Any.slices_Sort_string_none a5F h c w).mono λe d a=>⟨a.1,⟨h,c,rfl,by rw[a.2];exact b⟩,by rw[a.2];exact World.grownBy.refl w _⟩
 cases i;have y:(Z g (D xs) c)≠ Z J 0 0:=λa=>by cases a
 obtain⟨_,_,z,_,u,_,_,E,p⟩:=Lib.holds_of_ownsRow (zs:=mI xs) (by rw[<-HV];exact b) y;cases z;have t:D ((mI xs).mergeSort λx f=>Dc (x<=f))=D (mI xs):=List.length_mergeSort _;have:=Any.slices_Sort_string a5F g 0 c (mI xs) w p u (by rw[O0];omega);rw[O0]at this;refine this.mono λe d⟨r,n,os,j⟩=>⟨r,⟨_,c,by rw[Y7],?_⟩,by rw[j];exact grownBy_sorted _⟩
 rw[j,Y7];unfold cT;rw[vW];have:=ownsRow_sorted (base:=base) (n:=n) (os:=os) (ss:=mI xs) (ts:=(mI xs).mergeSort λx f=>Dc (x<=f)) (cap:=c) (cur:=cur) (e:=9) (g:=g) t q s (by rw[O0];exact l) m o;rw[O0]at this;exact this
theorem LQ(v:Va)(xs:C2)(base:Nat)(w:Wd)(G:D xs<=1000000)(b:c7 w base 9 x4 v xs):
 Ca prog 447 #[v] w λe d=>∃v',e=X v'/\c7 d base 9 x4 v' (iX xs)/\w.grownBy d v.ownBlock:=by
 obtain⟨i,c,rfl,b⟩:=b;rcases b.2 with⟨l,n⟩|⟨g,cap,cur,l,A,B,o,x,y,z⟩
 have u:xs=[]:=List.eq_nil_of_length_eq_zero n;subst u;exact(Any.slices_Compact_string_empty a5E i c w).mono λe d a=>⟨_,a.1,⟨i,c,rfl,by rw[a.2];exact b⟩,by rw[a.2];exact World.grownBy.refl w _⟩
 cases l;have f:(Z g (D xs) c)≠ Z J 0 0:=λa=>by cases a
 have h:=b;rw[HV]at h;obtain⟨_,_,t,_,F,_,_,E,p⟩:=Lib.holds_of_ownsRow (zs:=mI xs) h f;cases t;have s:=Lib.compact_length_le (mI xs);rw[O0]at s;have:=Any.slices_Compact_string a5E g 0 c (mI xs) w p (by rw[O0];omega) (by rw[O0];exact o);rw[O0]at this;refine this.mono λe d⟨r,q,m⟩=>⟨_,r,⟨_,c,by unfold iX;rw[nK],?_⟩,?_⟩
 rw[m];unfold iX;rw[vW,nK];have j:=Lib.ownsRow_putRow (q:=q) (k:=D (Lib.compact (mI xs))) (ys:=Lib.compact (mI xs)++p4 (D xs-D (Lib.compact (mI xs))) []) h G6 a8;rw[List.take_left]at j;exact j;rw[m];refine⟨rfl,rfl,rfl,by simp[putRow,mapBlock,Sort.ahead],λk C f=> ?_⟩;have:g≠k:=λe=>f (by rw[e];rfl)
 simp[putRow,mapBlock,Sort.ahead,Array.getElem?_modify,this]
end
abbrev G5:=g4×Int×Int×Int×Int×Int×Int
def H8:List G5:=[(⟨#[98,105,110,100]⟩,49,361,49,282,200,200),(⟨#[98,112,102]⟩,321,357,321,386,280,280),(⟨#[98,114,107]⟩,12,45,12,45,214,214),(⟨#[99,108,111,99,107,95,115,101,116,116,105,109,101]⟩,227,264,227,262,112,112),(⟨#[99,108,111,110,101]⟩,56,120,56,120,220,220),(⟨#[99,108,111,110,101,51]⟩,435,435,-1,435,435,435),(⟨#[99,108,111,115,101]⟩,3,6,3,6,57,57),(⟨#[99,111,110,110,101,99,116]⟩,42,362,42,283,203,203),(⟨#[100,101,108,101,116,101,95,109,111,100,117,108,101]⟩,176,129,176,129,106,106),(⟨#[101,120,101,99,118,101]⟩,59,11,520,11,221,221),(⟨#[101,120,105,116]⟩,60,1,60,1,93,93),(⟨#[102,105,110,105,116,95,109,111,100,117,108,101]⟩,313,350,313,379,273,273),(⟨#[102,111,114,107]⟩,57,2,57,2,-1,-1),(⟨#[103,101,116,117,105,100]⟩,102,24,102,24,174,174),(⟨#[105,110,105,116,95,109,111,100,117,108,101]⟩,175,128,-1,128,105,105),(⟨#[105,111,99,116,108]⟩,16,54,514,54,29,29),(⟨#[107,105,108,108]⟩,62,37,62,37,129,129),(⟨#[108,105,115,116,101,110]⟩,50,363,50,284,201,201),(⟨#[109,109,97,112]⟩,9,90,9,-1,222,222),(⟨#[109,111,117,110,116]⟩,165,21,165,21,40,40),(⟨#[109,112,114,111,116,101,99,116]⟩,10,125,10,125,226,226),(⟨#[109,117,110,109,97,112]⟩,11,91,11,91,215,215),(⟨#[111,112,101,110]⟩,2,5,2,5,-1,-1),(⟨#[111,112,101,110,97,116]⟩,257,295,257,322,56,56),(⟨#[112,101,114,115,111,110,97,108,105,116,121]⟩,135,136,135,136,92,92),(⟨#[112,107,101,121,95,109,112,114,111,116,101,99,116]⟩,329,380,329,394,288,-1),(⟨#[112,116,114,97,99,101]⟩,101,26,521,26,117,117),(⟨#[114,101,97,100]⟩,0,3,0,3,63,63),(⟨#[114,101,98,111,111,116]⟩,169,88,169,88,142,142),(⟨#[115,99,104,101,100,95,115,101,116,97,116,116,114]⟩,314,351,314,380,274,274),(⟨#[115,99,104,101,100,95,115,101,116,115,99,104,101,100,117,108,101,114]⟩,144,156,144,156,119,119),(⟨#[115,101,99,99,111,109,112]⟩,317,354,317,383,277,277),(⟨#[115,101,116,110,115]⟩,308,346,308,375,268,268),(⟨#[115,101,116,116,105,109,101,111,102,100,97,121]⟩,164,79,164,79,170,170),(⟨#[115,101,116,117,105,100]⟩,105,23,105,23,146,146),(⟨#[115,104,109,97,116]⟩,30,397,-1,305,196,196),(⟨#[115,111,99,107,101,116]⟩,41,359,41,281,198,198),(⟨#[117,109,111,117,110,116,50]⟩,166,52,166,52,39,39),(⟨#[117,110,115,104,97,114,101]⟩,272,310,272,337,97,97),(⟨#[119,114,105,116,101]⟩,1,4,1,4,64,64)]
def G5.cells(c:G5):List Va:=[Y c.1,I M c.2.1,I M c.2.2.1,I M c.2.2.2.1,I M c.2.2.2.2.1,I M c.2.2.2.2.2.1,I M c.2.2.2.2.2.2]
def mA:Array Va:=(H8.flatMap G5.cells).toArray
theorem PL(W:Wd):Ca prog 296 #[] W λe f=>e=X (Ag mA)/\a9 W f:=by
 have c:∀v∈mA.toList,v.oneCell'=Bt:=by have:mA.toList.all (·.oneCell')=Bt:=g6;exact List.all_eq_true.1 this
 go_in;have b:∀x:Array Va,e7 (W.alloc (U x 398)) W 398 x:=λx=>e7.new _ _ _
 go_wp2_with(first|(refine x6 rfl 398 _ rfl mA g6 ?_)|(refine j1 rfl 398 (Tm 0) (Tm 81) rfl W 398 zeroCells398 mA rfl rfl (b _) g6 g6 c ?_;intro g a d));exact F9 a underlying398 ⟨rfl,((a9.refl W).alloc _).grown d (λk e=>by cases e;exact a7 _)⟩
def uW:s7 G5:=⟨7,G5.cells,λ_=>rfl,λx u a=>by simp[G5.cells]at a;rcases a with rfl|rfl|rfl|rfl|rfl|rfl|rfl<;>rfl⟩
theorem CP(c:G5)(s:g4)(g:Nat)(W:Wd)(h:W.cell? ⟨g,0,J⟩=So (Y s)):
 Ca prog 228 (#[Ag c.cells.toArray]++ #[K g]) W λe j=>e=X (O (c.1.toList==s.toList))/\a9 W j:=by
 obtain⟨n,a,b,c,d,e,f⟩:=c;have i:=(a9.refl W).alloc (U #[Y n,I M a,I M b,I M c,I M d,I M e,I M f] 316);have k:=i.cell h;have l:g≠W.heap.size:=Nat.ne_of_lt (block_lt_of_cell h);show Ca prog 228 #[Ag #[Y n,I M a,I M b,I M c,I M d,I M e,I M f],K g] W _;go_in;go_wp2;go_ret;exact⟨rfl,i⟩
theorem xS(c:G5)(s:g4)(g:Nat)(W:Wd)(h:W.cell? ⟨g,0,J⟩=So (Y s)):
 Ca prog 434 (#[Ag c.cells.toArray]++ #[K g]) W λe j=>e=X (O (c.1.toList==s.toList))/\a9 W j:=by
 obtain⟨n,a,b,c,d,e,f⟩:=c;have i:=(a9.refl W).alloc (U #[Y n,I M a,I M b,I M c,I M d,I M e,I M f] 316);have k:=i.cell h;have l:g≠W.heap.size:=Nat.ne_of_lt (block_lt_of_cell h);show Ca prog 434 #[Ag #[Y n,I M a,I M b,I M c,I M d,I M e,I M f],K g] W _;go_in;go_wp2;go_ret;exact⟨rfl,i⟩
def a2c:G5:=(⟨#[]⟩,0,0,0,0,0,0)
def X7(p:G5->Bool):G5×Bool:=match H8.find? p with
 |some c=>(c,Bt)
 |none=>(a2c,Bf)
theorem uU(p:G5->Bool)(g:Nat)(lb:Array Va)(ae:∀args w,(callFunc g args).run prog w= .ok (.enter g args) w)(W:Wd)(aj:V4 prog g lb (λx=>Ag (uW.c x).toArray) p W H8):
 Ca prog 227 #[Fc (.func g) #[] lb] W λe q=>e=X (Tp #[Ag (X7 p).1.cells.toArray,O (X7 p).2])/\a9 W q:=by
 have aa:=a6 PL;have ai:∀v∈mA.toList,v.oneCell'=Bt:=uW.row_oneCell H8;obtain⟨ac,ab⟩:=j0 (λw G c(ak:a9 W w)(ag:i5 w (So ⟨G,0,J⟩) (uW.row H8))=>(hX a1d uW e6 isAgg316 sizeOf316 p g lb ae _ 40 c H8 w (aj.h ak) rfl e6 ag:Ca prog 297 #[Z (So ⟨G,0,J⟩) 40 c,Fc (.func g) #[] lb] w λe q=>e=X (I M (Q0 p H8 0))/\a9 w q)) (kI p H8 0);have ay:D H8=40:=rfl;have af:mA.toList=uW.row H8:=rfl;obtain⟨R,a⟩:∃R,R=X7 p:=⟨_,rfl⟩;rw[<-a];unfold X7 at a;have f:=a6 a;clear a;generalize mA=ad at*;generalize H8=y at*;generalize Q0 p y 0=ap at*;go_in;have al:=(a9.refl W).alloc (U #[Y ⟨#[]⟩,I M 0,I M 0,I M 0,I M 0,I M 0,I M 0] 316);have T:=e7.new W 316 #[Y ⟨#[]⟩,I M 0,I M 0,I M 0,I M 0,I M 0,I M 0];go_wp2_with fail;refine l4 (aa _) λs m=>?_;have N:=al.trans m;have ah:∀x:Array Va,e7 (s.alloc (U x 398)) s 398 x:=λx=>e7.new _ _ _
 go_wp2_with(refine j1 rfl 398 (Tm 4) (Tm 6) rfl s 398 _ ad rfl rfl (ah _) g6 g6 ai ?_;intro bb S L);have P:=(N.alloc (U _ 398)).grown L (λk e=>by cases e;exact N.size);have u:=i5.f S af;refine l4 (ac _ _ 40 P u) λan o=>?_;have Q:=P.trans o;have am:a9 (W.alloc (U #[Y ⟨#[]⟩,I M 0,I M 0,I M 0,I M 0,I M 0,I M 0] 316)) an:=((m.alloc (U _ 398)).grown L (λk e=>by cases e;exact m.size)).trans o;have t:=T.h am;rcases ab.O with⟨k,d,i,ba,h⟩|⟨i,h⟩
 ·have a:=f.O;rw[h]at a;replace f:=a6 a;clear a h;rw[Nat.zero_add]at i;subst i;have b:=u.h o;have z:=b.elt0 d (r:=0) rfl;have A:=b.elt0 d (r:=1) rfl;have B:=b.elt0 d (r:=2) rfl;have C:=b.elt0 d (r:=3) rfl;have E:=b.elt0 d (r:=4) rfl;have F:=b.elt0 d (r:=5) rfl;have H:=b.elt0 d (r:=6) rfl;dsimp only[uW,j8]at z A B C E F H;have az:(k:Int)<40:=a8;generalize y[k]=c at*;obtain⟨n,aq,ar,au,av,aw,ax⟩:=c;dsimp only at z A B C E F H;go_wp2_with(refine q6 t ?_;intro ao j l);exact s0 rfl j underlying316 ⟨by rw[f.O];rfl,Q.grown l (λk e=>by cases e;exact a7 _)⟩
 have a:=f.O;rw[h]at a;replace f:=a6 a;clear a h;subst i;go_wp2_with(refine q6 t ?_;intro ao j l);exact s0 rfl j underlying316 ⟨by rw[f.O];rfl,Q.grown l (λk e=>by cases e;exact a7 _)⟩
def w7(s:g4):Bool:=(X7 λc=>c.1.toList==s.toList).2
theorem gL(s:g4)(W:Wd):Ca prog 153 #[Y s] W λe j=>e=X (O (w7 s))/\a9 W j:=by have h:=(a9.refl W).alloc (U #[Y s] 9);have d:=a6 (uU (λc=>c.1.toList==s.toList) 228 #[K W] (Eo func228 g6 rfl) (W.alloc (U #[Y s] 9)) (λc _ W2 g=>CP c s W W2 (g.cell i3)));unfold w7;generalize X7 _=R at*;obtain⟨⟨n,a,b,c,k,e,f⟩,q⟩:=R;go_in;go_wp2_with fail;refine l4 d λl i=>?_;dsimp only[G5.cells];go_wp2;go_ret;exact⟨rfl,(h.trans i).alloc _⟩
end Go.Proofs.YtcljlejgllkcjaaGreat
