/- A part of the proof of TopFront: lemmas on the walks of its calls. -/
import Derived.Test.YtcljlejgllkcjaaGreatM19
set_option maxHeartbeats 12000000
set_option linter.all false
set_option maxRecDepth 100000
namespace Go.Proofs.YtcljlejgllkcjaaGreat
open Go.RowKit Go.ChangeShapes Go.WideShapes Tryz
open Bool renaming true→Bt,false→Bf
open Ending renaming returned→X
open Go renaming World→Wd,Value→Va,Calls→Ca,bodyPost_ret→Bp,TypeId→Ti,results_none→Rz
open Go.Proofs renaming enters_of→Eo
open IntKind renaming i64→M,u32→V,u64→U6,u8→U8
open List renaming length_append→g1,take_succ_eq_append_getElem→g2,length_map→i1,length_cons→i4,length_take→m4,length→D
open Nat renaming le_refl→a7,le_trans→b6,zero_le→c6
open Obj renaming cells→U
open Option renaming none→J,some→So
open Value renaming int→I,slice→Z,string→Y,pointer→K,bool→O,func→Fc,tuple→Tp,agg→Ag,nilFunc→Nf
structure NsS where
 all:Int
 ok:Bool
 ns:List i6
def P7(a:m8)(σ:NsS)(w:g4):NsS:=if(p0 i9 w 181).2=0 then⟨bits .or U6 σ.all (p0 i9 w 181).1,σ.ok,σ.ns⟩else⟨bits .or U6 σ.all (p0 i9 w 181).1,Bf,σ.ns++[fD a (p0 i9 w 181).2 w]⟩
def a3c(sp:Int)(a:Bool)(σ:NsS):Int:=if σ.ok then(if a then σ.all else bits .andNot U6 l9 σ.all)else sp
def O7(sp:Int)(b:List i6)(a:m8)(val:g4):Int×List i6:=
 if(l3 val).length=0 then(0,b)else if(G4 val).2=0 then(if(G4 val).1 then l9 else 0,b)
 else(a3c sp (j6 val).2 ((l3 (j6 val).1).foldl (P7 a) ⟨0,Bt,b⟩),((l3 (j6 val).1).foldl (P7 a) ⟨0,Bt,b⟩).ns)
theorem oS(a:m8):∀(l:C2)(σ:NsS),D (l.foldl (P7 a) σ).ns<=D σ.ns+D l
 |[],σ=>a7 _
 |x::l,σ=>by
  have b:D (P7 a σ x).ns<=D σ.ns+1:=by unfold P7;split;exact Nat.le_succ _;simp
  have c:=oS a l (P7 a σ x);simp only[List.foldl_cons,i4];omega
theorem a0j{w:Wd}{g base:Nat}{p:j2}{d:List i6}{a:m8}{ag ah ai aj bo:Va}(bl:C7 w g base p d a ag ah ai aj bo)(val:g4)(df:val.size<=50000)(dd:D d+val.size+2<=1000000):
 Ca prog 222 #[K g,Y val] w λcc bp=>cc=X (Tp #[])/\∃z,C7 bp g base {p with sp:=(O7 p.sp d a val).1} (O7 p.sp d a val).2 a ag ah ai aj z/\Tv base S4 w bp:=by
 obtain⟨bt,ba,az,bu⟩:=F6 (jJ val) (a4N val) (λW=>AL W) (S8 val a8);have de:=C1 val;have bv:=a6 (S8 (j6 val).1 a8);have dg:=x7 (j6 val).1;have bs:=a6 (λs W=>a0K s W);obtain⟨R,f⟩:∃R,R=O7 p.sp d a val:=⟨_,rfl⟩;rw[<-f];unfold O7 at f;generalize l3 val=aw at*;generalize j6 val=bz at*;generalize G4 val=B at*;obtain⟨ca,cn⟩:=bz;obtain⟨cr,bi⟩:=B;dsimp only at*;generalize l3 ca=b at*;obtain⟨ar,fm,fc,dy,lm,lc,fa,am,sp,we,pe,rt,np⟩:=p;dsimp only at*;obtain⟨H,G⟩:=j0 bl (λ(W:Wd)(x:Int)(ci:List i6)(co:Va)(k:C7 W g base ⟨ar,fm,fc,dy,lm,lc,fa,am,x,we,pe,rt,np⟩ ci a ag ah ai aj co)(h:Int)=>k.set (i:=8) (u:=I U6 h) (p':=⟨ar,fm,fc,dy,lm,lc,fa,am,h,we,pe,rt,np⟩) rfl ⟨k.o.a,k.o.f,k.o.l,k.o.m⟩);clear bl;go_in;go_wp2_with fail;apply(bu _).mono;rintro e cp⟨v,rfl,bm,aq⟩;obtain⟨A,Q⟩:=j0 (H.h aq) (Tv.f (B:=base) (S:=S4) aq);obtain⟨cs,c,rfl⟩:=bm.b;clear bm aq;have bj:cp.cell? ⟨g,8,J⟩=So (I U6 sp):=A.b.cell 8;have f8:=A.b.frozen 8;by_cases E:D aw=0
 ·have bk:((D aw:Int)==0)=Bt:=by simp[E]
  rw[if_pos E]at f;obtain⟨m,j⟩:=j0 f (G _ _ _ _ A 0);clear E f;go_wp2_with fail;exact Bp (Rz rfl _ _ _) rfl ⟨rfl,_,by rw[m.O];exact j.1,Q.trans j.2⟩
 have bk:((D aw:Int)==0)=Bf:=by simpa using E
 rw[if_neg E]at f;clear E;by_cases N:bi=0
 ·rw[if_pos N]at f;have m:=a6 f;subst N;clear f;go_wp2_with fail;refine l4 (ba _) λbq t=>?_;have aa:=A.h t;have cx:bq.cell? ⟨g,8,J⟩=So (I U6 sp):=aa.b.cell 8;have dc:=aa.b.frozen 8;obtain⟨T,bh⟩:=j0 (G _ _ _ _ aa 0) (Q.h t);clear aa t bj f8;rcases cr with _|_
  ·go_wp2_with fail;exact Bp (Rz rfl _ _ _) rfl ⟨rfl,_,by rw[m.O];exact T.1,bh.trans T.2⟩
  go_wp2_with fail;refine l4 (az _) λbr y=>?_;have ab:=T.1.h y;have cb:br.cell? ⟨g,8,J⟩=So (I U6 0):=ab.b.cell 8;have cd:=ab.b.frozen 8;obtain⟨j,bw⟩:=j0 (G _ _ _ _ ab l9) ((bh.trans T.2).h y);clear ab y;go_wp2_with fail;exact Bp (Rz rfl _ _ _) rfl ⟨rfl,_,by rw[m.O];exact j.1,bw.trans j.2⟩
 rw[if_neg N]at f;have da:(bi==0)=Bf:=by simpa using N
 have m:=a6 f;clear f N;go_wp2_with fail;refine l4 (ba _) λbq t=>?_;go_wp2_with fail;refine l4 (bt _) λbr y=>?_;go_wp2_with fail;apply(bv _).mono;rintro e cq⟨dj,rfl,ap,au⟩;obtain⟨ct,cv,rfl⟩:=ap.b;obtain⟨bc,ay,bg,bb,be⟩:=Y2 ap (A.h ((t.trans y).trans au)) (Q.h ((t.trans y).trans au)) (λk=>oS a (b.take k) ⟨0,Bt,d⟩) (λk(ad:k<D b)=>show(b.take (k+1)).foldl (P7 a) ⟨0,Bt,d⟩=P7 a ((b.take k).foldl (P7 a) ⟨0,Bt,d⟩) b[k] by rw[g2 ad,List.foldl_append];rfl);clear ap t y au bj f8 A Q;go_wp2;go_loopg [8,9,47] (D b) (λce ck cm cj DH=>∃(k:Nat)(z:Va),k<=D b/\D b-k<=ce/\cj=I M k/\ck=I U6 ((b.take k).foldl (P7 a) ⟨0,Bt,d⟩).all/\cm=O ((b.take k).foldl (P7 a) ⟨0,Bt,d⟩).ok/\C7 DH g base ⟨ar,fm,fc,dy,lm,lc,fa,am,sp,we,pe,rt,np⟩ ((b.take k).foldl (P7 a) ⟨0,Bt,d⟩).ns a ag ah ai aj z/\Tv base S4 cq DH);exact⟨0,bo,c6 _,a8,rfl,rfl,rfl,ay.O,.refl _ _ _⟩;obtain⟨k,z,ad,cg,rfl,rfl,rfl,F,L⟩:=hrel;by_cases an:k<D b
 ·have ao:=L.own bc e6;obtain⟨cf,cy,cu,rfl,-,-,-,-,-,-,-⟩:=ao.blk a8;have bk:wr.cell? ⟨cf,k,J⟩=So (Y b[k]):=by have:=ao.i.1.elt0 an (r:=0) rfl;rwa[show k*x4.k+0=k from Nat.mul_one k]at this
  have o:=be k an;have ch:=bb k;rw[m4,Nat.min_eq_left ad]at ch;generalize b[k]=h at*;generalize(b.take k).foldl (P7 a) ⟨0,Bt,d⟩=σ at*;obtain⟨all,af,ae⟩:=σ;dsimp only at*;rw[show P7 a ⟨all,af,ae⟩ h=if(p0 i9 h 181).2=0 then⟨bits .or U6 all (p0 i9 h 181).1,af,ae⟩else⟨bits .or U6 all (p0 i9 h 181).1,Bf,ae++[fD a (p0 i9 h 181).2 h]⟩from rfl]at o;have bd:=a6 (bs h);generalize p0 i9 h 181=q at*;obtain⟨di,av⟩:=q;dsimp only at*;have C:=a6 F;have dh:(k:Int)<D b:=a8;have bf:=a6 L;clear F ao L;by_cases P:av=0;·rw[if_pos P]at o;have n:=a6 o;subst P;clear o;go_wp2_with fail;refine l4 (bd _) λax l=>?_;go_wp2;go_roundg (D b-(k+1));exact⟨k+1,_,a8,a8,o3,by rw[n.O],by rw[n.O],by rw[n.O];exact C.h l,bf.h l⟩;omega
  rw[if_neg P]at o;have n:=a6 o;have cz:(av !=0)=Bt:=by simp[P]
  clear o P;go_wp2_with fail;refine l4 (bd _) λax l=>?_;go_wp2_with fail;apply(nH (C.h l) a8 av h).mono;rintro e dl⟨rfl,dk,k1,k2⟩;go_wp2;go_roundg (D b-(k+1));exact⟨k+1,_,a8,a8,o3,by rw[n.O],by rw[n.O],by rw[n.O];exact k1,(bf.h l).trans k2⟩;omega
 obtain rfl:k=D b:=a8;rw[List.take_length]at*;have bn:=m.O;generalize b.foldl (P7 a) ⟨0,Bt,d⟩=σ at*;obtain⟨all,af,ae⟩:=σ;dsimp only at*;have cb:wr.cell? ⟨g,8,J⟩=So (I U6 sp):=F.b.cell 8;have cd:=F.b.frozen 8;obtain⟨ak,C,al⟩:=r6 bn F (bg.trans L);clear bn F L bb be m bc ay bg an cg ad;rcases af with _|_
 ·go_wp2;go_end0;exact⟨rfl,z,by rw[ak.O];exact C.O,al.O⟩
 rcases cn with _|_
 ·go_wp2_with fail;refine l4 (az _) λax l=>?_;have ac:=C.h l;have cw:ax.cell? ⟨g,8,J⟩=So (I U6 sp):=ac.b.cell 8;have db:=ac.b.frozen 8;obtain⟨j,bx⟩:=j0 (G _ _ _ _ ac (bits .andNot U6 l9 all)) (al.h l);clear ac l;go_wp2;go_end0;exact⟨rfl,z,by rw[ak.O];exact j.1,bx.trans j.2⟩
 have j:=a6 (G _ _ _ _ C all);go_wp2;go_end0;exact⟨rfl,z,by rw[ak.O];exact j.1,al.trans j.2⟩
def sD:g4:=⟨#[83,121,115,116,101,109,67,97,108,108,65,114,99,104,105,116,101,99,116,117,114,101,115]⟩
def sF:g4:=⟨#[82,101,115,116,114,105,99,116,65,100,100,114,101,115,115,70,97,109,105,108,105,101,115]⟩
def sE:g4:=⟨#[82,101,115,116,114,105,99,116,78,97,109,101,115,112,97,99,101,115]⟩
def mQ:g4:=⟨#[77,101,109,111,114,121,68,101,110,121,87,114,105,116,101,69,120,101,99,117,116,101]⟩
def mR:g4:=⟨#[76,111,99,107,80,101,114,115,111,110,97,108,105,116,121]⟩
def mP:g4:=⟨#[82,101,115,116,114,105,99,116,82,101,97,108,116,105,109,101]⟩
def pY:g4:=⟨#[78,111,78,101,119,80,114,105,118,105,108,101,103,101,115]⟩
def yF(f:Nat):Va:=Fc (.func f) #[] #[]
def T6:List SV:=[(sD,yF 220),(sF,yF 221),(sE,yF 222),(mQ,yF 223),(mR,yF 224),(mP,yF 225),(pY,yF 226)]
theorem HZ(w:Wd):Ca prog 147 #[] w λe f=>∃g,e=X (.map (So g))/\H5 f g T6/\a9 w f:=by have i:= @run_makeMap prog;have a:H5 (w.alloc (.map #[] 0)) w []:=H5.new rfl;have b:a9 w (w.alloc (.map #[] 0)):=(a9.refl w).alloc _;go_in;go_wp2_with(refine V6 rfl _ _ _ 224 9 222 (.inr rfl) underlying224 underlying9 w _ rfl a _ rfl _ rfl ?_;intro j d c;have h:=b.f c (λk e=>by cases e;exact a7 _);clear a b c;have a:=d;have b:=h;clear d h);go_ret;exact⟨_,rfl,a,b⟩
theorem a3o(s:g4)(w:Wd):Ca prog 89 #[Y s] w λe d=>e=X (O (J4 T6 s).isSome)/\a9 w d:=by have a:=a6 (HZ w);go_in;go_wp2_with fail;apply a.mono;rintro e f⟨g,rfl,b,c⟩;go_wp2_with(refine D8 rfl _ _ 224 9 222 rfl underlying224 underlying9 Nf (by intro w;kernel_rfl) g T6 rfl b s rfl ?_);go_ret;exact⟨rfl,c⟩
theorem m7.mono{w:Wd}{base b2:Nat}{p:j2}{c d e f:Va}(a:m7 w base p c d e f)(b:b2<=base):m7 w b2 p c d e f:=⟨a.a.mono b,a.f.mono b,a.l.mono b,a.m.mono b⟩
theorem m7.grown{w j:Wd}{base g:Nat}{t:Ti}{cs:Array Va}{p:j2}{e f h i:Va}(a:m7 w base p e f h i)(b:e7 w g t cs)(c:3≠t/\94≠t/\32≠t)(d:w.grownBy j (So g)):m7 j base p e f h i:=
 ⟨a.a.kept d (.inr (a.a.ne b c.1)),a.f.kept d (.inr (a.f.ne b c.2.1)),a.l.kept d (.inr (a.l.ne b c.2.1)),a.m.kept d (.inr (a.m.ne b c.2.2))⟩
def VP.polO(base:Nat)(p:j2):VP:=⟨λv h=>∃d e f g,v=Ag (i7 p d e f g)/\m7 h base p d e f g,λ_ _ _⟨a,b,c,i,j,k⟩ x=>⟨a,b,c,i,j,k.h x⟩⟩
def VP.setA(base:Nat)(p:j2)(a:m8):VP:=⟨λv h=>∃d e f g,v=Ag (rU p d e f g (Z J 0 0) a)/\m7 h base p d e f g,λ_ _ _⟨a,b,c,i,j,k⟩ x=>⟨a,b,c,i,j,k.h x⟩⟩
def VP.setP(base:Nat)(p:j2)(a:m8):VP:=⟨λv d=>∃g h i j l,v=K (So ⟨g,0,J⟩)/\C7 d g base p [] a h i j l (Z J 0 0),λ_ _ _⟨g,a,b,c,e,f,k⟩ x=>⟨g,a,b,c,e,f,k.h x⟩⟩
def VP.mapL(L:List SV):VP:=⟨λv aa=>∃g,v= .map (So g)/\H5 aa g L,λ_ _ _⟨g,h,k⟩ x=>⟨g,h,k.h x⟩⟩
theorem C7.far{w o:Wd}{g base h:Nat}{t:Ti}{cs:Array Va}{p:j2}{i:List i6}{a:m8}{j k l m n:Va}(c:C7 w g base p i a j k l m n)(b:e7 w h t cs)(f:(3≠t/\94≠t/\32≠t)/\228≠t/\49≠t)(d:w.grownBy o (So h)):C7 o g base p i a j k l m n:=
 ⟨c.b.grown d (λe=>c.b.ne b f.2.1 (by injection e)),c.o.grown b f.1 d,c.n.kept d (.inr (c.n.ne b f.2.2)),c.hg,b6 c.hs d.size⟩
theorem LR(p:j2)(b c d e f:Va)(a:m8):(rU p b c d e f a).toList=(i7 p b c d e).toList++[f,Y a.file,I M a.line,Y a.sec,Y a.key,Y a.val]:=rfl
theorem C7.pol{w:Wd}{g base:Nat}{p:j2}{h:List i6}{a:m8}{b c d e i:Va}(f:C7 w g base p h a b c d e i):i5 w g (i7 p b c d e).toList:=by have:=f.b.inM;rw[LR]at this;exact this.prefix_
theorem zU(p:j2){g h i l:Va}(o:∃a n c B m d C k e b j f,g=Z a n c/\h=Z B m d/\i=Z C k e/\l=Z b j f):∀v∈(i7 p g h i l).toList,v.oneCell'=Bt:=by obtain⟨a,n,c,B,m,d,C,k,e,b,j,f,rfl,rfl,rfl,rfl⟩:=o;simp[i7,Value.oneCell']
theorem m7.one{w:Wd}{base:Nat}{p:j2}{b d g h:Va}(a:m7 w base p b d g h):∀v∈(i7 p b d g h).toList,v.oneCell'=Bt:=by obtain⟨i,n,c,q⟩:=a.a.f;obtain⟨B,m,o,r⟩:=a.f.f;obtain⟨C,k,e,s⟩:=a.l.f;obtain⟨l,j,f,t⟩:=a.m.f;exact zU p ⟨i,n,c,B,m,o,C,k,e,l,j,f,q,r,s,t⟩
def a59(p:j2)(a:m8)(f:Nat)(p':j2)(b:List i6):Prop:=∀(W:Wd)(g base:Nat)(c d i k:Va),C7 W g base p [] a c d i k (Z J 0 0)->
 Ca prog f #[K g,Y a.val] W λe W'=>e=X (Tp #[])/\∃va' h j vm' l,C7 W' g base p' b a va' h j vm' l/\Tv base S4 W W'
theorem W6(p p':j2)(a:m8)(v y z A:Va)(w:Wd)(bx:p.small)(bt:R7 w p v y z A)(f:Nat)(u:Bool)
 (bq:u=Bt->∀args w,(callFunc f args).run prog w= .ok (.enter f args) w)
 (Q:J4 T6 a.key=if u then So (yF f)else J) (T:List i6) (bi:if u then a59 p a f p' T else p'=p/\T=[]):
 Ca prog 90 #[Ag (i7 p v y z A),Ag (z8.c a).toArray] w λe bd=>∃va' ay ba vm' ce,e=X (Tp #[Ag (i7 p' va' ay ba vm'),ce])/\m7 bd w p' va' ay ba vm'/\c7 bd w 49 h9 ce T/\a9 w bd:=by
 obtain⟨s,t,sec,key,val⟩:=a;have an:(J4 T6 key).getD Nf=if u then yF f else Nf:=by dsimp only at Q;rw[Q];cases u<;>rfl
 have bw:(J4 T6 key).isSome=u:=by dsimp only at Q;rw[Q];cases u<;>rfl
 obtain⟨ai,al⟩:∃ai,ai=if u then yF f else Nf:=⟨_,rfl⟩
 rw[<-al]at an;obtain⟨cg,ae,ch,H,bl,ad⟩:=dK al (And.intro an bw) bx bt (λW=>HZ W) bi;clear Q an bw bi bx bt al;have G:∀i,a9 w (((w.alloc (U (i7 p v y z A) 36)).alloc (U #[Y s,I M t,Y sec,Y key,Y val] 89)).alloc (U i 36)):=λi=>(((a9.refl w).alloc _).alloc _).alloc _
 have bn:∀i,e7 (((w.alloc (U (i7 p v y z A) 36)).alloc (U #[Y s,I M t,Y sec,Y key,Y val] 89)).alloc (U i 36)) w 36 (i7 p v y z A):=λi=>((e7.new w _ _).alloc _).alloc _
 have b1:∀i,e7 (((w.alloc (U (i7 p v y z A) 36)).alloc (U #[Y s,I M t,Y sec,Y key,Y val] 89)).alloc (U i 36)) (w+1) 89 #[Y s,I M t,Y sec,Y key,Y val]:=λi=>(e7.b i3).alloc _
 have b2:∀i,e7 (((w.alloc (U (i7 p v y z A) 36)).alloc (U #[Y s,I M t,Y sec,Y key,Y val] 89)).alloc (U i 36)) (w+2) 36 i:=λi=>e7.b i3
 have bf:∀i,(((w.alloc (U (i7 p v y z A) 36)).alloc (U #[Y s,I M t,Y sec,Y key,Y val] 89)).alloc (U i 36)).heap.size=w.heap.size+3:=λi=>i3
 show Ca prog 90 #[Ag (i7 p v y z A),Ag #[Y s,I M t,Y sec,Y key,Y val]] w _;go_in;go_wp2_with fail;refine gP ?_;repeat
  first
   |(apply D7;focus (intro x d c;simp only[g0,o7,uV];(repeat intro F;try simp only[F]);have b:=(bn _).h c;have bf:=(b1 _).h c;go_wp2_with(first|(refine D1 b underlying36 ?_)|(refine D1 bf underlying89 ?_));exact dn rfl rfl (a9.refl _)))
   |(refine r7 ((VP.polO w p)) ?_ ?_
     ·intro x d c
      simp only[g0,o7,uV,VP.polO,VP.setA,VP.setP]
      intro j
      simp only[j]
      go_wp2_with(go_at_call 148;refine(tJ.2 p v y z A d ch (H.h ((G _).trans c))).mono ?_;rintro e be⟨va',ay,ba,vm',rfl,cm,ao⟩)
      refine e8 ?_ rfl (ao)
      exact⟨_,_,_,_,rfl,cm.mono ((G _).trans c).size⟩)
   |(refine r7 ((VP.setA w p ⟨s,t,sec,key,val⟩)) ?_ ?_
     ·intro x d c
      simp only[g0,o7,uV,VP.polO,VP.setA,VP.setP]
      rintro⟨co,cr,cv,cy,l,aq⟩ m
      simp only[l,m]
      dsimp only[i7]
      go_wp2_with fail
      refine e8 ?_ rfl (a9.refl _)
      exact⟨_,_,_,_,rfl,aq⟩)
   |(refine r7 ((VP.setP w p ⟨s,t,sec,key,val⟩)) ?_ ?_
     ·intro x d c
      simp only[g0,o7,uV,VP.polO,VP.setA,VP.setP]
      rintro⟨cp,ct,cw,cz,h,ar⟩
      simp only[h]
      go_wp2_with fail
      refine e8 ?_ rfl ((a9.refl d).alloc _)
      exact⟨_,_,_,_,_,rfl,⟨e7.new d _ _,ar.h ((a9.refl d).alloc _),c7.nil _ _ _ _,((G _).trans c).size,b6 ((G _).trans c).size i3⟩⟩)
   |(refine r7 ((VP.setP w p ⟨s,t,sec,key,val⟩)) ?_ ?_
     ·intro x d c
      simp only[g0,o7,uV,VP.polO,VP.setA,VP.setP]
      rintro⟨bs,cq,cu,cx,da,o,au⟩
      simp only[o]
      go_wp2_with fail
      refine e8 ?_ rfl (a9.refl _)
      exact⟨bs,_,_,_,_,rfl,au⟩)
 intro x d c;simp only[n9,g0,o7,uV];rintro j⟨co,cr,cv,cy,l,aq⟩ m⟨cp,ct,cw,cz,h,ar⟩⟨bs,cq,cu,cx,da,o,au⟩⟨P,ax,az,bb,bc,r,bz⟩;simp only[j,l,m,h,o,r];clear j l m h o r;obtain⟨aa,bg,bm,bh⟩:=F6 ((b1 _).h c) ((b2 _).h c) ((G _).trans c) bz;clear bn b1 b2 G aq ar au bz c bf;go_wp2_with fail;refine gP ?_;repeat
  first
   |(apply D7;focus (intro x d c;simp only[g0,o7,uV];(repeat intro F;try simp only[F]);go_wp2_with fail;exact dn rfl rfl (a9.refl _)))
   |(refine r7 ((VP.mapL T6)) ?_ ?_
     ·intro x d c
      simp only[g0,o7,uV,VP.mapL]
      go_wp2_with(go_at_call 147;apply(bl d).mono;rintro e be⟨g,rfl,ck,ao⟩)
      refine e8 ?_ rfl (ao)
      exact⟨_,rfl,ck⟩)
   |(refine r7 (.is (Y key)) ?_ ?_
     ·intro x d c
      simp only[g0,o7,uV,VP.mapL]
      intro l
      simp only[l]
      have bo:=(aa.h c).cell 3
      go_wp2_with fail
      refine e8 ?_ rfl (a9.refl _)
      rfl)
   |(refine r7 (.is (Tp #[ai,O u])) ?_ ?_
     ·intro x d c
      simp only[g0,o7,uV,VP.mapL]
      rintro⟨br,j,ap⟩ m
      simp only[j,m]
      go_wp2_with(refine D8 rfl _ _ 224 9 222 rfl underlying224 underlying9 Nf (by intro w;kernel_rfl) br T6 rfl ap key rfl ?_;rw[ae.1,ae.2])
      refine e8 ?_ rfl (a9.refl _)
      rfl)
 intro x d c;simp only[n9,g0,o7,uV];rintro⟨br,j,ap⟩ l m h o r B C bp;simp only[j,l,m,h,o,r,B,C,bp];clear j l m h o r B C bp;obtain⟨ab,ac⟩:=j0 (bh.h c) (bg.h c);have dc:=(aa.h c).cell 4;have af:=a6 (bm.trans c);clear c ap aa bg bm bh bl ae;rcases u with _|_
 ·obtain⟨rfl,rfl⟩:=ad.O;have S:=ab;have E:=ac;have ag:=af;go_wp2_with fail;obtain⟨q,ci⟩:=j0 (λYq(aj:GS (w+1+1) 36 13 (i7 p' ax az bb bc) d Yq)=>S.far E e6 aj.gr) (e7.lt E.O);refine wpIn_wide.1 (vD (R:=(GS (w+1+1) 36 13 (i7 p' ax az bb bc))) (n:=1) ?_);repeat
   first
    |(apply D7;focus (intro x d c;simp only[g0,g5,uV];(repeat intro F;try simp only[F]);have bo:d.cell? ⟨P,13,J⟩=So (Z J 0 0):=(q d c).b.cell 13;gi_wp2_with(refine bT rfl 36 _ rfl ⟨P,0,J⟩ _ _ rfl (q d c).pol underlying36 rfl g6 ?_);exact dn rfl rfl (L6.refl _)))
    |(refine r7 (BV) ?_ ?_
      ·intro x d c
       simp only[g0,g5,uV]
       intro h
       simp only[h]
       obtain⟨cs,ah,ak⟩:=c.sz _ E g6
       gi_wp2_with(refine q5 rfl 36 _ _ rfl (w+1+1) 36 cs _ rfl rfl ah (by rw[ak];rfl) g6 (q d c).o.one ?_;intro be L am)
       refine e8 ?_ rfl (GS.store am L rfl)
       exact L)
  intro x d c;simp only[n9,g0,g5,uV];rintro j l m h o r B C av N;simp only[j,l,m,h,o,r,B,C,N];clear j l m h o r B C N;go_wp2_with fail;exact s0 rfl av underlying36 ⟨_,_,_,_,_,rfl,(q d c).o,by exact(q d c).n,ag.f c.gr (λk e=>by cases e;omega)⟩
 have bv:=cg.O;have bk:a59 p ⟨s,t,sec,key,val⟩ f p' T:=ad.O;rw[if_pos rfl]at bv;subst bv;unfold yF;have bj:=a6 (bk d P w ax az bb bc ab.O);clear bk ad;replace bq:=bq rfl;go_wp2_with fail;apply bj.mono;rintro e db⟨rfl,ca,cb,cc,cd,dd,bu,aw⟩;obtain⟨E,ag,S⟩:=r6 (aw.blk ac (.inr e6)) (aw.b af (a7 _)) bu;clear bu aw ab ac af bj;go_wp2_with fail;obtain⟨cf,cn,cj,rfl⟩:=S.n.f;obtain⟨q,ci⟩:=j0 (λYq(aj:GS (w+1+1) 36 13 (i7 p' ca cb cc cd) db Yq)=>S.far E e6 aj.gr) (e7.lt E.O);refine wpIn_wide.1 (vD (R:=(GS (w+1+1) 36 13 (i7 p' ca cb cc cd))) (n:=1) ?_);repeat
  first
   |(apply D7;focus (intro x d c;simp only[g0,g5,uV];(repeat intro F;try simp only[F]);have bo:d.cell? ⟨P,13,J⟩=So (Z cf cn cj):=(q d c).b.cell 13;gi_wp2_with(refine bT rfl 36 _ rfl ⟨P,0,J⟩ _ _ rfl (q d c).pol underlying36 rfl g6 ?_);exact dn rfl rfl (L6.refl _)))
   |(refine r7 (BV) ?_ ?_
     ·intro x d c
      simp only[g0,g5,uV]
      intro h
      simp only[h]
      obtain⟨cs,ah,ak⟩:=c.sz _ E g6
      gi_wp2_with(refine q5 rfl 36 _ _ rfl (w+1+1) 36 cs _ rfl rfl ah (by rw[ak];rfl) g6 (q d c).o.one ?_;intro be L am)
      refine e8 ?_ rfl (GS.store am L rfl)
      exact L)
 intro x d c;simp only[n9,g0,g5,uV];rintro j l m h o r B C av N;simp only[j,l,m,h,o,r,B,C,N];clear j l m h o r B C N;go_wp2_with fail;exact s0 rfl av underlying36 ⟨_,_,_,_,_,rfl,(q d c).o,by exact(q d c).n,ag.f c.gr (λk e=>by cases e;omega)⟩
def fI(val:g4):List i6:=if(v7 val).2=0 then []else [⟨⟨#[]⟩,0,(v7 val).2,j9 val⟩]
def iQ(dy:Int)(val:g4):Int:=if(v7 val).2=0 then(v7 val).1 else dy
theorem a5P(p:j2)(f g h i:Va)(a base:Nat)(val:g4)(w:Wd)(L:val.size<=1000000)(C:e7 w a 36 (i7 p f g h i))(E:m7 w base p f g h i)(S:base<=w):
 Ca prog 215 #[K a,Y val] w λe n=>∃F,e=X F/\e7 n a 36 (i7 {p with dy:=iQ p.dy val} f g h i)/\m7 n base {p with dy:=iQ p.dy val} f g h i/\c7 n base 49 h9 F (fI val)/\w.grownBy n (So a):=by
 have H:=a6 (XH val L);obtain⟨ar,fm,fc,dy,lm,lc,fa,am,sp,we,pe,rt,np⟩:=p;obtain⟨R,m⟩:∃R,R=fI val:=⟨_,rfl⟩;obtain⟨v,l⟩:∃v,v=iQ dy val:=⟨_,rfl⟩;dsimp only at*;rw[<-m,<-l];unfold fI at m;unfold iQ at l;generalize v7 val=q at*;obtain⟨d,t⟩:=q;dsimp only[i7]at*;have W:0<=min (val.size:Int) 60:=a8;have aa:min (val.size:Int) 60<=val.size:=a8;have ab:(min (val.size:Int) 60).toNat=min val.size 60:=a8;obtain⟨x,z,A,y⟩:=F6 C E m l;clear C E m l;go_in;go_wp2_with fail;refine l4 (H _) λG c=>?_;have T:=c.size;by_cases j:t=0;·subst j;have r:=A.O;have b:=y.O;rw[if_pos rfl]at r b;have B:=x.h c;have Oq:=z.h c;have N:=B.cell 3;have Q:=B.frozen 3;obtain⟨s,RR⟩:=j0 (And.intro (B.f 3 (I V d)) (And.intro (show m7 (G.setCell ⟨a,3,J⟩ (I V d)) base ⟨ar,fm,fc,d,lm,lc,fa,am,sp,we,pe,rt,np⟩ f g h i from(λk=>⟨k.a,k.f,k.l,k.m⟩) (Oq.grown B e6 (c8 _ a 3 (I V d)))) ((y7 (j4 c J) (So a)).trans (c8 _ a 3 (I V d))))) (And.intro r b);clear r b B Oq c;go_wp2;go_ret;refine⟨_,rfl,?_,?_,?_,s.2.2⟩;rw[RR.2];exact s.1;rw[RR.2];exact s.2.1;rw[RR.1];exact c7.nil _ _ _ _
 have r:=A.O;have b:=y.O;rw[if_neg j]at r b;have P:(t !=0)=Bt:=by simp[j]
 obtain⟨RR,o⟩:=j0 (And.intro r b) c;clear r b j c;go_wp2;go_ret;have u:=(a9.refl G).alloc (U #[Y ⟨#[]⟩,I M 0,I M t,Y (j9 val)] 49);refine⟨_,rfl,?_,?_,?_,y7 (j4 (o.trans u) J) (So a)⟩;rw[RR.2];exact(x.h o.O).h u;rw[RR.2];exact(z.h o.O).h u;rw[RR.1];exact c7.new a8 rfl rfl e6
def x9(a:m8)(n:i6):i6:=⟨a.file,a.line,n.err,n.text⟩
def G9(a:m8)(b:List i6):List i6:=b.map (x9 a)
def a64(p p':j2)(m:List i6)(val:g4)(l:Va)(k:Wd):Prop:=∃f cap,l=Fc (.func f) #[] cap/\(∀args w,(callFunc f args).run prog w= .ok (.enter f args) w)/\
 ∀(W:Wd)(a base:Nat)(b c g i:Va),a9 k W->e7 W a 36 (i7 p b c g i)->m7 W base p b c g i->base<=W->
  Ca prog f (#[K a,Y val]++cap) W λe W'=>∃va' d h vm' j,e=X j/\e7 W' a 36 (i7 p' va' d h vm')/\m7 W' base p' va' d h vm'/\c7 W' base 49 h9 j m/\W.grownBy W' (So a)
def QC(d:Bool)(p p':j2)(c:List i6)(val:g4)(b:Va)(a:Wd):Prop:=d=Bt->a64 p p' c val b a
theorem QC.h{d:Bool}{p p':j2}{c:List i6}{val:g4}{b:Va}{a W:Wd}(h:QC d p p' c val b a)(x:a9 a W):QC d p p' c val b W:=λe=>by obtain⟨f,cap,i,j,k⟩:=h e;exact⟨f,cap,i,j,λYq g base m n o q l=>k Yq g base m n o q (x.trans l)⟩
def VP.filT(c:Bool)(p p':j2)(f:List i6)(val:g4):VP:=⟨λv d=>∃b,v=Tp #[b,O c]/\QC c p p' f val b d,λ_ _ _⟨a,e,k⟩ x=>⟨a,e,k.h x⟩⟩
def VP.filV(f:Bool)(p p':j2)(e:List i6)(val:g4):VP:=⟨λv c=>∃b,v=b/\QC f p p' e val b c,λ_ _ _⟨a,d,k⟩ x=>⟨a,d,k.h x⟩⟩
def VP.fkeys:VP:=⟨λv aa=>∃g a c,v= .map (So g)/\vB aa g a c,λ_ _ _⟨g,a,c,h,k⟩ x=>⟨g,a,c,h,k.h x⟩⟩
theorem a5b(A C:List Va)(a b u v:Va):((A++a::b::C).set (D A) u).set (D A+1) v=A++u::v::C:=by rw[List.set_append_right _ _ (a7 _),Nat.sub_self,List.set_cons_zero,List.set_append_right _ _ (Nat.le_succ _),Nat.succ_sub (a7 _),Nat.sub_self,List.set_cons_succ,List.set_cons_zero]
theorem a5a(A C:List Va)(a b u v:Va):((A++a::b::C).set (D A+1) v).set (D A) u=A++u::v::C:=by rw[List.set_append_right _ _ (Nat.le_succ _),Nat.succ_sub (a7 _),Nat.sub_self,List.set_cons_succ,List.set_cons_zero,List.set_append_right _ _ (a7 _),Nat.sub_self,List.set_cons_zero]
theorem oA(p p':j2)(a:m8)(s t u v:Va)(w:Wd)(cz:p.small)(aj:R7 w p s t u v)(y:Bool)(d:List i6)(ep:D d<=1000000)
 (ak:∀m g b c,vB m g b c->(J4 [(kF,QI b),(kE,QI c),(kG,fK3)] a.key).isSome=y/\QC y p p' d a.val ((J4 [(kF,QI b),(kE,QI c),(kG,fK3)] a.key).getD Nf) m) (cx:y=Bf->p'=p/\d=[]):
 Ca prog 88 #[Ag (i7 p s t u v),Ag (z8.c a).toArray] w λe bg=>∃va' de df vm' bf,e=X (Tp #[Ag (i7 p' va' de df vm'),bf])/\m7 bg w p' va' de df vm'/\c7 bg w 49 h9 bf (G9 a d)/\a9 w bg:=by
 obtain⟨h,j,sec,key,val⟩:=a;obtain⟨dk,H,bx,bz,ca⟩:=Y2 cz aj (λW=>JU W) ak cx;clear ak cz aj cx;have am:∀o,a9 w (((w.alloc (U (i7 p s t u v) 36)).alloc (U #[Y h,I M j,Y sec,Y key,Y val] 89)).alloc (U o 36)):=λo=>(((a9.refl w).alloc _).alloc _).alloc _
 have G:∀o,e7 (((w.alloc (U (i7 p s t u v) 36)).alloc (U #[Y h,I M j,Y sec,Y key,Y val] 89)).alloc (U o 36)) w 36 (i7 p s t u v):=λo=>((e7.new w _ _).alloc _).alloc _
 have b1:∀o,e7 (((w.alloc (U (i7 p s t u v) 36)).alloc (U #[Y h,I M j,Y sec,Y key,Y val] 89)).alloc (U o 36)) (w+1) 89 #[Y h,I M j,Y sec,Y key,Y val]:=λo=>(e7.b i3).alloc _
 have b2:∀o,e7 (((w.alloc (U (i7 p s t u v) 36)).alloc (U #[Y h,I M j,Y sec,Y key,Y val] 89)).alloc (U o 36)) (w+2) 36 o:=λo=>e7.b i3
 show Ca prog 88 #[Ag (i7 p s t u v),Ag #[Y h,I M j,Y sec,Y key,Y val]] w _;go_in;go_wp2_with(refine D1 (G _) underlying36 ?_);apply(tJ.1 p s t u v _ dk (H.h (am _))).mono;rintro e et⟨ea,ec,ee,eg,rfl,R,S⟩;have aq:=(G _).h S;have bi:=(b1 _).h S;have bj:=(b2 _).h S;have cc:=(am _).trans S;replace R:=R.mono (am _).size;have ap:=R.one;clear G b1 b2 am S;go_wp2_with(refine q6 aq ?_ (hx1q:=ap);intro eu bk Q);have cg:=R.grown aq e6 Q;have bl:=bi.grown Q i3;have bm:=bj.grown Q i3;have ck:=cc.f Q (λk e=>by cases e;exact a7 _);obtain⟨bu,E,aa,bt,cb⟩:=Y2 bk cg bl bm ck;clear aq bi bj cc R ap bk cg bl bm ck Q;refine gP ?_;repeat
  first
   |(apply D7;focus (intro x m l;simp only[g0,o7,uV];(repeat intro dp;try simp only[dp]);go_wp2_with fail;exact dn rfl rfl (a9.refl _)))
   |(refine r7 (VP.fkeys) ?_ ?_
     ·intro x m l
      simp only[g0,o7,uV,VP.filT,VP.filV]
      go_wp2_with(go_at_call 145;apply(bx m).mono;rintro e ew⟨g,b,c,rfl,al,dx⟩)
      refine e8 ?_ rfl (dx)
      exact⟨_,_,_,rfl,al⟩)
   |(refine r7 (.is (Y key)) ?_ ?_
     ·intro x m l
      simp only[g0,o7,uV,VP.filT,VP.filV]
      intro ae
      simp only[ae]
      have cn:=(aa.h l).cell 3
      go_wp2_with fail
      refine e8 ?_ rfl (a9.refl _)
      rfl)
   |(refine r7 ((VP.filT y p p' d val)) ?_ ?_
     ·intro x m l
      simp only[g0,o7,uV,VP.filT,VP.filV]
      rintro⟨ct,G,cn,ad,an⟩ af
      simp only[ad,af]
      obtain⟨dt,du⟩:=bz _ _ _ _ an
      go_wp2_with(refine D8 rfl _ _ 218 9 216 rfl underlying218 underlying9 Nf (by intro w;kernel_rfl) ct _ rfl an.m key rfl ?_;rw[dt])
      refine e8 ?_ rfl (a9.refl _)
      exact⟨_,rfl,du⟩)
   |(refine r7 ((VP.filT y p p' d val)) ?_ ?_
     ·intro x m l
      simp only[g0,o7,uV,VP.filT,VP.filV]
      rintro⟨dq,ag,bc⟩
      simp only[ag]
      go_wp2_with fail
      refine e8 ?_ rfl (a9.refl _)
      exact⟨_,rfl,bc⟩)
   |(refine r7 ((VP.filV y p p' d val)) ?_ ?_
     ·intro x m l
      simp only[g0,o7,uV,VP.filT,VP.filV]
      rintro⟨cr,z,ao⟩
      simp only[z]
      go_wp2_with fail
      refine e8 ?_ rfl (a9.refl _)
      exact⟨_,rfl,ao⟩)
   |(apply D7
     ·intro x m l
      simp only[g0,o7,uV,VP.filT,VP.filV]
      rintro⟨cr,z,ao⟩
      simp only[z]
      go_wp2_with fail
      refine e8 ?_ rfl (a9.refl _)
      rfl)
   |(refine r7 ((VP.filV y p p' d val)) ?_ ?_
     ·intro x m l
      simp only[g0,o7,uV,VP.filT,VP.filV]
      rintro⟨dr,ah,bd⟩
      simp only[ah]
      go_wp2_with fail
      refine e8 ?_ rfl (a9.refl _)
      exact⟨_,rfl,bd⟩)
 intro x m l;simp only[n9,g0,o7,uV];rintro⟨ct,G,cn,ad,an⟩ ae af⟨dq,ag,bc⟩⟨cr,z,ao⟩⟨dr,ah,bd⟩ co⟨en,cp,da⟩ cq;simp only[ad,ae,af,ag,z,ah,co,cp,cq];clear ad ae af ag z ah co cp cq;have dm:=(aa.h l).cell 4;obtain⟨ar,O1,bn,T,ab,bw⟩:=dK (bu.h l) (E.h l) (aa.h l) (bt.h l) (cb.trans l) da;clear an bc ao bd da l bu E aa bt cb bx bz;rcases y with _|_
 ·obtain⟨rfl,rfl⟩:=ca rfl;have ap:=O1.one;go_wp2_with(first|(refine D1 ar underlying36 ?_)|(refine q6 T.O ?_ (hx1q:=ap);intro dg di cv));exact s0 rfl di underlying36 ⟨_,_,_,_,_,rfl,O1.grown T e6 cv,by exact c7.nil _ _ _ _,ab.f cv (λk e=>by cases e;omega)⟩
 obtain⟨f,cap,rfl,em,P⟩:=bw rfl;have bv:=a6 (P m w w ea ec ee eg (a9.refl _) ar O1 ab.size);clear P bw ca;go_wp2_with fail;apply bv.mono;rintro e dg⟨eb,ed,ef,eh,bf,rfl,b3,db,be,ai⟩;obtain⟨bh,ac,rfl⟩:=be.b;have dw:∀i,i<3->i≠0->w+i≠w.heap.size:=λi _ aj e=>aj a8
 have bo:=bn.grown ai i3;have bq:=T.grown ai i3;have cm:=ab.f ai (λk e=>by cases e;exact a7 _);obtain⟨aw,ax,cd,av,F,r⟩:=dK bo bq cm b3 db be;clear bo bq cm b3 db be ai bn T ab ar O1 dm bv dw;go_wp2;go_loopg [28] (D d) (λds dz wr=>∃k:Nat,k<=D d/\D d-k<=ds/\dz=I M k/\c7 wr w 49 h9 (Z bh (D d) ac) ((d.take k).map (x9 ⟨h,j,sec,key,val⟩)++d.drop k)/\dg.grownBy wr (Z bh (D d) ac).ownBlock);exact⟨0,c6 _,a8,rfl,by simpa using r.O,World.grownBy.refl _ _⟩;obtain⟨k,ak,eo,rfl,N,q⟩:=hrel;by_cases cw:k<D d
 ·have dv:D ((d.take k).map (x9 ⟨h,j,sec,key,val⟩)++d.drop k)=D d:=by simp;omega
  obtain⟨A,cs,Jq,rfl,-,cu,B,P,al,bb,C⟩:=N.blk a8;have bp:=aw.grown q (λe=>r.ne aw e6 e.symm);obtain⟨ek,el⟩:=bp.c2;have cy:h9.row ((d.take k).map (x9 ⟨h,j,sec,key,val⟩)++d.drop k)++Jq=h9.row ((d.take k).map (x9 ⟨h,j,sec,key,val⟩))++ Y d[k].file::I M d[k].line::([I M d[k].err,Y d[k].text]++(h9.row (d.drop (k+1))++Jq)):=by rw[List.drop_eq_getElem_cons cw,h9.row_append,h9.row_cons];simp[h9]
  have L:D (h9.row ((d.take k).map (x9 ⟨h,j,sec,key,val⟩)))=k*4:=by rw[h9.row_length,i1,m4,Nat.min_eq_left ak];rfl
  have ba:h9.row ((d.take (k+1)).map (x9 ⟨h,j,sec,key,val⟩)++d.drop (k+1))++Jq=h9.row ((d.take k).map (x9 ⟨h,j,sec,key,val⟩))++ Y h::I M j::([I M d[k].err,Y d[k].text]++(h9.row (d.drop (k+1))++Jq)):=by rw[g2 cw,List.map_append,h9.row_append,h9.row_append];simp[h9,s7.row,x9]
  have az:D ((d.take (k+1)).map (x9 ⟨h,j,sec,key,val⟩)++d.drop (k+1))=D d:=by simp;omega
  rw[cy]at C;generalize d[k]=x at*;generalize h9.row ((d.take k).map (x9 ⟨h,j,sec,key,val⟩))=ei at*;generalize h9.row (d.drop (k+1))++Jq=ej at*;have er:wr.cell? ⟨A,k*4,J⟩=So (Y x.file):=by rw[B.cell,<-Array.getElem?_toList,C,List.getElem?_append_right a8,L,Nat.sub_self];rfl
  have es:wr.cell? ⟨A,k*4+1,J⟩=So (I M x.line):=by rw[B.cell,<-Array.getElem?_toList,C,List.getElem?_append_right a8,L,Nat.add_sub_cancel_left];rfl
  have ex:=B.frozen (k*4);have ey:=B.frozen (k*4+1);have k0:(0:Int)<=k:=a8;have k1:(k:Int)<D d:=a8;have ci:=(B.f (k*4) (Y h)).f (k*4+1) (I M j);have cj:=(B.f (k*4+1) (I M j)).f (k*4) (Y h);have dc:((cs.setIfInBounds (k*4) (Y h)).setIfInBounds (k*4+1) (I M j)).toList=h9.row ((d.take (k+1)).map (x9 ⟨h,j,sec,key,val⟩)++d.drop (k+1))++Jq:=by rw[ba,Array.toList_setIfInBounds,Array.toList_setIfInBounds,C,<-L,a5b]
  have dd:((cs.setIfInBounds (k*4+1) (I M j)).setIfInBounds (k*4) (Y h)).toList=h9.row ((d.take (k+1)).map (x9 ⟨h,j,sec,key,val⟩)++d.drop (k+1))++Jq:=by rw[ba,Array.toList_setIfInBounds,Array.toList_setIfInBounds,C,<-L,a5a]
  have br:=(q.trans (c8 wr A (k*4) (Y h))).trans (c8 _ A (k*4+1) (I M j));have bs:=(q.trans (c8 wr A (k*4+1) (I M j))).trans (c8 _ A (k*4) (Y h));obtain⟨ce,cf⟩:=j0 (And.intro (c7.mk2 (base:=w) (c:=ac) (n:=D d) cu ci az P al (by simpa using bb) dc) br) (And.intro (c7.mk2 (base:=w) (c:=ac) (n:=D d) cu cj az P al (by simpa using bb) dd) bs);clear ci cj dc dd br bs N q cy ba C L dv az B bb bp;go_wp2_with fail;go_region
  all_goals
   go_wp2;go_roundg (D d-(k+1));first|exact⟨k+1,a8,a8,o3,ce.1.h (a9.refl _).drew,ce.2.trans (y7 (E4 _) _)⟩|exact⟨k+1,a8,a8,o3,cf.1.h (a9.refl _).drew,cf.2.trans (y7 (E4 _) _)⟩
   omega
 obtain rfl:k=D d:=a8;rw[List.take_length,List.drop_length,List.append_nil]at N;have ch:m7 wr w p' eb ed ef eh:=⟨F.a.apart r e6 q,F.f.apart r e6 q,F.l.apart r e6 q,F.m.apart r e6 q⟩;have dh:=av.grown q (λe=>r.ne av e6 e.symm);have au:=ax.grown q (λe=>r.ne ax e6 e.symm);have dl:=cd.f q (λk e=>(r.lt e).1);have dy:=ch.one;have E:=a6 N;clear N q r aw ax cd av F;go_wp2_with(first|(refine D1 dh underlying36 ?_)|(refine q6 au ?_ (hx1q:=dy);intro ev dj ay));exact s0 rfl dj underlying36 ⟨_,_,_,_,_,rfl,ch.grown au e6 ay,by exact E.kept ay (.inr (E.ne au e6)),dl.f ay (λk e=>by cases e;omega)⟩
def y8(p:j2)(a:m8):j2×List i6:=
 if a.key==kF then({p with fm:=(B5 p.fm p.fc a.val Bt).1,fc:=(B5 p.fm p.fc a.val Bt).2.1},G9 a (B5 p.fm p.fc a.val Bt).2.2)
 else if a.key==kE then({p with lm:=(B5 p.lm p.lc a.val Bf).1,lc:=(B5 p.lm p.lc a.val Bf).2.1},G9 a (B5 p.lm p.lc a.val Bf).2.2)
 else if a.key==kG then({p with dy:=iQ p.dy a.val},G9 a (fI a.val))
 else(p,[])
theorem Y5(m:Int)(xs:List n0)(s:g4)(q:Bool):D (B5 m xs s q).2.2<=s.size+1/\D (B5 m xs s q).2.1<=max (D xs) 41:=by have b:=x7 (j6 s).1;have c:=C1 s;unfold B5;split;split;exact⟨c6 _,c6 _⟩;have a:=jL (I2 m (j6 s).2) (j6 s).2 q (l3 (j6 s).1) (xs,[]);dsimp only at a⊢;exact⟨by simp at a;omega,a.1⟩;exact⟨c6 _,Nat.le_max_left _ _⟩
theorem a4g(p:j2)(a:m8)(d h i f:Va)(w:Wd)(l:p.small)(F:a.val.size<=50000)(A:0<=p.fm)(B:0<=p.lm)(t:R7 w p d h i f):
 Ca prog 88 #[Ag (i7 p d h i f),Ag (z8.c a).toArray] w λe x=>∃va' y z vm' j,e=X (Tp #[Ag (i7 (y8 p a).1 va' y z vm'),j])/\m7 x w (y8 p a).1 va' y z vm'/\c7 x w 49 h9 j (y8 p a).2/\a9 w x:=by
 have G:=(Y5 p.fm p.fc a.val Bt).1;have H:=(Y5 p.lm p.lc a.val Bf).1;have L:D (fI a.val)<=1:=by unfold fI;split<;>simp
 have C:=l.f;have E:=l.l;unfold y8;cases k1:a.key==kF;cases k2:a.key==kE;cases k3:a.key==kG;exact oA p p a d h i f w l t Bf [] e6 (λu g b c k=>⟨by rw[G2];simp[k1,k2,k3],λe=>by cases e⟩) (λ_=>⟨rfl,rfl⟩);exact oA p _ a d h i f w l t Bt _ a8 (λu g b c k=>⟨by rw[G2];simp[k1,k2,k3],λ_=>⟨215,#[],by rw[G2,k1,k2,k3];rfl,Eo func215 g6 rfl,λW n base d h i f m o r s=>(a5P p d h i f n base a.val W a8 o r s).mono λe W'⟨j,q⟩=>⟨d,h,i,f,j,q⟩⟩⟩) ZH;obtain⟨ar,fm,fc,dy,lm,lc,fa,am,sp,we,pe,rt,np⟩:=p;exact oA _ _ a d h i f w l t Bt _ a8 (λu g b c k=>⟨by rw[G2];simp[k1,k2],λ_=>⟨283,#[K (So ⟨c,0,J⟩),K (c+1:Nat)],by rw[G2,k1,k2];rfl,Eo func283 g6 rfl,λW n base d h i f m o r s=>(a5N ar fm fc dy lm lc fa am sp we pe rt np d h i f n c base a.val W a8 B E o r s (k.bc.h m) (k.bd.h m)).mono λe W'⟨v,j,q⟩=>⟨d,h,v,f,j,q⟩⟩⟩) ZH;obtain⟨ar,fm,fc,dy,lm,lc,fa,am,sp,we,pe,rt,np⟩:=p;exact oA _ _ a d h i f w l t Bt _ a8 (λu g b c k=>⟨by rw[G2];simp[k1],λ_=>⟨283,#[K (So ⟨b,0,J⟩),K (b+1:Nat)],by rw[G2,k1];rfl,Eo func283 g6 rfl,λW n base d h i f m o r s=>(a5O ar fm fc dy lm lc fa am sp we pe rt np d h i f n b base a.val W a8 A C o r s (k.ba.h m) (k.bb.h m)).mono λe W'⟨v,j,q⟩=>⟨d,v,i,f,j,q⟩⟩⟩) ZH
def w9(p:j2)(a:m8):j2×List i6:=
 if a.key==sD then({p with ar:=(B3 p.ar [] a a.val).1},(B3 p.ar [] a a.val).2)
 else if a.key==sF then({p with am:=(D4 p.am p.fa [] a a.val).1,fa:=(D4 p.am p.fa [] a a.val).2.1},(D4 p.am p.fa [] a a.val).2.2)
 else if a.key==sE then({p with sp:=(O7 p.sp [] a a.val).1},(O7 p.sp [] a a.val).2)
 else if a.key==mQ then({p with we:=(E8 p.we [] a a.val).1},(E8 p.we [] a a.val).2)
 else if a.key==mR then({p with pe:=(E8 p.pe [] a a.val).1},(E8 p.pe [] a a.val).2)
 else if a.key==mP then({p with rt:=(E8 p.rt [] a a.val).1},(E8 p.rt [] a a.val).2)
 else if a.key==pY then({p with np:=(E8 p.np [] a a.val).1},(E8 p.np [] a a.val).2)
 else(p,[])
theorem E0(s:g4):J4 T6 s=if s==sD then So (yF 220)else if s==sF then So (yF 221)else if s==sE then So (yF 222)else if s==mQ then So (yF 223)
 else if s==mR then So (yF 224)else if s==mP then So (yF 225)else if s==pY then So (yF 226)else J:=by
 unfold J4 T6;simp only[cG];cases s==sD<;>cases s==sF<;>cases s==sE<;>cases s==mQ<;>cases s==mR<;>cases s==mP<;>cases s==pY<;>rfl
theorem a3n(p:j2)(a:m8)(b c d f:Va)(w:Wd)(l:p.small)(o:a.val.size<=50000)(v:D p.ar<=1000)(x:D p.fa<=1000)(j:R7 w p b c d f):
 Ca prog 90 #[Ag (i7 p b c d f),Ag (z8.c a).toArray] w λe q=>∃va' r s vm' u,e=X (Tp #[Ag (i7 (w9 p a).1 va' r s vm'),u])/\m7 q w (w9 p a).1 va' r s vm'/\c7 q w 49 h9 u (w9 p a).2/\a9 w q:=by
 have m:D ([]:List i6)+1<=1000000:=e6;have n:D ([]:List i6)+a.val.size+2<=1000000:=by simp;omega
 unfold w9;cases k1:a.key==sD;cases k2:a.key==sF;cases k3:a.key==sE;cases k4:a.key==mQ;cases k5:a.key==mR;cases k6:a.key==mP;cases k7:a.key==pY;exact W6 p p a b c d f w l j 0 Bf ZH (by rw[E0];simp[k1,k2,k3,k4,k5,k6,k7]) _ ⟨rfl,rfl⟩;exact W6 p _ a b c d f w l j 226 Bt (λ_=>Eo func226 g6 rfl) (by rw[E0];simp[k1,k2,k3,k4,k5,k6,k7]) _ (λW g base b c d f k=>(a49 k m a.val).mono λe W'⟨h,i,k2,t⟩=>⟨h,_,_,_,_,i,k2,t⟩);exact W6 p _ a b c d f w l j 225 Bt (λ_=>Eo func225 g6 rfl) (by rw[E0];simp[k1,k2,k3,k4,k5,k6]) _ (λW g base b c d f k=>(a47 k m a.val).mono λe W'⟨h,i,k2,t⟩=>⟨h,_,_,_,_,i,k2,t⟩);exact W6 p _ a b c d f w l j 224 Bt (λ_=>Eo func224 g6 rfl) (by rw[E0];simp[k1,k2,k3,k4,k5]) _ (λW g base b c d f k=>(a48 k m a.val).mono λe W'⟨h,i,k2,t⟩=>⟨h,_,_,_,_,i,k2,t⟩);exact W6 p _ a b c d f w l j 223 Bt (λ_=>Eo func223 g6 rfl) (by rw[E0];simp[k1,k2,k3,k4]) _ (λW g base b c d f k=>(a46 k m a.val).mono λe W'⟨h,i,k2,t⟩=>⟨h,_,_,_,_,i,k2,t⟩);exact W6 p _ a b c d f w l j 222 Bt (λ_=>Eo func222 g6 rfl) (by rw[E0];simp[k1,k2,k3]) _ (λW g base b c d f k=>(a0j k a.val o n).mono λe W'⟨h,i,k2,t⟩=>⟨h,_,_,_,_,i,k2,t⟩);exact W6 p _ a b c d f w l j 221 Bt (λ_=>Eo func221 g6 rfl) (by rw[E0];simp[k1,k2]) _ (λW g base b c d f k=>(a0k k a.val o n a8).mono λe W'⟨h,vm',i,k2,t⟩=>⟨h,_,_,_,vm',i,k2,t⟩);exact W6 p _ a b c d f w l j 220 Bt (λ_=>Eo func220 g6 rfl) (by rw[E0];simp[k1]) _ (λW g base b c d f k=>(LU k a.val o n a8).mono λe W'⟨h,va',i,k2,t⟩=>⟨h,va',_,_,_,i,k2,t⟩)
def WE(s:g4):Bool:=s.toList==[83,101,114,118,105,99,101]
def Q7(s:g4):Bool:=(J4 T6 s).isSome
def lX(p:j2)(a:m8):j2×List i6:=
 if WE a.sec then(if O4 a.key then y8 p a else if Q7 a.key then w9 p a else(p,[⟨a.file,a.line,100,j9 a.key⟩]))else(p,[⟨a.file,a.line,100,j9 a.sec⟩])
theorem yH.b{b:Type}{w:Wd}{E:s7 b}{v:Va}{xs:List b}(d:yH w E v xs):∃a n c,v=Z a n c:=let⟨a,c,e,_⟩:=d;⟨a,_,c,e⟩
theorem R7.one{w:Wd}{p:j2}{b d g h:Va}(a:R7 w p b d g h):∀v∈(i7 p b d g h).toList,v.oneCell'=Bt:=by obtain⟨i,n,c,q⟩:=a.a.b;obtain⟨B,m,o,r⟩:=a.f.b;obtain⟨C,k,e,s⟩:=a.l.b;obtain⟨l,j,f,t⟩:=a.m.b;exact zU p ⟨i,n,c,B,m,o,C,k,e,l,j,f,q,r,s,t⟩
def J8{g:Nat}{c:Ti}{n:Nat}{fin:Array Va}(lo:Nat)(cs:Array Va):VR (GS g c n fin):=
 ⟨λu d=>∃a,u=Z (So ⟨a,0,J⟩) 1 1/\e7 d a 49 cs/\lo<=a/\a≠g,λ_ _ _⟨a,f,h,i,b⟩ r=>⟨a,f,h.grown r.gr (λe=>b (by injection e)),i,b⟩⟩
theorem yH.grownB{b:Type}{w a:Wd}{E:s7 b}{v:Va}{xs:List b}{g:Nat}(h:yH w E v xs){W:Wd}(x:a9 W w)(c:yH W E v xs)(f:w.grownBy a (So g))(d:W<=g):yH a E v xs:=
 c.h (x.f f λk e=>by cases e;exact d)
theorem a5k(p:j2)(a:m8)(h i j l:Va)(w:Wd)(bh:p.small)(v:a.val.size<=50000)(bd:0<=p.fm/\0<=p.lm)(be:D p.ar<=1000/\D p.fa<=1000)(base:Nat)(bo:base<=w)(aw:m7 w base p h i j l):
 Ca prog 51 #[Ag (i7 p h i j l),Ag (z8.c a).toArray] w λe ap=>∃va' bp bq vm' br,e=X (Tp #[Ag (i7 (lX p a).1 va' bp bq vm'),br])/\m7 ap base (lX p a).1 va' bp bq vm'/\c7 ap w 49 h9 br (lX p a).2/\a9 w ap:=by
 obtain⟨bu,bw,bt,bv⟩:=F6 (λW(x:a9 w W)=>a4g p a h i j l W bh v bd.1 bd.2 (aw.rd.h x)) (λW(x:a9 w W)=>a3n p a h i j l W bh v be.1 be.2 (aw.rd.h x)) (λW=>a4h a.key W) (λW=>show Ca prog 89 #[Y a.key] W λe ap=>e=X (O (Q7 a.key))/\a9 W ap from a3o a.key W);obtain⟨R,g⟩:∃R,R=lX p a:=⟨_,rfl⟩;rw[<-g];unfold lX at g;have H:=a6 aw;obtain⟨q,r,sec,key,val⟩:=a;dsimp only[z8]at*;have bm:w6 (WE sec=(sec.toList==[83,101,114,118,105,99,101])):=a6 rfl;generalize y8 p ⟨q,r,sec,key,val⟩=cq at*;generalize w9 p ⟨q,r,sec,key,val⟩=cr at*;generalize O4 key=ca at*;generalize Q7 key=cb at*;have ax:∀f,a9 w (((w.alloc (U (i7 p h i j l) 36)).alloc (U #[Y q,I M r,Y sec,Y key,Y val] 89)).alloc (U f 36)):=λf=>(((a9.refl w).alloc _).alloc _).alloc _
 have av:∀f,e7 (((w.alloc (U (i7 p h i j l) 36)).alloc (U #[Y q,I M r,Y sec,Y key,Y val] 89)).alloc (U f 36)) w 36 (i7 p h i j l):=λf=>((e7.new w _ _).alloc _).alloc _
 have b1:∀f,e7 (((w.alloc (U (i7 p h i j l) 36)).alloc (U #[Y q,I M r,Y sec,Y key,Y val] 89)).alloc (U f 36)) (w+1) 89 #[Y q,I M r,Y sec,Y key,Y val]:=λf=>(e7.b i3).alloc _
 have b2:∀f,e7 (((w.alloc (U (i7 p h i j l) 36)).alloc (U #[Y q,I M r,Y sec,Y key,Y val] 89)).alloc (U f 36)) (w+2) 36 f:=λf=>e7.b i3
 have k3:=λf=>(b1 f).cell 3
 have k2:=λf=>(b1 f).cell 2
 clear aw bh v bd be;show Ca prog 51 #[Ag (i7 p h i j l),Ag #[Y q,I M r,Y sec,Y key,Y val]] w _;go_in;rcases bn:sec.toList==[83,101,114,118,105,99,101]with _|_
 ·have v:=bm.O;rw[bn]at v;rw[v,if_neg e6]at g;have m:=a6 g;clear g v;go_wp2_with fail;have t:=av #[Z J 0 0,I U8 0,Z J 0 0,I V 0,I U8 0,Z J 0 0,Z J 0 0,I U8 0,I U6 0,O Bf,O Bf,O Bf,O Bf];have s:=b1 #[Z J 0 0,I U8 0,Z J 0 0,I V 0,I U8 0,Z J 0 0,Z J 0 0,I U8 0,I U6 0,O Bf,O Bf,O Bf,O Bf];have u:=b2 #[Z J 0 0,I U8 0,Z J 0 0,I V 0,I U8 0,Z J 0 0,Z J 0 0,I U8 0,I U6 0,O Bf,O Bf,O Bf,O Bf];have o:=ax #[Z J 0 0,I U8 0,Z J 0 0,I V 0,I U8 0,Z J 0 0,Z J 0 0,I U8 0,I U6 0,O Bf,O Bf,O Bf,O Bf];clear av b1 b2 ax k3 k2;have cc:0<=min (sec.size:Int) 60:=a8;have cd:min (sec.size:Int) 60<=sec.size:=a8;have ce:(min (sec.size:Int) 60).toNat=min sec.size 60:=a8;obtain⟨az,N,L,P⟩:=F6 (λYq(C:GS (w+1+1) 36 13 (i7 p h i j l) _ Yq)=>t.grown C.gr (λe=>by injection e with e;omega)) (λYq(C:GS (w+1+1) 36 13 (i7 p h i j l) _ Yq)=>s.grown C.gr (λe=>by injection e with e;omega)) u o;clear t s u o;refine wpIn_wide.1 (vD (R:=(GS (w+1+1) 36 13 (i7 p h i j l))) (n:=1) ?_);iterate 11 (apply D7;focus (intro x d b;simp only[g0,g5,uV];(repeat intro bc;try simp only[bc]);have bx:=(N d b).cell 0;have cp:=(N d b).cell 1;gi_wp2_with(refine o8 rfl 36 _ rfl w _ _ _ rfl (az d b) underlying36 rfl g6 ?_);exact dn rfl rfl (L6.refl _)))
  refine r7 ((J8 w #[Y q,I M r,I M 100,Y (j9 sec)])) ?_ ?_;·intro x d b;simp only[g0,g5,uV,J8];intro z;simp only[z];gi_wp2_with fail;refine e8 ?_ rfl (GS.f ((a9.refl d).alloc _));exact⟨d,rfl,e7.new _ _ _,by have:=P.size;have:=b.gr.size;omega,by have:=L.lt;have:=b.gr.size;omega⟩
  refine r7 (BV) ?_ ?_;·intro x d b;simp only[g0,g5,uV,J8];intro y;simp only[y];obtain⟨cs,bb,bf⟩:=b.sz _ L g6;gi_wp2_with(refine q5 rfl 36 _ _ rfl (w+1+1) 36 cs _ rfl rfl bb (by rw[bf];rfl) g6 H.one ?_;intro co Q bg);refine e8 ?_ rfl (GS.store bg Q rfl);exact Q
  refine r7 ((J8 w #[Y q,I M r,I M 100,Y (j9 sec)])) ?_ ?_;·intro x d b;simp only[g0,g5,uV,J8];rintro⟨ai,A,al,ak,am⟩;simp only[A];gi_wp2_with fail;refine e8 ?_ rfl (L6.refl _);exact⟨ai,rfl,al,ak,am⟩
  intro x d b;simp only[n9,g0,g5,uV,J8];rintro y S aa ab ac ad ae af ag ah z⟨ai,A,al,ak,am⟩ bj⟨bz,T,bk,bi,cf⟩;simp only[y,S,aa,ab,ac,ad,ae,af,ag,ah,z,A,T];clear y S aa ab ac ad ae af ag ah z A T;go_wp2_with fail;have aj:a9 w d:=P.f b.gr (λk e=>by cases e;omega);exact s0 rfl bj underlying36 ⟨_,_,_,_,_,by rw[m.O],by rw[m.O];exact H.h aj,by rw[m.O];exact c7.mk2 (Jq:=[]) (c:=1) (E:=h9) (xs:=[⟨q,r,100,j9 sec⟩]) bi bk rfl (a7 _) e6 rfl rfl,aj⟩
 have v:=bm.O;rw[bn]at v;rw[v,if_pos rfl]at g;clear v;go_wp2_with fail;refine l4 (bt _) λct aq=>?_;have t:=(av _).h aq;have s:=(b1 _).h aq;have u:=(b2 _).h aq;have o:=(ax _).trans aq;clear av b1 b2 ax k3 k2 aq;rcases ca with _|_
 ·rw[if_neg e6]at g;have k3:=s.cell 3;go_wp2_with fail;refine l4 (bv _) λbs ar=>?_;replace t:=t.h ar;replace s:=s.h ar;replace u:=u.h ar;replace o:=o.trans ar;clear ar k3;rcases cb with _|_
  ·rw[if_neg e6]at g;have m:=a6 g;clear g;go_wp2_with fail;have cc:0<=min (key.size:Int) 60:=a8;have cd:min (key.size:Int) 60<=key.size:=a8;have ce:(min (key.size:Int) 60).toNat=min key.size 60:=a8;obtain⟨az,N,L,P⟩:=F6 (λYq(C:GS (w+1+1) 36 13 (i7 p h i j l) bs Yq)=>t.grown C.gr (λe=>by injection e with e;omega)) (λYq(C:GS (w+1+1) 36 13 (i7 p h i j l) bs Yq)=>s.grown C.gr (λe=>by injection e with e;omega)) u o;clear t s u o;refine wpIn_wide.1 (vD (R:=(GS (w+1+1) 36 13 (i7 p h i j l))) (n:=1) ?_);iterate 11 (apply D7;focus (intro x d b;simp only[g0,g5,uV];(repeat intro bc;try simp only[bc]);have bx:=(N d b).cell 0;have cp:=(N d b).cell 1;gi_wp2_with(refine o8 rfl 36 _ rfl w _ _ _ rfl (az d b) underlying36 rfl g6 ?_);exact dn rfl rfl (L6.refl _)))
   refine r7 ((J8 w #[Y q,I M r,I M 100,Y (j9 key)])) ?_ ?_;·intro x d b;simp only[g0,g5,uV,J8];intro z;simp only[z];gi_wp2_with fail;refine e8 ?_ rfl (GS.f ((a9.refl d).alloc _));exact⟨d,rfl,e7.new _ _ _,by have:=P.size;have:=b.gr.size;omega,by have:=L.lt;have:=b.gr.size;omega⟩
   refine r7 (BV) ?_ ?_;·intro x d b;simp only[g0,g5,uV,J8];intro y;simp only[y];obtain⟨cs,bb,bf⟩:=b.sz _ L g6;gi_wp2_with(refine q5 rfl 36 _ _ rfl (w+1+1) 36 cs _ rfl rfl bb (by rw[bf];rfl) g6 H.one ?_;intro co Q bg);refine e8 ?_ rfl (GS.store bg Q rfl);exact Q
   refine r7 ((J8 w #[Y q,I M r,I M 100,Y (j9 key)])) ?_ ?_;·intro x d b;simp only[g0,g5,uV,J8];rintro⟨ai,A,al,ak,am⟩;simp only[A];gi_wp2_with fail;refine e8 ?_ rfl (L6.refl _);exact⟨ai,rfl,al,ak,am⟩
   intro x d b;simp only[n9,g0,g5,uV,J8];rintro y S aa ab ac ad ae af ag ah z⟨ai,A,al,ak,am⟩ bj⟨bz,T,bk,bi,cf⟩;simp only[y,S,aa,ab,ac,ad,ae,af,ag,ah,z,A,T];clear y S aa ab ac ad ae af ag ah z A T;go_wp2_with fail;have aj:a9 w d:=P.f b.gr (λk e=>by cases e;omega);exact s0 rfl bj underlying36 ⟨_,_,_,_,_,by rw[m.O],by rw[m.O];exact H.h aj,by rw[m.O];exact c7.mk2 (Jq:=[]) (c:=1) (E:=h9) (xs:=[⟨q,r,100,j9 key⟩]) bi bk rfl (a7 _) e6 rfl rfl,aj⟩
  rw[if_pos rfl]at g;have m:=a6 g;clear g;go_wp2_with(first
   |(refine D1 t underlying36 ?_)
   |(refine D1 s underlying89 ?_))
  apply(bw _ o).mono;rintro e cm⟨cg,ch,ci,cj,ck,rfl,ao,an,G⟩;have B:=u.h G;have ba:=o.trans G;have bl:=ao.one;have au:=o.size;clear t s u o G;go_wp2_with(refine q6 B ?_ (hx1q:=bl);intro cn ay F);exact s0 rfl ay underlying36 ⟨_,_,_,_,_,by rw[m.O],by rw[m.O];exact(ao.grown B e6 F).mono (b6 bo au),by rw[m.O];exact(an.kept F (.inr (an.ne B e6))).mono au,ba.f F (λk e=>by cases e;omega)⟩
 rw[if_pos rfl]at g;have m:=a6 g;clear g;go_wp2_with(first
  |(refine D1 t underlying36 ?_)
  |(refine D1 s underlying89 ?_))
 apply(bu _ o).mono;rintro e cm⟨cg,ch,ci,cj,ck,rfl,ao,an,G⟩;have B:=u.h G;have ba:=o.trans G;have bl:=ao.one;have au:=o.size;clear t s u o G;go_wp2_with(refine q6 B ?_ (hx1q:=bl);intro cn ay F);exact s0 rfl ay underlying36 ⟨_,_,_,_,_,by rw[m.O],by rw[m.O];exact(ao.grown B e6 F).mono (b6 bo au),by rw[m.O];exact(an.kept F (.inr (an.ne B e6))).mono au,ba.f F (λk e=>by cases e;omega)⟩
def gN:o5:=[0,1,2,3,4,5]
def Q4:o5:=j7.map (·.2)
structure DE(T l:o5):Prop where
 n:l.Nodup
 m:∀x∈l,x∈T
theorem DE.len{T l:o5}(h:DE T l):D l<=D T:=Z5 l T h.n h.m
theorem DE.nil(T:o5):DE T []:=⟨List.nodup_nil,aL⟩
theorem DE.withT{c l:o5}(e:DE c l)(n:Int)(inn:Bool)(h:n∈c):DE c (withT l n inn):=by
 have d:DE c (p9 l n):=⟨e.n.filter _,λx b=>e.m x (List.mem_filter.1 b).1⟩;have g:n∉p9 l n:=λb=>by simpa using(List.mem_filter.1 b).2
 unfold Go.Proofs.YtcljlejgllkcjaaGreat.withT;split;have f:(P4 (p9 l n) (CR (p9 l n) n) n).Perm (n::p9 l n):=by unfold P4;have:=List.perm_middle (a:=n) (l₁:=(p9 l n).take (CR (p9 l n) n)) (l₂:=(p9 l n).drop (CR (p9 l n) n));rwa[List.take_append_drop]at this
 exact⟨f.nodup_iff.2 (List.nodup_cons.2 ⟨g,d.n⟩),λx b=>by
  rcases List.mem_cons.1 (f.mem_iff.1 b)with rfl|b
  exact h;exact d.m x b⟩
 exact d
theorem sK(s:g4)(b:(m5 s).2=0):(m5 s).1∈gN:=by
 unfold m5 at b⊢;split at b;rename_i c;rw[if_pos c];decide;rename_i c;rw[if_neg c];dsimp only at b⊢;rcases kI (λa:fL=>a.1.toList==s.toList) r2 0 with⟨k,d,e,-,-⟩|⟨e,-⟩
 rw[e,if_neg a8];have d:k<6:=d;have:k=0\/k=1\/k=2\/k=3\/k=4\/k=5:=a8;rcases this with rfl|rfl|rfl|rfl|rfl|rfl<;>decide
 rw[e]at b;exact absurd b e6
theorem uJ(l:List Nm)(s:g4)(c:Int)(e:c≠0)(b:(p0 l s c).2=0):(p0 l s c).1∈l.map (·.2):=by
 unfold p0 at b⊢;cases d:l.find? λa=>a.1.toList==s.toList with
 |none=>rw[d]at b;exact absurd b e
 |some a=>exact List.mem_map.2 ⟨a,List.mem_of_find?_eq_some d,rfl⟩
structure eW(p:j2):Prop where
 a:DE gN p.ar
 m:DE Q4 p.fa
 f:D p.fc<=41
 l:D p.lc<=41
 fm:0<=p.fm
 lm:0<=p.lm
theorem eW.lens{p:j2}(h:eW p):D p.ar<=6/\D p.fa<=8:=⟨h.a.len,h.m.len⟩
theorem eW.small{p:j2}(h:eW p):p.small:=⟨by have:=h.lens;omega,by have:=h.f;omega,by have:=h.l;omega,by have:=h.lens;omega⟩
theorem qF{d σ:Type}(f:σ->d->σ)(a:σ->Prop)(c:∀s b,a s->a (f s b)):∀(l:List d)(s:σ),a s->a (l.foldl f s)
 |[],s,h=>h
 |b::l,s,h=>qF f a c l (f s b) (c s b h)
theorem a4J{ar:o5}(b:DE gN ar)(d:List i6)(a:m8)(val:g4):DE gN (B3 ar d a val).1:=by unfold B3;refine qF (s5 a) (λσ=>DE gN σ.1) (λσ w k=> ?_) _ _ ?_;unfold s5;split;rename_i c;have:=k.withT (m5 w).1 Bt (sK w c);exact this;exact k;dsimp only;split;exact .nil _;exact b
theorem XI{fa:o5}(b:DE Q4 fa)(am:Int)(d:List i6)(a:m8)(val:g4):DE Q4 (D4 am fa d a val).2.1:=by unfold D4;split;exact .nil _;split;exact .nil _;refine qF (R6 a _) (λσ=>DE Q4 σ.1) (λσ w k=> ?_) _ _ b;unfold R6;split;rename_i c;exact k.withT _ _ (uJ _ w 180 e6 c);exact k
theorem NB{m:Int}(h:0<=m)(t:Bool):0<=I2 m t:=by unfold I2;split<;>(try split)<;>omega
theorem yW{m:Int}(h:0<=m)(xs:List n0)(s:g4)(q:Bool):0<=(B5 m xs s q).1:=by unfold B5;split;split;exact Int.le_refl _;exact NB h _;exact h
theorem eG(cur:Bool)(a:m8)(val:g4):D (E8 cur [] a val).2<=1:=by unfold E8;split;exact c6 _;split;exact c6 _;exact a7 _
theorem EL{p:j2}(b:eW p)(a:m8):eW (w9 p a).1/\D (w9 p a).2<=a.val.size+2:=by have g:=x7 a.val;have h:=x7 (j6 a.val).1;have i:=C1 a.val;unfold w9;split;refine⟨⟨a4J b.a _ _ _,b.m,b.f,b.l,b.fm,b.lm⟩,?_⟩;have:=(dO (s5 a) (mF a) (l3 a.val) (if(l3 a.val).length=0 then []else p.ar,[])).2;unfold B3;simp at this⊢;omega;split;refine⟨⟨b.a,XI b.m _ _ _ _,b.f,b.l,b.fm,b.lm⟩,?_⟩;show(D4 p.am p.fa [] a a.val).2.2.length<=_;unfold D4;split;exact c6 _;split;exact c6 _;have:=(dO (R6 a ((j6 a.val).2==(iF p.am (j6 a.val).2==2))) (BZ a _) (l3 (j6 a.val).1) (p.fa,[])).2;simp at this⊢;omega;split;refine⟨⟨b.a,b.m,b.f,b.l,b.fm,b.lm⟩,?_⟩;show(O7 p.sp [] a a.val).2.length<=_;unfold O7;split;exact c6 _;split;exact c6 _;have:=oS a (l3 (j6 a.val).1) ⟨0,Bt,[]⟩;simp at this⊢;omega;have c:=eG p.we a a.val;have d:=eG p.pe a a.val;have e:=eG p.rt a a.val;have f:=eG p.np a a.val;split;exact⟨⟨b.a,b.m,b.f,b.l,b.fm,b.lm⟩,by dsimp only;omega⟩;split;exact⟨⟨b.a,b.m,b.f,b.l,b.fm,b.lm⟩,by dsimp only;omega⟩;split;exact⟨⟨b.a,b.m,b.f,b.l,b.fm,b.lm⟩,by dsimp only;omega⟩;split;exact⟨⟨b.a,b.m,b.f,b.l,b.fm,b.lm⟩,by dsimp only;omega⟩;exact⟨b,c6 _⟩
theorem GJ{p:j2}(b:eW p)(a:m8):eW (y8 p a).1/\D (y8 p a).2<=a.val.size+2:=by
 have g:=Y5 p.fm p.fc a.val Bt;have h:=Y5 p.lm p.lc a.val Bf;have e:=b.f;have f:=b.l;have d:∀c:List i6,D (G9 a c)=D c:=λc=>by simp[G9]
 unfold y8;split;exact⟨⟨b.a,b.m,by dsimp only;omega,b.l,yW b.fm _ _ _,b.lm⟩,by rw[d];omega⟩;split;exact⟨⟨b.a,b.m,b.f,by dsimp only;omega,b.fm,yW b.lm _ _ _⟩,by rw[d];omega⟩;split;refine⟨⟨b.a,b.m,b.f,b.l,b.fm,b.lm⟩,?_⟩;rw[d];unfold fI;split<;>simp;exact⟨b,c6 _⟩
theorem xK{p:j2}(h:eW p)(a:m8):eW (lX p a).1/\D (lX p a).2<=a.val.size+2:=by unfold lX;split;split;exact GJ h a;split;exact EL h a;exact⟨h,i3⟩;exact⟨h,i3⟩
def a33(σ:j2×List i6)(a:m8):j2×List i6:=((lX σ.1 a).1,σ.2++(lX σ.1 a).2)
def P8(l:List m8):j2×List i6:=l.foldl a33 (A5 2147483648,[])
def i8(l:List m8):j2×List i6:=if p8 (P8 l).2 then(A5 0,(P8 l).2)else P8 l
def z5(l:List m8):Nat:=(l.map λa=>a.val.size+2).sum
theorem bC(dy:Int):eW (A5 dy):=⟨.nil _,.nil _,c6 _,c6 _,Int.le_refl _,Int.le_refl _⟩
theorem a4c:∀(l:List m8)(σ:j2×List i6),eW σ.1->eW (l.foldl a33 σ).1/\D (l.foldl a33 σ).2<=D σ.2+z5 l
 |[],σ,h=>⟨h,a7 _⟩
 |a::l,σ,h=>by
  obtain⟨b,f⟩:=xK h a;obtain⟨c,g⟩:=a4c l (a33 σ a) b;refine⟨c,?_⟩;have e:D (a33 σ a).2=D σ.2+D (lX σ.1 a).2:=g1;have d:z5 (a::l)=a.val.size+2+z5 l:=by simp[z5]
  simp only[List.foldl_cons];omega
theorem qV(l:List m8)(k:Nat):z5 (l.take k)<=z5 l:=by
 have:z5 l=z5 (l.take k)+z5 (l.drop k):=by unfold z5;rw[<-List.sum_append,<-List.map_append,List.take_append_drop]
 omega
end Go.Proofs.YtcljlejgllkcjaaGreat
