/- A part of the proof of TopFront: lemmas on the walks of its calls. -/
import Derived.Test.YtcljlejgllkcjaaGreatM27
set_option maxHeartbeats 12000000
set_option linter.all false
set_option maxRecDepth 100000
namespace Go.Proofs.YtcljlejgllkcjaaGreat
open Go.RowKit Go.ChangeShapes Go.WideShapes Tryz
open Bool renaming true→Bt,false→Bf
open Decidable renaming decide→Dc
open Ending renaming returned→X
open Go renaming World→Wd,Value→Va,Calls→Ca,callsIn_wide→Cw,TypeId→Ti
open IntKind renaming i64→M,u32→V,u64→U6,u8→U8
open IntWalk renaming i64_in→h7
open List renaming getD_eq_getElem?_getD→b9,getElem?_eq_getElem→e9,getElem_mem→g3,take_succ_eq_append_getElem→g2,length_map→i1,length_take→m4,append_assoc→p6,length→D
open Nat renaming le_refl→a7,le_trans→b6,zero_le→c6,add_zero→j8
open Obj renaming cells→U
open Operand renaming tmp→Tm
open Option renaming none→J,some→So
open Value renaming int→I,slice→Z,string→Y,bool→O,tuple→Tp,agg→Ag
theorem CY:∀(k:Nat)(a:k<D r2),(r2[k].1.toList==[110,97,116,105,118,101])=Bf
 |0,_|1,_|2,_|3,_|4,_|5,_=>g6
 |n+6,h=>absurd h (by simp[r2])
theorem TI(s:g4)(W:Wd):Ca prog 176 #[Y s] W λe G=>e=X (Tp #[I M (m5 s).1,I M (m5 s).2])/\a9 W G:=by
 obtain⟨n,x,w,z⟩:=F6 (TJ W) (λk t=>iL (λa:fL=>a.1.toList==s.toList) r2 k t) CY (show D r2=6 from rfl);obtain⟨R,j⟩:∃R,R=m5 s:=⟨_,rfl⟩;rw[<-j];unfold m5 at j;dsimp only at j;have f:=a6 j;clear j;obtain⟨Jq,c⟩:∃Jq,Jq=Q0 (λa:fL=>a.1.toList==s.toList) r2 0:=⟨_,rfl⟩;have y:=a6 (show Jq=Q0 (λa:fL=>a.1.toList==s.toList) (r2.drop 0) 0 from c);rw[<-c]at f;clear c;have q:Q0 (λa:fL=>a.1.toList==s.toList) (r2.drop 6) 6= -1:=rfl;have B:=a6 q;clear q;generalize r2=L at*;go_in;go_wp2_with fail;apply n.mono;rintro e H⟨C,rfl,h,v⟩;obtain⟨A,o⟩:=j0 h v;clear h v n;go_wp2;go_loopw [5] (λi wr=>wr=H/\∃k:Nat,k<=6/\i=I M k/\Jq=Q0 (λa:fL=>a.1.toList==s.toList) (L.drop k) k) (λi _=>6-(intOf i).toNat);exact⟨rfl,0,a8,rfl,y.O⟩;obtain⟨rfl,k,t,rfl,c⟩:=hrel;by_cases u:k<6
 ·have l:k<D L:=by rw[z.O];exact u
  rw[x k l]at c;have h:=A.O;obtain⟨b,F,p,r⟩:=H9 h (show k<D (L.map λa=>a.1) by rw[i1];exact l);rw[List.getElem_map]at r;obtain⟨rfl,rfl⟩:C=b/\0=F:=by cases p;exact⟨rfl,rfl⟩
  rw[Nat.zero_add]at r;have m:=w k l;clear p h;generalize L[k].1=a at*;rcases g:a.toList==s.toList with _|_
  ·rw[g]at c;have d:=a6 c;clear c m l;go_wp2;go_roundw;exact⟨by trivial,k+1,u,o3,d.O⟩;simp[intOf];omega
  rw[g]at c;have d:=a6 (show R=((k:Int),0) by
   have E:(s.toList==[110,97,116,105,118,101])=Bf:=by rw[<-eq_of_beq g];exact m
   rw[f.O,E,show Jq=(k:Int)from c,if_neg e6,if_neg a8])
  clear c m l;go_wp2;go_ret2;exact⟨by rw[d.O];rfl,o.O⟩
 obtain rfl:k=6:=a8;have d:=a6 (c.trans B.O);clear c;rcases g:s.toList==[110,97,116,105,118,101]with _|_
 all_goals have f:=a6 (show R=_ by rw[f.O,g,d.O]);go_wp2;go_ret2;exact⟨by rw[f.O];rfl,o.O⟩
theorem BU(n:Int):∀b:o5,∃k,k<=D b/\(∀j(a:j<D b),j<k->b[j]<n)/\∀a:k<D b,¬b[k]<n
 |[]=>⟨0,a7 _,λj a=>(by cases a),λa=>(by cases a)⟩
 |x::b=>by
  by_cases c:x<n
  ·obtain⟨k,g,d,e⟩:=BU n b;refine⟨k+1,by simp;omega,λj a f=> ?_,λa=>e (by simpa using a)⟩;cases j with
   |zero=>exact c
   |succ j=>exact d j (by simpa using a) a8
  exact⟨0,c6 _,λj a f=>a8,λa=>c⟩
theorem V7{l:o5}(f:l.Pairwise (·<·))(n:Int)(inn:Bool):(withT l n inn).Pairwise (·<·):=by
 have b:=bM f n;cases inn;exact b;obtain⟨k,o,g,h⟩:=BU n (p9 l n);rw[HN f n o g h];have p:∀x∈p9 l n,x≠n:=λx a=>by simpa using(List.mem_filter.1 a).2
 have q:∀x∈(p9 l n).take k,x<n:=λx a=>by obtain⟨j,d,rfl⟩:=List.getElem_of_mem a;rw[m4]at d;rw[List.getElem_take];exact g j a8 a8
 have m:∀x∈(p9 l n).drop k,n<x:=λx a=>by
  obtain⟨j,d,rfl⟩:=List.getElem_of_mem a;rw[List.length_drop]at d;have r:=h a8;have i:=p _ (g3 (l:=p9 l n) (n:=k+j) a8);rw[List.getElem_drop];rcases Nat.eq_zero_or_pos j with rfl|s
  simp only[j8]at i⊢;omega;have:=List.pairwise_iff_getElem.1 b k (k+j) a8 a8 a8;omega
 rw[<-List.take_append_drop k (p9 l n),List.pairwise_append]at b;rw[p6,List.pairwise_append];refine⟨b.1,List.pairwise_cons.2 ⟨λe c=>m e c,b.2.1⟩,λx a e c=> ?_⟩;rcases List.mem_cons.1 c with rfl|c
 exact q x a;exact b.2.2 x a e c
structure P3(w:Wd)(base:Nat)(fc lc:List n0)(fa:o5)(vf vl vm:Va):Prop where
 f:c7 w base 94 a2J vf fc
 l:c7 w base 94 a2J vl lc
 m:c7 w base 32 F4 vm fa
theorem P3.h{w e:Wd}{base:Nat}{fc lc:List n0}{fa:o5}{b c d:Va}(a:P3 w base fc lc fa b c d)(x:a9 w e):P3 e base fc lc fa b c d:=⟨a.f.h x,a.l.h x,a.m.h x⟩
theorem P3.away{j:Type}{w i:Wd}{base b:Nat}{fc lc:List n0}{fa:o5}{d f h v:Va}{e:Ti}{E:s7 j}{xs:List j}(a:P3 w base fc lc fa d f h)(o:c7 w b e E v xs)(c:94≠e/\32≠e)(g:w.grownBy i v.ownBlock):P3 i base fc lc fa d f h:=⟨a.f.apart o c.1 g,a.l.apart o c.1 g,a.m.apart o c.2 g⟩
theorem MB(p:j2)(a:m8)(ct v y A:Va)(w:Wd)(eh:a.val.size<=50000)(ck:p.ar.Pairwise (·<·))(ee:D p.ar<=100)(base:Nat)(dr:base<=w)(bl:m7 w base p ct v y A):
 Ca prog 118 #[Ag (i7 p ct v y A),Ag (z8.c a).toArray] w λe br=>∃va' cu cv vm' bc,e=X (Tp #[Ag (i7 {p with ar:=(B3 p.ar [] a a.val).1} va' cu cv vm'),bc])/\m7 br base {p with ar:=(B3 p.ar [] a a.val).1} va' cu cv vm'/\c7 br w 49 h9 bc (B3 p.ar [] a a.val).2/\a9 w br:=by
 obtain⟨R,L⟩:∃R,R=B3 p.ar [] a a.val:=⟨_,rfl⟩;rw[<-L];unfold B3 at L;obtain⟨H,l,da⟩:=r6 bl (hZ a.val a8) TI;have ej:=x7 a.val;have dg:=a6 ck;obtain⟨ap,au,rfl⟩:=bl.a.b;obtain⟨ar,fm,fc,dy,lm,lc,fa,am,sp,we,pe,rt,np⟩:=p;obtain⟨d,g,sec,key,val⟩:=a;dsimp only[i7,z8]at*;obtain⟨di,ce,bm⟩:=PW.ex w #[Z ap (D ar) au,I U8 fm,v,I V dy,I U8 lm,y,A,I U8 am,I U6 sp,O we,O pe,O rt,O np] d g sec key val;show Ca prog 118 #[Ag #[Z ap (D ar) au,I U8 fm,v,I V dy,I U8 lm,y,A,I U8 am,I U6 sp,O we,O pe,O rt,O np],Ag #[Y d,I M g,Y sec,Y key,Y val]] w _;have k4:=bm.a.cell 4;obtain⟨aq,df⟩:=j0 bm (λk(cg:k<D (l3 val)) z=>show((l3 val).take (k+1)).foldl (s5 ⟨d,g,sec,key,val⟩) z=s5 ⟨d,g,sec,key,val⟩ (((l3 val).take k).foldl (s5 ⟨d,g,sec,key,val⟩) z) (l3 val)[k] by rw[g2 cg,List.foldl_append];rfl);generalize l3 val=h at*;clear bl bm ck;go_in;go_upto_region 1 with fail;rw[<-ce];clear ce;go_wp2_with fail;apply(l _).mono;rintro e C⟨u,rfl,bn,ao⟩;obtain⟨cw,dk,rfl⟩:=bn.b;obtain⟨B,S,bh⟩:=r6 bn (aq.h ao) (H.h (aq.x.trans ao));clear bn k4 l;by_cases Q:D h=0
 ·have P:=L;rw[if_pos Q,List.eq_nil_of_length_eq_zero Q]at P;have G:=a6 (show R=([],[])from P);have W:((D h:Int)==0)=Bt:=by simp[Q]
  obtain⟨r,ag⟩:=j0 (S.set 0 (Z J 0 0)) (show m7 (C.setCell ⟨w,0,J⟩ (Z J 0 0)) base ⟨[],fm,fc,dy,lm,lc,fa,am,sp,we,pe,rt,np⟩ (Z J 0 0) v y A from let q:=bh.grown S.p e6 (c8 C w 0 (Z J 0 0));⟨c7.nil _ _ _ _,q.f,q.l,q.m⟩);have dp:=S.p.frozen 0;have bu:=S.p.cell 0;clear L P Q ao;have bq:=(ag.O).one;go_wp2_with(first|(refine D1 (r.O).p underlying36 ?_)|(refine q6 (r.O).r ?_ (hx1q:=bq);intro bs be N));exact s0 rfl be underlying36 ⟨_,_,_,_,_,by first|rfl|(rw[G.O]<;>rfl),by rw[G.O];exact(ag.O).grown (r.O).r e6 N,by rw[G.O];exact((c7.nil (C.setCell ⟨w,0,J⟩ (Z J 0 0)) w 49 h9)).kept N (.inr (((c7.nil (C.setCell ⟨w,0,J⟩ (Z J 0 0)) w 49 h9)).ne (r.O).r e6)),(r.O).x.f N (λk e=>by cases e;omega)⟩
 rw[if_neg Q]at L;have W:((D h:Int)==0)=Bf:=by simpa using Q
 have de:=a6 L;have co:=(aq.x.trans ao).size;have bf:=a6 (S.h ((a9.refl C).alloc (U #[] 3)));have bu:=bf.p.cell 0;obtain⟨ah,af,bw⟩:=r6 (c7.new (E:=B6) (xs:=[]) (e:=3) (cs:= #[]) (n:=0) co rfl rfl e6) (bh.h ((a9.refl C).alloc (U #[] 3))) (B.h ((a9.refl C).alloc (U #[] 3)));have ch:D ([]:o5)+D ar<=1000000:=by simp;omega
 have cp:w<=(C.alloc (U #[] 3)).heap.size:=by simp;omega
 clear L Q aq S B bh ao;go_upto_region 7 with(at_builtin;refine h8 rfl (Tm 20) (Tm 22) 28 3 rfl gB w _ [] rfl ah _ _ _ ar rfl rfl af.a.i.1 ch cp ?_;intro eo bs cr ed az dj);obtain⟨cx,db,cz,cy⟩:=F6 (bf.push ah (a7 _) e6 az) (show P3 bs base fc lc fa v y A from P3.away ⟨af.f,af.l,af.m⟩ ah e6 az) (bw.apart ah e6 az) cr;clear bf ah af bw cr ed az dj ch cp bu co;go_wp2;go_loopw [7,8,9] (λbc eb i wr=>∃(k:Nat)(c:o5)(m:List i6),k<=D h/\i=I M k/\(h.take k).foldl (s5 ⟨d,g,sec,key,val⟩) (ar,[])=(c,m)/\c.Pairwise (·<·)/\D c<=D ar+k/\D m<=k/\c7 wr w 3 B6 eb c/\c7 wr w 49 h9 bc m/\PW w wr #[Z ap (D ar) au,I U8 fm,v,I V dy,I U8 lm,y,A,I U8 am,I U6 sp,O we,O pe,O rt,O np] d g sec key val/\P3 wr base fc lc fa v y A/\c7 wr di 9 x4 (Z cw (D h) dk) h) (λ_ _ i _=>D h-(intOf i).toNat);exact⟨0,ar,[],c6 _,rfl,rfl,dg.O,a7 _,a7 _,cy.O,c7.nil _ _ _ _,cx.O,db.O,cz.O⟩;obtain⟨k,c,m,cg,rfl,cf,cm,ef,eg,bo,bp,cj,ci,cn⟩:=hrel;obtain⟨bv,bi,ae,o,l,F⟩:=dK cf cm bo bp cj ci;have B:=a6 cn;obtain⟨ad,aj,rfl⟩:=bo.b;obtain⟨ac,al,ai,rfl⟩:=bp.f;clear cf cm bo bp cj ci cn;by_cases ak:k<D h
 ·obtain⟨b,el,rfl,bj⟩:=H9 B.i.1 ak;have ba:=df k ak (ar,[]);rw[bv.O]at ba;generalize bb:h[k]=j at*;have k0:(0:Int)<=k:=a8;have k9:(k:Int)<D h:=a8;obtain⟨dh,dc⟩:=j0 bb (da j);rw[show s5 ⟨d,g,sec,key,val⟩ (c,m) j=if(m5 j).2=0 then(withT c (m5 j).1 Bt,m)else(c,m++[⟨d,g,(m5 j).2,j9 j⟩])from rfl]at ba;generalize m5 j=q at*;obtain⟨an,s⟩:=q;dsimp only at*;have T:=a6 ba;clear ba bb;go_wp2_with fail;refine l4 (dc _) λbt ab=>?_;replace ae:=a6 (ae.h ab);replace o:=a6 (o.h ab);replace l:=a6 (l.h ab);replace F:=a6 (F.h ab);replace B:=a6 (B.h ab);clear ab bj;by_cases aa:s=0
  ·have T:=a6 (T.trans (if_pos aa));have av:(s !=0)=Bf:=by simp[aa]
   have dd:=a6 (SU ad aj c an bt a8 bi ae.i.1);have ei:=eC c an Bt;clear aa;go_wp2_with fail;apply dd.mono;rintro e er⟨ep,rfl,dv,bd⟩;go_wp2;go_roundw;exact⟨k+1,withT c an Bt,m,ak,o3,T.O,V7 bi _ _,a8,a8,dv.mono l.x.size,o.h bd,l.h bd,F.h bd,B.h bd⟩;simp[intOf];omega
  have T:=a6 (T.trans (if_neg aa));have av:(s !=0)=Bt:=by simp[aa]
  have ds:D m+1<=1000000:=a8;have bb:=dh.O;clear aa;have bg:=a6 (show∀Yq,GA 49 h9 (Z ac al ai).ownBlock w (Z ac al ai) m [⟨d,g,s,j9 j⟩] bt Yq->PW w Yq #[Z ap (D ar) au,I U8 fm,v,I V dy,I U8 lm,y,A,I U8 am,I U6 sp,O we,O pe,O rt,O np] d g sec key val from λYq f=>(l.O).push o (a7 _) e6 f.g);go_wp2_with fail;refine wpIn_wide.1 (cB (R:=(GA 49 h9 (Z ac al ai).ownBlock w (Z ac al ai) m [⟨d,g,s,j9 j⟩])) (n:=1) ?_);repeat
   first
    |(apply D7;focus (intro x t f;simp only[g0,g5,uV];(repeat intro dl;try simp only[dl]);gi_wp2_with(first|(refine o8 rfl 89 _ rfl (w+1) _ _ _ rfl (bg t f).a underlying89 rfl g6 ?_)|(refine⟨trivial,?_⟩;gi_at_call 122;refine C0 ((Cw (n:=0)).2 (nI ⟨d,g,sec,key,val⟩ s j t)) λec dt=>?_));exact dn rfl rfl (by first|exact GA.f dt|exact L6.refl _)))
    |(refine r7 (.is (Y j)) ?_ ?_
      ·intro x t f
       simp only[g0,g5,uV,q8,q7]
       intro aw
       simp only[aw]
       obtain⟨b2,em,dm,bj⟩:=H9 ((B.O).apart o e6 f.g).i.1 ak;cases dm;rw[bb]at bj
       gi_wp2_with fail
       refine e8 ?_ rfl (L6.refl _)
       rfl)
    |(refine r7 ((q8 #[Y d,I M g,I M s,Y (j9 j)])) ?_ ?_
      ·intro x t f
       simp only[g0,g5,uV,q8,q7]
       intro ax
       simp only[ax]
       gi_wp2_with fail
       refine e8 ?_ rfl (GA.f ((a9.refl t).alloc _))
       exact⟨t,rfl,e7.new _ _ _,λe=>by have:=((f.old o.O).lt e).2;omega⟩)
    |(refine r7 ((q7 (bt).heap.size)) ?_ ?_
      ·intro x t f
       simp only[g0,g5,uV,q8,q7]
       rintro W⟨cd,ay,cq,dw⟩
       simp only[W,ay]
       gi_wp2_with(gi_at_builtin;refine a2F rfl _ _ 38 49 rfl P0 w (Z ac al ai) m rfl (f.old o.O) cd 1 1 [⟨d,g,s,j9 j⟩] rfl rfl (i5.f cq rfl) ds (bg t f).x.size ?_;intro en ec an s dx dz ea)
       refine e8 ?_ rfl (⟨s,λ_=>dx,dz⟩)
       exact⟨an,ea.imp id (λq b dq=>by have:=q b dq;have:=f.g.size;omega)⟩)
  intro x t f;simp only[n9,g0,g5,uV,q8,q7];rintro W av bz ca cb aw cc ax⟨cd,ay,cq,dw⟩⟨du,ek⟩;simp only[W,av,bz,ca,cb,aw,cc,ax,ay];clear W av bz ca cb aw cc ax ay;gi_wp2;go_wp2;go_roundw;exact⟨k+1,c,m++[⟨d,g,s,j9 j⟩],ak,o3,T.O,bi.O,a8,by simp;omega,ae.apart o e6 f.g,du,bg t f,F.away o e6 f.g,B.apart o e6 f.g⟩;simp[intOf];omega
 obtain rfl:k=D h:=a8;have k9:¬(D h:Int)<D h:=a8;have P:=bv.O;rw[List.take_length]at P;have G:=a6 (de.trans P);have dp:=l.p.frozen 0;have bu:=l.p.cell 0;have r:=a6 (l.set 0 (Z ad (D c) aj));have bk:=c8 wr w 0 (Z ad (D c) aj);obtain⟨ag,bx⟩:=j0 (show m7 (wr.setCell ⟨w,0,J⟩ (Z ad (D c) aj)) base ⟨c,fm,fc,dy,lm,lc,fa,am,sp,we,pe,rt,np⟩ (Z ad (D c) aj) v y A from m7.grown ⟨ae.mono dr,F.f,F.l,F.m⟩ l.p e6 bk) (o.kept bk (.inr (o.ne l.p e6)));clear P bk;have bq:=(ag.O).one;go_wp2_with(first|(refine D1 (r.O).p underlying36 ?_)|(refine q6 (r.O).r ?_ (hx1q:=bq);intro bs be N));exact s0 rfl be underlying36 ⟨_,_,_,_,_,by first|rfl|(rw[G.O]<;>rfl),by rw[G.O];exact(ag.O).grown (r.O).r e6 N,by rw[G.O];exact(bx.O).kept N (.inr ((bx.O).ne (r.O).r e6)),(r.O).x.f N (λk e=>by cases e;omega)⟩
def VP.tabN(l:List Nm):VP:=⟨λv aa=>∃T,v=Z (So ⟨T,0,J⟩) 8 8/\i5 aa (So ⟨T,0,J⟩) ((nN U6).row l),λ_ _ _⟨T,h,k⟩ x=>⟨T,h,k.h x⟩⟩
theorem m7.away{w h:Wd}{base b:Nat}{p:j2}{c d e f v:Va}{xs:List i6}(a:m7 w base p c d e f)(o:c7 w b 49 h9 v xs)(g:w.grownBy h v.ownBlock):m7 h base p c d e f:=⟨a.a.apart o e6 g,a.f.apart o e6 g,a.l.apart o e6 g,a.m.apart o e6 g⟩
theorem rW(p:j2)(a:m8)(C E F G:Va)(w:Wd)(eg:a.val.size<=50000)(base:Nat)(ed:base<=w)(bf:m7 w base p C E F G):
 Ca prog 120 #[Ag (i7 p C E F G),Ag (z8.c a).toArray] w λe bu=>∃va' ct cu vm' bj,e=X (Tp #[Ag (i7 {p with sp:=(O7 p.sp [] a a.val).1} va' ct cu vm'),bj])/\m7 bu base {p with sp:=(O7 p.sp [] a a.val).1} va' ct cu vm'/\c7 bu w 49 h9 bj (O7 p.sp [] a a.val).2/\a9 w bu:=by
 obtain⟨R,v⟩:∃R,R=O7 p.sp [] a a.val:=⟨_,rfl⟩;rw[<-v];unfold O7 at v;obtain⟨H,g,cc,cf,cb⟩:=Y2 bf hZ (IG a.val) (jU a.val a8) a3w;have ef:=C1 a.val;have eh:=x7 (j6 a.val).1;obtain⟨ar,fm,fc,dy,lm,lc,fa,am,sp,we,pe,rt,np⟩:=p;obtain⟨r,s,sec,key,val⟩:=a;dsimp only[i7,z8]at*;obtain⟨ea,cm,bg⟩:=PW.ex w #[C,I U8 fm,E,I V dy,I U8 lm,F,G,I U8 am,I U6 sp,O we,O pe,O rt,O np] r s sec key val;show Ca prog 120 #[Ag #[C,I U8 fm,E,I V dy,I U8 lm,F,G,I U8 am,I U6 sp,O we,O pe,O rt,O np],Ag #[Y r,I M s,Y sec,Y key,Y val]] w _;have k4:=bg.a.cell 4;obtain⟨o,ac⟩:=j0 bg (H.h bg.x);generalize G4 val=de at*;obtain⟨dw,bn⟩:=de;generalize j6 val=dr at*;obtain⟨rest,ds⟩:=dr;dsimp only at*;clear bf bg H;go_in;go_upto_region 1 with fail;rw[<-cm];clear cm;go_wp2_with fail;apply(cc _).mono;rintro e dt⟨rfl,rfl⟩;go_wp2_with fail;apply(g val a8 _).mono;rintro e dt⟨u,rfl,aq,bw⟩;obtain⟨dx,eb,rfl⟩:=aq.b;replace o:=a6 (o.h bw);replace ac:=a6 (ac.h bw);clear aq bw;by_cases ab:D (l3 val)=0
 ·have f:=a6 (v.trans (if_pos ab));have N:((D (l3 val):Int)==0)=Bt:=by simp[ab]
  have be:=o.p.frozen 8;have bk:=o.p.cell 8;obtain⟨c,t⟩:=j0 (o.set 8 (I U6 0)) (let q:=ac.grown o.p e6 (c8 _ w 8 (I U6 0));(⟨q.a,q.f,q.l,q.m⟩:m7 _ base ⟨ar,fm,fc,dy,lm,lc,fa,am,0,we,pe,rt,np⟩ C E F G));clear v ab;have P:=(t.O).one;go_wp2_with(first|(refine D1 (c.O).p underlying36 ?_)|(refine q6 (c.O).r ?_ (hx1q:=P);intro av L h));exact s0 rfl L underlying36 ⟨_,_,_,_,_,by first|rfl|(rw[f.O]<;>rfl),by rw[f.O];exact(t.O).grown (c.O).r e6 h,by rw[f.O];exact((c7.nil _ w 49 h9)).kept h (.inr (((c7.nil _ w 49 h9)).ne (c.O).r e6)),(c.O).x.f h (λk e=>by cases e;omega)⟩
 replace v:=v.trans (if_neg ab);have N:((D (l3 val):Int)==0)=Bf:=by simpa using ab
 generalize(l3 val).length=wl at*;by_cases W:bn=0
 ·replace v:=v.trans (if_pos W);have ae:(bn==0)=Bt:=by simp[W]
  cases dw;·have f:=a6 (show R=(0,[])from v);have be:=o.p.frozen 8;have bk:=o.p.cell 8;obtain⟨c,t⟩:=j0 (o.set 8 (I U6 0)) (let q:=ac.grown o.p e6 (c8 _ w 8 (I U6 0));(⟨q.a,q.f,q.l,q.m⟩:m7 _ base ⟨ar,fm,fc,dy,lm,lc,fa,am,0,we,pe,rt,np⟩ C E F G));clear v ab W;have P:=(t.O).one;go_wp2_with(first|(refine D1 (c.O).p underlying36 ?_)|(refine q6 (c.O).r ?_ (hx1q:=P);intro av L h));exact s0 rfl L underlying36 ⟨_,_,_,_,_,by first|rfl|(rw[f.O]<;>rfl),by rw[f.O];exact(t.O).grown (c.O).r e6 h,by rw[f.O];exact((c7.nil _ w 49 h9)).kept h (.inr (((c7.nil _ w 49 h9)).ne (c.O).r e6)),(c.O).x.f h (λk e=>by cases e;omega)⟩
  have f:=a6 (show R=(l9,[])from v);clear v ab W;go_wp2_with fail;refine l4 (cb _) λdu bx=>?_;obtain⟨bb,cy⟩:=j0 (o.h bx) (ac.h bx);clear bx;have be:=bb.p.frozen 8;have bk:=bb.p.cell 8;obtain⟨c,t⟩:=j0 (bb.set 8 (I U6 l9)) (let q:=cy.grown bb.p e6 (c8 _ w 8 (I U6 l9));(⟨q.a,q.f,q.l,q.m⟩:m7 _ base ⟨ar,fm,fc,dy,lm,lc,fa,am,l9,we,pe,rt,np⟩ C E F G));have P:=(t.O).one;go_wp2_with(first|(refine D1 (c.O).p underlying36 ?_)|(refine q6 (c.O).r ?_ (hx1q:=P);intro av L h));exact s0 rfl L underlying36 ⟨_,_,_,_,_,by first|rfl|(rw[f.O]<;>rfl),by rw[f.O];exact(t.O).grown (c.O).r e6 h,by rw[f.O];exact((c7.nil _ w 49 h9)).kept h (.inr (((c7.nil _ w 49 h9)).ne (c.O).r e6)),(c.O).x.f h (λk e=>by cases e;omega)⟩
 have ad:=a6 (v.trans (if_neg W));have ae:(bn==0)=Bf:=by simpa using W
 have dv:=o.a.cell 4;clear v ab W;go_wp2_with fail;apply(cf _).mono;rintro e du⟨rfl,rfl⟩;go_wp2_with fail;apply(g rest a8 _).mono;rintro e av⟨u,rfl,aq,bz⟩;obtain⟨cw,cz,dc,db⟩:=F6 (o.h bz) (ac.h bz) (aq.mono o.x.size) (λk(co:k<D (l3 rest)) z=>show((l3 rest).take (k+1)).foldl (P7 ⟨r,s,sec,key,val⟩) z=P7 ⟨r,s,sec,key,val⟩ (((l3 rest).take k).foldl (P7 ⟨r,s,sec,key,val⟩) z) (l3 rest)[k] by rw[g2 co,List.foldl_append];rfl);generalize l3 rest=S at*;obtain⟨cv,df,rfl⟩:=aq.b;clear aq bz o ac dv g cf cc k4;go_wp2;go_loopw [11,12,13] (λbj dk i wr=>∃(k:Nat)(σ:NsS),k<=D S/\i=I M k/\(S.take k).foldl (P7 ⟨r,s,sec,key,val⟩) ⟨0,Bt,[]⟩=σ/\dk=I U6 σ.all/\(σ.ok=Bt↔σ.ns=[])/\D σ.ns<=k/\c7 wr w 49 h9 bj σ.ns/\PW w wr #[C,I U8 fm,E,I V dy,I U8 lm,F,G,I U8 am,I U6 sp,O we,O pe,O rt,O np] r s sec key val/\m7 wr base ⟨ar,fm,fc,dy,lm,lc,fa,am,sp,we,pe,rt,np⟩ C E F G/\c7 wr w 9 x4 (Z cv (D S) df) S) (λ_ _ i _=>D S-(intOf i).toNat);exact⟨0,_,c6 _,rfl,rfl,rfl,i3,a7 _,c7.nil _ _ _ _,cw.O,cz.O,dc.O⟩;obtain⟨k,⟨y,bs,A⟩,co,rfl,cn,rfl,aa,ee,bp,cq,cp,cr⟩:=hrel;dsimp only at*;obtain⟨cd,bm,B,g,T,an⟩:=dK cn aa bp cq cp cr;obtain⟨aw,au,ax,rfl⟩:=bp.f;clear cn aa bp cq cp cr;by_cases az:k<D S
 ·obtain⟨b,ej,rfl,bd⟩:=H9 an.i.1 az;have bh:=db k az ⟨0,Bt,[]⟩;rw[cd.O]at bh;generalize bi:S[k]=l at*;have k0:(0:Int)<=k:=a8;have k9:(k:Int)<D S:=a8;obtain⟨dd,cx⟩:=j0 bi (λcg j m=>show Ca prog 178 #[Z (So ⟨cg,0,J⟩) 8 8,Y l,I M 181] j _ from wB cg i9 l 181 j e6 m);rw[show P7 ⟨r,s,sec,key,val⟩ ⟨y,bs,A⟩ l=if(p0 i9 l 181).2=0 then⟨bits .or U6 y (p0 i9 l 181).1,bs,A⟩else⟨bits .or U6 y (p0 i9 l 181).1,Bf,A++[⟨r,s,(p0 i9 l 181).2,j9 l⟩]⟩from rfl]at bh;generalize p0 i9 l 181=q at*;obtain⟨bt,Q⟩:=q;dsimp only at*;have ao:=a6 bh;clear bh bi;go_wp2_with fail;refine gP ?_;repeat
   first
    |(apply D7;focus (intro x j d;simp only[g0,o7,bY,x0,I1,VR.is,VR.any,VP.row,VP.ptr,VP.blk,VP.ex,VP.and,VP.of,List.getD_cons_zero,List.getD_cons_succ,List.nil_append,List.cons_append];(repeat intro bo;try simp only[bo]);go_wp2_with fail;exact dn rfl rfl (a9.refl _)))
    |(refine r7 ((VP.tabN i9)) ?_ ?_
      ·intro x j d
       simp only[g0,o7,bY,x0,I1,VR.is,VR.any,VP.row,VP.ptr,VP.blk,VP.ex,VP.and,VP.of,List.getD_cons_zero,List.getD_cons_succ,List.nil_append,List.cons_append,VP.tabN]
       go_wp2_with(go_at_call 182;apply(tI j).mono;rintro e bv⟨dz,rfl,di,ba⟩)
       refine e8 ?_ rfl (ba)
       exact⟨_,rfl,di⟩)
    |(refine r7 (.is (Y l)) ?_ ?_
      ·intro x j d
       simp only[g0,o7,bY,x0,I1,VR.is,VR.any,VP.row,VP.ptr,VP.blk,VP.ex,VP.and,VP.of,List.getD_cons_zero,List.getD_cons_succ,List.nil_append,List.cons_append,VP.tabN]
       intro ag
       simp only[ag]
       have ec:=d.cell bd
       go_wp2_with fail
       refine e8 ?_ rfl (a9.refl _)
       rfl)
    |(refine r7 (.is (Tp #[I U6 bt,I M Q])) ?_ ?_
      ·intro x j d
       simp only[g0,o7,bY,x0,I1,VR.is,VR.any,VP.row,VP.ptr,VP.blk,VP.ex,VP.and,VP.of,List.getD_cons_zero,List.getD_cons_succ,List.nil_append,List.cons_append,VP.tabN]
       rintro⟨ch,N,br⟩ ah
       simp only[N,ah]
       go_wp2_with(go_at_call 178;refine l4 (cx ch j br) λbv ba=>?_)
       refine e8 ?_ rfl (ba)
       rfl)
  intro x j d;simp only[n9,g0,o7,bY,x0,I1,VR.is,VR.any,VP.row,VP.ptr,VP.blk,VP.ex,VP.and,VP.of,List.getD_cons_zero,List.getD_cons_succ,List.nil_append,List.cons_append];rintro⟨ch,N,br⟩ ae af ag ah ai ay aj ak cj ci;simp only[N,ae,af,ag,ah,ai,ay,aj,ak,cj,ci];clear N ae af ag ah ai ay aj ak cj ci;replace B:=a6 (B.h d);replace g:=a6 (g.h d);replace T:=a6 (T.h d);replace an:=a6 (an.h d);clear bd br;by_cases ap:Q=0
  ·have ao:=a6 (ao.trans (if_pos ap));have af:(Q !=0)=Bf:=by simp[ap]
   clear ap;go_wp2;go_roundw;exact⟨k+1,_,az,o3,ao.O,rfl,bm.O,by dsimp only;omega,B.O,g.O,T.O,an.O⟩;simp[intOf];omega
  have ao:=a6 (ao.trans (if_neg ap));have af:(Q !=0)=Bt:=by simp[ap]
  have dh:D A+1<=1000000:=a8;have bi:=dd.O;clear ap;have bl:=a6 (show∀Yq,GA 49 h9 (Z aw au ax).ownBlock w (Z aw au ax) A [⟨r,s,Q,j9 l⟩] j Yq->PW w Yq #[C,I U8 fm,E,I V dy,I U8 lm,F,G,I U8 am,I U6 sp,O we,O pe,O rt,O np] r s sec key val from λYq d=>(g.O).push B (a7 _) e6 d.g);go_wp2_with fail;refine wpIn_wide.1 (cB (R:=(GA 49 h9 (Z aw au ax).ownBlock w (Z aw au ax) A [⟨r,s,Q,j9 l⟩])) (n:=1) ?_);repeat
   first
    |(apply D7;focus (intro x j d;simp only[g0,g5,bY,x0,I1,VR.is,VR.any,VP.row,VP.ptr,VP.blk,VP.ex,VP.and,VP.of,List.getD_cons_zero,List.getD_cons_succ,List.nil_append,List.cons_append];(repeat intro bo;try simp only[bo]);gi_wp2_with(first|(refine o8 rfl 89 _ rfl (w+1) _ _ _ rfl (bl j d).a underlying89 rfl g6 ?_)|(refine⟨trivial,?_⟩;gi_at_call 122;refine C0 ((Cw (n:=0)).2 (nI ⟨r,s,sec,key,val⟩ Q l j)) λbv ba=>?_));exact dn rfl rfl (by first|exact GA.f ba|exact L6.refl _)))
    |(refine r7 (.is (Y l)) ?_ ?_
      ·intro x j d
       simp only[g0,g5,bY,x0,I1,VR.is,VR.any,VP.row,VP.ptr,VP.blk,VP.ex,VP.and,VP.of,List.getD_cons_zero,List.getD_cons_succ,List.nil_append,List.cons_append,q8,q7]
       intro ai
       simp only[ai]
       obtain⟨b2,ek,dg,bd⟩:=H9 ((an.O).apart B e6 d.g).i.1 az;cases dg;rw[bi]at bd
       gi_wp2_with fail
       refine e8 ?_ rfl (L6.refl _)
       rfl)
    |(refine r7 ((q8 #[Y r,I M s,I M Q,Y (j9 l)])) ?_ ?_
      ·intro x j d
       simp only[g0,g5,bY,x0,I1,VR.is,VR.any,VP.row,VP.ptr,VP.blk,VP.ex,VP.and,VP.of,List.getD_cons_zero,List.getD_cons_succ,List.nil_append,List.cons_append,q8,q7]
       intro aj
       simp only[aj]
       gi_wp2_with fail
       refine e8 ?_ rfl (GA.f ((a9.refl j).alloc _))
       exact⟨j,rfl,e7.new _ _ _,λe=>by have:=((d.old B.O).lt e).2;omega⟩)
    |(refine r7 ((q7 (j).heap.size)) ?_ ?_
      ·intro x j d
       simp only[g0,g5,bY,x0,I1,VR.is,VR.any,VP.row,VP.ptr,VP.blk,VP.ex,VP.and,VP.of,List.getD_cons_zero,List.getD_cons_succ,List.nil_append,List.cons_append,q8,q7]
       rintro N⟨ck,ak,cs,dl⟩
       simp only[N,ak]
       gi_wp2_with(gi_at_builtin;refine a2F rfl _ _ 38 49 rfl P0 w (Z aw au ax) A rfl (d.old B.O) ck 1 1 [⟨r,s,Q,j9 l⟩] rfl rfl (i5.f cs rfl) dh (bl j d).x.size ?_;intro el bv bt Q dm dp dq)
       refine e8 ?_ rfl (⟨Q,λ_=>dm,dp⟩)
       exact⟨bt,dq.imp id (λq b W=>by have:=q b W;have:=d.g.size;omega)⟩)
  intro x j d;simp only[n9,g0,g5,bY,x0,I1,VR.is,VR.any,VP.row,VP.ptr,VP.blk,VP.ex,VP.and,VP.of,List.getD_cons_zero,List.getD_cons_succ,List.nil_append,List.cons_append,q8,q7];rintro N ae af ag ah ai ay aj⟨ck,ak,cs,dl⟩⟨dj,ei⟩;simp only[N,ae,af,ag,ah,ai,ay,aj,ak];clear N ae af ag ah ai ay aj ak;gi_wp2;go_wp2;go_roundw;exact⟨k+1,_,az,o3,ao.O,rfl,i3,by simp;omega,dj,bl j d,T.away B d.g,an.apart B e6 d.g⟩;simp[intOf];omega
 obtain rfl:k=D S:=a8;have k9:¬(D S:Int)<D S:=a8;have bq:=cd.O;rw[List.take_length]at bq;rw[bq]at ad;dsimp only[a3c]at ad;obtain rfl:au=D A:=B.n_eq;clear bq;by_cases al:A=[]
 ·have aa:=bm.2 al;obtain⟨ad,ce⟩:=j0 (ad.trans (congrArg (λz=>(z,A)) (if_pos aa))) al;have dn:Dc (0<D A)=Bf:=by rw[al];rfl
  clear al aa;go_wp2_with fail;refine l4 (cb _) λem ca=>?_;replace g:=a6 (g.h ca);replace T:=a6 (T.h ca);clear ca;have f8:=g.p.frozen 8;have en:=g.p.cell 8;cases ds;·have f:=a6 (show R=(bits .andNot U6 l9 y,[]) by rw[ad.O,ce.O]<;>rfl);have be:=g.p.frozen 8;have bk:=g.p.cell 8;obtain⟨c,t⟩:=j0 (g.set 8 (I U6 (bits .andNot U6 l9 y))) (let q:=T.grown g.p e6 (c8 _ w 8 (I U6 (bits .andNot U6 l9 y)));(⟨q.a,q.f,q.l,q.m⟩:m7 _ base ⟨ar,fm,fc,dy,lm,lc,fa,am,(bits .andNot U6 l9 y),we,pe,rt,np⟩ C E F G));have P:=(t.O).one;go_wp2_with(first|(refine D1 (c.O).p underlying36 ?_)|(refine q6 (c.O).r ?_ (hx1q:=P);intro av L h));exact s0 rfl L underlying36 ⟨_,_,_,_,_,by first|rfl|(rw[f.O]<;>rfl),by rw[f.O];exact(t.O).grown (c.O).r e6 h,by rw[f.O];exact((c7.nil _ w 49 h9)).kept h (.inr (((c7.nil _ w 49 h9)).ne (c.O).r e6)),(c.O).x.f h (λk e=>by cases e;omega)⟩
  have f:=a6 (show R=(y,[]) by rw[ad.O,ce.O]<;>rfl);obtain⟨bc,da⟩:=j0 (g.set 8 (I U6 (bits .andNot U6 l9 y))) (T.grown g.p e6 (c8 _ w 8 (I U6 (bits .andNot U6 l9 y))));have be:=bc.p.frozen 8;have bk:=bc.p.cell 8;obtain⟨c,t⟩:=j0 (bc.set 8 (I U6 y)) (let q:=da.grown bc.p e6 (c8 _ w 8 (I U6 y));(⟨q.a,q.f,q.l,q.m⟩:m7 _ base ⟨ar,fm,fc,dy,lm,lc,fa,am,y,we,pe,rt,np⟩ C E F G));have P:=(t.O).one;go_wp2_with(first|(refine D1 (c.O).p underlying36 ?_)|(refine q6 (c.O).r ?_ (hx1q:=P);intro av L h));exact s0 rfl L underlying36 ⟨_,_,_,_,_,by first|rfl|(rw[f.O]<;>rfl),by rw[f.O];exact(t.O).grown (c.O).r e6 h,by rw[f.O];exact((c7.nil _ w 49 h9)).kept h (.inr (((c7.nil _ w 49 h9)).ne (c.O).r e6)),(c.O).x.f h (λk e=>by cases e;omega)⟩
 have aa:bs=Bf:=Bool.eq_false_iff.2 λbf=>al (bm.1 bf)
 have f:=a6 (show R=(sp,A) by rw[ad.O,aa];rfl);have dn:Dc (0<D A)=Bt:=decide_eq_true (List.length_pos_iff.2 al);clear al aa;have P:=(T.O).one;go_wp2_with(first|(refine D1 (g.O).p underlying36 ?_)|(refine q6 (g.O).r ?_ (hx1q:=P);intro av L h));exact s0 rfl L underlying36 ⟨_,_,_,_,_,by first|rfl|(rw[f.O]<;>rfl),by rw[f.O];exact(T.O).grown (g.O).r e6 h,by rw[f.O];exact(B.O).kept h (.inr ((B.O).ne (g.O).r e6)),(g.O).x.f h (λk e=>by cases e;omega)⟩
theorem OV{x:Int}(h:x∈Q4):0<=x/\x<=100000:=by have:∀x∈Q4,0<=x/\x<=100000:=e6;exact this x h
theorem qN{x:Int}(h:x∈Q4):IntKind.i64.wrap x=x/\IntKind.u32.wrap x=x:=by have:=OV h;exact⟨h7 _ a8,by show x % 4294967296=x;omega⟩
theorem a1D(l:o5)(n:Int):p9 (p9 l n) n=p9 l n:=by unfold p9;rw[List.filter_filter];simp
theorem QQ(l:o5)(n:Int):withT (p9 l n) n Bt=withT l n Bt:=by unfold withT;rw[if_pos rfl,if_pos rfl,a1D]
theorem QP{l:o5}{n:Int}{inn:Bool}(c:∀x∈l,x∈Q4)(d:n∈Q4):∀x∈withT l n inn,x∈Q4:=by
 have b:∀x∈p9 l n,x∈Q4:=λx a=>c x (List.mem_filter.1 a).1
 intro x a;unfold withT at a;split at a;unfold P4 at a;simp only[List.mem_append,List.mem_cons]at a;rcases a with a|rfl|a
 exact b x (List.mem_of_mem_take a);exact d;exact b x (List.mem_of_mem_drop a);exact b x a
theorem zL(p:j2)(a:m8)(y A B fz:Va)(w:Wd)(ic:a.val.size<=50000)(fo:p.fa.Pairwise (·<·))(fj:∀x∈p.fa,x∈Q4)(hy:D p.fa<=100)(base:Nat)(hb:base<=w)(bl:m7 w base p y A B fz):
 Ca prog 119 #[Ag (i7 p y A B fz),Ag (z8.c a).toArray] w λe ec=>∃va' fx fy vm' cr,e=X (Tp #[Ag (i7 {p with am:=(D4 p.am p.fa [] a a.val).1,fa:=(D4 p.am p.fa [] a a.val).2.1} va' fx fy vm'),cr])/\m7 ec base {p with am:=(D4 p.am p.fa [] a a.val).1,fa:=(D4 p.am p.fa [] a a.val).2.1} va' fx fy vm'/\c7 ec w 49 h9 cr (D4 p.am p.fa [] a a.val).2.2/\a9 w ec:=by
 obtain⟨R,bb⟩:∃R,R=D4 p.am p.fa [] a a.val:=⟨_,rfl⟩;rw[<-bb];unfold D4 at bb;obtain⟨H,es,er⟩:=r6 bl hZ (jU a.val a8);have ib:=C1 a.val;have ig:=x7 (j6 a.val).1;obtain⟨gp,el⟩:=j0 fo fj;obtain⟨aa,ab,rfl⟩:=bl.m.b;obtain⟨ar,fm,fc,dy,lm,lc,fa,am,sp,we,pe,rt,np⟩:=p;obtain⟨s,t,sec,key,val⟩:=a;dsimp only[i7,z8]at*;obtain⟨hs,ff,cm⟩:=PW.ex w #[y,I U8 fm,A,I V dy,I U8 lm,B,Z aa (D fa) ab,I U8 am,I U6 sp,O we,O pe,O rt,O np] s t sec key val;show Ca prog 119 #[Ag #[y,I U8 fm,A,I V dy,I U8 lm,B,Z aa (D fa) ab,I U8 am,I U6 sp,O we,O pe,O rt,O np],Ag #[Y s,I M t,Y sec,Y key,Y val]] w _;have k4:=cm.a.cell 4;obtain⟨g,N⟩:=j0 cm (H.h cm.x);have dq:iF am (j6 val).2=if am=0 then(if(j6 val).2 then 2 else 1)else am:=rfl
 generalize j6 val=hl at*;obtain⟨rest,bv⟩:=hl;dsimp only at*;obtain⟨T,fi⟩:∃T,T=iF am bv:=⟨_,rfl⟩;rw[<-fi]at bb dq;have ek:=a6 dq;clear bl cm H fo fj dq fi;go_in;go_upto_region 1 with fail;rw[<-ff];clear ff;go_wp2_with fail;apply(es val a8 _).mono;rintro e ga⟨u,rfl,av,ee⟩;replace g:=a6 (g.h ee);replace N:=a6 (N.h ee);have be:=a6 (show isNone (l3 val)=(Dc (D (l3 val)=1)&&((l3 val).getD 0 ⟨#[]⟩).toList==[110,111,110,101])from rfl);generalize l3 val=bc at*;obtain⟨hq,hu,rfl⟩:=av.b;have em:=a6 av;clear av ee k4;by_cases bt:D bc=0
 ·have ai:=a6 (bb.trans (if_pos bt));have P:((D bc:Int)==0)=Bt:=by simp[bt]
  have dk:=g.p.frozen 6;have cv:=g.p.cell 6;have cc:=(g.set 6 (Z J 0 0)).p.frozen 7;have bd:=(g.set 6 (Z J 0 0)).p.cell 7;obtain⟨S,bf⟩:=j0 ((g.set 6 (Z J 0 0)).set 7 (I U8 0)) (let q:=(N.grown g.p e6 (c8 _ w 6 (Z J 0 0))).grown (g.set 6 (Z J 0 0)).p e6 (c8 _ w 7 (I U8 0));(⟨q.a,q.f,q.l,c7.nil _ _ _ _⟩:m7 _ base ⟨ar,fm,fc,dy,lm,lc,[],0,sp,we,pe,rt,np⟩ y A B (Z J 0 0)));clear bb bt;have cg:=(bf.O).one;go_wp2_with(first|(refine D1 (S.O).p underlying36 ?_)|(refine q6 (S.O).r ?_ (hx1q:=cg);intro ed bx ak));exact s0 rfl bx underlying36 ⟨_,_,_,_,_,by first|rfl|(rw[ai.O]<;>rfl),by rw[ai.O];exact(bf.O).grown (S.O).r e6 ak,by rw[ai.O];exact((c7.nil _ w 49 h9)).kept ak (.inr (((c7.nil _ w 49 h9)).ne (S.O).r e6)),(S.O).x.f ak (λk e=>by cases e;omega)⟩
 replace bb:=bb.trans (if_neg bt);have P:((D bc:Int)==0)=Bf:=by simpa using bt
 generalize hc:isNone bc=fu at*;have eo:=a6 bb;clear bb hc;go_upto_region 6 with fail;go_cut [33] (λb ax=>b=O fu/\ax=ga)
 ·by_cases bg:D bc=1
  ·obtain⟨b,hk,rfl,W⟩:=H9 em.i.1 (k:=0) a8;rw[j8]at W;have hi:=be.O;rw[decide_eq_true bg,b9,e9 a8,Bool.true_and]at hi;have be:=a6 hi;have ac:((D bc:Int)==1)=Bt:=by simp[bg]
   have d:(0:Int)<D bc:=a8;dsimp only[Option.getD]at be;generalize bc[0]=ik at*;clear hi bg;go_wp2;go_meet;exact⟨by rw[be.O],rfl⟩
  have ac:((D bc:Int)==1)=Bf:=by simp;omega
  have hi:=be.O;rw[decide_eq_false bg,Bool.false_and]at hi;have be:=a6 hi;clear hi bg;go_wp2;go_meet;exact⟨by rw[be.O],rfl⟩
 obtain⟨rfl,rfl⟩:=hcut;cases fu;rotate_left
 ·have ai:=a6 (show R=(1,[],[])from eo.O);have dk:=g.p.frozen 6;have cv:=g.p.cell 6;have cc:=(g.set 6 (Z J 0 0)).p.frozen 7;have bd:=(g.set 6 (Z J 0 0)).p.cell 7;obtain⟨S,bf⟩:=j0 ((g.set 6 (Z J 0 0)).set 7 (I U8 1)) (let q:=(N.grown g.p e6 (c8 _ w 6 (Z J 0 0))).grown (g.set 6 (Z J 0 0)).p e6 (c8 _ w 7 (I U8 1));(⟨q.a,q.f,q.l,c7.nil _ _ _ _⟩:m7 _ base ⟨ar,fm,fc,dy,lm,lc,[],1,sp,we,pe,rt,np⟩ y A B (Z J 0 0)));have cg:=(bf.O).one;go_wp2_with(first|(refine D1 (S.O).p underlying36 ?_)|(refine q6 (S.O).r ?_ (hx1q:=cg);intro ed bx ak));exact s0 rfl bx underlying36 ⟨_,_,_,_,_,by first|rfl|(rw[ai.O]<;>rfl),by rw[ai.O];exact(bf.O).grown (S.O).r e6 ak,by rw[ai.O];exact((c7.nil _ w 49 h9)).kept ak (.inr (((c7.nil _ w 49 h9)).ne (S.O).r e6)),(S.O).x.f ak (λk e=>by cases e;omega)⟩
 have ep:=a6 (eo.trans (if_neg e6));have ip:=g.a.cell 4;clear bt be;go_wp2_with fail;apply(er _).mono;rintro e hn⟨rfl,rfl⟩;have cc:=g.p.frozen 7;have bd:=g.p.cell 7;obtain⟨b1,fg⟩:∃b1:Bool,b1=(am==0&&bv):=⟨_,rfl⟩;have cx:=a6 fg;clear fg;go_upto_region 11 with fail;go_cut [48] (λb ax=>b=O b1/\PW w ax #[y,I U8 fm,A,I V dy,I U8 lm,B,Z aa (D fa) ab,I U8 am,I U6 sp,O we,O pe,O rt,O np] s t sec key val/\m7 ax base ⟨ar,fm,fc,dy,lm,lc,fa,am,sp,we,pe,rt,np⟩ y A B (Z aa (D fa) ab));·cases F:am==0;all_goals have bm:=cx.O;rw[F]at bm;have gf:=a6 bm;clear bm;go_wp2;go_meet;exact⟨by rw[gf.O];rfl,g.O,N.O⟩
 obtain⟨rfl,j,l⟩:=hcut;replace g:=a6 j;replace N:=a6 l;replace cc:=j.p.frozen 7;replace bd:=j.p.cell 7;clear j l;go_upto_if 48 with fail;go_cut [] (λax=>PW w ax #[y,I U8 fm,A,I V dy,I U8 lm,B,Z aa (D fa) ab,I U8 (if b1 then 2 else am),I U6 sp,O we,O pe,O rt,O np] s t sec key val/\m7 ax base ⟨ar,fm,fc,dy,lm,lc,fa,am,sp,we,pe,rt,np⟩ y A B (Z aa (D fa) ab))
 ·cases b1;·go_wp2;go_meet;exact⟨g.O,N.O⟩
  go_wp2;go_meet;exact⟨g.set 7 _,N.grown g.p e6 (c8 _ w 7 _)⟩
 obtain⟨j,l⟩:=hcut;replace g:=a6 j;replace N:=a6 l;replace cc:=j.p.frozen 7;replace bd:=j.p.cell 7;obtain⟨bj,dm⟩:∃bj,bj=if b1=Bt then 2 else am:=⟨_,rfl⟩
 have cw:=a6 (show T=if bj=0 then 1 else bj by
  rw[ek.O,dm,cx.O];by_cases bl:am=0;subst bl;cases bv<;>rfl;have:(am==0)=Bf:=by simpa using bl
  simp[bl,this])
 rw[<-dm]at g bd;clear j l cx ek dm;go_upto_if 52 with fail;go_cut [] (λax=>PW w ax #[y,I U8 fm,A,I V dy,I U8 lm,B,Z aa (D fa) ab,I U8 T,I U6 sp,O we,O pe,O rt,O np] s t sec key val/\m7 ax base ⟨ar,fm,fc,dy,lm,lc,fa,am,sp,we,pe,rt,np⟩ y A B (Z aa (D fa) ab))
 ·by_cases ba:bj=0
  ·have F:(bj==0)=Bt:=by simp[ba]
   have cy:=a6 (cw.trans (if_pos ba));clear ba;go_wp2;go_meet;exact⟨by rw[cy.O];exact g.set 7 _,N.grown g.p e6 (c8 _ w 7 _)⟩
  have F:(bj==0)=Bf:=by simp[ba]
  have cy:=a6 (cw.trans (if_neg ba));clear ba;go_wp2;go_meet;exact⟨by rw[cy.O];exact g.O,N.O⟩
 obtain⟨j,l⟩:=hcut;replace g:=a6 j;replace N:=a6 l;clear j l cc bd cw em er;go_wp2;go_loopw [9,10] (λv i wr=>∃k:Nat,k<=D fa/\i=I M k/\c7 wr wc 3 B6 v (fa.take k)/\a9 wc wr) (λ_ i _=>D fa-(intOf i).toNat);exact⟨0,c6 _,rfl,c7.nil _ _ _ _,.refl _⟩;obtain⟨k,cn,rfl,av,bs⟩:=hrel;obtain⟨h,dc⟩:=j0 (g.h bs) (N.h bs);obtain⟨dd,Q,de⟩:=r6 (show c7 wr base 32 F4 (Z aa (D fa) ab) fa from dc.m) av bs;have cv:=h.p.cell 6;clear av bs;obtain⟨af,al,aj,rfl⟩:=Q.f;by_cases G:k<D fa
 ·obtain⟨b,o,rfl,-⟩:=dd.i.1.rows e6 a8;have W:=dd.i.1.l G (r:=0) rfl;have fs:=(qN (el _ (g3 G))).1;have bz:=a6 (g2 G);have ce:D (fa.take k)+1<=1000000:=by rw[m4];omega
  generalize fa[k]=x at*;simp only[F4,j8,Nat.mul_one]at W;have k0:(0:Int)<=k:=a8;have k9:(k:Int)<D fa:=a8;go_wp2_with(at_builtin;refine h8 rfl (Tm 61) (Tm 68) 28 3 rfl gB _ _ _ rfl (Q.h ((a9.refl _).alloc _)) _ 1 1 [x] rfl rfl (i5.f (e7.new _ _ _) rfl) ce (de.alloc _).size ?_;intro fw hn hg hp hw ht;have gw:=hp _ (de.alloc _) (a7 _));go_roundw;exact⟨k+1,G,o3,by rw[bz.O];exact hg,gw⟩;simp[intOf];omega
 obtain rfl:k=D fa:=a8;have k9:¬(D fa:Int)<D fa:=a8;have ej:=a6 (show c7 wr w 3 B6 (Z af al aj) fa by have:=Q.O;rw[List.take_length]at this;exact this.mono g.x.size);replace h:=a6 h.O;have gn:=a6 (λinn k(cn:k<D (l3 rest)) z=>show((l3 rest).take (k+1)).foldl (R6 ⟨s,t,sec,key,val⟩ inn) z=R6 ⟨s,t,sec,key,val⟩ inn (((l3 rest).take k).foldl (R6 ⟨s,t,sec,key,val⟩ inn) z) (l3 rest)[k] by rw[g2 cn,List.foldl_append];rfl);obtain⟨inn,dp⟩:∃inn:Bool,inn=(bv==(T==2)):=⟨_,rfl⟩;rw[<-dp]at ep;have ci:=a6 dp;clear Q dp dd;go_wp2_with fail;apply(es rest a8 _).mono;rintro e ed⟨u,rfl,av,ct⟩;obtain⟨gd,gk,gh,gq⟩:=F6 (h.h ct) (dc.h ct) (ej.h ct) (av.mono h.x.size);generalize l3 rest=an at*;obtain⟨gb,gx,rfl⟩:=av.b;clear av ct h dc ej g N de;go_wp2;go_loopw [9,11,12] (λhm cr i wr=>∃(k:Nat)(d:o5)(L:List i6),k<=D an/\i=I M k/\(an.take k).foldl (R6 ⟨s,t,sec,key,val⟩ inn) (fa,[])=(d,L)/\d.Pairwise (·<·)/\(∀x∈d,x∈Q4)/\D d<=D fa+k/\D L<=k/\c7 wr w 3 B6 hm d/\c7 wr w 49 h9 cr L/\PW w wr #[y,I U8 fm,A,I V dy,I U8 lm,B,Z aa (D fa) ab,I U8 T,I U6 sp,O we,O pe,O rt,O np] s t sec key val/\m7 wr base ⟨ar,fm,fc,dy,lm,lc,fa,am,sp,we,pe,rt,np⟩ y A B (Z aa (D fa) ab)/\c7 wr w 9 x4 (Z gb (D an) gx) an) (λ_ _ i _=>D an-(intOf i).toNat);exact⟨0,fa,[],c6 _,rfl,rfl,gp.O,el.O,a7 _,a7 _,gh.O,c7.nil _ _ _ _,gd.O,gk.O,gq.O⟩;obtain⟨k,d,L,cn,rfl,fh,fp,fk,hz,ia,dr,ds,fn,fl,fq⟩:=hrel;obtain⟨cz,az,ag,C,h,bh⟩:=dK fh (And.intro fp fk) dr ds fn fl;have Q:=a6 fq;obtain⟨eg,ew,rfl⟩:=dr.b;obtain⟨bp,bu,br,rfl⟩:=ds.f;clear fh fp fk dr ds fn fl fq;by_cases G:k<D an
 ·obtain⟨b,hk,rfl,W⟩:=H9 Q.i.1 G;have co:=gn inn k G (fa,[]);rw[cz.O]at co;generalize cp:an[k]=E at*;have k0:(0:Int)<=k:=a8;have k9:(k:Int)<D an:=a8;obtain⟨gs,gg⟩:=j0 cp (λeu f m=>show Ca prog 178 #[Z (So ⟨eu,0,J⟩) 8 8,Y E,I M 180] f _ from wB eu j7 E 180 f e6 m);rw[show R6 ⟨s,t,sec,key,val⟩ inn (d,L) E=if(p0 j7 E 180).2=0 then(withT d (p0 j7 E 180).1 inn,L)else(d,L++[⟨s,t,(p0 j7 E 180).2,j9 E⟩])from rfl]at co;have gm:=a6 (uJ j7 E 180 e6);generalize p0 j7 E 180=q at*;obtain⟨j,l⟩:=q;dsimp only at*;have bi:=a6 co;clear co cp;go_wp2_with fail;refine gP ?_;repeat
   first
    |(apply D7;focus (intro x f c;simp only[g0,o7,uV];(repeat intro ca;try simp only[ca]);go_wp2_with fail;exact dn rfl rfl (a9.refl _)))
    |(refine r7 ((VP.tabN j7)) ?_ ?_
      ·intro x f c
       simp only[g0,o7,uV,VP.tabN]
       go_wp2_with(go_at_call 179;apply(zM f).mono;rintro e cs⟨hr,rfl,he,cf⟩)
       refine e8 ?_ rfl (cf)
       exact⟨_,rfl,he⟩)
    |(refine r7 (.is (Y E)) ?_ ?_
      ·intro x f c
       simp only[g0,o7,uV,VP.tabN]
       intro F
       simp only[F]
       have gz:=c.cell W
       go_wp2_with fail
       refine e8 ?_ rfl (a9.refl _)
       rfl)
    |(refine r7 (.is (Tp #[I U6 j,I M l])) ?_ ?_
      ·intro x f c
       simp only[g0,o7,uV,VP.tabN]
       rintro⟨ev,P,dv⟩ ap
       simp only[P,ap]
       go_wp2_with(go_at_call 178;refine l4 (gg ev f dv) λcs cf=>?_)
       refine e8 ?_ rfl (cf)
       rfl)
  intro x f c;simp only[n9,g0,o7,uV];rintro⟨ev,P,dv⟩ ac ao F ap aq au ad bk cb ex;simp only[P,ac,ao,F,ap,aq,au,ad,bk,cb,ex];clear P ac ao F ap aq au ad bk cb ex;replace ag:=a6 (ag.h c);replace C:=a6 (C.h c);replace h:=a6 (h.h c);replace bh:=a6 (bh.h c);replace Q:=a6 (Q.h c);clear W dv;by_cases bn:l=0
  ·have bi:=a6 (bi.trans (if_pos bn));have ao:(l !=0)=Bf:=by simp[bn]
   have dt:j∈Q4:=gm bn;have ga:=(qN dt).1;have gl:=a6 dt;have bd:=h.p.cell 7;have bz:=a6 (IB eg ew d j f a8 ag.i.1);have hx:=V1 d j;have ie:=eC d j Bt;clear bn dt;go_wp2_with fail;apply bz.mono;rintro e ho⟨il,rfl,dw,ay⟩;obtain⟨gc,gy,rfl⟩:=dw.b;replace bd:=ay.cell bd;cases inn;·have F:(bv==(T==2))=Bf:=ci.symm;clear ci;go_wp2;go_roundw;exact⟨k+1,p9 d j,L,G,o3,bi.O,bM az.1 _,λx bs=>az.2 x (List.mem_filter.1 bs).1,a8,a8,dw.mono h.x.size,C.h ay,h.h ay,bh.h ay,Q.h ay⟩;simp[intOf];omega
   have F:(bv==(T==2))=Bt:=ci.symm;have en:=a6 (SU gc gy (p9 d j) j ho a8 (bM az.1 _) dw.i.1);rw[QQ]at en;clear ci;go_wp2_with fail;apply en.mono;rintro e io⟨im,rfl,hh,cu⟩;go_wp2;go_roundw;exact⟨k+1,withT d j Bt,L,G,o3,bi.O,V7 az.1 _ _,QP az.2 gl.O,a8,a8,hh.mono (b6 h.x.size ay.size),C.h (ay.trans cu),h.h (ay.trans cu),bh.h (ay.trans cu),Q.h (ay.trans cu)⟩;simp[intOf];omega
  have bi:=a6 (bi.trans (if_neg bn));have ao:(l !=0)=Bt:=by simp[bn]
  have ce:D L+1<=1000000:=a8;have cp:=gs.O;clear bn;have da:=a6 (show∀Yq,GA 49 h9 (Z bp bu br).ownBlock w (Z bp bu br) L [⟨s,t,l,j9 E⟩] f Yq->PW w Yq #[y,I U8 fm,A,I V dy,I U8 lm,B,Z aa (D fa) ab,I U8 T,I U6 sp,O we,O pe,O rt,O np] s t sec key val from λYq c=>(h.O).push C (a7 _) e6 c.g);go_wp2_with fail;refine wpIn_wide.1 (cB (R:=(GA 49 h9 (Z bp bu br).ownBlock w (Z bp bu br) L [⟨s,t,l,j9 E⟩])) (n:=1) ?_);repeat
   first
    |(apply D7;focus (intro x f c;simp only[g0,g5,uV];(repeat intro ca;try simp only[ca]);gi_wp2_with(first|(refine o8 rfl 89 _ rfl (w+1) _ _ _ rfl (da f c).a underlying89 rfl g6 ?_)|(refine⟨trivial,?_⟩;gi_at_call 122;refine C0 ((Cw (n:=0)).2 (nI ⟨s,t,sec,key,val⟩ l E f)) λcs cf=>?_));exact dn rfl rfl (by first|exact GA.f cf|exact L6.refl _)))
    |(refine r7 (.is (Y E)) ?_ ?_
      ·intro x f c
       simp only[g0,g5,uV,q8,q7]
       intro aq
       simp only[aq]
       obtain⟨b2,ij,ha,W⟩:=H9 ((Q.O).apart C e6 c.g).i.1 G;cases ha;rw[cp]at W
       gi_wp2_with fail
       refine e8 ?_ rfl (L6.refl _)
       rfl)
    |(refine r7 ((q8 #[Y s,I M t,I M l,Y (j9 E)])) ?_ ?_
      ·intro x f c
       simp only[g0,g5,uV,q8,q7]
       intro ad
       simp only[ad]
       gi_wp2_with fail
       refine e8 ?_ rfl (GA.f ((a9.refl f).alloc _))
       exact⟨f,rfl,e7.new _ _ _,λe=>by have:=((c.old C.O).lt e).2;omega⟩)
    |(refine r7 ((q7 (f).heap.size)) ?_ ?_
      ·intro x f c
       simp only[g0,g5,uV,q8,q7]
       rintro P⟨cd,bk,bo,dx⟩
       simp only[P,bk]
       gi_wp2_with(gi_at_builtin;refine a2F rfl _ _ 38 49 rfl P0 w (Z bp bu br) L rfl (c.old C.O) cd 1 1 [⟨s,t,l,j9 E⟩] rfl rfl (i5.f bo rfl) ce (da f c).x.size ?_;intro fw cs j l dz ea eb)
       refine e8 ?_ rfl (⟨l,λ_=>dz,ea⟩)
       exact⟨j,eb.imp id (λq b bm=>by have:=q b bm;have:=c.g.size;omega)⟩)
  intro x f c;simp only[n9,g0,g5,uV,q8,q7];rintro P ac ao F ap aq au ad⟨cd,bk,bo,dx⟩⟨hf,ii⟩;simp only[P,ac,ao,F,ap,aq,au,ad,bk];clear P ac ao F ap aq au ad bk;gi_wp2;go_wp2;go_roundw;exact⟨k+1,d,L++[⟨s,t,l,j9 E⟩],G,o3,bi.O,az.1,az.2,a8,by simp;omega,ag.apart C e6 c.g,hf,da f c,bh.away C c.g,Q.apart C e6 c.g⟩;simp[intOf];omega
 obtain rfl:k=D an:=a8;have k9:¬(D an:Int)<D an:=a8;have du:=cz.O;rw[List.take_length]at du;have ai:=a6 (show R=(T,d,L) by rw[ep.O,du]);have dk:=h.p.frozen 6;have cv:=h.p.cell 6;have eh:=a6 (h.set 6 (Z J 0 0));have ae:=c8 wr w 6 (Z J 0 0);obtain⟨cj,ef,et,gj⟩:=F6 (bh.grown h.p e6 ae) (ag.kept ae (.inr (ag.ne h.p e6))) (C.kept ae (.inr (C.ne h.p e6))) az.2;clear du ae Q h bh ag C cz az;go_wp2;go_loopw [15] (λi wr=>∃(k:Nat)(vm':Va),k<=D d/\i=I M k/\c7 wr w 32 F4 vm' (d.take k)/\PW w wr #[y,I U8 fm,A,I V dy,I U8 lm,B,vm',I U8 T,I U6 sp,O we,O pe,O rt,O np] s t sec key val/\c7 wr base 3 B6 y ar/\c7 wr base 94 a2J A fc/\c7 wr base 94 a2J B lc/\c7 wr w 3 B6 (Z eg (D d) ew) d/\c7 wr w 49 h9 (Z bp bu br) L) (λi _=>D d-(intOf i).toNat);exact⟨0,Z J 0 0,c6 _,rfl,c7.nil _ _ _ _,eh.O,cj.a,cj.f,cj.l,ef.O,et.O⟩;obtain⟨k,vm',cn,rfl,bg,dl,ba,ez,fb,fd,fe⟩:=hrel;obtain⟨ah,h,bq,ag,C⟩:=Y2 bg dl (And.intro ba (And.intro ez fb)) fd fe;have cv:=dl.p.cell 6;clear bg dl ba ez fb fd fe eh cj ef et dk;obtain⟨af,al,aj,rfl⟩:=ah.f;by_cases G:k<D d
 ·obtain⟨b,o,rfl,-⟩:=ag.i.1.rows e6 a8;have bz:=a6 (g2 G);have ft:=gj _ (g3 G);have fs:=(qN ft).2;have ih:d[k] % 4294967296=d[k]:=fs;have ce:D (d.take k)+1<=1000000:=by rw[m4];omega
  generalize fr:d[k]=bw at*;have gr:=a6 fr;have k0:(0:Int)<=k:=a8;have k9:(k:Int)<D d:=a8;have db:=a6 (show∀Yq,GA 32 F4 (Z af al aj).ownBlock w (Z af al aj) (d.take k) [bw] wr Yq->PW w Yq #[y,I U8 fm,A,I V dy,I U8 lm,B,Z af al aj,I U8 T,I U6 sp,O we,O pe,O rt,O np] s t sec key val from λYq c=>h.push ah (a7 _) e6 c.g);have ei:=a6 (show∀Yq,GA 32 F4 (Z af al aj).ownBlock w (Z af al aj) (d.take k) [bw] wr Yq->Yq.cell? ⟨b,o+k,J⟩=So (I M bw)from λYq c=>by have W:=(ag.apart ah e6 c.g).i.1.l G (r:=0) rfl;rw[gr.O]at W;simpa only[B6,j8,Nat.mul_one]using W)
  have W:=ei wr (L6.refl _);clear fr ft;go_wp2_with fail;refine wpIn_wide.1 (cB (R:=(GA 32 F4 (Z af al aj).ownBlock w (Z af al aj) (d.take k) [bw])) (n:=1) ?_);repeat
   first
    |(apply D7;focus (intro x f c;simp only[g0,g5,uV];(repeat intro ca;try simp only[ca]);have W:=(db f c).p.cell 6;have iq:=ei f c;gi_wp2_with fail;exact dn rfl rfl (L6.refl _)))
    |(refine r7 ((q8 #[I V bw])) ?_ ?_
      ·intro x f c
       simp only[g0,g5,uV,q8,q7]
       intro au
       simp only[au]
       gi_wp2_with fail
       refine e8 ?_ rfl (GA.f ((a9.refl f).alloc _))
       exact⟨f,rfl,e7.new _ _ _,λe=>by have:=((c.old ah.O).lt e).2;omega⟩)
    |(refine r7 ((q7 wr)) ?_ ?_
      ·intro x f c
       simp only[g0,g5,uV,q8,q7]
       rintro ac⟨cd,ad,fv,hj⟩
       simp only[ac,ad]
       gi_wp2_with(gi_at_builtin;refine a2F rfl _ _ 33 32 rfl RB w (Z af al aj) (d.take k) rfl (c.old ah.O) cd 1 1 [bw] rfl rfl (i5.f fv rfl) ce (db f c).x.size ?_;intro fw cs j l dz ea eb)
       refine e8 ?_ rfl (⟨l,λ_=>dz,ea⟩)
       exact⟨j,eb.imp id (λq b bm=>by have:=q b bm;have:=c.g.size;omega)⟩)
  intro x f c;simp only[n9,g0,g5,uV,q8,q7];rintro P ac ao F ap aq au⟨cd,ad,fv,hj⟩⟨bo,dx⟩ cb;simp only[P,ac,ao,F,ap,aq,au,ad,cb];clear P ac ao F ap aq au ad cb;obtain⟨ch,cq,ck,ey⟩:=bo.f;rw[ey]at bo dx;have aw:=db f c;have gz:=aw.p.cell 6;have hv:=aw.p.frozen 6;have ae:=c8 f w 6 (Z ch cq ck);obtain⟨S,gu⟩:=j0 (aw.set 6 (Z ch cq ck)) (show c7 (f.setCell ⟨w,6,J⟩ (Z ch cq ck)) w 32 F4 (Z ch cq ck) (d.take (k+1)) by rw[bz.O];exact bo.kept ae (.inr (bo.ne aw.p e6)));have df:=bq.1.apart ah e6 c.g;have dg:=bq.2.1.apart ah e6 c.g;have dh:=bq.2.2.apart ah e6 c.g;have di:=ag.apart ah e6 c.g;have dj:=C.apart ah e6 c.g;have gv:=a6 (And.intro (df.kept ae (.inr (df.ne aw.p e6))) (And.intro (dg.kept ae (.inr (dg.ne aw.p e6))) (And.intro (dh.kept ae (.inr (dh.ne aw.p e6))) (And.intro (di.kept ae (.inr (di.ne aw.p e6))) (dj.kept ae (.inr (dj.ne aw.p e6)))))));clear df dg dh di dj aw ae;simp only[ey];gi_wp2;go_wp2;go_roundw;exact⟨k+1,_,G,o3,gu.O,S.O,gv.O⟩;simp[intOf];omega
 obtain rfl:k=D d:=a8;have k9:¬(D d:Int)<D d:=a8;have bf:=a6 (show m7 wr base ⟨ar,fm,fc,dy,lm,lc,d,T,sp,we,pe,rt,np⟩ y A B (Z af al aj)from⟨bq.1,bq.2.1,bq.2.2,by have:=ah.O;rw[List.take_length]at this;exact this.mono hb⟩);have cg:=(bf.O).one;go_wp2_with(first|(refine D1 (h.O).p underlying36 ?_)|(refine q6 (h.O).r ?_ (hx1q:=cg);intro ed bx ak));exact s0 rfl bx underlying36 ⟨_,_,_,_,_,by first|rfl|(rw[ai.O]<;>rfl),by rw[ai.O];exact(bf.O).grown (h.O).r e6 ak,by rw[ai.O];exact(C.O).kept ak (.inr ((C.O).ne (h.O).r e6)),(h.O).x.f ak (λk e=>by cases e;omega)⟩
def nZ(p:j2)(key:g4)(b:Bool):j2:=if key==mQ then{p with we:=b}else if key==mR then{p with pe:=b}else if key==mP then{p with rt:=b}else{p with np:=b}
theorem YA{s:g4}(h:s.toList=[]):(G4 s).1=Bf:=by rw[Lib.toList_data]at h;obtain rfl:s=⟨#[]⟩:=ByteArray.ext (Array.toList_inj.1 h);kernel_rfl
theorem SO{p:j2}{a:m8}(i:(a.key==sD)=Bf)(j:(a.key==sF)=Bf)(k:(a.key==sE)=Bf)(f:U9 a.key=Bt):
 w9 p a=if(G4 a.val).2≠0/\a.val.toList≠[]then(p,[fD a (G4 a.val).2 a.val])else(nZ p a.key (G4 a.val).1,[]):=by
 have l:= @YA a.val;unfold U9 at f;unfold w9 nZ E8;rw[i,j,k];simp only[Bool.false_eq_true,if_false,beq_iff_eq];by_cases g:a.val.toList=[];have:=l g;simp only[g,this,if_true,ne_eq,not_true,and_false,if_false];cases b:a.key==mQ<;>cases c:a.key==mR<;>cases d:a.key==mP<;>cases e:a.key==pY<;>simp[b,c,d,e]at f⊢;by_cases h:(G4 a.val).2=0;simp only[g,h,if_true,if_false,ne_eq,not_true,false_and];cases b:a.key==mQ<;>cases c:a.key==mR<;>cases d:a.key==mP<;>cases e:a.key==pY<;>simp[b,c,d,e]at f⊢;simp only[g,h,if_true,if_false,ne_eq,not_false_eq_true,true_and];cases b:a.key==mQ<;>cases c:a.key==mR<;>cases d:a.key==mP<;>cases e:a.key==pY<;>simp[b,c,d,e]at f⊢
theorem SN{p:j2}{a:m8}(c:(a.key==sD)=Bf)(d:(a.key==sF)=Bf)(e:(a.key==sE)=Bf)(b:U9 a.key=Bf):w9 p a=(p,[]):=by unfold U9 at b;unfold w9;rw[c,d,e];cases f:a.key==mQ<;>cases g:a.key==mR<;>cases h:a.key==mP<;>cases i:a.key==pY<;>simp[f,g,h,i]at b⊢
structure a4y(p:j2):Prop where
 a:p.ar.Pairwise (·<·)
 al:D p.ar<=100
 m:p.fa.Pairwise (·<·)
 mm:∀x∈p.fa,x∈Q4
 ml:D p.fa<=100
theorem a3p(p:j2)(a:m8)(l m o r:Va)(w:Wd)(ag:a4y p)(ab:a.val.size<=50000)(base:Nat)(bb:base<=w)(ae:m7 w base p l m o r):
 Ca prog 62 #[Ag (i7 p l m o r),Ag (z8.c a).toArray] w λe be=>∃va' cb cd vm' cg,e=X (Tp #[Ag (i7 (w9 p a).1 va' cb cd vm'),cg])/\m7 be base (w9 p a).1 va' cb cd vm'/\c7 be w 49 h9 cg (w9 p a).2/\a9 w be:=by
 have S:= @SO p a;have T:= @SN p a;obtain⟨bh,bi,bo,cm,cn⟩:=Y2 (λW(x:a9 w W)=>MB p a l m o r W ab ag.a ag.al base (b6 bb x.size) (ae.h x)) (λW(x:a9 w W)=>zL p a l m o r W ab ag.m ag.mm ag.ml base (b6 bb x.size) (ae.h x)) (λW(x:a9 w W)=>rW p a l m o r W ab base (b6 bb x.size) (ae.h x)) (IG a.val) (IC a.key);obtain⟨R,g⟩:∃R,R=w9 p a:=⟨_,rfl⟩;rw[<-g]at S T⊢;unfold w9 at g;rw[show(a.key==sD)=(a.key.toList==a1S)from A9 _ _,show(a.key==sF)=(a.key.toList==a1U)from A9 _ _,show(a.key==sE)=(a.key.toList==a1T)from A9 _ _]at S T g;obtain⟨H,bl,bm⟩:=r6 ae (show U9 a.key=(a.key.toList==YG||a.key.toList==YH||a.key.toList==YF||a.key.toList==a1V) by unfold U9;rw[A9,A9,A9,A9];rfl) (show∀b,nZ p a.key b=if a.key.toList==YG then{p with we:=b}else if a.key.toList==YH then{p with pe:=b}else if a.key.toList==YF then{p with rt:=b}else{p with np:=b}from λb=>by unfold nZ;rw[A9,A9,A9];rfl);obtain⟨G,L,sec,key,val⟩:=a;dsimp only[z8]at*;obtain⟨dd,bt,az⟩:=PW.ex w (i7 p l m o r) G L sec key val;show Ca prog 62 #[Ag (i7 p l m o r),Ag #[Y G,I M L,Y sec,Y key,Y val]] w _;obtain⟨k3,k4⟩:=az.a.d2 3 4;have f:=a6 az;clear ae az;go_in;go_upto_region 1 with fail;rw[<-bt];clear bt;rcases k1:key.toList==a1S with _|_
 rotate_left
 ·rw[k1,if_pos rfl]at g;clear S T;have d:=a6 g;clear g;go_wp2_with(first
   |(refine D1 f.p underlying36 ?_)
   |(refine D1 f.a underlying89 ?_))
  apply(bh _ f.x).mono;rintro e ci⟨ca,cc,ce,cf,ch,rfl,P,N,aj⟩;have t:=f.h aj;have ai:=P.one;go_wp2_with(refine q6 t.r ?_ (hx1q:=ai);intro cj ac y);exact s0 rfl ac underlying36 ⟨_,_,_,_,_,by rw[d.O],by rw[d.O];exact P.grown t.r e6 y,by rw[d.O];exact(N.kept y (.inr (N.ne t.r e6))).mono f.x.size,t.x.f y (λk e=>by cases e;omega)⟩
 rcases k2:key.toList==a1U with _|_
 rotate_left
 ·rw[k1,if_neg e6,k2,if_pos rfl]at g;clear S T;have d:=a6 g;clear g;go_wp2_with(first
   |(refine D1 f.p underlying36 ?_)
   |(refine D1 f.a underlying89 ?_))
  apply(bi _ f.x).mono;rintro e ci⟨ca,cc,ce,cf,ch,rfl,P,N,aj⟩;have t:=f.h aj;have ai:=P.one;go_wp2_with(refine q6 t.r ?_ (hx1q:=ai);intro cj ac y);exact s0 rfl ac underlying36 ⟨_,_,_,_,_,by rw[d.O],by rw[d.O];exact P.grown t.r e6 y,by rw[d.O];exact(N.kept y (.inr (N.ne t.r e6))).mono f.x.size,t.x.f y (λk e=>by cases e;omega)⟩
 rcases k5:key.toList==a1T with _|_
 rotate_left
 ·rw[k1,if_neg e6,k2,if_neg e6,k5,if_pos rfl]at g;clear S T;have d:=a6 g;clear g;go_wp2_with(first
   |(refine D1 f.p underlying36 ?_)
   |(refine D1 f.a underlying89 ?_))
  apply(bo _ f.x).mono;rintro e ci⟨ca,cc,ce,cf,ch,rfl,P,N,aj⟩;have t:=f.h aj;have ai:=P.one;go_wp2_with(refine q6 t.r ?_ (hx1q:=ai);intro cj ac y);exact s0 rfl ac underlying36 ⟨_,_,_,_,_,by rw[d.O],by rw[d.O];exact P.grown t.r e6 y,by rw[d.O];exact(N.kept y (.inr (N.ne t.r e6))).mono f.x.size,t.x.f y (λk e=>by cases e;omega)⟩
 obtain⟨bj,bk⟩:=j0 (S k1 k2 k5) (T k1 k2 k5);clear S T g bh bi bo;generalize U9 key=cv at*;obtain⟨ar,fm,fc,dy,lm,lc,fa,am,sp,we,pe,rt,np⟩:=p;dsimp only[i7]at f;have Q:=a6 (H.h f.x);generalize G4 val=ct at*;obtain⟨s,B⟩:=ct;dsimp only at*;go_wp2_with fail;apply(cn _).mono;rintro e bf⟨rfl,rfl⟩;cases cv;·have d:=a6 (bk rfl);have F:=(Q.O).one;go_wp2_with(first|(refine D1 (f.O).p underlying36 ?_)|(refine q6 (f.O).r ?_ (hx1q:=F);intro au C i));exact s0 rfl C underlying36 ⟨_,_,_,_,_,by first|rfl|(rw[d.O]<;>rfl),by rw[d.O];exact(Q.O).grown (f.O).r e6 i,by rw[d.O];exact((c7.nil _ w 49 h9)).kept i (.inr (((c7.nil _ w 49 h9)).ne (f.O).r e6)),(f.O).x.f i (λk e=>by cases e;omega)⟩
 have al:=a6 (bj rfl);clear bj bk;go_wp2_with fail;apply(cm _).mono;rintro e bf⟨rfl,rfl⟩;by_cases z:B≠0/\val.toList≠[]
 ·have d:=a6 (show R=(⟨ar,fm,fc,dy,lm,lc,fa,am,sp,we,pe,rt,np⟩,[⟨G,L,B,j9 val⟩])from al.trans (if_pos z));have ad:(B !=0)=Bt:=by simpa using z.1
  have av:(val.toList !=[])=Bt:=by simpa using z.2
  have aw:¬val.toList=[]:=z.2;have ax:(val.toList==[])=Bf:=by simpa using z.2
  obtain⟨co,bn,cp⟩:=r6 (λYq(ba:GS (w+2) 36 13 (i7 ⟨ar,fm,fc,dy,lm,lc,fa,am,sp,we,pe,rt,np⟩ l m o r) bf Yq)=>f.p.grown ba.gr (λe=>by injection e with e;omega)) (λYq(ba:GS (w+2) 36 13 (i7 ⟨ar,fm,fc,dy,lm,lc,fa,am,sp,we,pe,rt,np⟩ l m o r) bf Yq)=>f.a.grown ba.gr (λe=>by injection e with e;omega)) f.r.lt;clear z al;go_wp2_with fail;refine wpIn_wide.1 (vD (R:=(GS (w+2) 36 13 (i7 ⟨ar,fm,fc,dy,lm,lc,fa,am,sp,we,pe,rt,np⟩ l m o r))) (n:=1) ?_);iterate 6 (apply D7;focus (intro x A u;simp only[g0,g5,uV];(repeat intro cu;try simp only[cu]);have de:=(bn A u).cell 4;gi_wp2_with(first|(refine o8 rfl 36 _ rfl w _ _ _ rfl (co A u) underlying36 rfl g6 ?_)|(refine o8 rfl 89 _ rfl (w+1) _ _ _ rfl (bn A u) underlying89 rfl g6 ?_)|(refine⟨trivial,?_⟩;gi_at_call 122;refine C0 ((Cw (n:=0)).2 (nI ⟨G,L,sec,key,val⟩ B val A)) λdc cy=>?_));exact dn rfl rfl (by first|exact GS.f cy|exact L6.refl _)))
  refine r7 ((J8 w #[Y G,I M L,I M B,Y (j9 val)])) ?_ ?_;·intro x A u;simp only[g0,g5,uV,J8];intro ao;simp only[ao];gi_wp2_with fail;refine e8 ?_ rfl (GS.f ((a9.refl A).alloc _));exact⟨A,rfl,e7.new _ _ _,b6 f.x.size u.gr.size,by have:=cp.O;have:=u.gr.size;omega⟩
  refine r7 (BV) ?_ ?_;·intro x A u;simp only[g0,g5,uV,J8];intro an;simp only[an];obtain⟨cs,cr,cw⟩:=u.sz _ f.r g6;gi_wp2_with(refine q5 rfl 36 _ _ rfl (w+2) 36 cs _ rfl rfl cr (by rw[cw];rfl) g6 Q.one ?_;intro dc bq cx);refine e8 ?_ rfl (GS.store cx bq rfl);exact bq
  refine r7 ((J8 w #[Y G,I M L,I M B,Y (j9 val)])) ?_ ?_;·intro x A u;simp only[g0,g5,uV,J8];rintro⟨bs,ap,bw,bv,bx⟩;simp only[ap];gi_wp2_with fail;refine e8 ?_ rfl (L6.refl _);exact⟨bs,rfl,bw,bv,bx⟩
  intro x A u;simp only[n9,g0,g5,uV,J8];rintro an ad av aw ax ao⟨bs,ap,bw,bv,bx⟩ da⟨df,br,db,cz,dh⟩;simp only[an,ad,av,aw,ax,ao,ap,br];clear an ad av aw ax ao ap br;go_wp2_with fail;exact s0 rfl da underlying36 ⟨_,_,_,_,_,by rw[d.O]<;>rfl,by rw[d.O];exact Q.grown f.r e6 u.gr,by rw[d.O];exact c7.mk2 (Jq:=[]) (c:=1) (E:=h9) (xs:=[⟨G,L,B,j9 val⟩]) cz db rfl (a7 _) e6 rfl rfl,f.x.f u.gr (λk e=>by cases e;omega)⟩
 have bp:=a6 (al.trans (if_neg z));go_upto_region 11 with fail;go_cut [48] (λb ck=>b=O Bf/\PW w ck #[l,I U8 fm,m,I V dy,I U8 lm,o,r,I U8 am,I U6 sp,O we,O pe,O rt,O np] G L sec key val/\m7 ck base ⟨ar,fm,fc,dy,lm,lc,fa,am,sp,we,pe,rt,np⟩ l m o r)
 ·by_cases af:B=0
  ·have ad:(B !=0)=Bf:=by simp[af]
   clear z af;go_wp2;go_meet;exact⟨rfl,f.O,Q.O⟩
  have ad:(B !=0)=Bt:=by simpa using af
  have bu:val.toList=[]:=by by_cases ab:val.toList=[];exact ab;exact absurd ⟨af,ab⟩ z
  have cq:=a6 bu;clear z af bu;go_wp2;go_meet;exact⟨by rw[cq.O];rfl,f.O,Q.O⟩
 obtain⟨rfl,bd,bz⟩:=hcut;obtain⟨j,ak⟩:=j0 bd bz;replace k3:=bd.a.cell 3;have g:=bp.O;rw[bm.O]at g;have aa:=bl.O;clear bd bz z bp al f Q bm bl k4;rcases ah:key.toList==YG with _|_
 rotate_left
 ·rw[ah,if_pos rfl]at g;clear aa;have d:=a6 (show R=(⟨ar,fm,fc,dy,lm,lc,fa,am,sp,s,pe,rt,np⟩,[])from g);have ay:=j.p.frozen 9;have bg:=j.p.cell 9;obtain⟨h,v⟩:=j0 (j.set 9 (O s)) (let q:=ak.grown j.p e6 (c8 _ w 9 (O s));(⟨q.a,q.f,q.l,q.m⟩:m7 _ base ⟨ar,fm,fc,dy,lm,lc,fa,am,sp,s,pe,rt,np⟩ l m o r));clear g;have F:=(v.O).one;go_wp2_with(first|(refine D1 (h.O).p underlying36 ?_)|(refine q6 (h.O).r ?_ (hx1q:=F);intro au C i));exact s0 rfl C underlying36 ⟨_,_,_,_,_,by first|rfl|(rw[d.O]<;>rfl),by rw[d.O];exact(v.O).grown (h.O).r e6 i,by rw[d.O];exact((c7.nil _ w 49 h9)).kept i (.inr (((c7.nil _ w 49 h9)).ne (h.O).r e6)),(h.O).x.f i (λk e=>by cases e;omega)⟩
 rcases aq:key.toList==YH with _|_
 rotate_left
 ·rw[ah,if_neg e6,aq,if_pos rfl]at g;clear aa;have d:=a6 (show R=(⟨ar,fm,fc,dy,lm,lc,fa,am,sp,we,s,rt,np⟩,[])from g);have ay:=j.p.frozen 10;have bg:=j.p.cell 10;obtain⟨h,v⟩:=j0 (j.set 10 (O s)) (let q:=ak.grown j.p e6 (c8 _ w 10 (O s));(⟨q.a,q.f,q.l,q.m⟩:m7 _ base ⟨ar,fm,fc,dy,lm,lc,fa,am,sp,we,s,rt,np⟩ l m o r));clear g;have F:=(v.O).one;go_wp2_with(first|(refine D1 (h.O).p underlying36 ?_)|(refine q6 (h.O).r ?_ (hx1q:=F);intro au C i));exact s0 rfl C underlying36 ⟨_,_,_,_,_,by first|rfl|(rw[d.O]<;>rfl),by rw[d.O];exact(v.O).grown (h.O).r e6 i,by rw[d.O];exact((c7.nil _ w 49 h9)).kept i (.inr (((c7.nil _ w 49 h9)).ne (h.O).r e6)),(h.O).x.f i (λk e=>by cases e;omega)⟩
 rcases bc:key.toList==YF with _|_
 rotate_left
 ·rw[ah,if_neg e6,aq,if_neg e6,bc,if_pos rfl]at g;clear aa;have d:=a6 (show R=(⟨ar,fm,fc,dy,lm,lc,fa,am,sp,we,pe,s,np⟩,[])from g);have ay:=j.p.frozen 11;have bg:=j.p.cell 11;obtain⟨h,v⟩:=j0 (j.set 11 (O s)) (let q:=ak.grown j.p e6 (c8 _ w 11 (O s));(⟨q.a,q.f,q.l,q.m⟩:m7 _ base ⟨ar,fm,fc,dy,lm,lc,fa,am,sp,we,pe,s,np⟩ l m o r));clear g;have F:=(v.O).one;go_wp2_with(first|(refine D1 (h.O).p underlying36 ?_)|(refine q6 (h.O).r ?_ (hx1q:=F);intro au C i));exact s0 rfl C underlying36 ⟨_,_,_,_,_,by first|rfl|(rw[d.O]<;>rfl),by rw[d.O];exact(v.O).grown (h.O).r e6 i,by rw[d.O];exact((c7.nil _ w 49 h9)).kept i (.inr (((c7.nil _ w 49 h9)).ne (h.O).r e6)),(h.O).x.f i (λk e=>by cases e;omega)⟩
 rw[ah,aq,bc]at aa;have dg:(key.toList==a1V)=Bt:=by simpa using aa.symm
 rw[ah,if_neg e6,aq,if_neg e6,bc,if_neg e6]at g;clear aa;have d:=a6 (show R=(⟨ar,fm,fc,dy,lm,lc,fa,am,sp,we,pe,rt,s⟩,[])from g);have ay:=j.p.frozen 12;have bg:=j.p.cell 12;obtain⟨h,v⟩:=j0 (j.set 12 (O s)) (let q:=ak.grown j.p e6 (c8 _ w 12 (O s));(⟨q.a,q.f,q.l,q.m⟩:m7 _ base ⟨ar,fm,fc,dy,lm,lc,fa,am,sp,we,pe,rt,s⟩ l m o r));clear g;have F:=(v.O).one;go_wp2_with(first|(refine D1 (h.O).p underlying36 ?_)|(refine q6 (h.O).r ?_ (hx1q:=F);intro au C i));exact s0 rfl C underlying36 ⟨_,_,_,_,_,by first|rfl|(rw[d.O]<;>rfl),by rw[d.O];exact(v.O).grown (h.O).r e6 i,by rw[d.O];exact((c7.nil _ w 49 h9)).kept i (.inr (((c7.nil _ w 49 h9)).ne (h.O).r e6)),(h.O).x.f i (λk e=>by cases e;omega)⟩
end Go.Proofs.YtcljlejgllkcjaaGreat
