/- A part of the proof of TopFront: lemmas on the walks of its calls. -/
import Derived.Test.YtcljlejgllkcjaaGreatM17
set_option maxHeartbeats 12000000
set_option linter.all false
set_option maxRecDepth 100000
namespace Go.Proofs.YtcljlejgllkcjaaGreat
open Go.RowKit Go.ChangeShapes Go.WideShapes Tryz
open Bool renaming and_eq_true→j3,true→Bt,false→Bf
open Decidable renaming decide→Dc
open Ending renaming returned→X
open Go renaming World→Wd,Value→Va,Calls→Ca,callsIn_wide→Cw,undef→Un,TypeId→Ti,Program→Pg,wpListIn→Wl,callsIn_of_wp→Co,CallsIn→Ci
open Go.Proofs renaming enters_of→Eo
open IntKind renaming i64→M,u32→V,u64→U6,u8→U8
open List renaming getElem_mem→g3,take_succ_eq_append_getElem→g2,length_map→i1,length_cons→i4,range→m9,length→D
open Nat renaming le_refl→a7,le_trans→b6,zero_le→c6,add_zero→j8
open Obj renaming cells→U
open Operand renaming tmp→Tm
open Option renaming none→J,some→So
open Value renaming int→I,slice→Z,string→Y,pointer→K,bool→O,func→Fc,tuple→Tp,agg→Ag,nilFunc→Nf
section
theorem Mk.setD{w0 w:Wd}{g:Nat}{p:j2}{va vf vl vm d:Va}{a:Nat}{e:Int}{rs:List RR}(b:Mk w0 w g p va vf vl vm a e d rs)(c:Int):Mk w0 (w.setCell ⟨g,15,J⟩ (I V c)) g p va vf vl vm a c d rs:=
 have t:=Tv.r b.b b.hg (S:=WM) e6 15 (I V c)
 ⟨b.b.f 15 _,b.o.kept (c8 _ g 15 _) (.inr (b.o.ne b.b e6)),λr f=>(b.t r f).tv t e6,t.b b.x (a7 _),b.hg⟩
theorem aU{a:Nat}{f:n0->Int}(l:List n0){k:Nat}(b:k<D l):s6 a ((l.take (k+1)).map λc=>((f c,[],[c.1]):RC))=s6 a ((l.take k).map λc=>(f c,[],[c.1]))++W5 a (f l[k]) [] [l[k].1]:=by rw[g2 b,List.map_append];unfold s6;rw[List.flatMap_append];simp
section
variable {w0 w:Wd} {g:Nat} {p:j2} {va vf vl vm:Va} {a:Nat}
theorem a3V(n:Mk w0 w g p va vf vl vm a 2147418112 (Z J 0 0) [])(af:a<6)(T:R7 w0 p va vf vl vm)(ax:D p.lc<=40):
 Ca prog 231 #[K g] w (rP w0 g p va vf vl vm a (C4 p 2).dflt (C4 p 2).cs (C4 p 2).ok):=by
 obtain⟨A,B,rfl,b,-⟩:=T.l;obtain⟨ad,ae⟩:=j0 b (λW=>pS p.lm (D p.lc) Bf Bt W);show Ca _ _ _ w (rP w0 g p va vf _ vm a (if p.lm=2 then 2147221504 else 2147418112) (p.lc.map λc=>(if p.lm=2 then 2147418112 else 2147221504,[],[c.1])) (U3 p.lm (D p.lc) Bf Bt));have av:w.cell? ⟨g,4,J⟩=So (I U8 p.lm):=n.b.cell 4;have ah:w.cell? ⟨g,5,J⟩=So (Z A (D p.lc) B):=n.b.cell 5;generalize U3 p.lm (D p.lc) Bf Bt=ay at*;by_cases C:p.lm=2
 ·have ai:(p.lm==2)=Bt:=by simp[C]
  simp only[if_pos C];have aw:=n.b.frozen 15;have au:w.cell? ⟨g,15,J⟩=So (I V 2147418112):=n.b.cell 15;have Q:=n.setD 2147221504;have ah:(w.setCell ⟨g,15,J⟩ (I V 2147221504)).cell? ⟨g,5,J⟩=So (Z A (D p.lc) B):=Q.b.cell 5;have o:=a6 Q;clear n Q b T C;go_wp2;go_loopw [24] (λi wr=>∃(k:Nat)(z:Va)(rs:List RR),k<=D p.lc/\i=I M k/\Mk w0 wr g p va vf (Z A (D p.lc) B) vm a 2147221504 z rs/\rs.map (·.p)=s6 a ((p.lc.take k).map λc=>((2147418112:Int),[],[c.1]))/\D rs<=k) (λi _=>D p.lc-(intOf i).toNat);exact⟨0,_,[],c6 _,rfl,o.O,rfl,a7 _⟩;obtain⟨k,z,rs,aj,rfl,d,h,ak⟩:=hrel;by_cases v:k<D p.lc;·have b:=ad.h d.x;obtain⟨ag,al,rfl,_⟩:=b.rows e6 a8;have F:=b.l v (r:=0) rfl;have G:=b.l v (r:=1) rfl;simp only[a2J,j8]at F G;have y:=aU (a:=a) (f:=λ_=>(2147418112:Int)) p.lc v;generalize p.lc[k]=x at*;obtain⟨nm,t⟩:=x;dsimp only at F G y;have H:=e7.new wr 94 #[Y nm,I V t];have am:=H.cell 0;obtain⟨N,s,P⟩:=r6 (F3 ((d.h ((a9.refl wr).alloc (U #[Y nm,I V t] 94))).h ((a9.refl _).alloc (U #[Y nm] 9))) af 2147418112 _ [] (B4.nil _ _ _) i3 (wr+1:Nat) 1 [nm] (by have:=bV (w:=wr.alloc (U #[Y nm,I V t] 94)) (e:=9) (E:=x4) (xs:=[nm]) (cs:= #[Y nm]) rfl 1 rfl;rwa[World.size_alloc]at this) G6) h y;clear h y b d o;go_wp2_with fail;apply N.mono;rintro e ao⟨rfl,ac,ab,R,u,an⟩;have aa:=M9 u;simp only[i4,List.length_nil]at aa;have L:=a6 u;clear u;go_wp2;go_roundw;exact⟨k+1,ac,ab,a8,o3,R,by rw[L.O,s.O,P.O],a8⟩;simp[intOf];omega
  obtain rfl:k=D p.lc:=a8;rw[List.take_length]at h;obtain⟨s,q⟩:=j0 h d;clear h d o;go_wp2_with fail;refine gP ?_;repeat(apply D7;focus (intro x j m;simp only[g0,o7,uV];(repeat intro l;try simp only[l]);have aq:j.cell? ⟨g,4,J⟩=So (I U8 p.lm):=(q.b.h m).cell 4;have ar:j.cell? ⟨g,5,J⟩=So (Z A (D p.lc) B):=(q.b.h m).cell 5;go_wp2_with(go_at_call 301;apply(ae j).mono;rintro e ap⟨rfl,rfl⟩);exact dn rfl rfl (a9.refl _)))
  intro x j m;simp only[n9,g0,o7,uV];repeat(intro l;try simp only[l];clear l)
  have S:=q.h m;go_wp2;go_ret;exact⟨rfl,z,rs,S,s.O⟩
 have ai:(p.lm==2)=Bf:=by simp[C]
 simp only[if_neg C];have o:=a6 n;clear n b T C;go_wp2;go_loopw [24] (λi wr=>∃(k:Nat)(z:Va)(rs:List RR),k<=D p.lc/\i=I M k/\Mk w0 wr g p va vf (Z A (D p.lc) B) vm a 2147418112 z rs/\rs.map (·.p)=s6 a ((p.lc.take k).map λc=>((2147221504:Int),[],[c.1]))/\D rs<=k) (λi _=>D p.lc-(intOf i).toNat);exact⟨0,_,[],c6 _,rfl,o.O,rfl,a7 _⟩;obtain⟨k,z,rs,aj,rfl,d,h,ak⟩:=hrel;by_cases v:k<D p.lc;·have b:=ad.h d.x;obtain⟨ag,al,rfl,_⟩:=b.rows e6 a8;have F:=b.l v (r:=0) rfl;have G:=b.l v (r:=1) rfl;simp only[a2J,j8]at F G;have y:=aU (a:=a) (f:=λ_=>(2147221504:Int)) p.lc v;generalize p.lc[k]=x at*;obtain⟨nm,t⟩:=x;dsimp only at F G y;have H:=e7.new wr 94 #[Y nm,I V t];have am:=H.cell 0;obtain⟨N,s,P⟩:=r6 (F3 ((d.h ((a9.refl wr).alloc (U #[Y nm,I V t] 94))).h ((a9.refl _).alloc (U #[Y nm] 9))) af 2147221504 _ [] (B4.nil _ _ _) i3 (wr+1:Nat) 1 [nm] (by have:=bV (w:=wr.alloc (U #[Y nm,I V t] 94)) (e:=9) (E:=x4) (xs:=[nm]) (cs:= #[Y nm]) rfl 1 rfl;rwa[World.size_alloc]at this) G6) h y;clear h y b d o;go_wp2_with fail;apply N.mono;rintro e ao⟨rfl,ac,ab,R,u,an⟩;have aa:=M9 u;simp only[i4,List.length_nil]at aa;have L:=a6 u;clear u;go_wp2;go_roundw;exact⟨k+1,ac,ab,a8,o3,R,by rw[L.O,s.O,P.O],a8⟩;simp[intOf];omega
 obtain rfl:k=D p.lc:=a8;rw[List.take_length]at h;obtain⟨s,q⟩:=j0 h d;clear h d o;go_wp2_with fail;refine gP ?_;repeat(apply D7;focus (intro x j m;simp only[g0,o7,uV];(repeat intro l;try simp only[l]);have aq:j.cell? ⟨g,4,J⟩=So (I U8 p.lm):=(q.b.h m).cell 4;have ar:j.cell? ⟨g,5,J⟩=So (Z A (D p.lc) B):=(q.b.h m).cell 5;go_wp2_with(go_at_call 301;apply(ae j).mono;rintro e ap⟨rfl,rfl⟩);exact dn rfl rfl (a9.refl _)))
 intro x j m;simp only[n9,g0,o7,uV];repeat(intro l;try simp only[l];clear l)
 have S:=q.h m;go_wp2;go_ret;exact⟨rfl,z,rs,S,s.O⟩
end
end
section
attribute [local go_sem] Oper.semAt_some
section
variable {w0 w:Wd} {g:Nat} {p:j2} {va vf vl vm:Va} {a:Nat}
theorem NI(v:Mk w0 w g p va vf vl vm a 2147418112 (Z J 0 0) [])(P:a<6)(ap:R7 w0 p va vf vl vm)(bm:D p.fc<=40):
 Ca prog 230 #[K g] w (rP w0 g p va vf vl vm a (C4 p 1).dflt (C4 p 1).cs (C4 p 1).ok):=by
 refine(Cw (n:=1)).1 ?_;obtain⟨H,L,rfl,l,-⟩:=ap.f;obtain⟨ay,az⟩:=j0 l (λW=>pS p.fm (D p.fc) Bt Bf W);show Ci _ _ _ _ _ w (rP w0 g p va _ vl vm a (if p.fm=1 then p.dy else 2147418112) (p.fc.map λc=>(yC c.2 (if p.fm=1 then 2147418112 else p.dy),[],[c.1])) (U3 p.fm (D p.fc) Bt Bf));have bg:w.cell? ⟨g,1,J⟩=So (I U8 p.fm):=v.b.cell 1;have bi:w.cell? ⟨g,2,J⟩=So (Z H (D p.fc) L):=v.b.cell 2;have bj:w.cell? ⟨g,3,J⟩=So (I V p.dy):=v.b.cell 3;generalize U3 p.fm (D p.fc) Bt Bf=bn at*;by_cases N:p.fm=1
 ·have o:(p.fm==1)=Bt:=by simp[N]
  simp only[if_pos N];have bl:=v.b.frozen 15;have bh:w.cell? ⟨g,15,J⟩=So (I V 2147418112):=v.b.cell 15;have al:=v.setD p.dy;have bk:(w.setCell ⟨g,15,J⟩ (I V p.dy)).cell? ⟨g,2,J⟩=So (Z H (D p.fc) L):=al.b.cell 2;have y:=a6 al;clear v al l ap N;refine Co func230 rfl trivial ?_ rfl;simp only[ntmps230,uE,Nat.reduceAdd,Nat.reduceSub];gi_wp2_with fail;gi_loopw [34] (λi wr=>∃(k:Nat)(G:Va)(rs:List RR),k<=D p.fc/\i=I M k/\Mk w0 wr g p va (Z H (D p.fc) L) vl vm a p.dy G rs/\rs.map (·.p)=s6 a ((p.fc.take k).map λc=>(yC c.2 2147418112,[],[c.1]))/\D rs<=k) (λi _=>D p.fc-(intOf i).toNat);exact⟨0,_,[],c6 _,rfl,y.O,rfl,a7 _⟩;obtain⟨k,G,rs,bb,rfl,m,q,bc⟩:=hrel;by_cases C:k<D p.fc
  ·have l:=ay.h m.x;obtain⟨ba,bd,rfl,_⟩:=l.rows e6 a8;have af:=l.l C (r:=0) rfl;have ag:=l.l C (r:=1) rfl;simp only[a2J,j8]at af ag;have E:=aU (a:=a) (f:=λc=>yC c.2 2147418112) p.fc C;generalize p.fc[k]=x at*;obtain⟨nm,h⟩:=x;dsimp only at af ag E;have Q:=e7.new wr 94 #[Y nm,I V h];have R:=m.h ((a9.refl wr).alloc (U #[Y nm,I V h] 94));obtain⟨A,ak,ai⟩:=r6 q E R;clear q E l m R y;gi_wp2_with fail;refine aO ?_;repeat
    first
     |(apply D7;focus (intro x b d;simp only[g0,g5,uV];(repeat intro j;try simp only[j]);have aw:=(Q.h d).cell 1;have ax:=(Q.h d).cell 0;gi_wp2_with fail;exact dn rfl rfl (a9.refl _)))
     |(refine r7 (VP.blk 2 32 #[I V h,I V 2147418112]) ?_ ?_
       ·intro x b d
        simp only[g0,g5,uV]
        intro o s
        simp only[o,s]
        gi_wp2_with fail
        refine e8 ?_ rfl ((a9.refl b).alloc _)
        exact⟨b,rfl,e7.new _ _ _⟩)
     |(refine r7 (.is (I V (yC h 2147418112))) ?_ ?_
       ·intro x b d
        simp only[g0,g5,uV]
        rintro⟨ad,t,F⟩
        simp only[t]
        gi_wp2_with(refine⟨trivial,?_⟩;gi_at_call 300;apply((Cw (n:=0)).2 (a2D h 2147418112 ad b (F.cell 0) (F.cell 1))).mono;rintro e av⟨rfl,rfl⟩)
        refine e8 ?_ rfl (a9.refl _)
        rfl)
     |(refine r7 (VP.blk 1 9 #[Y nm]) ?_ ?_
       ·intro x b d
        simp only[g0,g5,uV]
        intro u
        simp only[u]
        gi_wp2_with fail
        refine e8 ?_ rfl ((a9.refl b).alloc _)
        exact⟨b,rfl,e7.new _ _ _⟩)
   intro x b d;simp only[n9,g0,o7,uV];rintro S T o s⟨ad,t,F⟩ aa ab u⟨ao,ac,ae⟩;simp only[S,T,o,s,t,aa,ab,u,ac];clear S T o s t aa ab u ac;have aj:=a6 (F3 (ai.h d) P (yC h 2147418112) _ [] (B4.nil _ _ _) i3 ao 1 [nm] ⟨_,1,rfl,i5.f ae rfl,λa P=>by cases P;exact⟨rfl,_,ae⟩⟩ G6);gi_wp2_with(refine⟨trivial,?_⟩;gi_at_call 299;apply((Cw (n:=0)).2 aj.O).mono;rintro e bf⟨rfl,au,ar,am,B,be⟩);have aq:=M9 B;simp only[i4,List.length_nil]at aq;have ah:=a6 B;clear B;gi_wp2_with fail;go_roundw;exact⟨k+1,au,ar,a8,o3,am,by rw[ah.O,A.O,ak.O],a8⟩;simp[intOf];omega
  obtain rfl:k=D p.fc:=a8;rw[List.take_length]at q;obtain⟨A,z⟩:=j0 q m;clear q m y;gi_wp2_with fail;refine a2V ?_;repeat(apply D7;focus (intro x b d;simp only[g0,g5,uV];(repeat intro j;try simp only[j]);have aw:b.cell? ⟨g,1,J⟩=So (I U8 p.fm):=(z.b.h d).cell 1;have ax:b.cell? ⟨g,2,J⟩=So (Z H (D p.fc) L):=(z.b.h d).cell 2;gi_wp2_with(refine⟨trivial,?_⟩;gi_at_call 301;apply((Cw (n:=0)).2 (az b)).mono;rintro e av⟨rfl,rfl⟩);exact dn rfl rfl (a9.refl _)))
  intro x b d;simp only[n9,g0,o7,uV];repeat(intro j;try simp only[j];clear j)
  have an:=z.h d;gi_wp2_with fail;go_ret;exact⟨rfl,G,rs,an,A.O⟩
 have o:(p.fm==1)=Bf:=by simp[N]
 simp only[if_neg N];have y:=a6 v;clear v l ap N;refine Co func230 rfl trivial ?_ rfl;simp only[ntmps230,uE,Nat.reduceAdd,Nat.reduceSub];gi_wp2_with fail;gi_loopw [34] (λi wr=>∃(k:Nat)(G:Va)(rs:List RR),k<=D p.fc/\i=I M k/\Mk w0 wr g p va (Z H (D p.fc) L) vl vm a 2147418112 G rs/\rs.map (·.p)=s6 a ((p.fc.take k).map λc=>(yC c.2 p.dy,[],[c.1]))/\D rs<=k) (λi _=>D p.fc-(intOf i).toNat);exact⟨0,_,[],c6 _,rfl,y.O,rfl,a7 _⟩;obtain⟨k,G,rs,bb,rfl,m,q,bc⟩:=hrel;by_cases C:k<D p.fc
 ·have l:=ay.h m.x;obtain⟨ba,bd,rfl,_⟩:=l.rows e6 a8;have af:=l.l C (r:=0) rfl;have ag:=l.l C (r:=1) rfl;simp only[a2J,j8]at af ag;have E:=aU (a:=a) (f:=λc=>yC c.2 p.dy) p.fc C;generalize p.fc[k]=x at*;obtain⟨nm,h⟩:=x;dsimp only at af ag E;have Q:=e7.new wr 94 #[Y nm,I V h];have R:=m.h ((a9.refl wr).alloc (U #[Y nm,I V h] 94));obtain⟨A,ak,ai⟩:=r6 q E R;clear q E l m R y;gi_wp2_with fail;refine aO ?_;repeat
   first
    |(apply D7;focus (intro x b d;simp only[g0,g5,uV];(repeat intro j;try simp only[j]);have aw:=(Q.h d).cell 1;have ax:=(Q.h d).cell 0;gi_wp2_with fail;exact dn rfl rfl (a9.refl _)))
    |(refine r7 (VP.blk 2 32 #[I V h,I V p.dy]) ?_ ?_
      ·intro x b d
       simp only[g0,g5,uV]
       intro o s
       simp only[o,s]
       gi_wp2_with fail
       refine e8 ?_ rfl ((a9.refl b).alloc _)
       exact⟨b,rfl,e7.new _ _ _⟩)
    |(refine r7 (.is (I V (yC h p.dy))) ?_ ?_
      ·intro x b d
       simp only[g0,g5,uV]
       rintro⟨ad,t,F⟩
       simp only[t]
       gi_wp2_with(refine⟨trivial,?_⟩;gi_at_call 300;apply((Cw (n:=0)).2 (a2D h p.dy ad b (F.cell 0) (F.cell 1))).mono;rintro e av⟨rfl,rfl⟩)
       refine e8 ?_ rfl (a9.refl _)
       rfl)
    |(refine r7 (VP.blk 1 9 #[Y nm]) ?_ ?_
      ·intro x b d
       simp only[g0,g5,uV]
       intro u
       simp only[u]
       gi_wp2_with fail
       refine e8 ?_ rfl ((a9.refl b).alloc _)
       exact⟨b,rfl,e7.new _ _ _⟩)
  intro x b d;simp only[n9,g0,o7,uV];rintro S T o s⟨ad,t,F⟩ aa ab u⟨ao,ac,ae⟩;simp only[S,T,o,s,t,aa,ab,u,ac];clear S T o s t aa ab u ac;have aj:=a6 (F3 (ai.h d) P (yC h p.dy) _ [] (B4.nil _ _ _) i3 ao 1 [nm] ⟨_,1,rfl,i5.f ae rfl,λa P=>by cases P;exact⟨rfl,_,ae⟩⟩ G6);gi_wp2_with(refine⟨trivial,?_⟩;gi_at_call 299;apply((Cw (n:=0)).2 aj.O).mono;rintro e bf⟨rfl,au,ar,am,B,be⟩);have aq:=M9 B;simp only[i4,List.length_nil]at aq;have ah:=a6 B;clear B;gi_wp2_with fail;go_roundw;exact⟨k+1,au,ar,a8,o3,am,by rw[ah.O,A.O,ak.O],a8⟩;simp[intOf];omega
 obtain rfl:k=D p.fc:=a8;rw[List.take_length]at q;obtain⟨A,z⟩:=j0 q m;clear q m y;gi_wp2_with fail;refine a2V ?_;repeat(apply D7;focus (intro x b d;simp only[g0,g5,uV];(repeat intro j;try simp only[j]);have aw:b.cell? ⟨g,1,J⟩=So (I U8 p.fm):=(z.b.h d).cell 1;have ax:b.cell? ⟨g,2,J⟩=So (Z H (D p.fc) L):=(z.b.h d).cell 2;gi_wp2_with(refine⟨trivial,?_⟩;gi_at_call 301;apply((Cw (n:=0)).2 (az b)).mono;rintro e av⟨rfl,rfl⟩);exact dn rfl rfl (a9.refl _)))
 intro x b d;simp only[n9,g0,o7,uV];repeat(intro j;try simp only[j];clear j)
 have an:=z.h d;gi_wp2_with fail;go_ret;exact⟨rfl,G,rs,an,A.O⟩
end
end
section
section
variable {w0 w:Wd} {g:Nat} {p:j2} {va vf vl vm:Va} {a:Nat}
theorem a3W(B:Mk w0 w g p va vf vl vm a 2147418112 (Z J 0 0) [])(aj:a<6)(R:R7 w0 p va vf vl vm)(bh:D p.fa<=8)(ak:∀x∈p.fa,0<=x/\x<4294967296):
 Ca prog 232 #[K g] w (rP w0 g p va vf vl vm a (C4 p 3).dflt (C4 p 3).cs (C4 p 3).ok):=by
 obtain⟨G,Q,rfl,c,-⟩:=R.m;obtain⟨ah,ai⟩:=j0 c (λW=>pS p.am (D p.fa) Bt Bf W);show Ca _ _ _ w (rP w0 g p va vf vl _ a 2147418112 [(if p.am=2 then 2147418112 else 327777,M2 0 4294967295 (if p.am=2 then 327777 else 2147418112) p.fa,[U0])] (U3 p.am (D p.fa) Bt Bf));have bg:w.cell? ⟨g,7,J⟩=So (I U8 p.am):=B.b.cell 7;have bf:w.cell? ⟨g,6,J⟩=So (Z G (D p.fa) Q):=B.b.cell 6;generalize U3 p.am (D p.fa) Bt Bf=bi at*;have H:=a6 B;by_cases q:p.am=2
 ·have ao:(p.am==2)=Bt:=by simp[q]
  simp only[if_pos q];clear B c R q;go_wp2;go_loopw [5,22] (λad i wr=>∃k:Nat,k<=D p.fa/\i=I M k/\c7 wr w 34 yL ad (p.fa.take k)/\a9 w wr) (λ_ i _=>D p.fa-(intOf i).toNat);exact⟨0,c6 _,rfl,c7.nil _ _ _ _,a9.refl w⟩;obtain⟨k,ar,rfl,b,d⟩:=hrel;by_cases n:k<D p.fa
  ·have c:=ah.h (H.x.trans d);obtain⟨am,ay,rfl,_⟩:=c.rows e6 a8;have ab:=c.l n (r:=0) rfl;simp only[F4,j8,Nat.mul_one]at ab;have F:p.fa.take (k+1)=p.fa.take k++[p.fa[k]]:=g2 n;have av:=ak _ (g3 n);have au:D (p.fa.take k)<=k:=by simp;omega
   generalize p.fa[k]=x at*;generalize p.fa.take k=xs at*;have L:=a6 F;have ba:IntKind.u64.wrap x=x:=IntWalk.u64_in _ a8;clear F c;go_wp2_with(at_builtin;refine h8 rfl (Tm 26) (Tm 29) 405 34 rfl a21 w _ xs rfl (b.h ((a9.refl wr).alloc _)) _ 1 1 [x] rfl rfl (i5.f (e7.new _ _ _) rfl) G6 (d.alloc _).size ?_;intro ae l S T aq ap);go_roundw;exact⟨k+1,a8,o3,by rw[L.O];exact S,T w (d.alloc _) (a7 _)⟩;simp[intOf];omega
  obtain rfl:k=D p.fa:=a8;rw[List.take_length]at b;obtain⟨s,aa,P,rfl⟩:=b.f;have E:=b.i.2;have C:i5 wr s (l8 U6 p.fa):=by have:=b.i.1;rwa[s2 U6 yL (λ_=>rfl)]at this
  have u:=a6 (dC 0 4294967295 327777 s aa P p.fa wr E a8 C);have v:=H.h d;clear C E b d;go_wp2_with fail;apply u.mono;rintro e l⟨ae,rfl,o,ag⟩;have y:=v.h ag;obtain⟨al,ax,an,rfl⟩:=o.f;clear u v;have t:=a6 (F3 ((y).h ((a9.refl l).alloc (U #[Y U0] 9))) aj 2147418112 _ _ ((o).ty.h ((a9.refl l).alloc _)) (by(simp;omega)) l 1 [U0] (bV rfl 1 rfl) i3);try go_wp2_with fail
  apply t.mono;rintro e bc⟨rfl,af,ac,z,A,az⟩;have aw:=M9 A;clear t;have m:=a6 z;clear y o z;go_wp2_with fail;refine gP ?_;repeat(apply D7;focus (intro x f j;simp only[g0,o7,uV];(repeat intro h;try simp only[h]);have bd:f.cell? ⟨g,7,J⟩=So (I U8 p.am):=(m.b.h j).cell 7;have be:f.cell? ⟨g,6,J⟩=So (Z G (D p.fa) Q):=(m.b.h j).cell 6;go_wp2_with(go_at_call 301;apply(ai f).mono;rintro e bb⟨rfl,rfl⟩);exact dn rfl rfl (a9.refl _)))
  intro x f j;simp only[n9,g0,o7,uV];repeat(intro h;try simp only[h];clear h)
  have N:=m.h j;go_wp2;go_ret;exact⟨rfl,af,ac,N,by rw[A];simp[s6,M2]⟩
 have ao:(p.am==2)=Bf:=by simp[q]
 simp only[if_neg q];clear B c R q;go_wp2;go_loopw [5,22] (λad i wr=>∃k:Nat,k<=D p.fa/\i=I M k/\c7 wr w 34 yL ad (p.fa.take k)/\a9 w wr) (λ_ i _=>D p.fa-(intOf i).toNat);exact⟨0,c6 _,rfl,c7.nil _ _ _ _,a9.refl w⟩;obtain⟨k,ar,rfl,b,d⟩:=hrel;by_cases n:k<D p.fa
 ·have c:=ah.h (H.x.trans d);obtain⟨am,ay,rfl,_⟩:=c.rows e6 a8;have ab:=c.l n (r:=0) rfl;simp only[F4,j8,Nat.mul_one]at ab;have F:p.fa.take (k+1)=p.fa.take k++[p.fa[k]]:=g2 n;have av:=ak _ (g3 n);have au:D (p.fa.take k)<=k:=by simp;omega
  generalize p.fa[k]=x at*;generalize p.fa.take k=xs at*;have L:=a6 F;have ba:IntKind.u64.wrap x=x:=IntWalk.u64_in _ a8;clear F c;go_wp2_with(at_builtin;refine h8 rfl (Tm 26) (Tm 29) 405 34 rfl a21 w _ xs rfl (b.h ((a9.refl wr).alloc _)) _ 1 1 [x] rfl rfl (i5.f (e7.new _ _ _) rfl) G6 (d.alloc _).size ?_;intro ae l S T aq ap);go_roundw;exact⟨k+1,a8,o3,by rw[L.O];exact S,T w (d.alloc _) (a7 _)⟩;simp[intOf];omega
 obtain rfl:k=D p.fa:=a8;rw[List.take_length]at b;obtain⟨s,aa,P,rfl⟩:=b.f;have E:=b.i.2;have C:i5 wr s (l8 U6 p.fa):=by have:=b.i.1;rwa[s2 U6 yL (λ_=>rfl)]at this
 have u:=a6 (dC 0 4294967295 2147418112 s aa P p.fa wr E a8 C);have v:=H.h d;clear C E b d;go_wp2_with fail;apply u.mono;rintro e l⟨ae,rfl,o,ag⟩;have y:=v.h ag;obtain⟨al,ax,an,rfl⟩:=o.f;clear u v;have t:=a6 (F3 ((y).h ((a9.refl l).alloc (U #[Y U0] 9))) aj 327777 _ _ ((o).ty.h ((a9.refl l).alloc _)) (by(simp;omega)) l 1 [U0] (bV rfl 1 rfl) i3);try go_wp2_with fail
 apply t.mono;rintro e bc⟨rfl,af,ac,z,A,az⟩;have aw:=M9 A;clear t;have m:=a6 z;clear y o z;go_wp2_with fail;refine gP ?_;repeat(apply D7;focus (intro x f j;simp only[g0,o7,uV];(repeat intro h;try simp only[h]);have bd:f.cell? ⟨g,7,J⟩=So (I U8 p.am):=(m.b.h j).cell 7;have be:f.cell? ⟨g,6,J⟩=So (Z G (D p.fa) Q):=(m.b.h j).cell 6;go_wp2_with(go_at_call 301;apply(ai f).mono;rintro e bb⟨rfl,rfl⟩);exact dn rfl rfl (a9.refl _)))
 intro x f j;simp only[n9,g0,o7,uV];repeat(intro h;try simp only[h];clear h)
 have N:=m.h j;go_wp2;go_ret;exact⟨rfl,af,ac,N,by rw[A];simp[s6,M2]⟩
end
end
section
open Go.MapKept Go.Shelf Go.Sort
attribute [local go_sem] Oper.semAt_some
theorem WF(x:Int)(W:Wd):Ca prog 238 #[I V x] W λe a=>e=X (O Bf)/\W=a:=by go_in;go_wp2;go_ret;exact⟨i3,rfl⟩
def PJ(x y:Int):Int:=if x<y then-1 else if y<x then 1 else 0
theorem a4o(x a:Int)(W:Wd):Ca prog 160 #[I V x,I V a] W λe k=>e=X (I M (PJ x a))/\W=k:=by
 obtain⟨g,h⟩:=j0 (WF x) (WF a);obtain⟨R,c⟩:∃R,R=PJ x a:=⟨_,rfl⟩;rw[<-c];unfold PJ at c;by_cases b:x<a
 ·have i:Dc (x<a)=Bt:=by simpa using b
  rw[if_pos b]at c;subst c;clear b;go_in;go_wp2_with(first|(apply(g _).mono;rintro e f⟨rfl,rfl⟩)|(apply(h _).mono;rintro e f⟨rfl,rfl⟩));go_ret;exact⟨rfl,rfl⟩
 by_cases d:a<x
 ·have i:Dc (x<a)=Bf:=by simpa using b
  have j:Dc (a<x)=Bt:=by simpa using d
  rw[if_neg b,if_pos d]at c;subst c;clear b d;go_in;go_wp2_with(first|(apply(g _).mono;rintro e f⟨rfl,rfl⟩)|(apply(h _).mono;rintro e f⟨rfl,rfl⟩));go_ret;exact⟨rfl,rfl⟩
 have i:Dc (x<a)=Bf:=by simpa using b
 have j:Dc (a<x)=Bf:=by simpa using d
 rw[if_neg b,if_neg d]at c;subst c;clear b d;go_in;go_wp2_with(first|(apply(g _).mono;rintro e f⟨rfl,rfl⟩)|(apply(h _).mono;rintro e f⟨rfl,rfl⟩));go_ret;exact⟨rfl,rfl⟩
def kT(x y:RR):Int:=PJ x.p.nr y.p.nr
theorem ltR(x y:RR):ltOf kT x y=Dc (x.p.nr<y.p.nr):=by unfold ltOf kT PJ;by_cases h:x.p.nr<y.p.nr;simp[h];simp only[h,decide_false,if_false];split<;>simp
theorem RM:SWO (ltOf kT) where
 irrefl x:=by rw[ltR];simp
 trans x y z h1 h2:=by
  rw[ltR]at*;simp only[decide_eq_true_eq]at*;omega
 ntrans x y z h1 h2:=by
  rw[ltR]at*;simp only[decide_eq_false_iff_not]at*;omega
theorem a3X(x c:RR)(W:Wd):Ca prog 159 #[Ag (B8.c x).toArray,Ag (B8.c c).toArray] W λe n=>e=X (I M (kT x c))/\∃q os,n=grow (W.drewN q) os:=by obtain⟨⟨a,h,f⟩,d,g⟩:=x;obtain⟨⟨b,m,k⟩,i,l⟩:=c;have j:=a6 (a4o a b);dsimp only[B8,RR.v,kT];generalize PJ a b=R at*;go_in;have k1:e7 ((W.alloc (U #[I V a,Z d (D h) g,I V f] 254)).alloc (U #[I V b,Z i (D m) l,I V k] 254)) W 254 #[I V a,Z d (D h) g,I V f]:=(e7.new W _ _).alloc _;have o:=k1.cell 0;go_wp2_with(apply(j _).mono;rintro e p⟨rfl,rfl⟩);go_ret;exact⟨rfl,0,_,by rw[alloc_eq_grow,alloc_eq_grow,grow_grow];rfl⟩
theorem NU:SlLaysF0.n6 prog ⟨λ|6=>158|14=>237|15=>136|20=>305|21=>306|22=>307|23=>308|24=>309|25=>310|26=>311|27=>312|28=>203|29=>204|46=>391|47=>275|48=>276|49=>392|50=>393|57=>436|n=>n,
 λ|0=>0|3=>3|4=>4|5=>5|9=>9|22=>112|24=>254|25=>256|39=>211|45=>296|46=>297|50=>301|53=>32|55=>34|66=>382|70=>385|76=>450|77=>275|n=>n,λn=>n⟩:=by
 constructor
 case f6=>exact⟨f158.name,e6,func158.trans (congrArg So g6)⟩
 case f14=>exact⟨f237.name,e6,func237.trans (congrArg So g6)⟩
 case f20=>exact⟨f305.name,e6,func305.trans (congrArg So g6)⟩
 case f21=>exact⟨f306.name,e6,func306.trans (congrArg So g6)⟩
 case f22=>exact⟨f307.name,e6,func307.trans (congrArg So g6)⟩
 case f23=>exact⟨f308.name,e6,func308.trans (congrArg So g6)⟩
 case f24=>exact⟨f309.name,e6,func309.trans (congrArg So g6)⟩
 case f25=>exact⟨f310.name,e6,func310.trans (congrArg So g6)⟩
 case f26=>exact⟨f311.name,e6,func311.trans (congrArg So g6)⟩
 case f27=>exact⟨f312.name,e6,func312.trans (congrArg So g6)⟩
 case f46=>exact⟨f391.name,e6,func391.trans (congrArg So g6)⟩
 case f49=>exact⟨f392.name,e6,func392.trans (congrArg So g6)⟩
 case f50=>exact⟨f393.name,e6,func393.trans (congrArg So g6)⟩
 case f57=>exact⟨f436.name,e6,func436.trans (congrArg So g6)⟩
 all_goals first|(intro w;kernel_rfl)|kernel_rfl
instance :Inhabited RR:=⟨⟨⟨0,[],0⟩,J,0⟩⟩
theorem a3e{rs:List RR}(h:((rs.map (·.p)).map (·.nr)).Nodup):(cD kT rs).map (·.p)=Q3 (rs.map (·.p)):=by
 refine RX ((D3 _ RM rs).map _) h ?_;rw[List.pairwise_map];refine(W7 _ RM rs).imp λq=> ?_
 rw[ltR]at q;have:=of_decide_eq_false q;omega
theorem a4v(h:p1)(c:Nat)(xs:o5)(a:Nat)(W:Wd)(n:D xs<=1000000)(i:i5 W h (B6.row xs)):Ca prog 156 #[Z h (D xs) c,I M a] W λe j=>e=X (O (xU xs a))/\W=j:=by
 have l:=a6 (show Ca prog 229 #[Z h (D xs) c,I M a] W λe j=>e=X (O (xs.any λd=>(a:Int)==d))/\W=j from ctE VU (I M) (λx d=>x==d) (EqlAt.int _ _ _) h (D xs) c xs (a:Int) W rfl n (by rw[s2 M B6 (λ_=>rfl)]at i;exact i));have k:xU xs a=(Dc (D xs=0)||xs.any λd=>(a:Int)==d):=by unfold xU;rw[List.contains_eq_any_beq]
 rw[k];clear k i;generalize(xs.any λd=>(a:Int)==d)=b at*;by_cases f:D xs=0
 ·have m:((D xs:Int)==0)=Bt:=by simp[f]
  have g:Dc (D xs=0)=Bt:=by simp[f]
  rw[g,Bool.true_or];clear f g;go_wp2;go_ret;exact⟨rfl,rfl⟩
 have m:((D xs:Int)==0)=Bf:=by simp[f]
 have g:Dc (D xs=0)=Bf:=by simp[f]
 rw[g,Bool.false_or];clear f g;go_in;go_wp2_with fail;apply l.mono;rintro e o⟨rfl,rfl⟩;go_wp2;go_ret;exact⟨rfl,rfl⟩
end
section
open Go.Shelf Go.Sort
attribute [local go_sem] Oper.semAt_some
def NC:Nat->Nat
 |1=>230|2=>231|3=>232|4=>233
 |5=>234|6=>235|_=>236
def UV:Array Va:= #[Nf,Fc (.func 230) #[] #[],Fc (.func 231) #[] #[],Fc (.func 232) #[] #[],Fc (.func 233) #[] #[],Fc (.func 234) #[] #[],Fc (.func 235) #[] #[],Fc (.func 236) #[] #[]]
theorem NL(W:Wd):Ca prog 157 #[] W λe a=>e=X (Ag UV)/\a9 W a:=by go_in;go_wp2_with fail;exact F9 (e7.new _ _ _) underlying249 ⟨rfl,(a9.refl W).alloc _⟩
theorem UW:∀(d:Nat),0<d->d<8->∀W:Wd,(Instr.index 249 (Ag UV) (I M d)).run prog W= .ok (Fc (.func (NC d)) #[] #[]) W
 |1,_,_,_|2,_,_,_|3,_,_,_|4,_,_,_|5,_,_,_|6,_,_,_|7,_,_,_=>g6
 |d+8,_,h,_=>absurd h a8
theorem UY{w0 w:Wd}{g:Nat}{p:j2}{j k l m:Va}{a:Nat}(c:Mk w0 w g p j k l m a 2147418112 (Z J 0 0) [])(d:a<6)(f:R7 w0 p j k l m)(i:F0 p=Bt):∀b,0<b->b<8->
 Ca prog (NC b) #[K g] w (rP w0 g p j k l m a (C4 p b).dflt (C4 p b).cs (C4 p b).ok):=by
 unfold F0 qR at i;simp only[j3]at i;obtain⟨⟨⟨⟨⟨⟨⟨z,A⟩,B⟩,C⟩,q⟩,r⟩,s⟩,E⟩:=i;have h:=jS dP p.fa J q;have u:D p.fa<=8:=Z5 p.fa (j7.map (·.2)) (h.2.1.imp λc e=>a8) λn v=>xG (h.1 n v)
 intro b o t;match b,o,t with
 |1,_,_=>exact NI c d f (Z9 r)
 |2,_,_=>exact a3V c d f (Z9 s)
 |3,_,_=>
  refine a3W c d f u λx y=> ?_
  have:=List.all_eq_true.1 JV x (xG (h.1 x y))
  unfold a4i at this
  simp only[j3,decide_eq_true_eq]at this
  exact this.1
 |4,_,_=>exact VH c d
 |5,_,_=>exact a01 c d
 |6,_,_=>exact a00 c d
 |7,_,_=>exact a0Z c d
theorem UX:∀d,0<d->d<8->∀args w,(callFunc (NC d) args).run prog w= .ok (.enter (NC d) args) w
 |1,_,_=>Eo func230 g6 rfl
 |2,_,_=>Eo func231 g6 rfl
 |3,_,_=>Eo func232 g6 rfl
 |4,_,_=>Eo func233 g6 rfl
 |5,_,_=>Eo func234 g6 rfl
 |6,_,_=>Eo func235 g6 rfl
 |7,_,_=>Eo func236 g6 rfl
 |d+8,_,h=>absurd h a8
end
section
open Go.Shelf Go.Sort
attribute [local go_sem] Oper.semAt_some
theorem PQ:∀a(h:a<D r2),(r2[a].1).toList.isEmpty=Bf
 |0,_|1,_|2,_|3,_|4,_|5,_=>by rw[Lib.toList_data];kernel_rfl
 |a+6,h=>absurd h (by simp[r2])
def a63(g e:Wd)(a:Nat)(x:Array Va)(d:Bool)(r:Option J7):Prop:=match r with
 |none=>d=Bf/\x= #[I M 0,Z J 0 0,I V 0]
 |some f=>d=Bt/\∃b c rs,x= #[I M a,Z b (D rs) c,I V f.dflt]/\f=⟨a,f.dflt,rs.map (·.p)⟩/\c7 e g 254 B8 (Z b (D rs) c) rs/\∀r∈rs,B4 e 435 y4 r.v r.p.tests
theorem VK(p:j2)(m h i j:Va)(w:Wd)(aq:p.small)(bx:0<=p.fm/\0<=p.lm)(N:R7 w p m h i j)(ao:F0 p=Bt)(c a:Nat)(an:c<8)(P:a<6):
 Ca prog 103 #[Ag (i7 p m h i j),I M c,I M a] w λe ci=>∃x cg,e=X (Tp #[Ag x,O cg])/\a9 w ci/\a63 w ci a x cg (bG p c a):=by
 obtain⟨R,ak⟩:∃R,R=bG p c a:=⟨_,rfl⟩;rw[<-ak];have bq:=a6 ak;clear ak;have cj:=((a9.refl w).alloc (U (i7 p m h i j) 36)).alloc (U #[I M 0,Z J 0 0,I V 0] 114);have T:=(e7.new w 36 (i7 p m h i j)).alloc (U #[I M 0,Z J 0 0,I V 0] 114);have bh:e7 ((w.alloc (U (i7 p m h i j) 36)).alloc (U #[I M 0,Z J 0 0,I V 0] 114)) (w+1) 114 #[I M 0,Z J 0 0,I V 0]:=e7.b i3;have bn:=a6 (mG a P);have de:=PQ a P;have ae:=a6 (λA(al:a9 w A)=>ET p m h i j A aq bx (N.h al));rw[ao]at ae;obtain⟨H,L,dg,bz,-⟩:=N.a;have bk:=a6 (λA(al:a9 w A)=>a4v H L p.ar a A (by have:=aq.a;omega) (bz.h al));have dj:Dc ((c:Int)<0)=Bf:=i3;have dn:Dc ((8:Int)<=(c:Int))=Bf:=by simp;omega
 have cy:=T.cell 0;obtain⟨bp,ad,t,cn,y,bs⟩:=dK N ao bh T cj (i3:((w.alloc (U (i7 p m h i j) 36)).alloc (U #[I M 0,Z J 0 0,I V 0] 114)).heap.size=w.heap.size+2);generalize r2[a].1=nm at*;subst dg;clear aq bx N ao T bh cj bz cy;go_in;go_wp2_with fail;apply(bn _).mono;rintro e dt⟨rfl,G⟩;generalize(w.alloc (U (i7 p (Z H (D p.ar) L) h i j) 36)).alloc (U #[I M 0,Z J 0 0,I V 0] 114)=wz at*;have o:=cn.h G;have ag:=y.trans G;unfold i7 at o;obtain⟨Q,ar,ax,ay,az,ba,bb,bc,bd⟩:=o.c9;obtain⟨be,au,av,aw⟩:=o.d4 9 10 11 12;go_wp2_with fail;apply(ae _ ag).mono;rintro e n⟨rfl,s⟩;have ah:=ag.trans s;clear Q ar ax ay az ba bb bc bd be au av aw;have Q:=(o.h s).cell 0;go_wp2_with fail;apply(bk _ ah).mono;rintro e du⟨rfl,rfl⟩;have bg:=o.h s;have aa:=t.h (G.trans s);obtain⟨ct,bt⟩:=j0 ah (G.trans s);have cb:bG p c a=if xU p.ar a&&(C4 p c).ok then So ⟨a,(C4 p c).dflt,Q3 (s6 a (C4 p c).cs)⟩else J:=rfl
 have bl:=a6 cb;clear bn ae bk o G s ag ah de cb;cases ca:xU p.ar a
 ·have E:R=J:=by rw[bq.O,bl.O,ca];rfl
  have u:=a6 E;clear E;go_wp2_with(refine q6 aa ?_;intro q g C);exact s0 rfl g underlying114 ⟨_,_,rfl,ct.grown C (λk e=>by cases e;omega),by rw[u.O];exact⟨rfl,rfl⟩⟩
 have E:R=if(C4 p c).ok then So ⟨a,(C4 p c).dflt,Q3 (s6 a (C4 p c).cs)⟩else J:=by rw[bq.O,bl.O,ca];rfl
 obtain⟨u,bm⟩:=j0 E (NL (n.alloc (U (mkM p (Z H (D p.ar) L) h i j a (Z J 0 0) 2147418112) 247)));obtain⟨Q,ar,ax,ay,az,ba,bb,bc,bd⟩:=bg.c9;obtain⟨be,au,av,aw⟩:=bg.d4 9 10 11 12;have di:=a6 aa;unfold mkM at bm;clear aa E;go_wp2_with fail;apply bm.mono;rintro e dh⟨rfl,ck⟩;clear Q ar ax ay az ba bb bc bd be au av aw;have z:Mk wz dh n p (Z H (D p.ar) L) h i j a 2147418112 (Z J 0 0) []:=⟨(e7.new n _ _).h ck,c7.nil _ _ _ _,λr F=>(by cases F),(bt.alloc _).trans ck,bt.size⟩;by_cases da:c=0
 ·subst da;have db:∀W:Wd,(Instr.index 249 (Ag UV) (I M 0)).run prog W= .ok Nf W:=λW=>g6
  have ds:∀W:Wd,(binOp .eql 248 Nf Nf).run prog W= .ok (O Bt) W:=λW=>g6
  obtain⟨v,co,cu⟩:=r6 (show R=J from u.O) (t.h z.x) (y.trans z.x);generalize UV=cx at*;clear z;go_wp2_with(refine q6 co.O ?_;intro q g C);exact s0 rfl g underlying114 ⟨_,_,rfl,cu.grown C (λk e=>by cases e;omega),by rw[v.O];exact⟨rfl,rfl⟩⟩
 have db:=UW c a8 an;have dr:∀W:Wd,(binOp .eql 248 (Fc (.func (NC c)) #[] #[]) Nf).run prog W= .ok (O Bf) W:=λW=>g6
 have dp:=UX c a8 an;have bj:=a6 (UY z P (bp.h y.O) ad c a8 an);obtain⟨am,-⟩:=GN ad c;have dd:=oW a (C4 p c).cs;have cq:=a6 (hW P am.nd);have dq:D (s6 a (C4 p c).cs)<=1000:=by have:=am.len;omega
 generalize(C4 p c).ok=okb at*;generalize(C4 p c).dflt=df at*;generalize(C4 p c).cs=cs at*;generalize UV=cx at*;generalize NC c=bw at*;clear z am dd bp ad;cases okb
 ·have v:=a6 (show R=J from u.O);go_wp2_with(first
   |(go_at_fn bw;apply bj.mono;rintro e bf⟨rfl,ch,f,l,ap⟩;have cp:=a6 (t.h l.x);have cv:=a6 (y.trans l.x);clear l)
   |(refine q6 cp.O ?_;intro q g C))
  exact s0 rfl g underlying114 ⟨_,_,rfl,cv.grown C (λk e=>by cases e;omega),by rw[v.O];exact⟨rfl,rfl⟩⟩
 have v:=a6 (show R=So ⟨a,df,Q3 (s6 a cs)⟩from u.O);go_wp2_with(go_at_fn bw;apply bj.mono;rintro e bf⟨rfl,ch,f,l,ap⟩;have cz:bf.cell? ⟨n,14,J⟩=So ch:=l.b.cell 14;have d:=a6 l;have af:=a6 ap;clear l ap);have dc:D f<=1000000:=by have:=congrArg List.length af.O;rw[i1]at this;omega
 obtain⟨S,ai,rfl⟩:=d.o.b;have br:=a6 (HT NU B8 isAgg254 sizeOf254 kT RM 159 (Eo func159 g6 rfl) a3X 254 (Z S (D f) ai) f _ bf dc d.o);apply br.mono;rintro e q⟨rfl,cf,B⟩;have ce:=d.o.ne d.b e6;have g:=d.b.grown B (λe=>ce e.symm);have bi:=(t.h d.x).grown B (λe=>d.o.ne (t.h d.x) e6 e.symm);have bv:=(y.trans d.x).grown B (λk e=>by have:=(d.o.lt e).1;rw[bs.O]at this;omega);have cc:D (cD kT f)=D f:=(D3 kT RM f).length_eq;have cd:(cD kT f).map (·.p)=Q3 (s6 a cs):=by rw[<-af.O];exact a3e (by rw[af.O];exact cq.O)
 have dk:q.cell? ⟨n,13,J⟩=So (I M a):=g.cell 13;have dl:q.cell? ⟨n,14,J⟩=So (Z S (D f) ai):=g.cell 14;have dm:q.cell? ⟨n,15,J⟩=So (I V df):=g.cell 15;have bu:=λr(F:r∈cD kT f)=>(d.t r ((D3 kT RM f).mem_iff.1 F)).kept λb cs k=>k.grown B (λe=>d.o.ne k e6 e.symm)
 obtain⟨ac,ab,cw,cr,bo⟩:=Y2 (And.intro cc cd) bi bv bu cf;clear cc cd bi bv bu cf g B ce br cz;go_wp2_with(refine q6 ab.O ?_;intro dv cm aj);exact s0 rfl cm underlying114 ⟨_,_,rfl,cw.grown aj (λk e=>by cases e;omega),by rw[v.O];exact⟨rfl,S,ai,cD kT f,by rw[ac.1],by rw[ac.2],by rw[ac.1];exact(bo.kept aj (.inr (bo.ne ab e6))).mono (by rw[bs.O];omega),λr F=>(cr r F).kept λb cs k=>k.grown aj (λe=>by injection e with e;exact k.ne ab e6 e)⟩⟩
end
section
attribute [local go_sem] Oper.semAt_some
structure PX where
 d:Nat
 a:Nat
 fa:Nat
 df:Int
 A:p1
 c:Nat
 rs:List RR
def PX.p(x:PX):jF:=⟨x.d,x.a,⟨x.fa,x.df,x.rs.map (·.p)⟩⟩
def PX.v(x:PX):Va:=Ag #[I M x.d,I M x.a,I M x.fa,Z x.A (D x.rs) x.c,I V x.df]
def a6b(p:j2)(x:PX):Prop:=(x.d=0/\x.a=6/\0<D p.ar)\/(0<x.d/\x.d<8/\x.a<6/\x.fa=x.a/\bG p x.d x.a=So x.p.f)
def PXG(p:j2)(x:PX)(W:Wd):Prop:=cI W (Z x.A (D x.rs) x.c) x.rs/\a6b p x
def HR(u:Wd)(S:List Ti)(W W':Wd):Prop:=(a9 u W->a9 u W')/\∀b t cs,e7 W b t cs->S.contains t=Bf->e7 W' b t cs
theorem HR.trans{u a b c:Wd}{S:List Ti}(d:HR u S a b)(k:HR u S b c):HR u S a c:=⟨λx=>k.1 (d.1 x),λn t cs q e=>k.2 n t cs (d.2 n t cs q e) e⟩
def WX(p:j2)(d:Nat):List jF:=((m9 8).drop d).flatMap (tM p)
def HB(p:j2)(d a:Nat):List jF:=((m9 6).drop a).flatMap (lL p d)
theorem WW(p:j2){d:Nat}(h:d<8):WX p d=HB p d 0++WX p (d+1):=by unfold WX;rw[List.drop_eq_getElem_cons (by simpa using h),List.getElem_range,List.flatMap_cons];rfl
theorem WY(p:j2)(d:Nat){a:Nat}(h:a<6):HB p d a=lL p d a++HB p d (a+1):=by unfold HB;rw[List.drop_eq_getElem_cons (by simpa using h),List.getElem_range,List.flatMap_cons]
theorem ML(l b:Nat)(p:j2)(bq C E F:Va)(S:List Ti)(cf:S.contains 3=Bf)(bh:S.contains 36=Bf)(ch:p.small)(cd:0<=p.fm/\0<=p.lm)(cg:F0 p=Bt)(u:Wd)(ah:R7 u p bq C E F)(Jq:List PX->Wd->Prop)(bf:∀pre W W',Jq pre W->a9 W W'->Jq pre W')
 (aj:∀pre x W,Jq pre W->a9 u W->PXG p x W->D pre<D (aZ p)->YieldAt .wide 1 prog l #[x.v] W λe W'=>e=X (O Bt)/\Jq (pre++[x]) W'/\HR u S W W') (W:Wd) (ak:e7 W b 36 (i7 p bq C E F)) (bi:a9 u W) (bk:Jq [] W):
 Ci .wide 2 prog 101 #[Fc (.yield l) #[] #[],K (So ⟨b,0,J⟩)] W λe W'=>(∃v,e=X v)/\∃ys:List PX,ys.map PX.p=aZ p/\Jq ys W':=by
 have A:aZ p=(if D p.ar=0 then []else [⟨0,6,⟨0,0,[]⟩⟩])++WX p 0:=rfl;obtain⟨g,be⟩:∃g,g=aZ p:=⟨_,rfl⟩;rw[<-be]at aj A⊢;obtain⟨bc,aw,bv,ao,z⟩:=Y2 aj bf ah ak (And.intro bi bk);obtain⟨ac,af,rfl,-,-⟩:=ah.a;have ca:W.cell? ⟨b,0,J⟩=So (Z ac (D p.ar) af):=ak.cell 0;clear aj bf ah ak bi bk be;refine Co func101 rfl trivial ?_ rfl;simp only[ntmps101,uE,Nat.reduceAdd,Nat.reduceSub];by_cases T:D p.ar=0;rotate_left
 focus
  have cc:Dc (0<D p.ar)=Bt:=decide_eq_true a8;have h:=a6 (show g=[(⟨0,6,0,0,J,0,[]⟩:PX)].map PX.p++WX p 0 by rw[A,if_neg T];rfl);have R:D ([]:List PX)<D g:=by rw[h.O];simp
  obtain⟨fn0,ds,cu,cx,ci,bg⟩:=show YieldAt .wide 1 prog l #[Ag #[I M 0,I M 6,I M 0,Z J 0 0,I V 0]] W λe W'=>e=X (O Bt)/\Jq [⟨0,6,0,0,J,0,[]⟩] W'/\HR u S W W' from bc.O [] ⟨0,6,0,0,J,0,[]⟩ W z.2 z.1 ⟨⟨B4.nil _ _ _,λr am=>(by cases am)⟩,.inl ⟨rfl,rfl,by show 0<D p.ar;omega⟩⟩ R
  clear A T R;gi_wp2_with fail;apply bg.mono;rintro e w0⟨rfl,bn,k0⟩;have bs:=k0.1 z.1;have bd:=k0.2 b _ _ ao bh;clear ca ci bg k0;gi_wp2;have y:=a6 (And.intro h (And.intro bn (And.intro bs bd)));clear bn bs bd
 rotate_right
 have cc:Dc (0<D p.ar)=Bf:=decide_eq_false a8;have h:=a6 (show g=([]:List PX).map PX.p++WX p 0 by rw[A,if_pos T];rfl);clear A T;gi_wp2_with fail;refine⟨aL,?_⟩;gi_wp2;have y:=a6 (And.intro h (And.intro z.2 (And.intro z.1 ao.O)));all_goals
  gi_loopw [19] (λcn wr=>∃(pre:List PX)(c:Nat),c<=8/\cn=I M c/\g=pre.map PX.p++WX p c/\Jq pre wr/\a9 u wr/\e7 wr b 36 (i7 p (Z ac (D p.ar) af) C E F)) (λi _=>8-(intOf i).toNat);exact⟨_,0,e6,rfl,y.1,y.2.1,y.2.2.1,y.2.2.2⟩;obtain⟨pre,c,dc,rfl,d,o,s,m⟩:=hrel;by_cases al:c<8
  ·rw[WW p al]at d;have an:=a6 d;have dd:(c:Int)<8:=a8;obtain⟨au,ba,ap⟩:=r6 (λbr(w:a9 wr br)=>aw _ _ _ o w) s m;clear d o s m;gi_wp2_with(refine⟨trivial,?_⟩;gi_at_call 102;apply((Cw (n:=1)).2 (KH wr)).mono;rintro e br⟨du,rfl,aa,w⟩;obtain⟨bt,cb,rfl⟩:=aa.b);gi_loopw [24] (λco wr=>∃(pre:List PX)(a:Nat),a<=6/\co=I M a/\g=pre.map PX.p++(HB p c a++WX p (c+1))/\Jq pre wr/\a9 u wr/\e7 wr b 36 (i7 p (Z ac (D p.ar) af) C E F)/\B4 wr 3 OI (Z bt 6 cb) (mH 6)) (λi _=>6-(intOf i).toNat);exact⟨pre,0,e6,rfl,an.O,au _ w,ba.trans w,ap.h w,aa.ty⟩;clear an au ba ap aa w;obtain⟨pre,a,da,rfl,d,o,s,m,ai⟩:=hrel;by_cases Q:a<6
   ·rw[WY p c Q]at d;have az:=a6 ai;have ad:=ai.mem;obtain⟨cw,aa,rfl,_⟩:=ad.rows e6 e6;have cm:=ad.l (j:=a) (by simpa[mH]using Q) (r:=0) rfl;simp only[OI,mH,List.getElem_map,List.getElem_range,Nat.mul_one,j8]at cm;have db:(a:Int)<6:=a8;have L:=m;obtain⟨aq,N⟩:=j0 m (VK p _ C E F wr ch cd (bv.h s) cg c a al Q);unfold i7 at N L;obtain⟨de,df,dj,dk,dl,dm,dn,dp,dq⟩:=(L).c9;obtain⟨dr,dg,dh,di⟩:=(L).d4 9 10 11 12;obtain⟨bb,av⟩:=j0 s (λt(k:a9 wr t)=>aw _ _ _ o k);unfold lL at d;obtain⟨lo,B⟩:∃lo,lo=bG p c a:=⟨_,rfl⟩;rw[<-B]at N d;have bl:∀f,lo=So f->0<c:=λf e=>by
     rcases Nat.eq_zero_or_pos c with ag|ag
     rw[ag,a5x]at B;rw[B]at e;cases e;exact ag
    have ax:=a6 (And.intro B bl);clear ad ai o s L m B bl;cases lo with
    |none=>
     have h:=a6 (show g=pre.map PX.p++(HB p c (a+1)++WX p (c+1))from d)
     clear d
     gi_wp2_with(refine⟨trivial,?_⟩;gi_at_call 103;apply((Cw (n:=1)).2 N.O).mono;rintro e t⟨x,ck,rfl,k,rfl,rfl⟩)
     refine⟨aL,?_⟩
     gi_wp2
     go_roundw
     case rel=>exact⟨pre,a+1,a8,o3,h.O,av _ (k.alloc _),bb.trans (k.alloc _),aq.h (k.alloc _),az.h (k.alloc _)⟩
     case measure=>simp[intOf];omega
    |some f=>
     have ay:=a6 (And.intro (ax.2 f rfl) ax.1.symm)
     have R:D pre<D g:=by rw[d];simp
     have h:=a6 (show g=pre.map PX.p++([⟨c,a,f⟩]++HB p c (a+1)++WX p (c+1))from d)
     clear d
     gi_wp2_with(refine⟨trivial,?_⟩;gi_at_call 103;apply((Cw (n:=1)).2 N.O).mono;rintro e t⟨x,ck,rfl,k,rfl,G,P,ab,rfl,bj,bo,bp⟩;have H:=e7.new t 114 #[I M a,Z G (D ab) P,I V f.dflt];have cq:=H.cell 0;have cr:=H.cell 1;have ct:=H.cell 2;have ar:=a6 bj;clear H bj)
     have xa:=k.alloc (U #[I M a,Z G (D ab) P,I V f.dflt] 114)
     have ae:=bb.trans xa
     obtain⟨cz,dt,cv,cy,bm,ce⟩:=bc pre ⟨c,a,a,f.dflt,G,P,ab⟩ _ (av _ xa) ae ⟨⟨bo.ty.h ((a9.refl t).alloc _),λr am=>(bp r am).h ((a9.refl t).alloc _)⟩,.inr ⟨ay.1,al,Q,rfl,by rw[ay.2];exact congrArg So ar.O⟩⟩ R
     simp only[PX.v]at bm
     obtain⟨bx,bw,bu⟩:=r6 ae (az.h xa) (aq.h xa)
     clear ae xa bo bp cq cr ct
     rw[bm]
     gi_wp2
     apply ce.mono
     rintro e dv⟨rfl,cj,k7⟩
     have cp:=k7.1 bx.O
     have bz:=bw.kept λb cs q=>k7.2 b _ cs q cf
     gi_wp2
     go_roundw
     case rel=>exact⟨pre++[⟨c,a,a,f.dflt,G,P,ab⟩],a+1,a8,o3,by rw[h.O,List.map_append,ar.O];simp[PX.p],cj,cp,k7.2 b _ _ bu bh,bz⟩
     case measure=>simp[intOf];omega
   obtain rfl:a=6:=a8;have h:=a6 (show g=pre.map PX.p++WX p (c+1)from d);clear d;gi_wp2_with fail;go_roundw;exact⟨pre,c+1,a8,o3,h.O,o,s,m⟩;simp[intOf];omega
  obtain rfl:c=8:=a8;have h:=a6 (show g=pre.map PX.p++[]from d);clear d;gi_wp2_with fail;go_end0;exact⟨⟨_,rfl⟩,pre,by rw[h.O,List.append_nil],o⟩
theorem TQ(p:j2)(a b c d:Va)(w:Wd):
 Ci .wide 2 prog 53 #[Ag (i7 p a b c d)] w λe f=>e=X (Fc (.func 101) #[] #[K w])/\f=w.alloc (U (i7 p a b c d) 36):=by
 generalize i7 p a b c d=cs;refine Co func53 rfl trivial ?_ rfl;simp only[ntmps53,uE,Nat.reduceAdd,Nat.reduceSub];gi_wp2;go_ret;exact⟨rfl,rfl⟩
theorem zZ(b:Nat)(p:j2)(c d e f:Va)(S:List Ti)(o:S.contains 3=Bf)(q:S.contains 36=Bf)(z:p.small)(j:0<=p.fm/\0<=p.lm)(y:F0 p=Bt)(u w:Wd)(n:R7 u p c d e f)(A:a9 u w)(s:e7 w b 36 (i7 p c d e f)):
  aH .wide 2 prog 101 #[K b] (λx:PX=> #[x.v]) (PXG p) (HR u S) (λys=>ys.map PX.p=aZ p) (D (aZ p)) w:=λl Jq W g m r k=>
 ML l b p c d e f S o q z j y u n Jq (λpre h B a x=>m pre h B J a (j4 x J) aL) (λpre x i a _ t v=>r pre x i a t v) W (s.h g) (A.trans g) k
end
section
open Go.Shelf Go.Sort Go.MapKept
attribute [local go_sem] Oper.semAt_some
theorem i5.r{w c:Wd}{a:p1}{xs:List Va}{row:Option Nat}(d:i5 w a xs)(f:w.grownBy c row)(g:∀r,row=So r->∃o:Obj,w.heap[r]? =So o/\o.isCells=Bf):i5 c a xs:=λj u h=>
 let⟨b,off,e,hc⟩:=d j u h;⟨b,off,e,cell_kept hc f g⟩
theorem L8.map{w b:Wd}{p:PF}{g:Nat}{L:List SV}(a:L8 w p)(d:H5 w g L)(f:w.grownBy b (So g)):L8 b p:=⟨a.1,a.2.r f λr e=>by cases e;obtain⟨h,c,q,_⟩:=d;exact⟨_,q,rfl⟩⟩
theorem c7.ofBlk1{a:Type}{w:Wd}{base g:Nat}{e:Ti}{E:s7 a}{x:a}(b:e7 w g e (E.c x).toArray)(c:base<=g)(d:0<E.k):c7 w base e E (Z g 1 1) [x]:=
 ⟨_,1,rfl,by rw[E.row_length],.inr ⟨g,1,(E.c x).toArray,rfl,c,b,a7 _,by unfold maxLen;omega,by simp[E.len],by rw[E.row_one];simp[List.take_of_length_le,E.len]⟩⟩
theorem eY{h:Fence}{n:Nat}{P:Pg}{w:Wd}{i:Array Oper}{rest:List Oper}{o:Oper}{a:Act}{Q:Exit->Act->Wd->Prop}(r:o.guard=J)(m x v:Operand)(t k e:Ti)(d:o.op=Op.mapUpdate t m x v)(B:P.underlying t=So (.map k e))(y:P.underlying k=So .string)(g:Nat)(L:List SV)(z:a.eval m= .map (So g))(p:H5 w g L)(s:g4)(E:a.eval x= .string s)(u:Va)(C:a.eval v=u)
 (j:∀b,H5 b g (zR L s u)->w.grownBy b (So g)->Wl h n P i Q rest (a.put o.dst Un) b):Wl h n P i Q (o::rest) a w:=by
 refine wpListIn_plain r λH l=> ?_
 obtain⟨b,A,F,G⟩:=p.put B y s u;refine⟨λf q=>by simp[Oper.about,d]at q,?_⟩;rw[Oper.semAt_eq _ _ _ (λc e=>by rw[d]at e;cases e)];simp[execOp,d,z,E,C,A,Result.andThen,Oper.uponIn_skip,Oper.uponIn_value];exact l _ _ (j b F G)
theorem a2z:kZ prog 25 24 (Ag #[Y ⟨#[]⟩,I M 0,Z J 0 0]) 3 48:=⟨underlying25,g6,rfl,e6,e6⟩
def w3(p:PF):SV:=(p.1.name,p7 p.1)
def yD(p:PF):g4:=p.1.name
def HQ(l:List PF)(x:PF)(b:Option PF)(a:PF):List PF:=match b with
 |none=>O8 yD l a
 |some o=>if x.1.dir<o.1.dir then O8 yD l a else l
def QD(p:PF):Prop:=p.1.name.size<=1000000/\p.1.n<=1000000
theorem a3Y(a:List PF)(s:g4):J4 (a.map w3) s=(V5 yD a s).map λp=>p7 p.1:=by rw[a04,BJ (nm:=yD) w3 (λ_=>rfl)];cases V5 yD a s<;>rfl
theorem a5h(a:List PF)(p:PF):zR (a.map w3) p.1.name (p7 p.1)=(O8 yD a p).map w3:=by rw[a3y,zS (nm:=yD) (nb:=λp:SV=>p.1) w3 (λ_=>rfl)];rfl
theorem RL(a:List PF)(x b:PF)(c:j5 b=j5 x):(HQ a x (V5 yD a x.1.name) b).map j5=L9 (a.map j5) (j5 x):=by
 unfold HQ L9;rw[show(j5 x).name=x.1.name from rfl,BJ (nm:=yD) j5 (λ_=>rfl)];have e:=zS (nm:=yD) (nb:=g9.name) j5 (λ_=>rfl) a b;rw[c]at e;cases V5 yD a x.1.name with
 |none=>exact e
 |some o=>
  show(if x.1.dir<o.1.dir then O8 yD a b else a).map j5=if x.1.dir<o.1.dir then O8 g9.name (a.map j5) (j5 x)else a.map j5
  split
  ·exact e
  ·rfl
def r1(u:g9)(ds:List g9):List g9×Int:=if 16<D ds then([],4)else if 0<=Q0 (λf:g9=> !P9 f.name) ds 0 then([],140)else(u::lE (z7 ds),0)
theorem nU{a b:Type}(f:a->b)(p:b->Bool):∀(l:List a)(i:Nat),Q0 p (l.map f) i=Q0 (λx=>p (f x)) l i
 |[],_=>rfl
 |x::l,i=>by simp only[List.map_cons,Q0];rw[nU f p l (i+1)]
theorem HL(ds:List PF):fM (ds.map (·.1))=Q0 (λf:g9=> !P9 f.name) (ds.map j5) 0:=by unfold fM;rw[nU,nU];rfl
structure bU(w:Wd)(gm:Nat)(ps:List PF)(Xa:List g9)(W:Wd):Prop where
 m:H5 W gm (ps.map w3)
 r:∀p∈ps,L8 W p
 e:ps.map j5=Xa
 n:(Xa.map g9.name).Nodup
 x:a9 w W
 g:w<gm
theorem bU.h{w W W':Wd}{c:Nat}{d:List PF}{b:List g9}(a:bU w c d b W)(x:a9 W W'):bU w c d b W':=⟨a.m.h x,λp e=>(a.r p e).h x,a.e,a.n,a.x.trans x,a.g⟩
theorem bU.put{w W W':Wd}{d:Nat}{c:List PF}{h:List g9}(b:bU w d c h W){x a:PF}(o:L8 W a)(i:j5 a=j5 x)(m:HQ c x (V5 yD c x.1.name) a=O8 yD c a)(j:H5 W' d (zR (c.map w3) x.1.name (p7 a.1)))(g:W.grownBy W' (So d)):bU w d (O8 yD c a) (L9 h (j5 x)) W':=by
 have l:a.1.name=x.1.name:=congrArg g9.name i;refine⟨by rw[<-a5h,l];exact j,λp n=> ?_,by rw[<-m,RL c x a i,b.e],lD _ _ b.n,a9.f b.x g (λk e=>by cases e;exact Nat.le_of_lt b.g),b.g⟩;rcases pI c a p n with f|f
 exact(b.r p f).map b.m g;rw[f];exact o.map b.m g
end
section
open Go.Shelf Go.Sort Go.MapKept
attribute [local go_sem] Oper.semAt_some
def VP.cop(x:PF):VP:=⟨λv aa=>∃y:PF,v=p7 y.1/\L8 aa y/\j5 y=j5 x/\QD y,λ_ _ _⟨y,h,k,l⟩ e=>⟨y,h,k.h e,l⟩⟩
theorem xP(x:PF)(W:Wd)(b:L8 W x)(d:QD x):Ca prog 74 #[p7 x.1] W λe f=>∃a:PF,e=X (p7 a.1)/\L8 f a/\j5 a=j5 x/\QD a/\a9 W f:=by obtain⟨⟨nm,g,i,n,c⟩,xs⟩:=x;apply(GM nm g i n c xs W b.1 d.2 b.2).mono;rintro e f⟨v,rfl,k,l⟩;obtain⟨B,j,rfl,m,o,h⟩:=k.inM;exact⟨(⟨nm,g,B,D xs,j⟩,xs),rfl,⟨rfl,by rw[vG]at h;exact h⟩,rfl,⟨d.1,by have:=b.1;have:=d.2;dsimp only at*;omega⟩,l⟩
theorem PA(u:PF)(be:p1)(c:Nat)(ds:List PF)(w:Wd)(dq:D ds<=1000000)(bp:i5 w be (q9.row (ds.map (·.1))))(cy:L8 w u)(du:QD u)(bq:∀p∈ds,L8 w p/\QD p):
 Ca prog 47 #[p7 u.1,Z be (D ds) c] w λe bz=>∃(v:Va)(rs:List PF),e=X (Tp #[v,I M (r1 (j5 u) (ds.map j5)).2])/\c7 bz w 24 q9 v (rs.map (·.1))/\(∀p∈rs,L8 bz p)/\rs.map j5=(r1 (j5 u) (ds.map j5)).1/\a9 w bz:=by
 obtain⟨R,ar⟩:∃R,R=r1 (j5 u) (ds.map j5):=⟨_,rfl⟩;rw[<-ar];unfold r1 at ar;rw[i1,<-HL]at ar;have cq:=e7.new w 24 (#[Y u.1.name,I M u.1.dir,Z u.1.A u.1.n u.1.c]);have ca:=(a9.refl w).alloc (U #[Y u.1.name,I M u.1.dir,Z u.1.A u.1.n u.1.c] 24);obtain⟨ci,av,au,dh,de,dd⟩:=dK (uP be (D ds) c (ds.map (·.1)) _ i3 dq (bp.h ca) (λf dt=>by obtain⟨p,t,rfl⟩:=List.mem_map.1 dt;exact(bq p t).2.1)) ar bp cy bq cq;have bi:=a6 ca;generalize fM (ds.map (·.1))=wr at*;clear ar bp cy bq cq ca;unfold p7;go_in;by_cases cs:16<D ds
 ·have N:Dc ((16:Int)<D ds)=Bt:=by simp;omega
  go_wp2;go_ret2;have A:=av.O;rw[if_pos cs]at A;exact⟨Z J 0 0,[],by rw[A];rfl,c7.nil _ _ _ _,aL,by rw[A];rfl,bi.O⟩
 have N:Dc ((16:Int)<D ds)=Bf:=by simp;omega
 have Q:=av.O;rw[if_neg cs]at Q;by_cases ba:0<=wr;·rw[if_pos ba]at Q;have am:=a6 Q;have P:Dc (0<=wr)=Bt:=decide_eq_true ba;clear Q av;go_wp2_with fail;refine l4 ci λT ac=>?_;go_wp2;go_ret2;exact⟨Z J 0 0,[],by rw[am.O];rfl,c7.nil _ _ _ _,aL,by rw[am.O];rfl,bi.trans ac⟩
 rw[if_neg ba]at Q;have am:=a6 Q;have P:Dc (0<=wr)=Bf:=decide_eq_false ba;clear Q av;go_wp2_with fail;refine l4 ci λT ac=>?_;have dw:= @run_makeMap prog;go_wp2_with fail;clear dw;have cz:=H5.new (w:=T) (g:=T) rfl;have co:=bi.trans ac;have cj:bU w T [] [] (T.alloc (.map #[] 0)):=⟨cz,λp j=>(by cases j),rfl,List.nodup_nil,co.alloc _,(by have:=ac.size;simp at this;omega)⟩;have aa:=(dd.h ac).h ((a9.refl T).alloc (.map #[] 0));generalize ff:T.heap.size=C at*;clear cz ac co;go_loopg [23] (D ds) (λdl ek wr=>∃(k:Nat)(d:List PF),k<=D ds/\D ds-k<=dl/\ek=I M k/\bU w C d (z7 ((ds.take k).map j5)) wr/\e7 wr w 24 #[Y u.1.name,I M u.1.dir,Z u.1.A u.1.n u.1.c]/\(∀p∈d,QD p));exact⟨0,[],c6 _,a8,rfl,cj,aa,aL⟩;clear cj aa;obtain⟨k,d,fg,fe,rfl,h,a,bo⟩:=hrel;by_cases bt:k<D ds
 ·have dv:(k:Int)<D ds:=a8;have bs:k<D (ds.map (·.1)):=by simpa using bt
  obtain⟨b,o,rfl,fb⟩:=(au.h h.x).rows e6 G6;have aw:=(au.h h.x).l bs (r:=0) rfl;have ax:=(au.h h.x).l bs (r:=1) rfl;have ay:=(au.h h.x).l bs (r:=2) rfl;have cv:=g3 bt;have br:=de _ cv;have cw:z7 ((ds.take (k+1)).map j5)=L9 (z7 ((ds.take k).map j5)) (j5 ds[k]):=by rw[g2 bt,List.map_append];exact dU _ _
  simp only[List.getElem_map]at aw ax ay;generalize ds[k]=x at*;generalize z7 ((ds.take k).map j5)=et at*;obtain⟨⟨nm,i,B,m,s⟩,xs⟩:=x;simp only[q9,j8]at aw ax ay;have bf:=e7.new wr 24 #[Y nm,I M i,Z B m s];have xa:=(a9.refl wr).alloc (U #[Y nm,I M i,Z B m s] 24);obtain⟨ew,ex,ey⟩:=bf.c3;have W:=h.h xa;have aa:=a.h xa;obtain⟨bh,ce,cf⟩:=r6 cw (show L8 _ (⟨nm,i,B,m,s⟩,xs)from(br.1.h h.x).h xa) br.2;have S:=a3Y d nm;have cx:=λl dr=>RL d (⟨nm,i,B,m,s⟩,xs) l dr
  dsimp only at cx;clear cw br cv h a xa;rcases ab:V5 yD d nm with _|eh
  ·rw[ab]at S;simp only[Option.map_none]at S;go_wp2_with(refine D8 rfl _ _ 146 9 24 rfl underlying146 underlying9 (Ag #[Y ⟨#[]⟩,I M 0,Z J 0 0]) (by intro w;kernel_rfl) C _ rfl W.m nm rfl ?_;rw[S]);have G:=bf.alloc (U #[Y ⟨#[]⟩,I M 0,Z J 0 0] 24);have q:=W.h ((a9.refl _).alloc (U #[Y ⟨#[]⟩,I M 0,Z J 0 0] 24));have an:=aa.alloc (U #[Y ⟨#[]⟩,I M 0,Z J 0 0] 24);have bk:=ce.h ((a9.refl _).alloc (U #[Y ⟨#[]⟩,I M 0,Z J 0 0] 24));go_wp2_with fail;refine wpIn_wide.1 (aO (n:=1) ?_);iterate 4 (apply D7;focus (intro x H a;simp only[g0,g5,uV];(repeat intro bm;try simp only[bm]);have aw:=(G.h a).cell 0;have ax:=(G.h a).cell 1;have ay:=(G.h a).cell 2;gi_wp2_with fail;exact dn rfl rfl (a9.refl _)))
   refine r7 ((VP.cop (⟨nm,i,B,m,s⟩,xs))) ?_ ?_;·intro x H a;simp only[g0,g5,uV,VP.cop];intro z;simp only[z];gi_wp2_with(refine⟨trivial,?_⟩;gi_at_call 74;apply((Cw (n:=0)).2 (xP (⟨nm,i,B,m,s⟩,xs) H (bk.h a) cf.O)).mono;rintro e en⟨l,rfl,bx,bn,k9,bu⟩);refine e8 ?_ rfl (bu);exact⟨l,rfl,bx,bn,k9⟩
   intro x H a;simp only[n9,g0,o7,uV];rintro ao N P z⟨l,ap,bw,A,k4⟩;simp only[ao,N,P,z,ap];clear ao N P z ap;have y:=q.h a;have L:=an.h a;gi_wp2_with(refine eY rfl _ _ _ 146 9 24 rfl underlying146 underlying9 C _ rfl y.m nm rfl (p7 l.1) rfl ?_;intro F bv aq);go_wp2;go_roundg (D ds-(k+1));exact⟨k+1,O8 yD d l,a8,a8,o3,by rw[bh.O];exact y.put (x:=(⟨nm,i,B,m,s⟩,xs)) bw A (by dsimp only;rw[ab];rfl) bv aq,L.grown aq (λe=>by have:=y.g;have:=L.lt;injection e with e;omega),λp t=>(pI d l p t).elim (λj=>bo p j) (λj=>by rw[j];exact k4)⟩;omega
  rw[ab]at S;simp only[Option.map_some]at S;have ez:=ab;obtain⟨⟨ag,E,ad,af,ae⟩,fj⟩:=eh;by_cases ct:i<E
  ·go_wp2_with(refine D8 rfl _ _ 146 9 24 rfl underlying146 underlying9 (Ag #[Y ⟨#[]⟩,I M 0,Z J 0 0]) (by intro w;kernel_rfl) C _ rfl W.m nm rfl ?_;rw[S];unfold p7;simp only[Option.getD_some,Option.isSome_some]);have G:=bf.alloc (U #[Y ag,I M E,Z ad af ae] 24);have q:=W.h ((a9.refl _).alloc (U #[Y ag,I M E,Z ad af ae] 24));have an:=aa.alloc (U #[Y ag,I M E,Z ad af ae] 24);have bk:=ce.h ((a9.refl _).alloc (U #[Y ag,I M E,Z ad af ae] 24));go_wp2_with fail;refine wpIn_wide.1 (aO (n:=1) ?_);iterate 4 (apply D7;focus (intro x H a;simp only[g0,g5,uV];(repeat intro bm;try simp only[bm]);have aw:=(G.h a).cell 0;have ax:=(G.h a).cell 1;have ay:=(G.h a).cell 2;gi_wp2_with fail;exact dn rfl rfl (a9.refl _)))
   refine r7 ((VP.cop (⟨nm,i,B,m,s⟩,xs))) ?_ ?_;·intro x H a;simp only[g0,g5,uV,VP.cop];intro z;simp only[z];gi_wp2_with(refine⟨trivial,?_⟩;gi_at_call 74;apply((Cw (n:=0)).2 (xP (⟨nm,i,B,m,s⟩,xs) H (bk.h a) cf.O)).mono;rintro e en⟨l,rfl,bx,bn,k9,bu⟩);refine e8 ?_ rfl (bu);exact⟨l,rfl,bx,bn,k9⟩
   intro x H a;simp only[n9,g0,o7,uV];rintro ao N P z⟨l,ap,bw,A,k4⟩;simp only[ao,N,P,z,ap];clear ao N P z ap;have y:=q.h a;have L:=an.h a;gi_wp2_with(refine eY rfl _ _ _ 146 9 24 rfl underlying146 underlying9 C _ rfl y.m nm rfl (p7 l.1) rfl ?_;intro F bv aq);go_wp2;go_roundg (D ds-(k+1));exact⟨k+1,O8 yD d l,a8,a8,o3,by rw[bh.O];exact y.put (x:=(⟨nm,i,B,m,s⟩,xs)) bw A (by dsimp only;rw[ab];exact if_pos ct) bv aq,L.grown aq (λe=>by have:=y.g;have:=L.lt;injection e with e;omega),λp t=>(pI d l p t).elim (λj=>bo p j) (λj=>by rw[j];exact k4)⟩;omega
  have dg:=a6 (cx (⟨nm,i,B,m,s⟩,xs) rfl);have fc:Dc (i<E)=Bf:=decide_eq_false ct;go_wp2_with(refine D8 rfl _ _ 146 9 24 rfl underlying146 underlying9 (Ag #[Y ⟨#[]⟩,I M 0,Z J 0 0]) (by intro w;kernel_rfl) C _ rfl W.m nm rfl ?_;rw[S];unfold p7;simp only[Option.getD_some,Option.isSome_some]);have q:=W.h ((a9.refl _).alloc (U #[Y ag,I M E,Z ad af ae] 24));have an:=aa.alloc (U #[Y ag,I M E,Z ad af ae] 24);go_roundg (D ds-(k+1));have e:=dg.O;rw[ab]at e;simp only[HQ,if_neg (a8:¬i<E)]at e;exact⟨k+1,d,a8,a8,o3,by rw[bh.O,<-q.e,<-e];exact⟨q.m,q.r,rfl,by rw[q.e];exact q.n,q.x,q.g⟩,an,bo⟩;omega
 obtain rfl:k=D ds:=a8;rw[List.take_length]at h;have dv:Dc ((D ds:Int)<D ds)=Bf:=i3;have cu:D d<=1000:=by
  have dm:D (d.map j5)=D (z7 (ds.map j5)):=by rw[h.e]
  have dp:=qQ (ds.map j5);simp at dm dp;omega
 have dx:(d.map λp:PF=>p.1.name).Nodup:=by have:=h.n;rw[<-h.e,List.map_map]at this;exact this
 have ch:=a6 (callsIn_wide.1 (KO C wr));have cb:=(a9.refl wr).alloc (U #[.map (So C)] 146);obtain⟨cc,ck,cn,df⟩:=F6 (callsIn_wide.1 (mW wr C (d.map w3) (d.map (·.1)) (by simpa using cu) (by rw[List.map_map,List.map_map];rfl) _ (e7.new wr _ _) (h.m.h cb))) (h.h cb) (a.h cb) h.e;clear h a;go_wp2_with fail;apply ZG ch;go_wp2_with fail;apply cc.mono;rintro e el⟨v,ys,rfl,t,az,bb⟩;obtain⟨ei,dy,dz,ea⟩:=LO dx t;have ed:D ys<=1000:=by rw[t.length_eq];simpa using cu
 obtain⟨cg,y,L⟩:=r6 (HT NV q9 isAgg24 sizeOf24 (qY s8.name) (jK s8.name) 78 (Eo func78 g6 rfl) a3F 24 v ys _ el a8 az) (ck.h bb) (cn.h bb);obtain⟨ep,fi,eu,rfl⟩:=az.f;go_wp2_with fail;apply(show Ca prog 77 _ _ _ from cg.O).mono;rintro e em⟨rfl,bd,cr⟩;have cp:=a9.f bb cr (λk e=>(az.lt e).1);have bj:=ck.h cp;have cm:=cn.h cp;have cd:=a6 (xP u em (dh.h bj.x) du);have fh:D (cD (qY s8.name) ys)<=1000:=by rw[cW _ (jK s8.name)];exact ed
 obtain⟨er,ev,A,_,_,ee⟩:=bd.inM;rw[A]at bd⊢;obtain⟨es,bg⟩:=j0 bd bj;obtain⟨fk,fl,fm⟩:=cm.c3;clear az bb bd bj cm y L cg cc ch cr t;unfold p7 at cd;go_wp2_with fail;apply cd.mono;rintro e F⟨⟨⟨al,aj,ah,ak,ai⟩,eo⟩,rfl,ej,dk,ky,bc⟩;have di:=e7.new F 24 #[Y al,I M aj,Z ah ak ai];have db:=(a9.refl F).alloc (U #[Y al,I M aj,Z ah ak ai] 24);have eg:c7 (F.alloc (U #[Y al,I M aj,Z ah ak ai] 24)) F 24 q9 (Z F 1 1) [⟨al,aj,ah,ak,ai⟩]:=c7.ofBlk1 di (a7 _) e6;dsimp only;go_wp2_with(at_builtin;refine h8 rfl (Tm 56) (Tm 57) 25 24 rfl a2z F _ [⟨al,aj,ah,ak,ai⟩] rfl eg _ _ _ (cD (qY s8.name) ys) rfl rfl ((ee.h bc).h db) G6 i3 ?_;intro fn fo da ec fd fa;obtain⟨dc,ef,dj,rfl⟩:=da.f);have bl:=ec F db (a7 _);have eb:=((bg.x).trans bc).trans bl;go_ret2;refine⟨Z dc ef dj,(⟨al,aj,ah,ak,ai⟩,eo)::ei,by rw[am.O];rfl,?_,λp t=> ?_,?_,eb⟩;rw[List.map_cons,dz];exact da.mono (b6 bg.x.size bc.size);rcases List.mem_cons.1 t with j|j
 rw[j];exact ej.h bl;exact((bg.r p (dy.subset j)).h bc).h bl;rw[List.map_cons,ea,df.O,am.O,dk]
end
end Go.Proofs.YtcljlejgllkcjaaGreat
