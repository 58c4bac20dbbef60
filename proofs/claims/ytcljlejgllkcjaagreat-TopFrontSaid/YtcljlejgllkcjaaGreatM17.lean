/- A part of the proof of TopFront: lemmas on the walks of its calls. -/
import Derived.Test.YtcljlejgllkcjaaGreatM16
set_option maxHeartbeats 12000000
set_option linter.all false
set_option maxRecDepth 100000
namespace Go.Proofs.YtcljlejgllkcjaaGreat
open Go.RowKit Go.ChangeShapes Go.WideShapes Tryz
open Bool renaming and_eq_true→j3,true→Bt,false→Bf
open Ending renaming returned→X
open Go renaming World→Wd,Value→Va,Calls→Ca,callsIn_wide→Cw,bodyPost_ret→Bp,TypeId→Ti,callsIn_of_wp→Co,rounds_succ→Rs
open IntKind renaming i64→M,u32→V,u64→U6,u16→U1,u8→U8
open List renaming getD_eq_getElem?_getD→b9,getElem?_eq_getElem→e9,length_append→g1,getElem_mem→g3,take_succ_eq_append_getElem→g2,length_map→i1,length_cons→i4,range→m9,length_take→m4,replicate→p4,append_assoc→p6,length→D
open Nat renaming le_refl→a7,le_trans→b6,zero_le→c6,add_zero→j8
open Obj renaming cells→U
open Operand renaming tmp→Tm
open Option renaming none→J,some→So
open Value renaming int→I,slice→Z,string→Y,pointer→K,bool→O,func→Fc,tuple→Tp,agg→Ag
section
open Go.Maps
theorem a5H:Keyed prog 32:=int_keyed underlying32
theorem ZR(w:Wd):(zeroValue 3).run prog w= .ok (I M 0) w:=g6
structure sM(W:Wd)(gm m:Nat)(ps:List Sy)(Xa:DataW Unit):Prop where
 own:W.ownsMap prog 32 (plainElem (H:=Unit) prog 3) gm m Xa
 isM:IsMap Xa
 at_:∀Xb:Int,Xa.atKey (.int .u32 Xb) (.lit (.int .i64 0))= .lit (.int .i64 ((U5 ps Xb 0 m:Nat):Int))
theorem sM.h{W W':Wd}{b m:Nat}{d:List Sy}{a:DataW Unit}(i:sM W b m d a)(e:a9 W W'):sM W' b m d a:=by obtain⟨c,j,k⟩:=i;have o:=c.lt;obtain⟨h,g,n,f,p,l⟩:=c;exact⟨⟨h,g,(e.block o).trans n,f,p,l⟩,j,k⟩
theorem NG(w:Wd)(c:List Sy)(a:Nat)(b:a=w):sM (w.alloc (.map #[] 0)) a 0 c (.map []):=by subst b;exact⟨World.ownsMap_made _ _ _ _,isMap_empty,λd=>rfl⟩
theorem VF{W':Wd}{d m:Nat}{c:List Sy}{b:DataW Unit}(hi:IsMap b)(h:∀a:Int,b.atKey (.int .u32 a) (.lit (.int .i64 0))= .lit (.int .i64 ((U5 c a 0 m:Nat):Int)))
 (g:(c.getD m i0).code=6) (kk:Int) (f:(c.getD m i0).k=kk) (i:W'.ownsMap prog 32 (plainElem (H:=Unit) prog 3) d (m+1) (b.put (.int .u32 kk) (.lit (.int .i64 m)))):
 sM W' d (m+1) c (b.put (.int .u32 kk) (.lit (.int .i64 m))):=by
 refine⟨i,hi.put _ _,λa=> ?_⟩;unfold U5;by_cases e:a=kk;subst e;rw[atKey_put_same hi (k:= .int .u32 a) True.intro,if_pos ⟨g,f⟩];rw[atKey_put_other (λq=>e (by injection q)),if_neg (λq=>e (by rw[<-q.2];exact f)),h]
theorem NH{W:Wd}{d m:Nat}{b:List Sy}{c:DataW Unit}(a:sM W d m b c)(f:(b.getD m i0).code≠6):sM W d (m+1) b c:=
 ⟨a.own.mono a8,a.isM,λe=>by
  unfold U5;rw[if_neg (λq=>f q.1)];exact a.at_ e⟩
theorem AS{W:Wd}{d m:Nat}{b:List Sy}{g:DataW Unit}(f:sM W d m b g)(kk:Int)(l:0<=kk/\kk<4294967296):(Instr.lookup 491 (.map (So d)) (.int .u32 kk) Bf).run prog W= .ok (.int .i64 ((U5 b kk 0 m:Nat):Int)) W:=by
 have k:(Lit.int .u32 kk).wf=Bt:=by have h:IntKind.u32.min=0:=e6;have i:IntKind.u32.max=4294967295:=e6;unfold Lit.wf;rw[j3,decide_eq_true_eq,decide_eq_true_eq,h,i];omega
 obtain⟨c,j,a,_⟩:=f.own.lookup_int a5H underlying491 underlying3 (ZR W) (keyOf_int_mk underlying32 k);rw[f.at_]at a;generalize((U5 b kk 0 m:Nat):Int)=v at*;have e:v=c:=by simp only[DataW.lit.injEq,Lit.int.injEq,true_and]at a;exact a
 rw[j,e]
theorem a0i(j gb k b o n c:Nat)(a:List Sy)(w:DataW Unit)(u:D a=n)(P:n<=131072)(r:∀i∈a,i.ok)(W:Wd)(l:e7 W j 180 #[Z (So ⟨b,o,J⟩) n c])(m:e7 W gb 491 #[.map (So k)])(p:i5 W (So ⟨b,o,J⟩) (sc a))(g:sM W k n a w)
 (t:Int) (E:0<=t/\t<n):
 Ca prog 399 #[I M t,K j,K gb] W λe F=>e=X (I M (dG a t))/\a9 W F:=by
 obtain⟨t,rfl⟩:∃x:Nat,t=x:=⟨t.toNat,a8⟩;have f:t<D a:=a8;obtain⟨G,H,L,N⟩:=G7 p f;have q:dG a t=if a[t].code=6 then((U5 a a[t].k 0 n:Nat):Int)else(t:Int):=by unfold dG;rw[Int.toNat_natCast,show a.getD t i0=a[t] by simp[b9,f],u]
 rw[q];have y:=l.cell 0;have A:=m.cell 0;have Q:(0:Int)<=t:=a8;have R:(t:Int)<n:=a8;have h:=(r _ (g3 f)).2.1;have B:=AS g a[t].k h;have C:=AS (g.h (a9.refl W).drew) a[t].k h;generalize a[t]=s at*;obtain⟨co,kk,th,el⟩:=s;dsimp only at*;simp only[List.getElem?_toArray,List.getElem?_cons_zero]at y A;clear q p u f E g l m h r;by_cases d:co=6
 ·rw[if_pos d];have z:(co==6)=Bt:=by simpa using d
  generalize((U5 a kk 0 n:Nat):Int)=v at*;clear d;go_in;go_wp2_with fail;go_region
  all_goals go_wp2;go_ret;exact⟨rfl,(a9.refl _).drew⟩
 rw[if_neg d];have z:(co==6)=Bf:=by simpa using d
 clear d B C;go_wp2;go_ret;exact⟨rfl,a9.refl _⟩
theorem a0h(b o n c:Nat)(a:List Sy)(w:Wd)(aq:D a=n)(v:C5 a)(an:∀i∈a,i.ok)(ag:i5 w (So ⟨b,o,J⟩) (sc a)):
 Ca prog 319 #[.slice (So ⟨b,o,J⟩) n c] w λe ay=>∃g F R,e= .returned (.slice (So ⟨g,0,J⟩) n F)/\e7 ay g 417 (sc (K6 a)++R).toArray/\w.heap.size<=g/\a9 w ay:=by
 have bz:= @run_makeMap prog;have bt:1<=n:=by have:=v.l1;omega
 have ax:n<=131072:=by have:=v.l2;omega
 obtain⟨B,l,C,aa⟩:=F6 ag aq v an;clear ag aq v an;go_in;go_wp2_with fail;have ab:=e7.new w 180 #[.slice (So ⟨b,o,J⟩) n c];have ba:=NG (w.alloc (.cells #[.slice (So ⟨b,o,J⟩) n c] 180)) a (w+1) i3;have ad:e7 (((w.alloc (.cells #[.slice (So ⟨b,o,J⟩) n c] 180)).alloc (.map #[] 0)).alloc (.cells #[.map (So (w+1))] 491)) (w+1+1) 491 #[.map (So (w+1))]:=e7.b i3;have ae:=(((a9.refl w).alloc (.cells #[.slice (So ⟨b,o,J⟩) n c] 180)).alloc (.map #[] 0)).alloc (.cells #[.map (So (w+1))] 491);have ac:=(ab.alloc (.map #[] 0)).alloc (.cells #[.map (So (w+1))] 491);have az:=ba.h ((a9.refl _).alloc (.cells #[.map (So (w+1))] 491));have ar:(((w.alloc (.cells #[.slice (So ⟨b,o,J⟩) n c] 180)).alloc (.map #[] 0)).alloc (.cells #[.map (So (w+1))] 491)).heap.size=w.heap.size+3:=i3;have bk:=a6 az;clear ab ba az;generalize((w.alloc (.cells #[.slice (So ⟨b,o,J⟩) n c] 180)).alloc (.map #[] 0)).alloc (.cells #[.map (So (w+1))] 491)=w0 at*;obtain⟨bb,bd,bg,bu⟩:=F6 ac ad ae ar;clear ac ad ae ar;go_loopw [9] (λQ W=>∃(k:Nat)(q:DataW Unit),k<=n/\Q= .int .i64 k/\a9 w W/\w6 (sM W (w+1) k a q)/\e7 W w 180 #[.slice (So ⟨b,o,J⟩) n c]/\e7 W (w+1+1) 491 #[.map (So (w+1))]) (λQ _=>n-(intOf Q).toNat);exact⟨0,_,c6 _,rfl,bg.O,bk,bb.O,bd.O⟩;obtain⟨k,q,bx,rfl,p,h,d,j⟩:=hrel;by_cases br:k<n
 ·have N:k<D a:=by rw[l.O];exact br
  obtain⟨cc,cd,ce,cf⟩:=G7 (B.h p) N;have ai:a.getD k i0=a[k]:=by simp[b9,N]
  have cb:=(aa _ (g3 N)).2.1;have k1:(0:Int)<=k:=a8;have k2:(k:Int)<n:=a8;have k3:(k:Int)<=131072:=a8;have aw:=p.alloc (.cells #[.int .u16 a[k].code,.int .u32 a[k].k,.int .i64 a[k].th,.int .i64 a[k].el] 417);have T:=a6 ai;clear ai;generalize a[k]=s at*;obtain⟨co,kk,th,el⟩:=s;dsimp only at*;have bm:=e7.new wr 417 #[.int .u16 co,.int .u32 kk,.int .i64 th,.int .i64 el];have f:=(a9.refl wr).alloc (.cells #[.int .u16 co,.int .u32 kk,.int .i64 th,.int .i64 el] 417);obtain⟨cg,ch,ci,cj⟩:=(bm).c4;have E:=(d.h f).cell 0;have bo:=(j.h f).cell 0;simp only[List.getElem?_toArray,List.getElem?_cons_zero]at E bo;by_cases m:co=6
  ·have bn:(co==6)=Bt:=by simpa using m
   have ao:=(h.h f).own;obtain⟨hi,bp⟩:=j0 h.isM h.at_;have au:(Lit.int .u32 kk).wf=Bt:=by have G:IntKind.u32.min=0:=e6;have L:IntKind.u32.max=4294967295:=e6;unfold Lit.wf;rw[j3,decide_eq_true_eq,decide_eq_true_eq,G,L];omega
   have av:(Lit.int .i64 (k:Int)).wf=Bt:=by have G:IntKind.i64.min= -9223372036854775808:=e6;have L:IntKind.i64.max=9223372036854775807:=e6;unfold Lit.wf;rw[j3,decide_eq_true_eq,decide_eq_true_eq,G,L];omega
   have aj:keyOf prog 32 (.int .u32 kk)=So (.int .u32 kk):=keyOf_int_mk underlying32 au;have ah:(a.getD k i0).code=6/\(a.getD k i0).k=kk:=by rw[T.O];exact⟨m,rfl⟩
   have S:=a6 ah;have am:k<maxLen:=by unfold maxLen;omega
   obtain⟨bj,bh,bi,y,z⟩:=Y2 (plainElem_int (H:=Unit) underlying3 av) aj am (d.h f) (j.h f);clear au av ah m d j h aj am;go_wp2_with(at_mapUpdate;refine wpList_mapUpdate_own _ rfl _ _ _ 491 rfl 32 3 a5H underlying491 _ (w+1) k q rfl ao bi _ _ _ rfl rfl bh _ [] bj.O ?_;intro ck ap x);have ak:So w.heap.size≠So (w.heap.size+1):=λe=>by injection e with e;omega
   have al:So (w.heap.size+1+1)≠So (w.heap.size+1):=λe=>by injection e with e;omega
   obtain⟨bc,be,bl,A⟩:=F6 (y.grown x ak) (z.grown x al) (aw.grown x (λr e=>by injection e with e;omega)) (VF hi bp S.1 kk S.2 ap);clear ao ap x ak al;go_roundw;exact⟨k+1,_,a8,o3,bl.O,A,bc.O,be.O⟩;simp[intOf];omega
  have bn:(co==6)=Bf:=by simpa using m
  obtain⟨A,y,z⟩:=r6 (NH (h.h f) (by rw[T.O];exact m)) (d.h f) (j.h f);clear m d j h;go_wp2;go_roundw;exact⟨k+1,q,a8,o3,aw,A,y.O,z.O⟩;simp[intOf];omega
 obtain rfl:k=n:=a8;have E:=d.cell 0;simp only[List.getElem?_toArray,List.getElem?_cons_zero]at E;have ca:=C.l2;have bf:=a6 (pN.2.2 w (w+1+1) (dG a) (λt=>0<=t/\t<k) b o k c a wr l bt ax (B.h p)
  (λi hi=>⟨_,_,E3 (C.one i (by rw[l.O];exact hi))⟩)
  (λi hi t P=>by
   have af:=E3 (C.one i (by rw[l.O];exact hi))
   rw[l.O]at af
   have bv:=DQ af P
   omega)
  (λW t u P=>a0i w (w+1+1) (w+1) b o k c a q l ax aa W (d.h u) (j.h u) (B.h (p.trans u)) (h.h u) t P))
 clear d j h;go_wp2_with fail;apply(bf.O).mono;rintro e cm⟨g,F,R,rfl,bq,bw,bs⟩;go_wp2;go_ret;exact⟨g,F,R,rfl,bq,by have:=p.size;omega,p.trans bs⟩
end
theorem TU{w:Wd}{base d:Nat}{e:Ti}{h n:Nat}{v:Va}{xs:List Va}(f:w.ownsRow base e h v n xs)(i:d<=base):w.ownsRow d e h v n xs:=
 ⟨f.1,f.2.imp id (λ⟨g,cap,cur,a,b,c⟩=>⟨g,cap,cur,a,b6 i b,c⟩)⟩
def IN(a:List Sy)(k:Nat):o5:=(m9 (D a)).map λi=>if i<k then(o6 a i:Int)else 0
theorem nJ(a:List Sy)(k:Nat):D (IN a k)=D a:=by simp[IN]
theorem a0y(a:List Sy)(k i:Nat)(b:i<D a):(IN a k).getD i 0=if i<k then(o6 a i:Int)else 0:=by simp[IN,b9,b]
theorem TL(a:List Sy):IN a 0=p4 (D a) 0:=by unfold IN;refine List.ext_getElem i3 λi b c=>i3
theorem a0x(a:List Sy)(k:Nat)(c:k<D a):(IN a k).set k (o6 a k:Int)=IN a (k+1):=by
 refine List.ext_getElem (by rw[List.length_set,nJ,nJ]) λi d f=> ?_
 rw[List.getElem_set];simp only[IN,List.getElem_map,List.getElem_range];by_cases e:k=i;subst e;rw[if_pos rfl,if_pos a8];rw[if_neg e];by_cases b:i<k;rw[if_pos b,if_pos a8];rw[if_neg b,if_neg a8]
theorem gO{a:List Sy}(c:C5 a)(i:Nat)(b:i<D a):(eA a)[i]? =So (r5 a i):=by rw[HH c];simp[b]
def L2(a:List Sy)(m:Nat):List Sy:=((m9 m).filter (r5 a)).map λi=>mv (I7 a) (a.getD i i0)
theorem GP(a:List Sy)(m:Nat):D (L2 a m)=o6 a m:=by unfold L2 o6;rw[i1]
theorem GO(a:List Sy)(m:Nat)(b:r5 a m=Bt):L2 a (m+1)=L2 a m++[mv (I7 a) (a.getD m i0)]:=by unfold L2;rw[List.range_succ,List.filter_append,List.map_append];simp[b]
theorem PD(a:List Sy)(m:Nat)(b:r5 a m=Bf):L2 a (m+1)=L2 a m:=by unfold L2;rw[List.range_succ,List.filter_append,List.map_append];simp[b]
theorem OF:(prog.info? 3).map (λi=>(i.zero,i.size,i.bytes))=So (So (I M 0),1,8):=g6
theorem FD(n:Nat):madeCells #[I M 0] n=(l8 M (p4 n 0)).toArray:=by apply Array.toList_inj.1;rw[toList_madeCells_one];simp[l8]
theorem a0T(n:Nat)(a:n<=131072)(w:Wd):(Instr.makeSlice 28 (I M (n:Int)) (I M (n:Int))).run prog w= .ok (Z w n n) (w.alloc (U (l8 M (p4 n 0)).toArray 3)):=by rw[<-FD];exact J3 28 3 (I M 0) 8 underlying28 OF rfl M M n n (a7 _) a8 a8 w
theorem KD{W:Wd}{g:Nat}{l:o5}(b:e7 W g 3 (l8 M l).toArray)(k:Nat)(a:k<D l):W.cell? ⟨g,k,J⟩=So (I M (l.getD k 0)):=
 (b.cell k).trans (by rw[List.getElem?_toArray,Q9 a,b9,e9 a];rfl)
theorem GY{W:Wd}{g:Nat}{l:o5}(h:e7 W g 3 (l8 M l).toArray)(k:Nat)(v:Int):e7 (W.setCell ⟨g,k,J⟩ (I M v)) g 3 (l8 M (l.set k v)).toArray:=by have:=h.f k (I M v);rwa[show(l8 M l).toArray.setIfInBounds k (I M v)=(l8 M (l.set k v)).toArray by simp[l8,List.map_set]]at this
theorem rD{W:Wd}{g:Nat}{l:List Bool}{b:Bool}(a:e7 W g 4 (G3 l))(k:Nat)(e:l[k]? =So b):W.cell? ⟨g,k,J⟩=So (O b):=by obtain⟨c,d⟩:=List.getElem?_eq_some_iff.1 e;have:=(a.cell k).trans (L3 l k c);rwa[d]at this
theorem a07(gb b n:Nat)(a:List Sy)(i:D a=n)(W:Wd)(c:e7 W gb 28 #[Z b n n])(d:e7 W b 3 (l8 M (IN a n)).toArray)(t:Int)(j:0<=t/\t<n):
 Ca prog 404 #[I M t,K gb] W λe k=>e=X (I M (I7 a t))/\a9 W k:=by
 obtain⟨t,rfl⟩:∃x:Nat,t=x:=⟨t.toNat,a8⟩;have f:I7 a t=(o6 a t:Int):=by unfold I7;rw[Int.toNat_natCast]
 rw[f];have h:=KD d t (by rw[nJ];omega);rw[a0y a n t a8,if_pos a8]at h;have g:=c.cell 0;simp only[List.getElem?_toArray,List.getElem?_cons_zero]at g;have l:(0:Int)<=t:=a8;have m:(t:Int)<n:=a8;generalize o6 a t=x at*;clear c d i j f;go_in;go_wp2;go_ret;exact⟨rfl,a9.refl _⟩
theorem a06(b o n c:Nat)(a:List Sy)(w:Wd)(G:D a=n)(B:C5 a)(S:i5 w (So ⟨b,o,J⟩) (sc a)):
 Ca prog 321 #[Z (So ⟨b,o,J⟩) n c] w λe bz=>∃ag av,e=X (Z ag (o6 a n) av)/\bz.ownsRow w 417 4 (Z ag (o6 a n) av) (o6 a n) (sc (X6 a))/\a9 w bz:=by
 have dh:1<=n:=by have:=B.l1;omega
 have bx:n<=131072:=by have:=B.l2;omega
 have dc:=a0T n bx;obtain⟨dg,hi,bu,bv,bw⟩:=info_parts BF;have cm:=a6 hi;have cs:=a6 bu;have ct:=a6 bv;have cu:=a6 bw;obtain⟨ak,cn,h,y,an⟩:=Y2 (UB (So ⟨b,o,J⟩) n c a w G B S) S G B (show(l8 M (p4 n 0)).toArray=(l8 M (IN a 0)).toArray from by rw[TL,G]);clear hi bu bv bw G B S;go_in;go_wp2_with fail;apply(ak.O).mono;rintro e d⟨rfl,bb,H⟩;have N:=a6 bb;have br:Array.replicate n (I M 0)=(l8 M (p4 n 0)).toArray:=by simp[l8]
 have bf:=(e7.new d 3 (Array.replicate n (I M 0))).alloc (U #[Z d n n] 28);have T:e7 ((d.alloc (U (Array.replicate n (I M 0)) 3)).alloc (U #[Z d n n] 28)) (d+1) 28 #[Z d n n]:=e7.b i3;have al:=a6 (((a9.refl d).alloc (U (Array.replicate n (I M 0)) 3)).alloc (U #[Z d n n] 28));have bg:e7 ((d.alloc (U (Array.replicate n (I M 0)) 3)).alloc (U #[Z d n n] 28)) d 3 (l8 M (IN a 0)).toArray:=by rw[<-an.O,<-br];exact bf
 obtain⟨aj,ah⟩:=j0 bg T;have be:=T.cell 0;simp only[List.getElem?_toArray,List.getElem?_cons_zero]at be;have ds:w<=d.heap.size:=H.size;clear bb bf bg T br ak;go_wp2_with fail;clear be;go_loopw [5,17] (λv l W=>∃k:Nat,k<=n/\v=I M (o6 a k)/\l=I M k/\a9 d W/\e7 W d 3 (l8 M (IN a k)).toArray/\e7 W (d+1) 28 #[Z d n n]) (λ_ l _=>n-(intOf l).toNat);exact⟨0,c6 _,rfl,rfl,al.O,aj.O,ah.O⟩;obtain⟨k,du,rfl,rfl,f,u,z⟩:=hrel;by_cases db:k<n
 ·have cy:=z.cell 0;simp only[List.getElem?_toArray,List.getElem?_cons_zero]at cy;have ai:=a6 (z.far (p:=⟨d,k,J⟩) (by show d+1≠d.heap.size;omega) (I M (o6 a k)));have C:k<D a:=by rw[h.O];exact db
  have ax:=rD (N.h f) k (gO y k C);have cz:=KD u k (by rw[nJ];exact C);have dr:=u.frozen k;have ac:=GY u k (o6 a k);rw[a0x a k C]at ac;have dd:=Z0 a k;have F:=O9 a k;have ea:(0:Int)<=o6 a k:=a8;have eb:(o6 a k:Int)<=131072:=a8;have k1:(0:Int)<=k:=a8;have k2:(k:Int)<n:=a8;obtain⟨ao,q⟩:=j0 ac F;have af:=f.set (p:=⟨d,k,J⟩) (a7 _) (I M (o6 a k));have aq:=a6 af;have ay:=rD (N.h af) k (gO y k C);generalize(IN a k).getD k 0=z0 at cz;generalize o6 a k=ec at*;clear ac F dd C u f af;clear z;rcases g:r5 a k with _|_
  ·rw[g]at ax ay q;rw[if_neg e6]at q;go_wp2;go_roundw;exact⟨k+1,a8,by rw[q.O];rfl,o3,aq.O,ao.O,ai.O⟩;simp[intOf];omega
  rw[g]at ax ay q;rw[if_pos rfl]at q;go_wp2;go_roundw;exact⟨k+1,a8,by rw[q.O];go_num,o3,aq.O,ao.O,ai.O⟩;simp[intOf];omega
 obtain rfl:k=n:=a8;have Q:=a6 (pN.2.1 (d+1) (I7 a) (λt=>0<=t/\t<k) b o k c a wr h dh bx (cn.h (H.trans f))
  (λi hi=>⟨_,_,E3 (y.one i (by rw[h.O];exact hi))⟩)
  (λi hi t ad=>by
   have az:=E3 (y.one i (by rw[h.O];exact hi))
   rw[h.O]at az
   have dq:=DQ az ad
   omega)
  (λW t ba ad=>a07 (d+1) d k a h W (z.h ba) (u.h ba) t ad))
 have ap:=a6 f;have bn:w<=wr.heap.size:=by have:=f.size;have:=H.size;omega
 obtain⟨ck,cf,ci,cg,cc,cd⟩:=dK bn (GP a) (GO a) (PD a) (show L2 a 0=[]from rfl) (show sc (L2 a k)=sc (X6 a)from by unfold L2 X6;rw[h.O]);have cp:=a6 (show(a.map (mv (I7 a))).length=k from by rw[i1];exact h.O);clear u z f al aj ah dc an bn;go_wp2_with fail;apply(Q.O).mono;rintro e L⟨dp,dn,dz,rfl,bh,bm,bt⟩;obtain⟨cb,R,dm⟩:=r6 ((i5.f bh rfl).prefix_) bt bm;clear bh bm bt Q;go_wp2;go_loopw [7,35] (λv l W=>∃(j:Nat)(m:p1)(r:Nat),j<=k/\l=I M j/\(v=Z m (o6 a j) r/\W.ownsRow L 417 4 (Z m (o6 a j) r) (o6 a j) (sc (L2 a j)))/\a9 L W) (λ_ l _=>k-(intOf l).toNat);exact⟨0,J,0,c6 _,rfl,⟨rfl,by rw[cc.O];exact World.ownsRow_nil _ _ _ _⟩,a9.refl _⟩;obtain⟨w0,rfl⟩:∃w0:Wd,w0=wr:=⟨_,rfl⟩;obtain⟨j,m,r,dt,rfl,⟨rfl,E⟩,f⟩:=hrel;by_cases bp:j<k
 ·have aa:j<D a:=by rw[h.O];exact bp
  have bo:j<D (a.map (mv (I7 a))):=by rw[cp.O];exact bp
  have bj:=ci j;have bi:=cg j;have ce:=a6 (cf j);have F:=O9 a j;have dv:=Z0 a j;have bl:(a.map (mv (I7 a)))[j]=mv (I7 a) (a.getD j i0):=by simp[b9,aa]
  have ar:=G7 (cb.h f) bo;rw[bl]at ar;have cv:=a6 (λW'(cx:a9 L W')=>rD (N.h ((ap.trans R.O).trans cx)) j (gO y j aa));generalize mv (I7 a) (a.getD j i0)=s at*;obtain⟨co,kk,th,el⟩:=s;obtain⟨di,dj,dk,dl⟩:=ar;simp only[Nat.zero_add]at di dj dk dl;have dw:(0:Int)<=j:=a8;have dx:(j:Int)<k:=a8;have dy:(j:Int)<=131072:=a8;have au:=e7.new w0 417 #[I U1 co,I V kk,I M th,I M el];have A:=(a9.refl w0).alloc (U #[I U1 co,I V kk,I M th,I M el] 417);obtain⟨ed,ee,ef,eg⟩:=(au).c4;obtain⟨cj,ch,am,Q⟩:=F6 bj bi F (rfl:(⟨co,kk,th,el⟩:Sy)=⟨co,kk,th,el⟩);have aw:=cv _ (f.trans A);clear bj bi F bl aa bo au;rcases g:r5 a j with _|_
  ·have P:=a6 (ch g);have x:=a6 (am.trans (by rw[g,if_neg e6,j8]));rw[g]at aw;have cr:=a6 (eH E A);clear E;go_wp2;go_roundw;exact⟨j+1,m,r,a8,o3,⟨by rw[x.O],by rw[x.O,P.O];exact cr.O⟩,f.trans A⟩;simp[intOf];omega
  have P:=a6 (cj g);have x:=a6 (am.trans (by rw[g,if_pos rfl]));rw[g]at aw;clear g;have da:D (sc (L2 a j))=(o6 a j)*4:=by rw[M8];have:=ce.O;omega
  have ab:=eH E ((A).alloc (U #[I U1 co,I V kk,I M th,I M el] 417));have ae:=((f).trans A).alloc (U #[I U1 co,I V kk,I M th,I M el] 417);have bs:i5 (((w0.alloc (U #[I U1 co,I V kk,I M th,I M el] 417))).alloc (U #[I U1 co,I V kk,I M th,I M el] 417)) ((w0+1):Nat) (sc [⟨co,kk,th,el⟩]):=i5.f (e7.b eX) rfl;have bd:(o6 a j)+1<=1000000:=a8;have bc:24<=10000:=e6;go_wp2_with(refine aN rfl (Tm 44) (Tm 46) 180 rfl L 417 dg _ 4 24 underlying180 cm cs ct cu rfl e6 m ((o6 a j)) r (sc (L2 a j)) rfl ab _ 1 1 (sc [⟨co,kk,th,el⟩]) rfl rfl bs (SE _) bd bc ae.size ?_;intro ca cw eh bq bk df;have de:=ae.app ab (a7 _) bk;rw[<-LV]at bq;clear bk df);clear ab ae bs da bc bd;go_roundw;exact⟨j+1,ca,cw,a8,o3,⟨by rw[x.O],by rw[x.O,P.O];exact bq⟩,de⟩;simp[intOf];omega
 obtain rfl:j=k:=a8;have cq:=a6 E;clear E;go_wp2;go_ret;exact⟨m,r,rfl,by rw[<-cd.O];exact TU cq (by have:=R.size;have:=ck.O;omega),H.trans (ap.trans (R.trans f))⟩
def ZC(m:Nat)(d:List Sy)(w:Wd)(e:Ending)(a:Wd):Prop:=∃g b c,e=X (Z (So ⟨g,0,J⟩) m b)/\e7 a g 417 (sc d++c).toArray/\w.heap.size<=g/\a9 w a
def a56(m:Nat)(d:List Sy)(w:Wd)(e:Ending)(a:Wd):Prop:=∃g b c,e=X (Tp #[Z (So ⟨g,0,J⟩) m b,I M 0])/\e7 a g 417 (sc d++c).toArray/\w.heap.size<=g/\a9 w a
theorem KX(b o n c:Nat)(a:List Sy)(w:Wd)(f:D a=n)(e:C5 a)(d:i5 w (So ⟨b,o,J⟩) (sc a)):Ca prog 320 #[Z (So ⟨b,o,J⟩) n c] w (ZC n (K2 a) w):=
 callsIn_wide.1 (yQ b o n c a w f e d)
theorem a0g(b o n c:Nat)(a:List Sy)(w:Wd)(g:D a=n)(e:C5 a)(f:∀i∈a,i.ok)(d:i5 w (So ⟨b,o,J⟩) (sc a)):Ca prog 319 #[Z (So ⟨b,o,J⟩) n c] w (ZC n (K6 a) w):=
 a0h b o n c a w g e f d
theorem a05(b o n c:Nat)(a:List Sy)(w:Wd)(h:D a=n)(f:C5 a)(j:i5 w (So ⟨b,o,J⟩) (sc a)):Ca prog 321 #[Z (So ⟨b,o,J⟩) n c] w (ZC (D (X6 a)) (X6 a) w):=
 (a06 b o n c a w h f j).mono λe t⟨s,i,l,p,q⟩=>by
  have d:=(CK f).l1;rw[aC,h]at d⊢;obtain⟨g,r,rfl,k,m⟩:=IR p d;exact⟨g,i,r,l,k,m,q⟩
theorem a0B(W:Wd):Ca prog 249 #[] W λe b=>e=X (Ag #[Fc (.func 319) #[] #[],Fc (.func 320) #[] #[],Fc (.func 321) #[] #[]])/\a9 W b:=by have a:=e7.new W 341 #[Fc (.func 319) #[] #[],Fc (.func 320) #[] #[],Fc (.func 321) #[] #[]];go_in;go_wp2;exact Bp (aV rfl _ _ W 341 _ _ rfl a underlying341 rfl g6) rfl ⟨rfl,(a9.refl W).alloc _⟩
theorem a5X(b o n c z:Nat)(a:List Sy)(w:Wd)(j:D a=n)(s:∀i∈a,i.ok)(S:n<=maxLen)(p:i5 w (So ⟨b,o,J⟩) (sc a))(m:eS a=Bt)
 (q:e7 w z 341 #[Fc (.func 319) #[] #[],Fc (.func 320) #[] #[],Fc (.func 321) #[] #[]]):
 Ca prog 250 #[Z (So ⟨b,o,J⟩) n c,Z z 3 3] w (a56 (D (Y1 a)) (Y1 a) w):=by
 have r:=iH m;have h:=R9 r;have A:=fR h;have u:D (K6 a)=n:=by rw[S0];exact j
 have B:D (K2 (K6 a))=n:=by rw[oM h];exact u
 have H:=a6 (KC (So ⟨b,o,J⟩) n c a w j s S p);rw[m]at H;obtain⟨G,C,E,F⟩:=F6 p (λW f=>a0g b o n c a W j r s f) (λg l W f=>KX g 0 n l (K6 a) W u h f) (λg l W f=>a05 g 0 n l (K2 (K6 a)) W B A f);clear m p s j r h A u B;go_in;go_wp2_with fail;refine l4 H λab d=>?_;have v:=(q.h d).cell 0;simp only[List.getElem?_toArray,List.getElem?_cons_zero]at v;go_wp2_with fail;refine wp_loop_rounds 4 ?_;rw[Rs];go_wp2_with fail;apply(C ab (G.h d)).mono;rintro e al⟨ae,ac,aj,rfl,P,ag,k⟩;have x:=(q.h (d.trans k)).cell 1;simp only[List.getElem?_toArray,List.getElem?_cons_zero,List.getElem?_cons_succ]at x;clear v;go_wp2_with fail;rw[Rs];go_wp2_with fail;apply(E _ _ _ (i5.f P rfl).prefix_).mono;rintro e am⟨af,ad,ak,rfl,Q,ah,t⟩;have y:=(q.h ((d.trans k).trans t)).cell 2;simp only[List.getElem?_toArray,List.getElem?_cons_zero,List.getElem?_cons_succ]at y;clear x;go_wp2_with fail;rw[Rs];go_wp2_with fail;apply(F _ _ _ (i5.f Q rfl).prefix_).mono;rintro e an⟨N,L,aa,rfl,R,ai,T⟩;clear y;go_wp2_with fail;rw[Rs];go_wp2;go_ret2;exact⟨N,L,aa,rfl,R,by have:=d.size;have:=k.size;have:=t.size;omega,d.trans (k.trans (t.trans T))⟩
theorem KW(b o n c:Nat)(a:List Sy)(w:Wd)(k:D a=n)(j:∀i∈a,i.ok)(x:n<=maxLen)(h:i5 w (So ⟨b,o,J⟩) (sc a))(f:eS a=Bt):
 Ca prog 163 #[Z (So ⟨b,o,J⟩) n c] w (a56 (D (Y1 a)) (Y1 a) w):=by
 obtain⟨l,p,m⟩:=r6 (λr W t s=>a5X b o n c r a W k j x t f s) a0B h;clear f h j k;go_in;go_wp2_with fail;refine l4 (p _) λB y=>?_;have d:=y.alloc (U #[Fc (.func 319) #[] #[],Fc (.func 320) #[] #[],Fc (.func 321) #[] #[]] 341);have u:=e7.new B 341 #[Fc (.func 319) #[] #[],Fc (.func 320) #[] #[],Fc (.func 321) #[] #[]];go_wp2_with fail;apply(l _ _ (m.h d) u).mono;rintro e E⟨g,q,A,rfl,v,C,z⟩;go_wp2;go_ret2;exact⟨g,q,A,rfl,v,by have:=d.size;omega,d.trans z⟩
section
def gC:s7 B7:=⟨4,λi=>[I U1 i.code,I U8 i.jt,I U8 i.jf,I V i.k],λ_=>rfl,nA⟩
def WK:List Ti:=[182]
structure Wk(W0 W1:Wd)(g:Nat)(a d:Int)(vr va vl vp:Va)(wr:Wd):Prop where
 b:e7 wr g 182 #[I M a,vr,I V d,va,vl,vp]
 t:Tv W0 WK W0 wr
 hg:W0<=g
 f:W1.grownBy wr (So g)
section
variable {W0 W1 wr w':Wd} {g:Nat} {a d:Int} {vr va vl vp:Va}
theorem Wk.h(h:Wk W0 W1 g a d vr va vl vp wr)(x:a9 wr w'):Wk W0 W1 g a d vr va vl vp w':=⟨h.b.h x,h.t.h x,h.hg,h.f.trans (j4 x _)⟩
theorem Wk.set4(h:Wk W0 W1 g a d vr va vl vp wr)(v:Va):Wk W0 W1 g a d vr va v vp (wr.setCell ⟨g,4,J⟩ v):=⟨h.b.f 4 v,h.t.trans (.r h.b h.hg e6 4 v),h.hg,h.f.trans (c8 _ _ _ v)⟩
theorem Wk.set5(h:Wk W0 W1 g a d vr va vl vp wr)(v:Va):Wk W0 W1 g a d vr va vl v (wr.setCell ⟨g,5,J⟩ v):=⟨h.b.f 5 v,h.t.trans (.r h.b h.hg e6 5 v),h.hg,h.f.trans (c8 _ _ _ v)⟩
theorem Wk.tv(h:Wk W0 W1 g a d vr va vl vp wr)(i:Nat)(v:Va):Tv W0 WK wr (wr.setCell ⟨g,i,J⟩ v):= .r h.b h.hg e6 i v
structure cI(w:Wd)(v:Va)(rs:List RR):Prop where
 r:B4 w 254 B8 v rs
 t:∀r∈rs,B4 w 435 y4 r.v r.p.tests
theorem cI.tv{B:Nat}{S:List Ti}{w w':Wd}{v:Va}{rs:List RR}(b:cI w v rs)(t:Tv B S w w')(c:S.contains 254=Bf)(e:S.contains 435=Bf):cI w' v rs:=⟨b.r.tv t c,λr f=>(b.t r f).tv t e⟩
theorem cI.h{w w':Wd}{v:Va}{rs:List RR}(b:cI w v rs)(x:a9 w w'):cI w' v rs:=⟨b.r.h x,λr c=>(b.t r c).h x⟩
theorem XY{a:Nat}{f:p1}{c:Nat}{rs:List RR}(j:Wk W0 W1 g a d (Z f (D rs) c) va vl vp wr)(y:a<6)(p:eT ⟨a,d,rs.map (·.p)⟩)(k:cI wr (Z f (D rs) c) rs):
 Ca prog 109 #[K g] wr λe w'=>e=X (I M 0)/\∃v,Wk W0 W1 g a d (Z f (D rs) c) va v vp w'/\B4 w' 417 aR v (O5 (eZ ⟨a,d,rs.map (·.p)⟩))/\Tv W0 WK wr w':=by
 obtain⟨t,u,w⟩:=j.b.c3;obtain⟨m,n⟩:=j0 (XT a y d f c rs wr p k.r k.t) j;clear j p k;go_in;go_wp2_with fail;apply m.mono;rintro e z⟨v,rfl,o,x⟩;obtain⟨h,l,i,rfl⟩:=o.f;have b:=n.h x;have B:=b.b.frozen 4;have A:z.cell? ⟨g,4,J⟩=So vl:=b.b.cell 4;obtain⟨q,r,s⟩:=r6 (b.set4 (Z h l i)) ((Tv.f x).trans (b.tv 4 (Z h l i))) (o.ty.tv (b.tv 4 (Z h l i)) e6);clear t u w b o x m n;go_wp2;go_ret;exact⟨rfl,_,q.O,s.O,r.O⟩
theorem lZ{f:p1}{c:Nat}{ar:o5}(j:Wk W0 W1 g a d vr (Z f (D ar) c) vl vp wr)(u:0<D ar)(w:D ar<=1000)(p:∀x∈ar,0<=x/\x<6)(n:i5 wr f (l8 M ar)):
 Ca prog 105 #[K g] wr λe w'=>e=X (I M 0)/\∃v,Wk W0 W1 g a d vr (Z f (D ar) c) v vp w'/\B4 w' 417 aR v (O5 (xC (R3 ar)))/\Tv W0 WK wr w':=by
 have t:=j.b.cell 3;obtain⟨l,m⟩:=j0 (PH f c ar wr u w p n) j;clear j n p;go_in;go_wp2_with fail;apply l.mono;rintro e y⟨v,rfl,o,x⟩;obtain⟨h,k,i,rfl⟩:=o.f;have b:=m.h x;have A:=b.b.frozen 4;have z:y.cell? ⟨g,4,J⟩=So vl:=b.b.cell 4;obtain⟨q,r,s⟩:=r6 (b.set4 (Z h k i)) ((Tv.f x).trans (b.tv 4 (Z h k i))) (o.ty.tv (b.tv 4 (Z h k i)) e6);clear t b o x l m;go_wp2;go_ret;exact⟨rfl,_,q.O,s.O,r.O⟩
theorem B4.f{f:Type}{w:Wd}{g n c:Nat}{e:Ti}{E:s7 f}{xs:List f}{j:List Va}(b:e7 w g e (E.row xs++j).toArray)(i:D xs=n):B4 w e E (Z g n c) xs:=
 ⟨_,c,by rw[i],(i5.f b rfl).prefix_,λa h=>by cases h;exact⟨rfl,_,b⟩⟩
theorem CN{r:List Sy}(k:Wk W0 W1 g a d vr va vl vp wr)(h:bZ r)(w:B4 wr 417 aR vl r):
 Ca prog 107 #[K g] wr λe w'=>e=X (I M 0)/\∃v,Wk W0 W1 g a d vr va v vp w'/\B4 w' 417 aR v (Y1 r)/\Tv W0 WK wr w':=by
 obtain⟨y,c,rfl,l,-⟩:=w;obtain⟨b,o,rfl,-⟩:=l.rows e6 h.may.l1;have u:=k.b.cell 4;obtain⟨m,n⟩:=j0 (KW b o (D r) c r wr rfl h.ok (by have:=h.len;unfold maxLen;omega) l (JE h.may)) k;clear k l h;go_in;go_wp2_with fail;apply m.mono;rintro e C⟨j,i,B,rfl,p,-,x⟩;have f:=n.h x;have A:=f.b.frozen 4;have z:=f.b.cell 4;obtain⟨q,s,t⟩:=r6 (f.set4 (Z j (D (Y1 r)) i)) ((Tv.f x).trans (f.tv 4 (Z j (D (Y1 r)) i))) ((B4.f (E:=aR) (c:=i) p rfl).tv (f.tv 4 (Z j (D (Y1 r)) i)) e6);clear u f p x m n;go_wp2;go_ret;exact⟨rfl,_,q.O,t.O,s.O⟩
theorem iY{r:List Sy}(k:Wk W0 W1 g a d vr va vl vp wr)(h:bZ r)(o:B4 wr 417 aR vl r):
 Ca prog 106 #[K g] wr λe w'=>e=X (I M 0)/\∃v,Wk W0 W1 g a d vr va vl v w'/\B4 w' 141 gC v (aW r)/\Tv W0 WK wr w':=by
 have A:=a6 o;obtain⟨s,c,rfl,n,-⟩:=o;have y:=k.b.cell 4;have i:=a6 (VL s (D r) c r wr rfl h.ok n (JE h.may) h.bk);have q:D (aW r)=D (eU r).bk:=List.length_reverse;rw[show(eU r).bk.reverse=aW r from rfl]at i;generalize(eU r).bk.length=m at*;have l:=a6 k;clear k n h;go_in;go_wp2_with fail;apply i.mono;rintro e z⟨j,f,F,rfl,p,-,x⟩;have b:=l.h x;have C:=b.b.frozen 5;have B:z.cell? ⟨g,5,J⟩=So vp:=b.b.cell 5;obtain⟨t,u,w⟩:=r6 (b.set5 (Z j m f)) ((Tv.f x).trans (b.tv 5 (Z j m f))) ((B4.f (E:=gC) (c:=f) p q).tv (b.tv 5 (Z j m f)) e6);clear y b p x i l q;go_wp2;go_ret;exact⟨rfl,_,t.O,w.O,u.O⟩
theorem XX{h:p1}{c:Nat}{rs:List RR}(j:Wk W0 W1 g a d (Z h (D rs) c) va vl vp wr)(u:eT ⟨a,d,rs.map (·.p)⟩)(l:cI wr (Z h (D rs) c) rs):
 Ca prog 110 #[K g] wr λe w'=>e=X (I M 0)/\∃m r b,Wk W0 W1 g a d (Z m (D (b:List RR)) r) va vl vp w'/\cI w' (Z m (D b) r) b/\b.map (·.p)=m3 d rs/\Tv W0 WK wr w':=by
 obtain⟨F,G,H⟩:=j.b.c3;obtain⟨p,q⟩:=j0 (NY a d h c rs wr u l.r l.t) j;clear j u l;go_in;go_wp2_with fail;apply p.mono;rintro e N⟨n,s,b,rfl,w,y,v,x⟩;have o:=q.h x;obtain⟨C,f,A,E⟩:=F6 (cI.mk w y) o v (Tv.f (B:=W0) (S:=WK) x);clear F G H p q w y v x o;go_wp2_with(refine D2 rfl 114 (Tm 13) (Tm 10) rfl g 0 182 [I M a,Z h (D rs) c,I V d,va,vl,vp] #[I M a,Z n (D b) s,I V d] rfl rfl f.b i3 g6 nA ?_;intro P z t);have i:Tv W0 WK N P:= .l t λk L=>by cases L;exact⟨f.hg,_,f.b,rfl⟩
 go_ret;exact⟨rfl,n,s,b,⟨z,f.t.trans i,f.hg,f.f.trans t⟩,C.tv i e6 e6,A.O,E.trans i⟩
end
theorem xR(g gf n s:Nat)(S:Nat->Wd->Prop)(w:Wd)(A:n<=4)(h:S 0 w)
 (l:∀k,k<n->∀W,S k W->∃b,W.cell? ⟨gf,k,J⟩=So (Fc (.func b) #[K g] #[])/\(∀args w,(callFunc b args).run prog w= .ok (.enter b args) w)/\Ca prog b #[K g] W λe W'=>e=X (I M 0)/\S (k+1) W')
 (m:∀W,S n W->∃vp,W.cell? ⟨g,5,J⟩=So vp):
 Ca prog 104 #[K g,Z gf n s] w λe w'=>∃vp,e=X (Tp #[vp,I M 0])/\w'.cell? ⟨g,5,J⟩=So vp/\S n w':=by
 obtain⟨p,q,o⟩:=r6 l m h;clear l m h;go_wp2;go_loopw [11] (λi wr=>∃k:Nat,k<=n/\i=I M k/\w6 (S k wr)) (λi _=>n-(intOf i).toNat);exact⟨0,c6 _,rfl,o⟩;obtain⟨k,y,rfl,f⟩:=hrel;by_cases t:k<n;·have z:(k:Int)<n:=a8;obtain⟨b,x,v,c⟩:=p k t wr f.O;have c:=a6 c;go_wp2_with(go_at_fn b;refine l4 c λB j=>?_;have r:=a6 j;clear j);go_roundw;exact⟨k+1,a8,o3,r⟩;simp[intOf];omega
 obtain rfl:k=n:=a8;obtain⟨vp,u⟩:=q wr f.O;go_wp2;go_ret2;exact⟨vp,rfl,u,f.O⟩
end
section
attribute [local go_sem] Oper.semAt_some
def WM:List Ti:=[247,254]
def mkM(p:j2)(va vf vl vm:Va)(a:Nat)(vr:Va)(df:Int):Array Va:= #[va,I U8 p.fm,vf,I V p.dy,I U8 p.lm,vl,vm,I U8 p.am,I U6 p.sp,O p.we,O p.pe,O p.rt,O p.np,I M a,vr,I V df]
structure Mk(w0 w:Wd)(g:Nat)(p:j2)(va vf vl vm:Va)(a:Nat)(df:Int)(vr:Va)(rs:List RR):Prop where
 b:e7 w g 247 (mkM p va vf vl vm a vr df)
 o:c7 w w0 254 B8 vr rs
 t:∀r∈rs,B4 w 435 y4 r.v r.p.tests
 x:a9 w0 w
 hg:w0<=g
section
variable {w0 w w':Wd} {g:Nat} {p:j2} {va vf vl vm vr:Va} {a:Nat} {df:Int} {rs:List RR}
theorem Mk.h(b:Mk w0 w g p va vf vl vm a df vr rs)(x:a9 w w'):Mk w0 w' g p va vf vl vm a df vr rs:=⟨b.b.h x,b.o.h x,λr c=>(b.t r c).h x,b.x.trans x,b.hg⟩
end
def A3(base:Nat)(ob:Option Nat)(rp:r9)(y:RR)(W:Wd):Prop:=y.p=rp/\c7 W base 435 y4 y.v y.p.tests/\(y.v.ownBlock=J\/y.v.ownBlock≠ob)
structure GR(ob:Option Nat)(base b2:Nat)(v:Va)(xs:List RR)(rp:r9)(W W':Wd):Prop where
 g:W.grownBy W' ob
 old:c7 W base 254 B8 v xs->c7 W' base 254 B8 v xs
 new:∀v' y,c7 W base 254 B8 v' (xs++[y])->A3 b2 ob rp y W->∃y',c7 W' base 254 B8 v' (xs++[y'])/\A3 b2 ob rp y' W'
section
variable {ob:Option Nat} {base b2:Nat} {v:Va} {xs:List RR} {rp:r9} {W W':Wd}
theorem A3.kept{y:RR}(h:A3 b2 ob rp y W)(g:W.grownBy W' ob):A3 b2 ob rp y W':=⟨h.1,h.2.1.kept g h.2.2,h.2.2⟩
theorem GR.h(c:W.grownBy W' J):GR ob base b2 v xs rp W W':=
 have k:∀b zs,c7 W base 254 B8 b zs->c7 W' base 254 B8 b zs:=λb zs q=>q.kept c (by cases b.ownBlock;exact .inl rfl;exact .inr ZH)
 ⟨y7 c ob,k _ _,λv' f d e=>⟨f,k _ _ d,e.kept (y7 c ob)⟩⟩
theorem GR.f(h:a9 W W'):GR ob base b2 v xs rp W W':= .h (j4 h J)
instance (ob:Option Nat)(base b2:Nat)(v:Va)(xs:List RR)(rp:r9):L6 (GR ob base b2 v xs rp) where
 refl W:= .h ⟨rfl,rfl,rfl,a7 _,λ_ _ _=>rfl⟩
 trans a b c h k:=⟨h.g.trans k.g,λq=>k.old (h.old q),λv' f d e=>let⟨y',q3,q4⟩:=h.new v' f d e;k.new v' y' q3 q4⟩
 drew W:= .h (E4 W)
def uS(b2:Nat)(ts:List p3):VR (GR ob base b2 v xs rp):=⟨λu aa=>c7 aa b2 435 y4 u ts/\(u.ownBlock=J\/u.ownBlock≠ob),λ_ _ _ h k=>⟨h.1.kept k.g h.2,h.2⟩⟩
def a5S:VR (GR ob base b2 v xs rp):=⟨λu c=>∃b:RR,u=Ag (B8.c b).toArray/\A3 b2 ob rp b c,λ_ _ _⟨b,d,e⟩ k=>⟨b,d,e.kept k.g⟩⟩
def a6u:VR (GR ob base b2 v xs rp):=⟨λu d=>∃b c,u=Z (So ⟨b,0,J⟩) 1 1/\e7 d b 254 (B8.c c).toArray/\ob≠So b/\A3 b2 ob rp c d,λ_ _ _⟨b,c,f,h,e,i⟩ k=>⟨b,c,f,h.grown k.g (λq=>e q.symm),e,i.kept k.g⟩⟩
def tQ(z:Nat):VR (GR ob base b2 v xs rp):=⟨λu d=>∃c,c7 d base 254 B8 u (xs++[c])/\A3 b2 ob rp c d/\(u.ownBlock=ob\/∀b,u.ownBlock=So b->z<=b),λ_ _ _⟨c,e,f,h⟩ k=>let⟨y',q1,q2⟩:=k.new _ c e f;⟨y',q1,q2,h⟩⟩
end
theorem a5m{c:Type}{W:Wd}{base B:Nat}{e:Ti}{E:s7 c}{v:Va}{xs:List c}{ob:Option Nat}(o:c7 W base e E v xs)(f:∀b,ob=So b->b<B)(h:B<=base):v.ownBlock=J\/v.ownBlock≠ob:=by
 cases d:v.ownBlock with
 |none=>exact .inl rfl
 |some b=>exact .inr λe=>by have:=(o.lt d).1;have:=f b e.symm;omega
theorem EG(a:Nat)(c:Int)(ts:List p3)(b:C2){k:Nat}(d:k<D b):W5 a c ts (b.take (k+1))=W5 a c ts (b.take k)++if(s4 a b[k]).2=0 then [⟨(s4 a b[k]).1,ts,c⟩]else []:=by rw[g2 d];unfold W5;rw[List.filterMap_append];congr 1;simp only[List.filterMap_cons,List.filterMap_nil];split<;>split<;>simp_all
theorem F3{w0 w:Wd}{g:Nat}{p:j2}{va vf vl vm vr:Va}{a:Nat}{df:Int}{rs:List RR}(bs:Mk w0 w g p va vf vl vm a df vr rs)(ct:a<6)(t:Int)(am:Va)(ts:List p3)(bx:B4 w 435 y4 am ts)(dm:D ts<=1000)(az:p1)(c:Nat)(h:C2)(bw:B4 w 9 x4 (Z az (D h) c) h)(dl:D rs+D h<=1000):
 Ca prog 299 #[K g,I V t,am,Z az (D h) c] w λe w'=>e=X (Tp #[])/\∃ay Q,Mk w0 w' g p va vf vl vm a df ay Q/\Q.map (·.p)=rs.map (·.p)++W5 a t ts h/\Tv w0 WM w w':=by
 refine(Cw (n:=1)).1 ?_;obtain⟨be,cj,cf,ck,ce⟩:=Y2 bx bw (λ(W:Wd)(k:B4 W 435 y4 am ts)=>N3 JH y4 yR sizeOf435 a8 k.rd) (λs W=>CO a ct s W) bs;clear bx bw bs;obtain⟨E,aw,F,rfl⟩:∃E aw F,am=Z E aw F:=let⟨E,F,e,_⟩:=be.O;⟨E,_,F,e⟩;refine Co func299 rfl trivial ?_ rfl;simp only[ntmps299,uE,Nat.reduceAdd,Nat.reduceSub];gi_wp2;gi_loopw [14] (λi wr=>∃(k:Nat)(ay:Va)(Q:List RR),k<=D h/\i=I M k/\Mk w0 wr g p va vf vl vm a df ay Q/\Q.map (·.p)=rs.map (·.p)++W5 a t ts (h.take k)/\Tv w0 WM w wr) (λi _=>D h-(intOf i).toNat);exact⟨0,vr,rs,c6 _,rfl,ce.O,by simp[W5],.refl _ _ _⟩;obtain⟨k,l,m,dj,rfl,ah,A,G⟩:=hrel;by_cases bv:k<D h
 ·have av:=cj.tv G e6;have bu:=be.tv G e6;have dk:D m<=D rs+k:=by have:=congrArg List.length A;rw[i1,g1,i1]at this;have au:D (W5 a t ts (h.take k))<=D (h.take k):=List.length_filterMap_le _ _;rw[m4]at au;omega
  obtain⟨b,dp,rfl,di⟩:=av.mem.rows e6 a8;have co:=av.mem.l bv (r:=0) rfl;have bt:=EG a t ts h bv;have bc:=a6 (ck h[k]);simp only[x4,j8,Nat.mul_one]at co;generalize h[k]=s at*;have de:wr.cell? ⟨g,13,J⟩=So (I M a):=ah.b.cell 13;generalize s4 a s=r at*;obtain⟨aj,bq⟩:=r;dsimp only at*;obtain⟨bd,aa,bb,cm⟩:=F6 bt A ah bu;clear bt A ah bu av;by_cases ai:bq=0
  ·subst ai;gi_wp2_with(refine⟨trivial,?_⟩;gi_at_call 389;refine C0 ((Cw (n:=0)).2 (bc _)) λo B=>?_);have u:=bb.h B;have bh:=cm.h B;have bz:∀b,l.ownBlock=So b->b<o.heap.size:=λb H=>(u.o.lt H).2
   obtain⟨ba,ch,z,bf⟩:=F6 (λ(d:Wd)(f:GR l.ownBlock w0 o l m ⟨aj,ts,t⟩ o d)=>show e7 d g 247 (mkM p va vf vl vm a l df)from u.b.grown f.g (λe=>u.o.ne u.b e6 e.symm)) (λ(d:Wd)(f:GR l.ownBlock w0 o l m ⟨aj,ts,t⟩ o d)=>show B4 d 435 y4 (Z E aw F) ts from bh.kept λb2 cs k=>k.grown f.g (λe=>u.o.ne k e6 e.symm)) u bz;have cv:D m+1<=1000000:=a8;have cu:w0<=o.heap.size:=u.x.size;clear u bh bz;refine cB (R:=(GR l.ownBlock w0 o l m ⟨aj,ts,t⟩)) ?_;repeat
    first
     |(apply D7;focus (intro x d f;simp only[g0,g5,uV];(repeat intro cq;try simp only[cq]);have ds:d.cell? ⟨g,14,J⟩=So l:=(ba d f).cell 14;gi_wp2_with fail;exact dn rfl rfl (L6.refl _)))
     |(refine r7 ((uS o ts)) ?_ ?_
       ·intro x d f
        simp only[g0,g5,uV,uS,tQ]
        intro af
        simp only[af]
        gi_wp2_with(refine⟨trivial,?_⟩;gi_at_call 390;apply((Cw (n:=0)).2 (cf d (ch d f))).mono;rintro e dd⟨dr,rfl,cb,cw⟩)
        refine e8 ?_ rfl (GR.f cw)
        exact⟨cb.mono f.g.size,a5m cb (λb H=>bf b H) f.g.size⟩)
     |(refine r7 (a5S) ?_ ?_
       ·intro x d f
        simp only[g0,g5,uV,uS,tQ]
        rintro ae C ag
        simp only[ae,ag]
        obtain⟨cd,cp,ar⟩:=C.1.b
        gi_wp2_with fail
        refine e8 ?_ rfl (GR.f (a9.refl d))
        exact⟨⟨⟨aj,ts,t⟩,cd,cp⟩,by rw[ar];rfl,rfl,by rw[ar]at C;exact C.1,by rw[ar]at C;exact C.2⟩)
     |(refine r7 (a6u) ?_ ?_
       ·intro x d f
        simp only[g0,g5,uV,uS,tQ]
        rintro⟨j,ab,k10⟩
        simp only[ab]
        rw[show(B8.c j).toArray= #[I V j.p.nr,j.v,I V j.p.act]from rfl]
        gi_wp2_with fail
        refine e8 ?_ rfl (GR.f ((a9.refl d).alloc _))
        exact⟨d,j,rfl,e7.new _ _ _,λe=>by have:=bf _ e;have:=f.g.size;omega,k10.kept (j4 ((a9.refl d).alloc _) _)⟩)
     |(refine r7 ((tQ o)) ?_ ?_
       ·intro x d f
        simp only[g0,g5,uV,uS,tQ]
        rintro ad⟨br,j,ac,ca,cy,k11⟩
        simp only[ad,ac]
        gi_wp2_with(gi_at_builtin;go_loud (refine cK rfl _ _ 112 254 rfl EF w0 l m rfl (f.old z.o) br 1 1 [j] rfl rfl (i5.f ca (by simp[s7.row])) cv (b6 cu f.g.size) ?_;intro dq dd cz ak da db dc))
        refine e8 ?_ rfl (⟨ak,λ_=>da,λv' cc cr au=>(db v' (m++[cc]) i3 cr).elim (λk=>⟨cc,k,au.kept ak⟩) (λk=>⟨j,k,k11.kept ak⟩)⟩)
        exact⟨j,cz,k11.kept ak,dc.imp id (λq b H=>by have:=q b H;have:=f.g.size;omega)⟩)
   intro x d f;simp only[n9,g0,g5,uV,uS,tQ];rintro aq bi bm bn bo ad ae af C ag⟨j,ab,k10⟩⟨br,j,ac,ca,cy,k11⟩ cx bj bk bl;simp only[aq,bi,bm,bn,bo,ad,ae,af,ag,ab,ac,bj,bk,bl];clear aq bi bm bn bo ad ae af ag ab ac bj bk bl;obtain⟨j,P,k7,_⟩:=cx;obtain⟨an,ax,ap,bp⟩:=P.f;rw[bp]at P;have N:=ba d f;have dh:=N.frozen 14;have dg:d.cell? ⟨g,14,J⟩=So l:=N.cell 14;have al:Tv w0 WM o d:= .ofOwn z.o f.g (a7 _) e6;have T:=Tv.r N z.hg (S:=WM) e6 14 (Z an ax ap);have cn:=a6 ((G.h B).trans (al.trans T));have bg:Mk w0 (d.setCell ⟨g,14,J⟩ (Z an ax ap)) g p va vf vl vm a df (Z an ax ap) (m++[j]):=by
    refine⟨N.f 14 _,P.kept (c8 _ g 14 _) (.inr (P.ne N e6)),λr L=> ?_,(al.trans T).b z.x (a7 _),z.hg⟩;rcases List.mem_append.1 L with L|L
    exact(z.t r L).tv (al.trans T) e6;rw[List.mem_singleton.1 L];exact k7.2.1.ty.tv T e6
   obtain⟨ci,cg⟩:=j0 bg k7.1;have y:=bd.O;simp only[if_true]at y;have ao:=a6 y;clear al T bg P y k7;simp only[bp];gi_wp2_with fail;go_roundw;exact⟨k+1,_,m++[j],a8,o3,ci.O,by rw[List.map_append,aa.O,ao.O,p6,List.map_singleton,cg.O],cn.O⟩;simp[intOf];omega
  have aq:(bq==0)=Bf:=by simp[ai]
  have y:=bd.O;rw[if_neg ai,List.append_nil]at y;have ao:=a6 y;clear y ai;gi_wp2_with(refine⟨trivial,?_⟩;gi_at_call 389;refine C0 ((Cw (n:=0)).2 (bc _)) λo B=>?_);go_roundw;exact⟨k+1,l,m,a8,o3,bb.h B,by rw[aa.O,ao.O],G.h B⟩;simp[intOf];omega
 obtain rfl:k=D h:=a8;rw[List.take_length]at A;have aa:=a6 A;clear A;gi_wp2_with fail;go_end0;exact⟨rfl,l,m,ah,aa.O,G⟩
end
section
theorem bV{b:Type}{w:Wd}{e:Ti}{E:s7 b}{xs:List b}{cs:Array Va}(d:cs.toList=E.row xs)(n:Nat)(f:D xs=n):B4 (w.alloc (U cs e)) e E (Z w n n) xs:=by subst f;exact⟨_,_,rfl,i5.f (e7.new w e cs) d,λa c=>by cases c;exact⟨rfl,_,e7.new w e cs⟩⟩
def rP(w0:Wd)(g:Nat)(p:j2)(va vf vl vm:Va)(a:Nat)(df:Int)(cs:List RC)(b:Bool)(e:Ending)(d:Wd):Prop:=e=X (O b)/\∃c rs,Mk w0 d g p va vf vl vm a df c rs/\rs.map (·.p)=s6 a cs
theorem M9{rs d:List RR}{a:Nat}{c:Int}{ts:List p3}{b:C2}(e:d.map (·.p)=rs.map (·.p)++W5 a c ts b):D d<=D rs+D b:=by have:=congrArg List.length e;rw[i1,g1,i1]at this;have f:D (W5 a c ts b)<=D b:=List.length_filterMap_le _ _;omega
section
variable {w0 w:Wd} {g:Nat} {p:j2} {va vf vl vm:Va} {a:Nat} {df:Int}
theorem a00(k:Mk w0 w g p va vf vl vm a df (Z J 0 0) [])(l:a<6):
 Ca prog 235 #[K g] w (rP w0 g p va vf vl vm a df (C4 p 6).cs (C4 p 6).ok):=by
 have H:=a6 k;clear k;go_in;have f:=a6 (dC 0 4294967295 2147418112 w 2 2 [0,4294967295] (w.alloc (U #[I U6 0,I U6 4294967295] 34)) rfl e6 (i5.f (e7.new w _ _) rfl));go_wp2_with fail;apply f.mono;rintro e c⟨n,rfl,b,xa⟩;have i:=H.h (((a9.refl w).alloc (U #[I U6 0,I U6 4294967295] 34)).trans xa);have d:=a6 (F3 (i.h ((a9.refl c).alloc (U #[Y O3] 9))) l 327681 n _ (b.ty.h ((a9.refl c).alloc _)) i3 c 1 [O3] (bV rfl 1 rfl) i3);obtain⟨r,s,rfl⟩:=b.b;clear i b xa f;go_wp2_with fail;apply d.mono;rintro e q⟨rfl,o,m,h,j,v⟩;have u:=M9 j;clear d;have t:q.cell? ⟨g,10,J⟩=So (O p.pe):=h.b.cell 10;go_wp2;go_ret;exact⟨rfl,o,m,h,by rw[j];simp[s6,C4,M2]⟩
theorem a0Z(k:Mk w0 w g p va vf vl vm a df (Z J 0 0) [])(l:a<6):
 Ca prog 236 #[K g] w (rP w0 g p va vf vl vm a df (C4 p 7).cs (C4 p 7).ok):=by
 have H:=a6 k;clear k;go_in;have f:=a6 (dC 1 4294967295 2147418112 w 3 3 [0,3,5] (w.alloc (U #[I U6 0,I U6 3,I U6 5] 34)) rfl e6 (i5.f (e7.new w _ _) rfl));go_wp2_with fail;apply f.mono;rintro e c⟨n,rfl,b,xa⟩;have i:=H.h (((a9.refl w).alloc (U #[I U6 0,I U6 3,I U6 5] 34)).trans xa);have d:=a6 (F3 (i.h ((a9.refl c).alloc (U #[Y nM] 9))) l 327681 n _ (b.ty.h ((a9.refl c).alloc _)) i3 c 1 [nM] (bV rfl 1 rfl) i3);obtain⟨r,s,rfl⟩:=b.b;clear i b xa f;go_wp2_with fail;apply d.mono;rintro e q⟨rfl,o,m,h,j,v⟩;have u:=M9 j;clear d;have t:q.cell? ⟨g,11,J⟩=So (O p.rt):=h.b.cell 11;go_wp2;go_ret;exact⟨rfl,o,m,h,by rw[j];simp[s6,C4,M2]⟩
theorem a01(x:Mk w0 w g p va vf vl vm a df (Z J 0 0) [])(h:a<6):
 Ca prog 234 #[K g] w (rP w0 g p va vf vl vm a df (C4 p 5).cs (C4 p 5).ok):=by
 have H:=a6 x;clear x;go_in;have o:=a6 (nQ 2 327681 w 1 1 [6] (w.alloc (U #[I U6 6] 34)) rfl e6 (i5.f (e7.new w _ _) rfl));go_wp2_with fail;apply o.mono;rintro e i⟨E,rfl,b,xa⟩;have c:=H.h (((a9.refl w).alloc (U #[I U6 6] 34)).trans xa);have l:=a6 (F3 (c.h ((a9.refl i).alloc (U #[Y wM] 9))) h 2147418112 E _ (b.ty.h ((a9.refl i).alloc _)) i3 i 1 [wM] (bV rfl 1 rfl) i3);obtain⟨P,S,rfl⟩:=b.b;clear c b xa o;go_wp2_with fail;apply l.mono;rintro e d⟨rfl,ah,ac,y,t,ae⟩;have A:=M9 t;clear l;simp only[List.length_nil,i4]at A;have q:=a6 (nQ 2 327681 d 1 1 [4] (d.alloc (U #[I U6 4] 34)) rfl e6 (i5.f (e7.new d _ _) rfl));go_wp2_with fail;apply q.mono;rintro e j⟨F,rfl,b,xa⟩;have c:=y.h (((a9.refl d).alloc (U #[I U6 4] 34)).trans xa);have m:=a6 (F3 (c.h ((a9.refl j).alloc (U #[Y bB,Y wL] 9))) h 2147418112 F _ (b.ty.h ((a9.refl j).alloc _)) i3 j 2 [bB,wL] (bV rfl 2 rfl) G6);obtain⟨Q,W,rfl⟩:=b.b;clear c b xa q;go_wp2_with fail;apply m.mono;rintro e f⟨rfl,ai,ad,z,u,af⟩;have B:=M9 u;clear m;simp only[List.length_nil,i4]at B;have r:=a6 (nQ 2 327681 f 1 1 [32768] (f.alloc (U #[I U6 32768] 34)) rfl e6 (i5.f (e7.new f _ _) rfl));go_wp2_with fail;apply r.mono;rintro e k⟨G,rfl,b,xa⟩;have c:=z.h (((a9.refl f).alloc (U #[I U6 32768] 34)).trans xa);have n:=a6 (F3 (c.h ((a9.refl k).alloc (U #[Y nL] 9))) h 2147418112 G _ (b.ty.h ((a9.refl k).alloc _)) i3 k 1 [nL] (bV rfl 1 rfl) G6);obtain⟨R,aa,rfl⟩:=b.b;clear c b xa r;go_wp2_with fail;apply n.mono;rintro e N⟨rfl,L,C,s,v,ag⟩;have ab:=M9 v;clear n;have T:N.cell? ⟨g,9,J⟩=So (O p.we):=s.b.cell 9;go_wp2;go_ret;exact⟨rfl,L,C,s,by rw[v,u,t];simp[s6,C4,dW]⟩
end
end
section
section
variable {w0 w:Wd} {g:Nat} {p:j2} {va vf vl vm:Va} {a:Nat} {df:Int}
theorem VH(l:Mk w0 w g p va vf vl vm a df (Z J 0 0) [])(m:a<6):
 Ca prog 233 #[K g] w (rP w0 g p va vf vl vm a df (C4 p 4).cs (C4 p 4).ok):=by
 have H:=a6 l;have ar:w.cell? ⟨g,8,J⟩=So (I U6 p.sp):=l.b.cell 8;have v:=a6 (a0M p.sp w);have bq:=BQ p.sp;have ac:(C4 p 4).cs=[(2147418112,dW 0 327681 (I0 i9 p.sp),[S7,eJ]),(2147418112,dW 1 327681 (I0 i9 p.sp)++M2 1 4294967295 327681 [0],[iD]),(327718,[],[cZ])]:=rfl;have ad:(C4 p 4).ok=(p.sp !=0):=rfl;rw[ac,ad];generalize I0 i9 p.sp=b at*;clear l ac ad;go_in;go_wp2_with fail;apply v.mono;rintro e ag⟨cc,rfl,of,bf⟩;obtain⟨c,au,rfl⟩:=of.b;have aa:i5 ag c (l8 U6 b):=by have:=of.i.1;rwa[s2 U6 yL (λ_=>rfl)]at this
 have L:=H.h bf;obtain⟨y,G,u⟩:=r6 aa of.ty (λ(arg:Int)(W:Wd)(aw:i5 W c (l8 U6 b))=>nQ arg 327681 c (D b) au b W rfl a8 aw);clear ar v aa of;go_wp2_with fail;apply(u 0 ag y.O).mono;rintro e f⟨cd,rfl,o,s⟩;have N:=L.h s;obtain⟨bg,bu,bl,rfl⟩:=o.f;have B:=a6 (F3 ((N).h ((a9.refl f).alloc (U #[Y S7,Y eJ] 9))) m 2147418112 _ _ ((o).ty.h ((a9.refl f).alloc _)) (by(simp;omega)) f 2 [S7,eJ] (bV rfl 2 rfl) i3);try go_wp2_with fail
 apply B.mono;rintro e i⟨rfl,ch,bx,P,S,af⟩;have bs:=M9 S;clear B;have R:=((G.h s).h ((a9.refl f).alloc (U #[Y S7,Y eJ] 9))).tv af e6;have ab:i5 i c (l8 U6 b):=by have:=R.mem;rwa[s2 U6 yL (λ_=>rfl)]at this
 have z:=a6 ab;clear ab R af N o s y G L;go_wp2_with fail;apply(u 1 i z.O).mono;rintro e h⟨ce,rfl,q,t⟩;have F:=a6 (dC 1 4294967295 327681 h 1 1 [0] (h.alloc (U #[I U6 0] 34)) rfl e6 (i5.f (e7.new h _ _) rfl));obtain⟨bh,bv,bm,rfl⟩:=q.f;go_wp2_with fail;apply F.mono;rintro e bd⟨cf,rfl,d,ai⟩;have j:=((a9.refl h).alloc (U #[I U6 0] 34)).trans ai;obtain⟨bi,ba,bn,rfl⟩:=d.f;have n:=d.i.2;obtain⟨A,ak,am⟩:=r6 (q.h j) d.i.1 (t.trans j);have az:D (b.map λx=>(⟨1,x,x,327681⟩:p3))+ba<=1000000:=by rw[<-n];simp;omega
 have al:=a6 n;clear n;have ax:i<=bd.heap.size:=(t.trans j).size;have aj:=a6 P;clear q d t ai j F z P;go_wp2_with(at_builtin;go_loud (refine h8 rfl (Tm 17) (Tm 19) 252 435 rfl yR i _ _ rfl A _ _ _ _ rfl al ak az ax ?_;intro cg r ae br ay bp;have aq:=am.grown ay (λk e=>(A.lt e).1);obtain⟨bj,bw,bo,rfl⟩:=ae.f));have an:=aj.h aq;have ap:=ae;have C:=a6 (F3 ((an).h ((a9.refl r).alloc (U #[Y iD] 9))) m 2147418112 _ _ ((ap).ty.h ((a9.refl r).alloc _)) (by(simp;omega)) r 1 [iD] (bV rfl 1 rfl) (by(simp only[List.length_nil,i4]at*;omega)));try go_wp2_with fail
 apply C.mono;rintro e ah⟨rfl,ci,bz,ao,T,ca⟩;have bt:=M9 T;clear C;have E:=a6 (F3 (ao.h ((a9.refl ah).alloc (U #[Y cZ] 9))) m 327718 _ _ (B4.nil _ _ _) i3 ah 1 [cZ] (bV rfl 1 rfl) (by simp only[List.length_nil,i4]at*;omega));go_wp2_with fail;apply E.mono;rintro e be⟨rfl,bc,bb,Q,av,cb⟩;have bk:be.cell? ⟨g,8,J⟩=So (I U6 p.sp):=Q.b.cell 8;clear E;go_wp2;go_ret;exact⟨rfl,bc,bb,Q,by rw[av,T,S];simp[s6,M2,dW]⟩
end
end
end Go.Proofs.YtcljlejgllkcjaaGreat
