/- A part of the proof of TopSame: lemmas on the walks of its calls. -/
import Derived.Test.YtiomenjfmagknaaGreatM10
set_option maxHeartbeats 12000000
set_option linter.all false
set_option maxRecDepth 100000
namespace Go.Proofs.YtiomenjfmagknaaGreat
open Go.RowKit Go.ChangeShapes Go.WideShapes Tryz
open Bool renaming false_eq_true→a4x,true→Bt,false→Bf
open Decidable renaming decide→Dc
open Ending renaming returned→X
open Go renaming World→Wd,Value→Va,Calls→Ca,TypeId→Ti,Addr→Ad,results_none→Rz
open Int renaming toNat_natCast→a4A
open IntKind renaming i64→M,u32→V,u64→U6,u16→U1,u8→U8
open Lib renaming hid→a6
open List renaming getD_eq_getElem?_getD→a8,getElem?_eq_getElem→e9,length_append→a2e,replicate→a2A,range→q5,length_cons→a3W,getElem_mem→a30,append_assoc→a4s
open Nat renaming le_refl→a7,le_trans→c8,add_zero→a4z,zero_add→a4E
open Obj renaming cells→U
open Operand renaming tmp→Tm
open Option renaming none→J,some→So
open Value renaming int→I,slice→Z,pointer→K,bool→O,tuple→Tp,agg→Ag
theorem a1O(i:i2)(hi:i.ok)(n:j7 i.code=1)(g:Nat)(d:r9)(t:d.ok)(s:Vm)(W:Wd)(B:MB W g d s):
  Ca prog 47 #[K g,i.val] W fun e D=>vA g d W (I M 0) (P2 d i s) e D:=by
 have c:=a6 (fun W=>y7 i.code W);rw[show(Y3 i.code).1.cls=1 from n]at c;have b:=(a9.refl W).alloc (U #[I U1 i.code,I U8 i.jt,I U8 i.jf,I V i.k] 116);obtain⟨j,h,q⟩:=p7 (b9.new W 116 #[I U1 i.code,I U8 i.jt,I U8 i.jf,I V i.k]) (B.h b) (fun W B=>VO i hi n g d t s W B);clear n hi t B;generalize P2 d i s=r at*;obtain⟨s',x⟩:=r;by_cases m:x=0
 ·subst m
  unfold i2.val i2.cells at*;obtain⟨co,C,A,k⟩:=i;dsimp only at*;go_in;go_wp2_with fail
  apply(c _).mono;rintro e E⟨rfl,a⟩;obtain⟨u,v,w,y⟩:=(j.h a).c4;have l:=h.h a;replace b:=b.trans a;clear j h c a;go_wp2_with fail
  apply(q _ l).mono;rintro e F⟨o,f⟩;rw[if_pos rfl]at f;obtain⟨rfl,z⟩:=f;clear u v w y;go_wp2_with fail
  go_ret;exact .yes ((A0.f b).trans o) z
 ·have p:=a6 m
  clear m;unfold i2.val i2.cells at*;obtain⟨co,C,A,k⟩:=i;dsimp only at*;go_in;go_wp2_with fail
  apply(c _).mono;rintro e E⟨rfl,a⟩;obtain⟨u,v,w,y⟩:=(j.h a).c4;have l:=h.h a;replace b:=b.trans a;clear j h c a;go_wp2_with fail
  apply(q _ l).mono;rintro e F⟨o,f⟩;rw[if_neg p.out]at f;subst f;exact⟨rfl,.no p ((A0.f b).trans o)⟩
theorem PW(i:i2)(hi:i.ok)(n:j7 i.code=3)(g:Nat)(d:r9)(s:Vm)(z:s.ok)(W:Wd)(B:MB W g d s):
  Ca prog 47 #[K g,i.val] W fun e D=>vA g d W (I M 0) (y3 i s) e D:=by
 have c:=a6 (fun W=>y7 i.code W);rw[show(Y3 i.code).1.cls=3 from n]at c;have b:=(a9.refl W).alloc (U #[I U1 i.code,I U8 i.jt,I U8 i.jf,I V i.k] 116);obtain⟨j,h,q⟩:=p7 (b9.new W 116 #[I U1 i.code,I U8 i.jt,I U8 i.jf,I V i.k]) (B.h b) (fun W B=>FX i hi n g d s z W B);clear n hi B;generalize y3 i s=r at*;obtain⟨s',x⟩:=r;by_cases m:x=0
 ·subst m
  unfold i2.val i2.cells at*;obtain⟨co,C,A,k⟩:=i;dsimp only at*;go_in;go_wp2_with fail
  apply(c _).mono;rintro e E⟨rfl,a⟩;obtain⟨t,u,v,w⟩:=(j.h a).c4;have l:=h.h a;replace b:=b.trans a;clear j h c a;go_wp2_with fail
  apply(q _ l).mono;rintro e F⟨o,f⟩;rw[if_pos rfl]at f;obtain⟨rfl,y⟩:=f;clear t u v w;go_wp2_with fail
  go_ret;exact .yes ((A0.f b).trans o) y
 ·have p:=a6 m
  clear m;unfold i2.val i2.cells at*;obtain⟨co,C,A,k⟩:=i;dsimp only at*;go_in;go_wp2_with fail
  apply(c _).mono;rintro e E⟨rfl,a⟩;obtain⟨t,u,v,w⟩:=(j.h a).c4;have l:=h.h a;replace b:=b.trans a;clear j h c a;go_wp2_with fail
  apply(q _ l).mono;rintro e F⟨o,f⟩;rw[if_neg p.out]at f;subst f;exact⟨rfl,.no p ((A0.f b).trans o)⟩
theorem a1P(i:i2)(hi:i.ok)(f:j7 i.code=4)(g:Nat)(d:r9)(s:Vm)(o:s.ok)(W:Wd)(B:MB W g d s):
  Ca prog 47 #[K g,i.val] W fun e v=>vA g d W (I M (mE i s)) (s,0) e v:=by
 have c:=a6 (fun W=>y7 i.code W);rw[show(Y3 i.code).1.cls=4 from f]at c;have a:=(a9.refl W).alloc (U #[I U1 i.code,I U8 i.jt,I U8 i.jf,I V i.k] 116);obtain⟨l,j,n⟩:=p7 (b9.new W 116 #[I U1 i.code,I U8 i.jt,I U8 i.jf,I V i.k]) (B.h a) (fun W B=>WU i hi f g d s o W B);clear f hi B;generalize mE i s=r at*;unfold i2.val i2.cells at*;obtain⟨co,x,w,k⟩:=i;dsimp only at*;go_in;go_wp2_with fail
 apply(c _).mono;rintro e y⟨rfl,b⟩;obtain⟨p,q,t,u⟩:=(l.h b).c4;have h:=j.h b;replace a:=a.trans b;clear l j c b;go_wp2_with fail
 apply(n _ h).mono;rintro e z⟨rfl,m⟩;clear p q t u;go_wp2_with fail
 go_ret;exact .yes (A0.f (a.trans m)) (h.h m)
theorem DA(i:i2)(l:j7 i.code=2)(m:16≤i.k)(g:Nat)(d:r9)(s:Vm)(W:Wd)(B:MB W g d s):
  Ca prog 47 #[K g,i.val] W fun e t=>vA g d W (I M 0) (s,43) e t:=by
 have n:=mM l;have f:=a6 (fun W=>y7 i.code W);rw[show(Y3 i.code).1.cls=2 from l]at f;have b:=(a9.refl W).alloc (U #[I U1 i.code,I U8 i.jt,I U8 i.jf,I V i.k] 116);obtain⟨j,h⟩:=i6 (b9.new W 116 #[I U1 i.code,I U8 i.jt,I U8 i.jf,I V i.k]) (B.h b);clear l B;unfold i2.val i2.cells at*;obtain⟨co,y,x,k⟩:=i;dsimp only at*;rcases n with rfl|rfl
 ·
  go_in;go_wp2_with fail
  apply(f _).mono;rintro e u⟨rfl,a⟩;obtain⟨o,p,q,r⟩:=(j.h a).c4;have c:=h.h a;replace b:=b.trans a;clear j h f a;have z:=c.a;have w:=c.x;go_wp2_with fail
  apply(oA g k m _).mono;rintro e v⟨rfl,rfl⟩;exact⟨rfl,.no (by decide) (A0.f b)⟩
 ·
  go_in;go_wp2_with fail
  apply(f _).mono;rintro e u⟨rfl,a⟩;obtain⟨o,p,q,r⟩:=(j.h a).c4;have c:=h.h a;replace b:=b.trans a;clear j h f a;have z:=c.a;have w:=c.x;go_wp2_with fail
  apply(oA g k m _).mono;rintro e v⟨rfl,rfl⟩;exact⟨rfl,.no (by decide) (A0.f b)⟩
theorem xN(co q p:Int)(k:Nat)(j:j7 co=2)(f:k<16)(g:Nat)(d:r9)(s:Vm)(W:Wd)(B:MB W g d s):
  Ca prog 47 #[K g,(⟨co,q,p,k⟩:i2).val] W fun e x=>vA g d W (I M 0) ({s with cs:=s.cs.set k (if co=3 then s.x else s.a)},0) e x:=by
 have r:=mM j;obtain⟨i,hi⟩:∃i:i2,i=⟨co,q,p,k⟩:=⟨_,rfl⟩;rw[←hi];replace j:j7 i.code=2:=by rw[hi];exact j
 have h:=a6 (fun W=>y7 i.code W);rw[show(Y3 i.code).1.cls=2 from j]at h;have c:=(a9.refl W).alloc (U #[I U1 i.code,I U8 i.jt,I U8 i.jf,I V i.k] 116);obtain⟨m,l⟩:=i6 (b9.new W 116 #[I U1 i.code,I U8 i.jt,I U8 i.jf,I V i.k]) (B.h c);clear j B;subst hi;unfold i2.val i2.cells at*;dsimp only at*;rcases r with rfl|rfl
 ·rw[if_neg (by decide)]
  go_in;go_wp2_with fail
  apply(h _).mono;rintro e y⟨rfl,b⟩;obtain⟨t,u,v,w⟩:=(m.h b).c4;have a:=l.h b;replace c:=c.trans b;clear m l h b;have z:=a.a;have C:=a.x;have D:=a.c f;have E:=a.fz (2+k);have n:=a.setC f s.a;have o:=(A0.f (g:=g) c).set (2+k) (I V s.a);clear a;go_wp2_with fail
  apply(jL g k f _).mono;rintro e A⟨rfl,rfl⟩;go_wp2_with fail
  go_ret;exact .yes o n
 ·rw[if_pos rfl]
  go_in;go_wp2_with fail
  apply(h _).mono;rintro e y⟨rfl,b⟩;obtain⟨t,u,v,w⟩:=(m.h b).c4;have a:=l.h b;replace c:=c.trans b;clear m l h b;have z:=a.a;have C:=a.x;have D:=a.c f;have E:=a.fz (2+k);have n:=a.setC f s.x;have o:=(A0.f (g:=g) c).set (2+k) (I V s.x);clear a;go_wp2_with fail
  apply(jL g k f _).mono;rintro e A⟨rfl,rfl⟩;go_wp2_with fail
  go_ret;exact .yes o n
theorem PY(i:i2)(m:j7 i.code=5)(g:Nat)(d:r9)(s:Vm)(W:Wd)(B:MB W g d s):
  Ca prog 47 #[K g,i.val] W fun e u=>vA g d W (I M 0) ({s with told:=if i.code=22 then s.a else i.k,over:=Bt},0) e u:=by
 have o:=xT m;have f:=a6 (fun W=>y7 i.code W);rw[show(Y3 i.code).1.cls=5 from m]at f;have c:=(a9.refl W).alloc (U #[I U1 i.code,I U8 i.jt,I U8 i.jf,I V i.k] 116);obtain⟨j,h⟩:=i6 (b9.new W 116 #[I U1 i.code,I U8 i.jt,I U8 i.jf,I V i.k]) (B.h c);clear m B;unfold i2.val i2.cells at*;obtain⟨co,C,A,k⟩:=i;dsimp only at*;rcases o with rfl|rfl
 ·rw[if_neg (by decide)]
  go_in;go_wp2_with fail
  apply(f _).mono;rintro e v⟨rfl,b⟩;obtain⟨p,q,r,t⟩:=(j.h b).c4;have a:=h.h b;replace c:=c.trans b;clear j h f b;have z:=a.told;have w:=a.over;have x:=a.fz 27;have y:=a.fz 28;have l:=(a.setT k).setO Bt;have n:=((A0.f (g:=g) c).set 27 (I V k)).set 28 (O Bt);clear a;go_wp2_with fail
  go_ret;exact .yes n l
 ·rw[if_pos rfl]
  go_in;go_wp2_with fail
  apply(f _).mono;rintro e v⟨rfl,b⟩;obtain⟨p,q,r,t⟩:=(j.h b).c4;have a:=h.h b;replace c:=c.trans b;clear j h f b;have z:=a.told;have w:=a.over;have x:=a.fz 27;have y:=a.fz 28;have D:=a.a;have l:=((a.setT k).setO Bt).setT s.a;have n:=(((A0.f (g:=g) c).set 27 (I V k)).set 28 (O Bt)).set 27 (I V s.a);clear a;go_wp2_with fail
  go_ret;exact .yes n l
theorem a1N(i:i2)(n:j7 i.code=6)(g:Nat)(d:r9)(s:Vm)(W:Wd)(B:MB W g d s):
  Ca prog 47 #[K g,i.val] W fun e v=>vA g d W (I M 0) ((if i.code=7 then{s with x:=s.a}else{s with a:=s.x}),0) e v:=by
 have p:=HU n;have h:=a6 (fun W=>y7 i.code W);rw[show(Y3 i.code).1.cls=6 from n]at h;have f:=(a9.refl W).alloc (U #[I U1 i.code,I U8 i.jt,I U8 i.jf,I V i.k] 116);obtain⟨l,j⟩:=i6 (b9.new W 116 #[I U1 i.code,I U8 i.jt,I U8 i.jf,I V i.k]) (B.h f);clear n B;unfold i2.val i2.cells at*;obtain⟨co,D,C,k⟩:=i;dsimp only at*;rcases p with rfl|rfl
 ·rw[if_pos rfl]
  go_in;go_wp2_with fail
  apply(h _).mono;rintro e w⟨rfl,c⟩;obtain⟨q,r,t,u⟩:=(l.h c).c4;have b:=j.h c;replace f:=f.trans c;clear l j h c;have z:=b.a;have y:=b.x;have A:=b.fz 1;have m:=b.setX s.a;have o:=(A0.f (g:=g) f).set 1 (I V s.a);clear b;go_wp2_with fail
  go_ret;exact .yes o m
 ·rw[if_neg (by decide)]
  go_in;go_wp2_with fail
  apply(h _).mono;rintro e w⟨rfl,c⟩;obtain⟨q,r,t,u⟩:=(l.h c).c4;have b:=j.h c;replace f:=f.trans c;clear l j h c;have z:=b.a;have y:=b.x;have A:=b.fz 0;have m:=b.setA s.x;have o:=(A0.f (g:=g) f).set 0 (I V s.x);clear b;go_wp2_with fail
  go_ret;exact .yes o m
theorem a1M(i:i2)(j:j7 i.code=0)(g:Nat)(d:r9)(s:Vm)(W:Wd)(B:MB W g d s):
  Ca prog 47 #[K g,i.val] W fun e l=>vA g d W (I M 0) (s,40) e l:=by
 have c:=a6 (fun W=>y7 i.code W);rw[show(Y3 i.code).1.cls=0 from j]at c;have a:=(a9.refl W).alloc (U #[I U1 i.code,I U8 i.jt,I U8 i.jf,I V i.k] 116);obtain⟨h,f⟩:=i6 (b9.new W 116 #[I U1 i.code,I U8 i.jt,I U8 i.jf,I V i.k]) (B.h a);clear j B;unfold i2.val i2.cells at*;obtain⟨co,o,n,k⟩:=i;dsimp only at*;go_in;go_wp2_with fail
 apply(c _).mono;rintro e u⟨rfl,b⟩;obtain⟨p,q,r,t⟩:=(h.h b).c4;have m:=f.h b;replace a:=a.trans b;clear h f c b;go_wp2_with fail
 apply(U0 40 _).mono;rintro e v⟨rfl,rfl⟩;exact⟨rfl,.no (by decide) (A0.f a)⟩
theorem a4f(i:i2)(hi:i.ok)(g:Nat)(d:r9)(f:d.ok)(s:Vm)(c:s.ok)(W:Wd)(B:MB W g d s):
  Ca prog 47 #[K g,i.val] W fun e l=>vA g d W (I M (q6 d i s).2.1) ((q6 d i s).1,(q6 d i s).2.2) e l:=by
 rcases QH i.code with a|a|a|a|a|a|a
 ·have:=a1M i a g d s W B
  unfold q6;simpa[a]using this
 ·have:=a1O i hi a g d f s W B
  unfold q6;simpa[a]using this
 ·unfold q6
  by_cases b:i.k<16
  ·obtain⟨co,j,h,k⟩:=i
   obtain⟨n,rfl⟩:∃n:Nat,k=n:=⟨k.toNat,by have:=hi.2.2.2.1;dsimp only at this;omega⟩;have b:(n:Int)<16:=b;have:=xN co j h n a (by omega) g d s W B;simp only[a,b];simpa using this
  ·have:=DA i a (by omega) g d s W B
   simpa[a,b]using this
 ·have:=PW i hi a g d s c W B
  unfold q6;simpa[a]using this
 ·have:=a1P i hi a g d s c W B
  unfold q6;simpa[a]using this
 ·have:=PY i a g d s W B
  unfold q6;simpa[a]using this
 ·have:=a1N i a g d s W B
  unfold q6;simpa[a]using this
theorem wrap_u32(x:Int):B4 (IntKind.u32.wrap x):=by
 have e:IntKind.u32.wrap x=x % 4294967296:=IntKind.wrap_u32 x;rw[e];unfold B4;omega
theorem rI(o:BinOp)(a b:Int):B4 (bits o V a b):=by
 unfold bits;exact wrap_u32 _
theorem a1Q(k:Nat)(a b:Int)(c:B4 a)(e:B4 b):B4 (cP k a b):=by
 have d:∀m:Int,1≤m→B4 (a/m):=fun m f=>⟨Int.ediv_nonneg c.1 (by omega),Int.lt_of_le_of_lt (Int.ediv_le_self _ c.1) c.2⟩
 unfold cP;split
 ·exact wrap_u32 _
 ·exact wrap_u32 _
 ·exact wrap_u32 _
 ·exact d _ (by omega)
 ·exact rI _ _ _
 ·exact rI _ _ _
 ·exact wrap_u32 _
 ·exact d _ (Int.pow_pos (by decide))
 ·exact rI _ _ _
 ·exact wrap_u32 _
theorem RL(d:r9)(a:d.ok)(x:Int):B4 (d.word x):=by
 unfold r9.word;split
 ·exact EG d a _
 ·exact⟨by decide,by decide⟩
theorem xF(l:List Int)(a:∀k,B4 (l.getD k 0))(i:Nat)(v:Int)(b:B4 v)(k:Nat):B4 ((l.set i v).getD k 0):=by
 have:=a k;rw[a8,List.getElem?_set];rw[a8]at this;split
 ·split
  ·exact b
  ·exact⟨by decide,by decide⟩
 ·exact this
theorem a0w(d:r9)(l:d.ok)(i:i2)(hi:i.ok)(s:Vm)(b:s.ok):(q6 d i s).1.ok:=by
 have c:∀v,B4 v→({s with a:=v}:Vm).ok:=fun v g=>⟨g,b.x,b.len,b.cs,b.told⟩
 have e:∀v,B4 v→({s with x:=v}:Vm).ok:=fun v g=>⟨b.a,g,b.len,b.cs,b.told⟩
 have j:∀v,({s with over:=v}:Vm).ok:=fun v=>⟨b.a,b.x,b.len,b.cs,b.told⟩
 have f:B4 i.k:=hi.2.2.2;have h:B4 64:=⟨by decide,by decide⟩;unfold q6;split
 ·unfold P2
  (repeat' split)<;>first|exact b|exact c _ h|exact e _ h|exact c _ f|exact e _ f|exact c _ (b.cs _)|exact e _ (b.cs _)|exact c _ (RL d l _)
 split
 ·split
  ·refine⟨b.a,b.x,by simp[b.len],fun k=>xF _ b.cs _ _ ?_ k,b.told⟩
   split
   ·exact b.x
   ·exact b.a
  ·exact b
 split
 ·unfold y3
  (repeat' split)<;>first|exact b|exact j _|exact c _ (a1Q _ _ _ b.a (gC i hi s b))
 split
 ·exact b
 split
 ·refine⟨b.a,b.x,b.len,b.cs,?_⟩
  show B4 (if i.code=22 then s.a else i.k);split
  ·exact b.a
  ·exact f
 split
 ·show Vm.ok (if i.code=7 then{s with x:=s.a}else{s with a:=s.x})
  split
  ·exact e _ b.a
  ·exact c _ b.x
 ·exact b
theorem MI(d:r9)(i:i2)(hi:i.ok)(s:Vm):B4 (q6 d i s).2.1:=by
 have a:B4 0:=⟨by decide,by decide⟩;have e:B4 i.k:=hi.2.2.2;have c:B4 i.jt:=⟨hi.2.1.1,by have:=hi.2.1.2;omega⟩;have b:B4 i.jf:=⟨hi.2.2.1.1,by have:=hi.2.2.1.2;omega⟩;unfold q6
 (repeat' split)<;>try exact a
 unfold mE
 (repeat' split)<;>first|exact e|exact c|exact b
structure Res where
 ans:Int
 steps:Nat
 tr:List Nat
 err:Int
def YZ(c:Int):Int:=if j7 c=4 then 42 else 46
def S9(d:r9)(ps:List i2):Nat→Nat→Vm→Int→List Nat→Res
 |0,_,_,_,tr=>⟨0,tr.length,tr,0⟩
 |f+1,at_,s,beh,tr=>
  if s.over=Bt then⟨s.told,tr.length,tr,0⟩
  else if at_<ps.length then
   if(q6 d (ps.getD at_ j5) s).2.2=0 then S9 d ps f (at_+(1+(q6 d (ps.getD at_ j5) s).2.1.toNat)) (q6 d (ps.getD at_ j5) s).1 (YZ (ps.getD at_ j5).code) (tr++[at_])
   else⟨0,tr.length,tr++[at_],(q6 d (ps.getD at_ j5) s).2.2⟩
  else⟨0,tr.length,tr,beh⟩
def vm0:Vm:=⟨0,0,a2A 16 0,0,Bf⟩
theorem a21:vm0.ok:=by
 refine⟨⟨by decide,by decide⟩,⟨by decide,by decide⟩,rfl,fun k=> ?_,⟨by decide,by decide⟩⟩;have:(a2A 16 (0:Int)).getD k 0=0:=by
  rw[a8,List.getElem?_replicate];split<;>rfl
 show B4 ((a2A 16 (0:Int)).getD k 0);rw[this];exact⟨by decide,by decide⟩
def K5(d:r9)(ps:List i2):Res:=S9 d ps (ps.length+2) 0 vm0 46 []
theorem pB(p q:Nat)(x a b:Int)(w:Wd)(i:w.cell? ⟨p,0,J⟩=So (I V a))(k:w.cell? ⟨q,0,J⟩=So (I M b))(j:p≠q)(m:w.frozen? ⟨p,0,J⟩=Bf)(n:w.frozen? ⟨q,0,J⟩=Bf):
  CallsD prog 44 #[K p,K q] (.panicking (UA x)) w fun e g h=>
   e=X (Tp #[])∧g= .panicking [{v:= .iface 46 (I M x),recovered:=Bt}]∧h=((w.setCell ⟨p,0,J⟩ (I V 0)).setCell ⟨q,0,J⟩ (I M x)).drew:=by
 have l:∀w,(Instr.typeAssert (.iface 46 (I M x)) 20 46 Bf).run prog w= .ok (I M x) w:=fun _=>by kernel_rfl
 refine callsD_of_wpS func44 rfl fun c cs d=> ?_
 have f:c.mode= .panicking [{v:= .iface 46 (I M x),recovered:=Bf}]:=d;apply wpS_seq;apply wpS_region;simp[wpOpsS,go_sem,recoverD,f,ntmps44,Exit.thenS];apply wpS_seq;apply wpS_region;simp[wpOpsS,go_sem,Exit.thenS];refine wpS_cond (t:=Bt) (by simp[Act.eval,Array.replicate]) ?_;simp only[if_true];refine wpS_of_wp ?_
 go_region
 all_goals exact⟨rfl,_,rfl,_,Rz rfl _ _ _,rfl,rfl,rfl⟩
theorem MX(p q:Ad)(w:Wd):
  CallsD prog 44 #[K (So p),K (So q)] .returning w fun e c d=>e=X (Tp #[])∧c= .returning∧d=w:=by
 refine callsD_of_wpS func44 rfl fun a cs b=> ?_
 apply wpS_seq;apply wpS_region;simp[wpOpsS,go_sem,recoverD,b,ntmps44,Exit.thenS];apply wpS_seq;apply wpS_region;simp[wpOpsS,go_sem,Exit.thenS];refine wpS_cond (t:=Bf) (by simp[Act.eval,Array.replicate]) ?_;simp only[a4x,if_false];refine wpS_of_wp (wp_skip ?_);cases a
 simp_all [bodyPostS,results,results44]
theorem PB:(prog.info? 3).map (fun i=>(i.zero,i.size,i.bytes))=So (So (I M 0),1,8):=by kernel_rfl
def GU(l:List Nat):List Int:=l.map Int.ofNat
theorem X5(a b:List Nat):GU (a++b)=GU a++GU b:=by simp[GU]
theorem zR{d:r9}{ps:List i2}{f a:Nat}{s:Vm}{beh:Int}{tr:List Nat}(b:s.over=Bt):S9 d ps (f+1) a s beh tr=⟨s.told,tr.length,tr,0⟩:=by
 unfold S9;rw[if_pos b]
theorem a0F{d:r9}{ps:List i2}{f a:Nat}{s:Vm}{beh:Int}{tr:List Nat}(b:s.over=Bf)(k:¬a<ps.length):S9 d ps (f+1) a s beh tr=⟨0,tr.length,tr,beh⟩:=by
 unfold S9;rw[if_neg (by rw[b];decide),if_neg k]
theorem a0E{d:r9}{ps:List i2}{f a:Nat}{s:Vm}{beh:Int}{tr:List Nat}(c:s.over=Bf)(k:a<ps.length)(b:(q6 d ps[a] s).2.2≠0):
  S9 d ps (f+1) a s beh tr=⟨0,tr.length,tr++[a],(q6 d ps[a] s).2.2⟩:=by
 have e:ps.getD a j5=ps[a]:=by rw[a8,e9 k];rfl
 rw[←e]at b⊢
 conv=>lhs;unfold S9
 rw[if_neg (by rw[c];decide),if_pos k,if_neg b]
theorem zQ{d:r9}{ps:List i2}{f a:Nat}{s:Vm}{beh:Int}{tr:List Nat}(c:s.over=Bf)(k:a<ps.length)(b:(q6 d ps[a] s).2.2=0):
  S9 d ps (f+1) a s beh tr=S9 d ps f (a+(1+(q6 d ps[a] s).2.1.toNat)) (q6 d ps[a] s).1 (YZ ps[a].code) (tr++[a]):=by
 have e:ps.getD a j5=ps[a]:=by rw[a8,e9 k];rfl
 rw[←e]at b⊢
 conv=>lhs;unfold S9
 rw[if_neg (by rw[c];decide),if_pos k,if_pos b]
theorem M0{W W':Wd}{g base:Nat}{e:Ti}{b n:Nat}{v:Va}{xs:List Va}(a:W.ownsRow base e b v n xs)(d:A0 g W W')(f:g<base):W'.ownsRow base e b v n xs:=by
 refine a.kept d.grown ?_;rcases c:v.ownBlock with _|k
 ·exact .inl rfl
 ·have:=(a.lt k c).1
  refine .inr fun e=> ?_
  injection e with e
  omega
theorem kX{W W':Wd}{g base:Nat}{e t:Ti}{d n:Nat}{v:Va}{xs:List Va}{cs:Array Va}(a:W.ownsRow base e d v n xs)(c:W.grownBy W' v.ownBlock)(b:b9 W g t cs)(f:g<base):b9 W' g t cs:=
 b.grown c fun e=>by
  have:=(a.lt g e.symm).1;omega
theorem a0H(cc:Option Ad)(n c:Nat)(ps:List i2)(dd:ps.length=n)(db:∀i∈ps,i.ok)(ey:n≤100000)(d:r9)(cw:d.ok)(w:Wd)(ct:h9 w cc (pc ps)):
  Ca prog 29 #[Z cc n c,d.val] w fun e dq=>∃ck F,e=X (Tp #[I V (K5 d ps).ans,I M (K5 d ps).steps,Z ck (K5 d ps).tr.length F,I M (K5 d ps).err])∧
   h9 dq ck (i3 M (GU (K5 d ps).tr))∧a9 w dq:=by
 have ex:∀(cr:Fn)(first cap:Array Va)(w:Wd),(Instr.makeFunc cr first cap).run prog w= .ok (.func cr first cap) w:=fun _ _ _ _=>rfl
 obtain⟨ek,hi,dk,dl,dm⟩:=info_parts PB;have ds:=a6 hi;have dv:=a6 dk;have dw:=a6 dl;have dx:=a6 dm;obtain⟨cf,ce,bm,dt⟩:=J5 ct cw dd db;clear ct cw dd db hi dk dl dm;obtain⟨R,av⟩:∃R,K5 d ps=R:=⟨_,rfl⟩;rw[av];unfold K5 at av;rw[bm.out]at av;have du:=a6 av;clear av;obtain⟨u,p,t,g,h,j,k,l,o⟩:=d
 go_enter_defers func29,ntmps29
 go_wp2_with fail
 have di:a9 w ((((w.alloc (U #[I V u,I V p,I U6 t,I U6 g,I U6 h,I U6 j,I U6 k,I U6 l,I U6 o] 30)).alloc (U #[I V 0] 26)).alloc (U #[I M 0] 46)).alloc (U #[I V 0,I V 0,I V 0,I V 0,I V 0,I V 0,I V 0,I V 0,I V 0,I V 0,I V 0,I V 0,I V 0,I V 0,I V 0,I V 0,I V 0,I V 0,I V u,I V p,I U6 t,I U6 g,I U6 h,I U6 j,I U6 k,I U6 l,I U6 o,I V 0,O Bf] 110)):=((((a9.refl w).alloc _).alloc _).alloc _).alloc _;have cm:b9 ((((w.alloc (U #[I V u,I V p,I U6 t,I U6 g,I U6 h,I U6 j,I U6 k,I U6 l,I U6 o] 30)).alloc (U #[I V 0] 26)).alloc (U #[I M 0] 46)).alloc (U #[I V 0,I V 0,I V 0,I V 0,I V 0,I V 0,I V 0,I V 0,I V 0,I V 0,I V 0,I V 0,I V 0,I V 0,I V 0,I V 0,I V 0,I V 0,I V u,I V p,I U6 t,I U6 g,I U6 h,I U6 j,I U6 k,I U6 l,I U6 o,I V 0,O Bf] 110)) (w+1) 26 #[I V 0]:=((b9.b (by simp)).alloc _).alloc _;have cp:b9 ((((w.alloc (U #[I V u,I V p,I U6 t,I U6 g,I U6 h,I U6 j,I U6 k,I U6 l,I U6 o] 30)).alloc (U #[I V 0] 26)).alloc (U #[I M 0] 46)).alloc (U #[I V 0,I V 0,I V 0,I V 0,I V 0,I V 0,I V 0,I V 0,I V 0,I V 0,I V 0,I V 0,I V 0,I V 0,I V 0,I V 0,I V 0,I V 0,I V u,I V p,I U6 t,I U6 g,I U6 h,I U6 j,I U6 k,I U6 l,I U6 o,I V 0,O Bf] 110)) (w+1+1) 46 #[I M 0]:=(b9.b (by simp)).alloc _;have bz:MB ((((w.alloc (U #[I V u,I V p,I U6 t,I U6 g,I U6 h,I U6 j,I U6 k,I U6 l,I U6 o] 30)).alloc (U #[I V 0] 26)).alloc (U #[I M 0] 46)).alloc (U #[I V 0,I V 0,I V 0,I V 0,I V 0,I V 0,I V 0,I V 0,I V 0,I V 0,I V 0,I V 0,I V 0,I V 0,I V 0,I V 0,I V 0,I V 0,I V u,I V p,I U6 t,I U6 g,I U6 h,I U6 j,I U6 k,I U6 l,I U6 o,I V 0,O Bf] 110)) (w+1+1+1) ⟨u,p,t,g,h,j,k,l,o⟩ vm0:=⟨b9.b (by simp),rfl⟩;generalize(((w.alloc (U #[I V u,I V p,I U6 t,I U6 g,I U6 h,I U6 j,I U6 k,I U6 l,I U6 o] 30)).alloc (U #[I V 0] 26)).alloc (U #[I M 0] 46)).alloc (U #[I V 0,I V 0,I V 0,I V 0,I V 0,I V 0,I V 0,I V 0,I V 0,I V 0,I V 0,I V 0,I V 0,I V 0,I V 0,I V 0,I V 0,I V 0,I V u,I V p,I U6 t,I U6 g,I U6 h,I U6 j,I U6 k,I U6 l,I U6 o,I V 0,O Bf] 110)=w0 at*;generalize ef:(⟨u,p,t,g,h,j,k,l,o⟩:r9)=d at*;clear ef;generalize Ag #[I V 0,I V 0,I V 0,I V 0,I V 0,I V 0,I V 0,I V 0,I V 0,I V 0,I V 0,I V 0,I V 0,I V 0,I V 0,I V 0,I V 0,I V 0,I V u,I V p,I U6 t,I U6 g,I U6 h,I U6 j,I U6 k,I U6 l,I U6 o,I V 0,O Bf]=et;generalize Ag #[I V u,I V p,I U6 t,I U6 g,I U6 h,I U6 j,I U6 k,I U6 l,I U6 o]=es;generalize d.val=er;go_loopw [5,6,9,10] (fun eo en dy bt wr=>∃(f a:Nat)(s:Vm)(beh:Int)(tr:List Nat)(B:Option Ad)(F:Nat),eo=I M tr.length∧en=Z B tr.length F∧dy=I M beh∧bt=I M a∧S9 d ps (f+1) a s beh tr=R∧s.ok∧MB wr (w+1+1+1) d s∧
   wr.ownsRow (w+4) 3 1 (Z B tr.length F) tr.length (i3 M (GU tr))∧a9 w wr∧w+4≤wr.heap.size∧b9 wr (w+1) 26 #[I V 0]∧b9 wr (w+1+1) 46 #[I M 0]∧tr.length≤a∧n+1≤f+a∧a≤n+4294967296)
  (fun _ _ _ bt _=>n-(intOf bt).toNat)
 case atStart=>exact⟨n+1,0,vm0,46,[],J,0,rfl,rfl,rfl,rfl,du.out,a21,bz,(World.ownsRow_nil w0 (w+4) 3 1:w0.ownsRow (w+4) 3 1 (Z J ([]:List Nat).length 0) ([]:List Nat).length (i3 M (GU []))),di,by have:=bz.blk.lt;omega,cm,cp,a7 _,by omega,by omega⟩
 case round=>
  clear di cm cp bz;obtain⟨f,a,s,beh,tr,B,F,rfl,rfl,rfl,rfl,df,dg,aj,bi,aw,ei,b4,E,dh,cx,cu⟩:=hrel;obtain⟨S,ci⟩:=i6 df dg;have dr:=aj.over;have ep:=aj.told;clear df dg;rcases al:s.over with _|_
  ·rw[al]at dr
   by_cases bw:a<n
   ·have ak:a<ps.length:=by rw[bm.out];exact bw
    have bu:=cf.h aw;obtain⟨eu,fa,rfl,_⟩:=K7 bu (by omega);obtain⟨ac,ad,ae,af⟩:=G1 bu ak;have k1:(0:Int)≤a:=by omega
    have k2:¬(n:Int)≤a:=by omega
    have bg:=dt _ (a30 ak);obtain⟨ag,bc,C,Q⟩:=J5 (fun W B=>a4f ps[a] bg (w.heap.size+1+1+1) d ce s ci W B) (fun W=>y7 (ps[a]).code W) (fun bv=>(zQ (d:=d) (ps:=ps) (f:=f) (beh:=beh) (tr:=tr) al ak bv).symm.trans S.out) (fun bv=>(a0E (d:=d) (ps:=ps) (f:=f) (beh:=beh) (tr:=tr) al ak bv).symm.trans S.out);have bp:=MI d ps[a] bg s;obtain⟨bq,bn,an⟩:=p7 (a0w d ce ps[a] bg s ci.out) (fun W(ea:a9 w W)=>G1 (cf.h ea) ak) (show YZ (ps[a]).code=if j7 (ps[a]).code=4 then 42 else 46 from rfl);obtain⟨f,rfl⟩:∃dz,f=dz+1:=⟨f-1,by omega⟩;clear bu S;generalize ps[a]=P at*;obtain⟨co,em,el,kk⟩:=P;generalize q6 d ⟨co,em,el,kk⟩ s=r at*;obtain⟨s',dp,G⟩:=r;obtain⟨m,rfl⟩:∃m:Nat,dp=m:=⟨dp.toNat,by have:=bp.1;dsimp only at this;omega⟩;have ew:(m:Int)<4294967296:=bp.2;have ev:(0:Int)≤m:=by omega
    dsimp only at ac ad ae af bc ag C Q bq bn an;have cv:(Y3 co).1.cls=j7 co:=rfl;rw[cv]at bc;simp only[i2.val,i2.cells]at ag;clear cv bp bg;have dj:=aw.alloc (U #[I M a] 3);have da:h9 (wr.alloc (U #[I M a] 3)) wr.heap.size [I M a]:=a1F rfl;have de:=M1 bi ((a9.refl wr).alloc (U #[I M a] 3));have cs:=aj.h ((a9.refl wr).alloc (U #[I M a] 3));have cn:=b4.alloc (U #[I M a] 3);have cq:=E.alloc (U #[I M a] 3);have dn:w+4≤(wr.alloc (U #[I M a] 3)).heap.size:=by simp;omega
    have cz:tr.length+1≤1000000:=by omega
    obtain⟨bl,ai,cg,bk,H,bj⟩:=jX cz de da cs cn cq;obtain⟨cj,bs,cd⟩:=p7 dj dn (And.intro cu (And.intro cx dh));clear cz de da cs aj bi b4 E cn cq dj dn cu cx dh aw ei ak bw ep ac ad ae af;go_wp2_with(at_builtin;refine R7 rfl (Tm 28) (Tm 30) 33 rfl (w+4) 3 ek (I M 0) 1 8 underlying33 ds dv dw dx rfl (by decide) B tr.length F _ rfl ai _ 1 1 [I M a] rfl rfl cg (by simp[Value.oneCell']) bl (by decide) bs.out ?_;intro ay bf fc dc cy ee;have ch:=a6 dc;have ah:=a6 cy;clear dc cy ee;have br:=a6 (cj.app ai (by omega) ah.out);obtain⟨ac,ad,ae,af⟩:=bn _ br.out)
    clear ac ad ae af;apply(bc _).mono;rintro e fd⟨rfl,ab⟩;obtain⟨az,ap,bd,ba,bb,be⟩:=jX ((MB.mk (kX ai ah bk.blk (by omega)) bk.len).h ab) (br.trans ab) (M1 ch ab) ((kX ai ah H (by omega)).h ab) ((kX ai ah bj (by omega)).h ab) (c8 bs (c8 ah.size ab.size));obtain⟨ac,ad,ae,af⟩:=bn _ ap.out;clear bc br ch H bj bs cj bk cg ah ai ab;generalize j7 co=q at*;by_cases bh:q=4
    ·subst bh
     have am:YZ co=42:=an.out;rw[am]at C;clear am an;go_wp2_with fail
     clear ac ad ae af;apply(ag _ az.out).mono;rintro e ax⟨b,D⟩;obtain⟨ao,L,N,aq,ar⟩:=gP (M0 bd b (by omega)) (b.blk ba (by omega)) (b.blk bb (by omega)) (b.b ap (by omega)) (c8 be b.size);clear ag az bd ba bb ap be b;by_cases v:G=0
     ·rw[if_pos v]at D
      obtain⟨rfl,au⟩:=D;obtain⟨H,bo⟩:=i6 au (C v);have eg:(0:Int)≤tr.length:=by omega
      have eh:(tr.length:Int)<1000000:=by have:=bl.out;omega
      clear au v C Q;go_wp2_with fail
      go_roundw
      case rel=>
       obtain⟨eb,ec,ed⟩:=cd.out;refine⟨f,a+(1+m),s',42,tr++[a],ay,bf,by simp,by simp,rfl,by go_num,?_,bq.out,H.out,?_,aq.out,ar.out,L.out,N.out,by simp;omega,by omega,by omega⟩
       ·have:=bo.out
        rwa[a4A]at this
       ·have:=ao.out
        rw[a2e,X5,M5];exact this
      case measure=>
       simp[intOf];omega
     ·rw[if_neg v]at D
      subst D;have T:=Q v;have x:=L.cell 0;have y:=L.frozen 0;have z:=N.cell 0;have A:=N.frozen 0;have ej:=ar.out;clear C Q v;refine leaves_cons (f:=44) (args:= #[K (w+1:Nat),K (w+1+1:Nat)]) (by simp) (by simp[go_sem]) ?_;apply(pB _ _ G 0 0 _ x z (by omega) y A).mono;rintro e ca cb⟨rfl,rfl,rfl⟩;have b:a9 w ((ax.setCell ⟨w+1,0,J⟩ (I V 0)).setCell ⟨w+1+1,0,J⟩ (I M G)).drew:=((aq.set (by dsimp only;omega) _).set (by dsimp only;omega) _).drew;have aa:=M0 (M0 ao ((A0.refl (w+1) ax).set 0 (I V 0)) (by omega)) ((A0.refl (w+1+1) _).set 0 (I M G)) (by omega);have bx:=X2 aa;subst T;refine⟨_,?_,ay,bf,rfl,?_,b⟩
      ·simp[settle,results,results29,go_sem,x,y,z,A]
      ·rw[X5,M5]
       exact bx
    ·have ez:(q==4)=Bf:=by simpa using bh
     have am:YZ co=46:=an.trans (if_neg bh);clear bh;rw[am]at C;clear am an;go_wp2_with fail
     clear ac ad ae af;apply(ag _ az.out).mono;rintro e ax⟨b,D⟩;obtain⟨ao,L,N,aq,ar⟩:=gP (M0 bd b (by omega)) (b.blk ba (by omega)) (b.blk bb (by omega)) (b.b ap (by omega)) (c8 be b.size);clear ag az bd ba bb ap be b;by_cases v:G=0
     ·rw[if_pos v]at D
      obtain⟨rfl,au⟩:=D;obtain⟨H,bo⟩:=i6 au (C v);have eg:(0:Int)≤tr.length:=by omega
      have eh:(tr.length:Int)<1000000:=by have:=bl.out;omega
      clear au v C Q;go_wp2_with fail
      go_roundw
      case rel=>
       obtain⟨eb,ec,ed⟩:=cd.out;refine⟨f,a+(1+m),s',46,tr++[a],ay,bf,by simp,by simp,rfl,by go_num,?_,bq.out,H.out,?_,aq.out,ar.out,L.out,N.out,by simp;omega,by omega,by omega⟩
       ·have:=bo.out
        rwa[a4A]at this
       ·have:=ao.out
        rw[a2e,X5,M5];exact this
      case measure=>
       simp[intOf];omega
     ·rw[if_neg v]at D
      subst D;have T:=Q v;have x:=L.cell 0;have y:=L.frozen 0;have z:=N.cell 0;have A:=N.frozen 0;have ej:=ar.out;clear C Q v;refine leaves_cons (f:=44) (args:= #[K (w+1:Nat),K (w+1+1:Nat)]) (by simp) (by simp[go_sem]) ?_;apply(pB _ _ G 0 0 _ x z (by omega) y A).mono;rintro e ca cb⟨rfl,rfl,rfl⟩;have b:a9 w ((ax.setCell ⟨w+1,0,J⟩ (I V 0)).setCell ⟨w+1+1,0,J⟩ (I M G)).drew:=((aq.set (by dsimp only;omega) _).set (by dsimp only;omega) _).drew;have aa:=M0 (M0 ao ((A0.refl (w+1) ax).set 0 (I V 0)) (by omega)) ((A0.refl (w+1+1) _).set 0 (I M G)) (by omega);have bx:=X2 aa;subst T;refine⟨_,?_,ay,bf,rfl,?_,b⟩
      ·simp[settle,results,results29,go_sem,x,y,z,A]
      ·rw[X5,M5]
       exact bx
   ·have k2:(n:Int)≤a:=by omega
    have T:=(a0F al (by rw[bm.out];exact bw)).symm.trans S.out;clear S;have x:=b4.cell 0;have y:=b4.frozen 0;have z:=E.cell 0;have A:=E.frozen 0;clear aj;go_wp2_with fail
    apply(U0 beh _).mono;rintro e fb⟨rfl,rfl⟩;refine leaves_cons (f:=44) (args:= #[K (w+1:Nat),K (w+1+1:Nat)]) (by simp) (by simp[go_sem]) ?_;apply(pB _ _ beh 0 0 _ x z (by omega) y A).mono;rintro e ca cb⟨rfl,rfl,rfl⟩;have b:a9 w ((wr.setCell ⟨w+1,0,J⟩ (I V 0)).setCell ⟨w+1+1,0,J⟩ (I M beh)).drew:=((aw.set (by dsimp only;omega) _).set (by dsimp only;omega) _).drew;have aa:=M0 (M0 bi ((A0.refl (w+1) wr).set 0 (I V 0)) (by omega)) ((A0.refl (w+1+1) _).set 0 (I M beh)) (by omega);subst T;refine⟨_,?_,B,F,rfl,X2 aa,b⟩;simp[settle,results,results29,go_sem,x,y,z,A]
  ·rw[al]at dr
   have T:=(zR al).symm.trans S.out;clear S;have x:=b4.cell 0;have y:=b4.frozen 0;have z:=E.cell 0;have A:=E.frozen 0;obtain⟨H,bj⟩:=i6 b4 E;clear b4 E aj;go_wp2_with fail
   refine leaves_cons (f:=44) (args:= #[K (w+1:Nat),K (w+1+1:Nat)]) (by simp) (by simp[go_sem]) ?_;apply(MX _ _ _).mono;rintro e ca cb⟨rfl,rfl,rfl⟩;have b:a9 w ((wr.setCell ⟨w+1,0,J⟩ (I V s.told)).setCell ⟨w+1+1,0,J⟩ (I M 0)):=(aw.set (by dsimp only;omega) _).set (by dsimp only;omega) _;have aa:=M0 (M0 bi ((A0.refl (w+1) wr).set 0 (I V s.told)) (by omega)) ((A0.refl (w+1+1) _).set 0 (I M 0)) (by omega);subst T;refine⟨_,?_,B,F,rfl,X2 aa,b⟩;simp[settle,results,results29,go_sem,x,y,z,A]
theorem a4P(b:Option Ad)(n c:Nat)(ps:List i2)(m:ps.length=n)(l:∀i∈ps,i.ok)(k:n≤100000)(d:r9)(j:d.ok)(w:Wd)(g:h9 w b (pc ps)):
  Ca prog 17 #[Z b n c,d.val] w fun e C=>e=X (Tp #[I V (K5 d ps).ans,I M (K5 d ps).steps,I M (K5 d ps).err])∧a9 w C:=by
 obtain⟨o,f⟩:=i6 g (fun W x=>a0H b n c ps m l k d j W x);clear g m l j k;generalize K5 d ps=R at*;obtain⟨B,v,A,p,q,r,s,t,u⟩:=d;have a:=(a9.refl w).alloc (U #[I V B,I V v,I U6 A,I U6 p,I U6 q,I U6 r,I U6 s,I U6 t,I U6 u] 30);have h:=o.h a;dsimp only[r9.val]at f;go_in;go_wp2_with fail
 apply(f _ h).mono;rintro e F⟨D,E,rfl,y,z⟩;clear y h;replace a:=a.trans z;go_wp2_with fail
 go_ret3
 exact⟨rfl,a⟩
theorem a2F:j7 6=5:=by decide+kernel
theorem a4n:j7 32=1:=by decide+kernel
theorem a4m:j7 84=3:=by decide+kernel
theorem a5F:j7 5=4:=by decide+kernel
theorem a4l{c:Int}(h:c=21∨c=37∨c=53∨c=69):j7 c=4:=by
 rcases h with rfl|rfl|rfl|rfl<;>decide+kernel
theorem JX{c:Int}(h:c=21∨c=37∨c=53∨c=69∨c=84):Y6 c=Bf:=by
 rcases h with rfl|rfl|rfl|rfl|rfl<;>decide+kernel
theorem OQ{c:Int}(h:c=32∨c=84∨c=6∨c=5∨c=21∨c=37∨c=53∨c=69):(Y3 c).2=Bt:=by
 rcases h with rfl|rfl|rfl|rfl|rfl|rfl|rfl|rfl<;>decide+kernel
theorem SS(d:r9)(b a k:Int)(s:Vm):q6 d ⟨6,b,a,k⟩ s=({s with told:=k,over:=Bt},0,0):=by
 unfold q6;dsimp only;rw[a2F];rfl
theorem a0x(d:r9)(c b k:Int)(s:Vm)(f:s1 k=0):q6 d ⟨32,c,b,k⟩ s=({s with a:=d.word k},0,0):=by
 unfold q6;dsimp only;rw[a4n];have e:P2 d ⟨32,c,b,k⟩ s=({s with a:=d.word k},0):=by
  unfold P2;dsimp only;rw[if_pos rfl,if_pos f]
 rw[e];rfl
theorem SU(d:r9)(c b k:Int)(s:Vm):q6 d ⟨84,c,b,k⟩ s=({s with a:=bits .and V s.a k},0,0):=by
 have g:l3 ⟨84,c,b,k⟩ s=k:=by
  unfold l3;rw[if_neg (by show¬Y6 84=Bt;rw[JX (by omega)];decide)]
 have f:sL 84=5:=by decide+kernel
 have e:y3 ⟨84,c,b,k⟩ s=({s with a:=bits .and V s.a k},0):=by
  unfold y3;rw[g];dsimp only;rw[if_neg (by omega),if_neg (by omega),if_neg (by omega),f];rfl
 unfold q6;rw[e];dsimp only;rw[a4m];rfl
theorem vU(d:r9)(b a k:Int)(s:Vm):q6 d ⟨5,b,a,k⟩ s=(s,k,0):=by
 unfold q6 mE;dsimp only;rw[a5F];rfl
theorem a1G{c:Int}(h:c=21∨c=37∨c=53∨c=69)(a k th el:Int):PE (sL c-10) a k=r4 ⟨c,k,th,el⟩ a:=by
 unfold r4;dsimp only;rcases h with rfl|rfl|rfl|rfl
 ·rw[show sL 21=10 by decide+kernel,if_pos rfl];rfl
 ·rw[show sL 37=11 by decide+kernel,if_neg (by omega),if_pos rfl];rfl
 ·rw[show sL 53=12 by decide+kernel,if_neg (by omega),if_neg (by omega),if_pos rfl];rfl
 ·rw[show sL 69=13 by decide+kernel,if_neg (by omega),if_neg (by omega),if_neg (by omega),if_pos rfl];rfl
theorem JG(d:r9){c:Int}(e:c=21∨c=37∨c=53∨c=69)(b a k:Int)(th el:Int)(s:Vm):q6 d ⟨c,b,a,k⟩ s=(s,(if r4 ⟨c,k,th,el⟩ s.a then b else a),0):=by
 have f:l3 ⟨c,b,a,k⟩ s=k:=by
  unfold l3;rw[if_neg (by show¬Y6 c=Bt;rw[JX (by omega)];decide)]
 unfold q6 mE;rw[f];dsimp only;rw[a4l e,a1G e s.a k th el,if_neg (show¬c=5 by omega)];rfl
theorem TF{d:r9}{P:List i2}{f a:Nat}{s s':Vm}{beh:Int}{tr:List Nat}{i:i2}{x:Int}(j:s.over=Bf)(h:a<P.length)(hi:P.getD a j5=i)(g:q6 d i s=(s',x,0)):
  ∃b,S9 d P (f+1) a s beh tr=S9 d P f (a+(1+x.toNat)) s' b (tr++[a]):=by
 have e:P[a]=i:=by rw[←hi,a8,e9 h];rfl
 have c:=zQ (f:=f) (beh:=beh) (tr:=tr) j h (by rw[e,g]);rw[e,g]at c;exact⟨_,c⟩
def m7(ps:List Sy)(a:List Int)(k:Nat):Nat:=(n9 ps a 0 k).length
theorem tZ(ps:List Sy)(c:List Int)(lo a:Nat):∀b,n9 ps c lo (a+b)=n9 ps c lo a++n9 ps c (lo+a) b
 |0=>by simp[n9]
 |b+1=>by rw[←Nat.add_assoc,bU,tZ ps c lo a b,bU,a4s,Nat.add_assoc lo a b]
theorem aH(ps:List Sy)(a:List Int)(k:Nat):m7 ps a (k+1)=m7 ps a k+(l7 ps a k).length:=by
 unfold m7;rw[bU,a2e,a4E]
theorem BS(ps:List Sy)(a:List Int)(i:Nat):1≤(l7 ps a i).length:=by
 unfold l7
 (repeat' split)<;>simp
theorem TQ(ps:List Sy)(a:List Int)(k:Nat):∀d,m7 ps a k+d≤m7 ps a (k+d)
 |0=>a7 _
 |d+1=>by
  have b:=TQ ps a k d;have c:=BS ps a (k+d);rw[←Nat.add_assoc k d 1,aH];omega
theorem C4(ps:List Sy)(a:List Int){k t:Nat}(b:k≤t):m7 ps a k+(t-k)≤m7 ps a t:=by
 have:=TQ ps a k (t-k);rwa[show k+(t-k)=t by omega]at this
structure m5(ps:List Sy)(sz:List Int):Prop where
 len:∀i,i<ps.length→((l7 ps sz i).length:Int)=sz.getD i 0
 one:∀i,i<ps.length→sz.getD i 0=1∨sz.getD i 0=3
 near:∀i,i<ps.length→sz.getD i 0=1→l0 (ps.getD i c6).code=Bt→o0 sz (i+1) ((ps.getD i c6).th.toNat-(i+1))≤255∧o0 sz (i+1) ((ps.getD i c6).el.toNat-(i+1))≤255
theorem a3a{ps:List Sy}(g:m9 ps):m5 ps (P3 ps (q5 ps.length).reverse):=by
 have f:=SN ps;generalize P3 ps (q5 ps.length).reverse=a at*;have key:∀i,i<ps.length→(a.getD i 0=1∨a.getD i 0=3)∧(a.getD i 0=1→l0 (ps.getD i c6).code=Bt→o0 a (i+1) ((ps.getD i c6).th.toNat-(i+1))≤255∧o0 a (i+1) ((ps.getD i c6).el.toNat-(i+1))≤255)∧(l0 (ps.getD i c6).code=Bf→a.getD i 0=1):=fun i hi=>by
  rw[f i hi];unfold iC;cases l0 (ps.getD i c6).code
  ·exact⟨.inl rfl,fun _ b=>(by cases b),fun _=>rfl⟩
  ·by_cases e:(Dc (255<o0 a (i+1) ((ps.getD i c6).th.toNat-(i+1)))||decide (255<o0 a (i+1) ((ps.getD i c6).el.toNat-(i+1))))=Bt
   ·rw[e]
    exact⟨.inr rfl,fun b=>absurd b (by decide),fun b=>by cases b⟩
   ·rw[Bool.not_eq_true]at e
    rw[e];simp only[Bool.or_eq_false_iff,decide_eq_false_iff_not]at e;exact⟨.inl rfl,fun _ _=>by omega,fun b=>by cases b⟩
 refine⟨fun i hi=> ?_,fun i hi=>(key i hi).1,fun i hi=>(key i hi).2.1⟩;obtain⟨k1,k2,k3⟩:=key i hi;unfold l7;by_cases c:(ps.getD i c6).code=5
 ·rw[if_pos c,k3 (by rw[c];rfl)];rfl
 ·rw[if_neg c]
  by_cases d:l0 (ps.getD i c6).code=Bf
  ·rw[if_pos d,k3 d];rfl
  ·rw[if_neg d]
   rcases k1 with k1|k1
   ·rw[if_pos k1,k1];rfl
   ·rw[if_neg (by omega),k1];rfl
theorem CW{ps:List Sy}{a:List Int}(b:m5 ps a)(lo:Nat):∀k,lo+k≤ps.length→o0 a lo k=(m7 ps a (lo+k):Int)-m7 ps a lo
 |0,_=>by simp[o0]
 |k+1,hk=>by
  have c:=b.len (lo+k) (by omega);have d:=aH ps a (lo+k);show o0 a lo k+a.getD (lo+k) 0=_;rw[CW b lo k (by omega),←c,←Nat.add_assoc,d];omega
theorem eX{ps:List Sy}{a:List Int}(b:m5 ps a){k t:Nat}(c:k<t)(d:t<ps.length):o0 a (k+1) (t-(k+1))=(m7 ps a t:Int)-m7 ps a (k+1):=by
 rw[CW b (k+1) (t-(k+1)) (by omega),show k+1+(t-(k+1))=t by omega]
theorem pM(ps:List Sy)(a:List Int)(k r:Nat)(d:k<ps.length)(c:r<(l7 ps a k).length):(n9 ps a 0 ps.length).getD (m7 ps a k+r) j5=(l7 ps a k).getD r j5:=by
 have e:n9 ps a 0 ps.length=n9 ps a 0 k++(l7 ps a k++n9 ps a (k+1) (ps.length-(k+1))):=by
  have b:=tZ ps a 0 k (ps.length-k);rw[show k+(ps.length-k)=ps.length by omega,a4E]at b;rw[b,show ps.length-k=ps.length-(k+1)+1 by omega];rfl
 rw[e];unfold m7;rw[a8,a8,List.getElem?_append_right (by omega),Nat.add_sub_cancel_left,List.getElem?_append_left c]
theorem RM{k:Int}(b:0≤k)(a:k % 4=0∧k<64):s1 k=0:=by
 unfold s1 Y5;rw[if_pos (by simpa using a)]
theorem iX{ps:List Sy}(n:m9 ps){c:List Int}(o:m5 ps c)(d:r9)(P:List i2)(t:P=n9 ps c 0 ps.length)(C:∀i,i<ps.length→0≤(ps.getD i c6).k):
  ∀(m k f:Nat)(s:Vm)(beh:Int)(tr:List Nat),ps.length-k≤m→k<ps.length→s.over=Bf→P.length+2≤f+m7 ps c k→
   (S9 d P f (m7 ps c k) s beh tr).err=0∧(S9 d P f (m7 ps c k) s beh tr).ans=(r7 d.word ps k s.a).1∧
   tr.length+(r7 d.word ps k s.a).2≤(S9 d P f (m7 ps c k) s beh tr).steps∧
   2*(S9 d P f (m7 ps c k) s beh tr).steps+(ps.length-k)+m7 ps c k≤2*(tr.length+(r7 d.word ps k s.a).2)+P.length
 |0,k,f,s,beh,tr,h,hk,_,_=>by omega
 |m+1,k,f,s,beh,tr,h,hk,ho,hf=>by
  have ab:P.length=m7 ps c ps.length:=by rw[t];rfl
  have ar:=C4 ps c (show k≤ps.length by omega);have au:=C4 ps c (show k+1≤ps.length by omega);have w:=aH ps c k;have ao:=BS ps c k;have v:∀r,r<(l7 ps c k).length→P.getD (m7 ps c k+r) j5=(l7 ps c k).getD r j5:=fun r ah=>by rw[t];exact pM ps c k r hk ah
  have aa:=a0P (n.one k hk);have ae:=C k hk;obtain⟨f,rfl⟩:∃g,f=g+1:=⟨f-1,by omega⟩;by_cases u:(ps.getD k c6).code=6
  ·have j:l7 ps c k=[⟨6,0,0,(ps.getD k c6).k⟩]:=by
    unfold l7;rw[u,if_neg (by decide),if_pos (show l0 6=Bf from rfl)]
   have p:=v 0 (by rw[j];exact Nat.zero_lt_one);rw[j,a4z]at p;obtain⟨b,e⟩:=TF (f:=f) (beh:=beh) (tr:=tr) ho (by omega) p (SS d 0 0 (ps.getD k c6).k s);obtain⟨g,rfl⟩:∃g,f=g+1:=⟨f-1,by omega⟩;rw[e,zR rfl,B9 n d.word k s.a hk u];refine⟨rfl,rfl,by simp,?_⟩;dsimp only;rw[a2e,ab];simp only[a3W,List.length_nil];omega
  ·obtain⟨ap,aq,af⟩:=gH n d.word k s.a hk u
   rw[q0 n d.word k s.a hk u];have D:∀(i:i2)(s':Vm)(x:Int),l7 ps c k=[i]→q6 d i s=(s',x,0)→s'.over=Bf→(J4 d.word (ps.getD k c6) k s.a).2=s'.a→m7 ps c k+(1+x.toNat)=m7 ps c (J4 d.word (ps.getD k c6) k s.a).1→
     ((S9 d P (f+1) (m7 ps c k) s beh tr).err=0∧(S9 d P (f+1) (m7 ps c k) s beh tr).ans=(DN (r7 d.word ps (J4 d.word (ps.getD k c6) k s.a).1 (J4 d.word (ps.getD k c6) k s.a).2)).1∧
     tr.length+(DN (r7 d.word ps (J4 d.word (ps.getD k c6) k s.a).1 (J4 d.word (ps.getD k c6) k s.a).2)).2≤(S9 d P (f+1) (m7 ps c k) s beh tr).steps∧
     2*(S9 d P (f+1) (m7 ps c k) s beh tr).steps+(ps.length-k)+m7 ps c k≤2*(tr.length+(DN (r7 d.word ps (J4 d.word (ps.getD k c6) k s.a).1 (J4 d.word (ps.getD k c6) k s.a).2)).2)+P.length):=fun i s' x j ai ag ac ak=>by
    have p:=v 0 (by rw[j];exact Nat.zero_lt_one);rw[j,a4z]at p;obtain⟨b,e⟩:=TF (f:=f) (beh:=beh) (tr:=tr) ho (by omega) p ai;rw[e,ak,ac];have aj:=C4 ps c (show k+1≤(J4 d.word (ps.getD k c6) k s.a).1 by omega);obtain⟨y,z,A,B⟩:=iX n o d P t C m (J4 d.word (ps.getD k c6) k s.a).1 f s' b (tr++[m7 ps c k]) (by omega) af ag (by omega);rw[a2e,List.length_singleton]at A B;refine⟨y,z,?_,?_⟩
    ·show tr.length+(_+1)≤_
     omega
    ·show _≤2*(tr.length+(_+1))+_
     omega
   rcases aa with⟨q,_,_,am⟩|⟨q,_,_⟩|⟨q,_,_⟩|⟨q,ax,az,al⟩|⟨q,al,ay⟩
   ·have j:l7 ps c k=[⟨32,0,0,(ps.getD k c6).k⟩]:=by unfold l7;rw[q,if_neg (by decide),if_pos (show l0 32=Bf from rfl)]
    have l:J4 d.word (ps.getD k c6) k s.a=(k+1,d.word (ps.getD k c6).k):=by unfold J4;rw[if_pos q]
    refine D _ _ _ j (a0x d 0 0 _ s (RM ae am)) ho (by rw[l]) ?_;rw[l,w,j];rfl
   ·have j:l7 ps c k=[⟨84,0,0,(ps.getD k c6).k⟩]:=by unfold l7;rw[q,if_neg (by decide),if_pos (show l0 84=Bf from rfl)]
    have l:J4 d.word (ps.getD k c6) k s.a=(k+1,bits .and V s.a (ps.getD k c6).k):=by unfold J4;rw[if_neg (by omega),if_pos q]
    refine D _ _ _ j (SU d 0 0 _ s) ho (by rw[l]) ?_;rw[l,w,j];rfl
   ·exact absurd q u
   ·have j:l7 ps c k=[⟨5,0,0,o0 c (k+1) ((ps.getD k c6).th.toNat-(k+1))⟩]:=by unfold l7;rw[if_pos q]
    have l:J4 d.word (ps.getD k c6) k s.a=((ps.getD k c6).th.toNat,s.a):=bJ q _ _ _;have ad:=eX o (show k<(ps.getD k c6).th.toNat by omega) (by omega);have aj:=C4 ps c (show k+1≤(ps.getD k c6).th.toNat by omega);have S:m7 ps c (k+1)=m7 ps c k+1:=by rw[w,j];rfl
    refine D _ _ _ j (vU d 0 0 _ s) ho (by rw[l]) ?_;rw[l,ad];show _=m7 ps c (ps.getD k c6).th.toNat;omega
   ·have T:=a0h.2 q
    have L:(ps.getD k c6).code≠5:=by omega
    have l:J4 d.word (ps.getD k c6) k s.a=if r4 (ps.getD k c6) s.a then((ps.getD k c6).th.toNat,s.a)else((ps.getD k c6).el.toNat,s.a):=bK (by omega) _ _ _
    have R:∀a,r4 ⟨(ps.getD k c6).code,(ps.getD k c6).k,(ps.getD k c6).th,(ps.getD k c6).el⟩ a=r4 (ps.getD k c6) a:=fun a=>T8 rfl rfl a
    have N:=eX o (show k<(ps.getD k c6).th.toNat by omega) (by omega);have Q:=eX o (show k<(ps.getD k c6).el.toNat by omega) (by omega);have av:=C4 ps c (show k+1≤(ps.getD k c6).th.toNat by omega);have aw:=C4 ps c (show k+1≤(ps.getD k c6).el.toNat by omega);rcases o.one k hk with W|an
    ·have j:l7 ps c k=[⟨(ps.getD k c6).code,o0 c (k+1) ((ps.getD k c6).th.toNat-(k+1)),o0 c (k+1) ((ps.getD k c6).el.toNat-(k+1)),(ps.getD k c6).k⟩]:=by
      unfold l7;rw[if_neg L,if_neg (by rw[T];decide),if_pos W]
     have S:m7 ps c (k+1)=m7 ps c k+1:=by rw[w,j];rfl
     refine D _ _ _ j (JG d q _ _ _ (ps.getD k c6).th (ps.getD k c6).el s) ho (by rw[l];split<;>rfl) ?_;rw[l,R,N,Q];cases r4 (ps.getD k c6) s.a
     ·rw[if_neg (by decide),if_neg (by decide)]
      show _=m7 ps c (ps.getD k c6).el.toNat;omega
     ·rw[if_pos rfl,if_pos rfl]
      show _=m7 ps c (ps.getD k c6).th.toNat;omega
    ·have j:l7 ps c k=[⟨(ps.getD k c6).code,0,1,(ps.getD k c6).k⟩,⟨5,0,0,o0 c (k+1) ((ps.getD k c6).th.toNat-(k+1))+1⟩,⟨5,0,0,o0 c (k+1) ((ps.getD k c6).el.toNat-(k+1))⟩]:=by
      unfold l7;rw[if_neg L,if_neg (by rw[T];decide),if_neg (by omega)]
     have S:m7 ps c (k+1)=m7 ps c k+3:=by rw[w,j];rfl
     have F:=v 0 (by rw[j];show 0<3;omega);have G:=v 1 (by rw[j];show 1<3;omega);have H:=v 2 (by rw[j];show 2<3;omega);rw[j,a4z]at F;rw[j]at G H;obtain⟨b,e⟩:=TF (f:=f) (beh:=beh) (tr:=tr) ho (by omega) F (JG d q 0 1 _ (ps.getD k c6).th (ps.getD k c6).el s);obtain⟨g,rfl⟩:∃g,f=g+1:=⟨f-1,by omega⟩;rw[e,R,l];cases r4 (ps.getD k c6) s.a
     ·rw[if_neg (by decide),if_neg (by decide)]
      dsimp only;obtain⟨b2,E⟩:=TF (f:=g) (beh:=b) (tr:=tr++[m7 ps c k]) ho (by omega) H (vU d 0 0 (o0 c (k+1) ((ps.getD k c6).el.toNat-(k+1))) s);rw[show m7 ps c k+(1+(1:Int).toNat)=m7 ps c k+2 from rfl,E,Q,show m7 ps c k+2+(1+((m7 ps c (ps.getD k c6).el.toNat:Int)-m7 ps c (k+1)).toNat)=m7 ps c (ps.getD k c6).el.toNat by omega];obtain⟨y,z,A,B⟩:=iX n o d P t C m (ps.getD k c6).el.toNat g s b2 (tr++[m7 ps c k]++[m7 ps c k+2]) (by omega) (by omega) ho (by omega);rw[a2e,a2e,List.length_singleton,List.length_singleton]at A B;refine⟨y,z,?_,?_⟩
      ·show tr.length+(_+1)≤_
       omega
      ·show _≤2*(tr.length+(_+1))+_
       omega
     ·rw[if_pos rfl,if_pos rfl]
      dsimp only;obtain⟨b2,E⟩:=TF (f:=g) (beh:=b) (tr:=tr++[m7 ps c k]) ho (by omega) G (vU d 0 0 (o0 c (k+1) ((ps.getD k c6).th.toNat-(k+1))+1) s);rw[show m7 ps c k+(1+(0:Int).toNat)=m7 ps c k+1 from rfl,E,N,show m7 ps c k+1+(1+((m7 ps c (ps.getD k c6).th.toNat:Int)-m7 ps c (k+1)+1).toNat)=m7 ps c (ps.getD k c6).th.toNat by omega];obtain⟨y,z,A,B⟩:=iX n o d P t C m (ps.getD k c6).th.toNat g s b2 (tr++[m7 ps c k]++[m7 ps c k+1]) (by omega) (by omega) ho (by omega);rw[a2e,a2e,List.length_singleton,List.length_singleton]at A B;refine⟨y,z,?_,?_⟩
      ·show tr.length+(_+1)≤_
       omega
      ·show _≤2*(tr.length+(_+1))+_
       omega
end Go.Proofs.YtiomenjfmagknaaGreat
