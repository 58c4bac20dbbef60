/- A part of the proof of TopFront: lemmas on the walks of its calls. -/
import Derived.Great.Walk
import Derived.Test.YtcljlejgllkcjaaGreatM15
set_option maxHeartbeats 12000000
set_option linter.all false
set_option maxRecDepth 100000
namespace Go.Proofs.YtcljlejgllkcjaaGreat
open Go.RowKit Go.ChangeShapes Go.WideShapes Tryz
open Bool renaming and_eq_true→j3,true→Bt,false→Bf
open Decidable renaming decide→Dc
open Ending renaming returned→X
open Go renaming World→Wd,Value→Va,Calls→Ca,bodyPost_ret→Bp,TypeId→Ti,Addr→Ad,Program→Pg,strOfNums→Sn,wpList→Wp
open IntKind renaming i64→M,u64→U6,u8→U8
open IntWalk renaming i64_in→h7
open List renaming getD_eq_getElem?_getD→b9,getElem?_eq_getElem→e9,length_append→g1,getElem_mem→g3,take_succ_eq_append_getElem→g2,length_map→i1,range→m9,length_take→m4,length→D
open Nat renaming le_refl→a7,le_trans→b6,zero_le→c6,add_zero→j8
open Obj renaming cells→U
open Operand renaming tmp→Tm
open Option renaming none→J,some→So
open Value renaming int→I,slice→Z,string→Y,bool→O,tuple→Tp,agg→Ag
theorem pE(c:Int)(W:Wd):Ca prog 166 #[I U8 c] W λe a=>e=X (O (blk c))/\a9 W a:=by go_in;unfold blk;cases b:c==32<;>cases d:c==9<;>cases f:c==13;all_goals go_wp2;go_ret;exact⟨rfl,.refl _⟩
theorem H3(s:g4)(a b j:Nat)(d:a+j<b)(c:b<=s.size):p5 (s.extract a b) j=p5 s (a+j):=by rw[V3 _ _ (by rw[l6 _ _ _ a8 c];omega),V3 _ _ a8,ByteArray.getElem_extract]
theorem KF(s:g4)(j:Nat)(h:s.size<=j):p5 s j=0:=by unfold p5;rw[b9,List.getElem?_eq_none (by rw[<-Lib.size_eq];exact h)];rfl
theorem yN:∀(m:Nat)(s:g4)(a:Nat),a<=m->a<=s.size->(∀j<a,blk (p5 s j)=Bt)->blk (p5 s a)=Bf->T0 m s=s.extract a s.size
 |0,s,a,h,_,_,_=>by rw[(a8:a=0)];exact(ByteArray.extract_zero_size ..).symm
 |m+1,s,a,h,hs,h1,h2=>by
  unfold T0;rcases a with _|a
  rw[h2,if_neg e6];exact(ByteArray.extract_zero_size ..).symm;have c:(s.extract 1 s.size).size=s.size-1:=l6 _ _ _ a8 a8;have e:∀j,j<s.size-1->p5 (s.extract 1 s.size) j=p5 s (j+1):=λj b=>by rw[H3 _ _ _ _ a8 a8,Nat.add_comm]
  rw[h1 0 a8,if_pos rfl,yN m _ a a8 a8 (λj b=>by rw[e j a8];exact h1 _ a8) (by by_cases q:a<s.size-1;rw[e a q];exact h2;rw[KF _ _ a8];rfl),ByteArray.extract_extract,c]
  congr 1<;>omega
theorem oK:∀(n:Nat)(s:g4)(b:Nat),n=s.size->b<=n->(∀j,b<=j->j<n->blk (p5 s j)=Bt)->(0<b->blk (p5 s (b-1))=Bf)->S9 n s=s.extract 0 b
 |0,s,b,h,hb,_,_=>by rw[(a8:b=s.size)];exact(ByteArray.extract_zero_size ..).symm
 |n+1,s,b,h,hb,h1,h2=>by
  unfold S9;by_cases q:b=n+1;rw[(a8:n=b-1),h2 a8,if_neg e6,(a8:b=s.size)];exact(ByteArray.extract_zero_size ..).symm;have e:∀j,j<n->p5 (s.extract 0 n) j=p5 s j:=λj d=>by rw[H3 _ _ _ _ a8 a8,Nat.zero_add]
  rw[h1 n a8 a8,if_pos rfl,oK n _ b (by rw[l6 _ _ _ a8 a8];omega) a8 (λj a c=>by rw[e j c];exact h1 j a a8) (λa=>by rw[e _ a8];exact h2 a),ByteArray.extract_extract];congr 1<;>omega
theorem vI(s:g4)(a b:Nat)(l:a<=b)(m:b<=s.size)(d:∀j<a,blk (p5 s j)=Bt)(f:∀j,b<=j->j<s.size->blk (p5 s j)=Bt)(c:a<b->blk (p5 s a)=Bf/\blk (p5 s (b-1))=Bf)(i:a=b->b=s.size):H6 s=s.extract a b:=by
 have h:blk (p5 s a)=Bf:=by by_cases q:a<b;exact(c q).1;rw[KF _ _ a8];rfl
 have o:(s.extract a s.size).size=s.size-a:=l6 _ _ _ a8 a8;have e:∀j,j<s.size-a->p5 (s.extract a s.size) j=p5 s (a+j):=λj n=>H3 _ _ _ _ a8 a8
 unfold H6;rw[yN _ s a a8 a8 d h,oK _ _ (b-a) rfl a8 (λj g k=>by rw[e j a8];exact f _ a8 a8) (λg=>by rw[e _ a8,(a8:a+(b-a-1)=b-1)];exact(c a8).2),ByteArray.extract_extract];congr 1<;>omega
theorem CS(s:g4)(k:Nat)(d:k<s.size)(a:blk (p5 s k)=Bf):∀n,k<n->n<=s.size->(∀j,n<=j->j<s.size->blk (p5 s j)=Bt)->∃b,k<b/\b<=s.size/\blk (p5 s (b-1))=Bf/\∀j,b<=j->j<s.size->blk (p5 s j)=Bt
 |0,h1,_,_=>a8
 |n+1,h1,h2,h3=>by
  cases q:blk (p5 s n);exact⟨n+1,h1,h2,q,h3⟩;refine CS s k d a n ?_ a8 λj f c=> ?_
  refine Decidable.byContradiction λe=> ?_
  have e:k=n:=a8;subst e;rw[a]at q;cases q;by_cases e:j=n;rw[e];exact q;exact h3 j a8 c
theorem GT(s:g4)(k:Nat)(d:k<s.size)(e:∀j<k,blk (p5 s j)=Bt)(c:blk (p5 s k)=Bf):x5 s=(p5 s k==35||p5 s k==59):=by
 obtain⟨b,l,a,f,g⟩:=CS s k d c s.size d (a7 _) λj h i=>a8
 unfold x5;rw[vI s k b a8 a e g (λ_=>⟨c,f⟩) a8,H3 _ _ _ _ a8 a,l6 _ _ _ a8 a,decide_eq_true a8,Bool.true_and];rfl
theorem GQ(s:g4)(a:∀j<s.size,blk (p5 s j)=Bt):x5 s=Bf:=by unfold x5;rw[vI s s.size s.size a8 a8 a a8 a8 (λ_=>rfl),l6 _ _ _ a8 a8,Nat.sub_self];rfl
theorem ixS(s:g4)(k:Nat)(h:k<s.size)(W:Wd):(Instr.index 9 (Y s) (I M k)).run prog W= .ok (I U8 (p5 s k)) W:=by rw[run_index_string W _ s _ _ g6,dif_pos ⟨a8,a8⟩,V3 s k h];rfl
theorem LW{s:g4}{k:Nat}(a:k<s.size)(b:s.size<=100000000):∃c,w6 (p5 s k=c)/\(∀W,(Instr.index 9 (Y s) (I M k)).run prog W= .ok (I U8 c) W)/\Dc (k<s.size)=Bt/\k<100000000/\w6 (k<s.size):=
 ⟨_,a6 rfl,ixS s k a,decide_eq_true a,a8,a6 a⟩
theorem zM(W:Wd):Ca prog 179 #[] W λe b=>∃a,e=X (Z (So ⟨a,0,J⟩) 8 8)/\i5 b (So ⟨a,0,J⟩) ((nN U6).row j7)/\a9 W b:=by go_wp2;go_ret;exact⟨_,rfl,i5.f (e7.new _ _ _) g6,(a9.refl _).alloc _⟩
theorem tI(W:Wd):Ca prog 182 #[] W λe b=>∃a,e=X (Z (So ⟨a,0,J⟩) 8 8)/\i5 b (So ⟨a,0,J⟩) ((nN U6).row i9)/\a9 W b:=by go_wp2;go_ret;exact⟨_,rfl,i5.f (e7.new _ _ _) g6,(a9.refl _).alloc _⟩
theorem ME(W:Wd):Ca prog 262 #[] W λe b=>∃a,e=X (Z (So ⟨a,0,J⟩) 15 15)/\i5 b (So ⟨a,0,J⟩) ((nN U6).row E6)/\a9 W b:=by go_wp2;go_ret;exact⟨_,rfl,i5.f (e7.new _ _ _) g6,(a9.refl _).alloc _⟩
theorem TJ(W:Wd):Ca prog 263 #[] W λe c=>∃b,e=X (Z (So ⟨b,0,J⟩) 6 6)/\i5 c (So ⟨b,0,J⟩) (x4.row (r2.map λa=>a.1))/\a9 W c:=by go_wp2;go_ret;exact⟨_,rfl,i5.f (e7.new _ _ _) g6,(a9.refl _).alloc _⟩
theorem pF(s:g4)(r:s.size<=100000000)(W:Wd):Ca prog 112 #[Y s] W λe v=>e=X (O (x5 s))/\a9 W v:=by
 obtain⟨a,g,h⟩:=r6 (GT s) (GQ s) (@rfl _ (x5 s));generalize x5 s=R at a g⊢;go_wp2;go_loopw [3] (λx wr=>∃k:Nat,k<=s.size/\x=I M k/\(∀j<k,blk (p5 s j)=Bt)/\a9 W wr) (λx _=>s.size-(intOf x).toNat);exact⟨0,c6 _,rfl,λ_ A=>a8,.refl _⟩;obtain⟨k,C,rfl,i,m⟩:=hrel;have d:=a6 i;by_cases b:k<s.size
 ·have z:Dc (k<s.size)=Bt:=by simp;omega
  have k9:k<100000000:=a8;have o:=a6 b;have y:=ixS s k b;have a:=a6 (a k b d.O);clear i r;generalize p:p5 s k=c at*;obtain⟨f,q⟩:=j0 (pE c wr) p;clear b p;cases l:blk c<;>rw[l]at f a;·have h:=a6 (a rfl);clear a g l;cases t:c==35<;>cases u:c==59;all_goals rw[t,u]at h;go_wp2_with fail;refine l4 f λw n=>?_;go_wp2;go_ret;exact⟨by rw[h.O];rfl,m.trans n⟩
  go_wp2_with fail;refine l4 f λw n=>?_;go_wp2;go_roundw;exact⟨k+1,o.O,o3,λj B=>by
  by_cases e:j=k;rw[e,q.O];exact l;exact d j a8,m.trans n⟩
  have:=o.O;simp[intOf];omega
 obtain rfl:k=s.size:=a8;clear i;go_wp2;go_ret;exact⟨by rw[g d.O];rfl,m⟩
theorem IH(s:g4)(v:s.size<=100000000)(W:Wd):Ca prog 113 #[Y s] W λe P=>e=X (Y (H6 s))/\a9 W P:=by
 have p:=a6 (vI s);generalize H6 s=R at p⊢;go_in;go_upto_block 0 with fail;go_cut [3] (λx Q=>∃a:Nat,a<=s.size/\x=I M a/\(∀j<a,blk (p5 s j)=Bt)/\(a<s.size->blk (p5 s a)=Bf)/\a9 W Q)
 ·clear p;go_wp2;go_loopw [3] (λx wr=>∃a:Nat,a<=s.size/\x=I M a/\(∀j<a,blk (p5 s j)=Bt)/\a9 W wr) (λx _=>s.size-(intOf x).toNat);exact⟨0,c6 _,rfl,λ_ z=>a8,.refl _⟩;obtain⟨a,r,rfl,k,d⟩:=hrel;have f:=a6 k;clear k;by_cases l:a<s.size
  ·obtain⟨c,i,G,H,k9,t⟩:=LW l v;have h:=a6 (pE c wr);clear l v;cases g:blk c<;>rw[g]at h;all_goals go_wp2_with fail;refine l4 h λF o=>?_;go_wp2
   ·go_meet;exact⟨a,r,rfl,f.O,λ_=>by rw[i.O];exact g,d.trans o⟩
   go_roundw;exact⟨a+1,t.O,o3,λj T=>by
   by_cases e:j=a;rw[e,i.O];exact g;exact f j a8,d.trans o⟩
   have:=t.O;simp[intOf];omega
  obtain rfl:a=s.size:=a8;go_wp2;go_meet;exact⟨_,r,rfl,f.O,λz=>absurd z l,d⟩
 obtain⟨a,r,rfl,A,B,d⟩:=hcut;obtain⟨w,y⟩:=j0 A B;clear A B;go_wp2;go_loopw [4] (λx wr=>∃b:Nat,a<=b/\b<=s.size/\x=I M b/\(∀j,b<=j->j<s.size->blk (p5 s j)=Bt)/\a9 W wr) (λx _=>(intOf x).toNat);exact⟨s.size,r,a7 _,rfl,λ_ _ _=>a8,d⟩;obtain⟨b,C,E,rfl,k,d⟩:=hrel;have f:=a6 k;clear k;by_cases l:a<b
 ·obtain⟨m,rfl⟩:∃m,b=m+1:=⟨b-1,a8⟩;obtain⟨c,i,G,-,k9,t⟩:=LW (a8:m<s.size) v;have h:=a6 (pE c wr);have H:Dc (a<m+1)=Bt:=decide_eq_true l;have F:IntKind.i64.wrap ((m:Int)+1-1)=m:=by rw[(a8:(m:Int)+1-1=m)];exact h7 _ a8
  cases g:blk c<;>rw[g]at h;all_goals go_wp2_with fail;refine l4 h λF o=>?_
  ·have n:=p a (m+1) C E w f (λ_=>⟨y a8,by rw[Nat.add_sub_cancel,i.O];exact g⟩) a8;have aa:(a:Int)<=((m+1:Nat):Int):=a8;have N:((m+1:Nat):Int)<=s.size:=a8;have u:=a6 n;clear n;go_wp2;go_ret;exact⟨by rw[u.O];rfl,d.trans o⟩
  go_wp2;go_roundw;exact⟨m,a8,a8,rfl,λj S L=>by
  by_cases e:j=m;rw[e,i.O];exact g;exact f j a8 L,d.trans o⟩
  simp[intOf]
 obtain rfl:a=b:=a8;have n:=p a a C E w f a8 (λ_=>by by_cases q:a<s.size;have:=y q;rw[f a (a7 _) q]at this;cases this;omega)
 have N:(a:Int)<=s.size:=a8;have ab:(0:Int)<=a:=a8;have u:=a6 (show R= .empty by rw[n];simp);clear n;go_wp2;go_ret;exact⟨by rw[u.O];rfl,d⟩
theorem oC(s:g4)(j:Nat)(a:j<s.size)(c:UInt8):s.data.toList[j]? =So c↔p5 s j=c.toNat:=by
 have b:j<D s.data.toList:=by rw[<-Lib.size_eq];exact a
 unfold p5;rw[b9,e9 b,Option.some.injEq,Option.getD_some,Int.natCast_inj,UInt8.toNat_inj]
theorem xO(s:g4)(c:UInt8)(i:Nat)(hi:i<s.size)(d:∀j<i,p5 s j≠c.toNat)(b:p5 s i=c.toNat):H2 s c=(s.extract 0 i,s.extract (i+1) s.size,Bt):=by
 rcases eN s c with⟨m,e⟩|⟨k,g,f,e⟩
 exact absurd ((oC s i hi c).2 b) (Lib.indexByte_none (by have:=Lib.indexByte_ge s.data.toList c;omega) i);obtain⟨h,l⟩:=Lib.indexByte_some f;rcases Nat.lt_trichotomy k i with a|a|a
 exact absurd ((oC s k g c).1 h) (d k a);rw[e,a];exact absurd ((oC s i hi c).2 b) (l i a)
theorem xN(s:g4)(c:UInt8)(b:∀j<s.size,p5 s j≠c.toNat):H2 s c=(s,⟨#[]⟩,Bf):=by
 rcases eN s c with⟨_,e⟩|⟨k,a,d,e⟩
 exact e;exact absurd ((oC s k a c).1 (Lib.indexByte_some d).1) (b k a)
def U4(s:g4)(f:Nat):C2:=y5 (s.extract f s.size).size (s.extract f s.size)
theorem NQ(s:g4)(f i:Nat)(d:f<=i)(hi:i<s.size)(a:∀j,f<=j->j<i->p5 s j≠10)(b:p5 s i=10):U4 s f=s.extract f i::U4 s (i+1):=by have c:=l6 s f s.size a8 a8;unfold U4;rw[dD _ a8,xO _ 10 (i-f) a8 (λj e=>by rw[H3 _ _ _ _ a8 a8];exact a _ a8 a8) (by rw[H3 _ _ _ _ a8 a8,(a8:f+(i-f)=i)];exact b),c];dsimp only;rw[ByteArray.extract_extract,ByteArray.extract_extract,(a8:f+(i-f+1)=i+1),(a8:f+(s.size-f)=s.size),(a8:min (f+(i-f)) s.size=i),Nat.min_self,j8]
theorem NP(s:g4)(f:Nat)(b:f<s.size)(a:∀j,f<=j->j<s.size->p5 s j≠10):U4 s f=[s.extract f s.size]:=by have d:=l6 s f s.size a8 a8;unfold U4;rw[dD _ a8,xN _ 10 (λj c=>by rw[H3 _ _ _ _ a8 a8];exact a _ a8 a8)];rfl
theorem FH(s:g4):U4 s s.size=[]:=by unfold U4;rw[l6 s _ _ (a7 _) (a7 _),Nat.sub_self];rfl
theorem AU(s:g4):U4 s 0=y5 s.size s:=by unfold U4;rw[ByteArray.extract_zero_size]
theorem RQ(xs:o5)(b:sP xs)(k:Nat)(a:k<D xs):p5 (Sn xs) k=xs[k]:=by have:=b _ (g3 a);unfold p5 Sn;simp[b9,a];omega
theorem LD(xs:o5)(f i:Nat):Sn ((xs.drop f).take (i-f))=(Sn xs).extract f i:=by unfold Sn;apply ByteArray.ext;simp[ByteArray.data_extract,List.map_take,List.map_drop]
theorem a4r(xs:o5)(a:sP xs):∃S,Sn xs=S/\w6 (S.size=D xs)/\w6 (∀k(b:k<D xs),p5 S k=xs[k])/\w6 (∀f i,Sn ((xs.drop f).take (i-f))=S.extract f i):=
 ⟨_,rfl,a6 (by simp[Sn,ByteArray.size]),a6 (RQ xs a),a6 (LD xs)⟩
theorem TF(F:p1)(n c:Nat)(xs:o5)(w:Wd)(W:D xs=n)(ap:n<=65536)(aq:n<=c)(N:sP xs)(P:i5 w F (l8 U8 xs)):
 Ca prog 111 #[Z F n c] w λe ad=>∃v,e=X v/\c7 ad w 9 x4 v (y5 (Sn xs).size (Sn xs))/\a9 w ad:=by
 obtain⟨S,Q,o,ae,H⟩:=a4r xs N;obtain⟨p,a⟩:=j0 P W;obtain⟨R,h⟩:∃R,R=U4 S 0:=⟨_,rfl⟩;rw[Q,<-AU,<-h];clear P N Q W;have ar:(n:Int)<=c:=a8;go_wp2;go_loopw [3,4,5] (λv x m wr=>∃(f i:Nat)(l:C2),f<=i/\i<=n/\x=I M f/\m=I M i/\D l<=f/\R=l++U4 S f/\(∀j,f<=j->j<i->p5 S j≠10)/\c7 wr w.heap.size 9 x4 v l/\a9 w wr) (λ_ _ m _=>n-(intOf m).toNat);exact⟨0,0,[],a7 _,c6 _,rfl,rfl,a7 _,h,λ_ _ _=>a8,c7.nil _ _ _ _,.refl _⟩;clear h;obtain⟨f,i,l,al,ax,rfl,rfl,A,h,T,s,d⟩:=hrel;obtain⟨u,q⟩:=j0 T h;clear T h;by_cases r:i<n
 ·obtain⟨b,E,rfl,-,aj⟩:=(p.h d).at_ (k:=i) (by simp[a.O];exact r);rw[List.getElem_map]at aj;have av:(0:Int)<=i:=a8;have aw:(i:Int)<n:=a8;have G:=a6 (ae i (by rw[a.O];exact r));generalize xs[i]'(by rw[a.O];exact r)=m at*;cases ab:m==10
  ·have aa:m≠10:=by simpa using ab
   have af:=a6 aa;clear aa;go_wp2;go_roundw;exact⟨f,i+1,l,a8,a8,rfl,o3,A,q.O,λj L ah=>by
   by_cases e:j=i;rw[e,G.O];exact af.O;exact u j L a8,s,d⟩
   simp[intOf];omega
  have ac:=NQ S f i al (by rw[o.O,a.O];exact r) u (G.trans (by simpa using ab));have ag:=a6 ac;have z:=qW (So ⟨b,E+f,J⟩) (i-f) (c-f) _ wr (by rw[m4,List.length_drop,a.O];omega) ((p.h d).seg f (i-f));rw[H.O]at z;generalize S.extract f i=t at*;clear ac;go_wp2_with(at_builtin;refine h8 rfl (Tm 17) (Tm 23) 186 9 rfl cO w _ l rfl (s.h ((a9.refl wr).alloc _)) _ 1 1 [t] rfl rfl (i5.f (e7.new _ _ _) rfl) a8 (d.alloc _).size ?_;intro an ao B C am ai);go_roundw;exact⟨i+1,i+1,l++[t],a8,a8,o3,o3,by rw[g1];simp;omega,by rw[q.O,ag.O];simp,λj L ah=>a8,B,C w (d.alloc _) (a7 _)⟩;simp[intOf];omega
 obtain rfl:i=n:=a8;by_cases A:f<i;·have g:=NP S f (by rw[o.O,a.O];exact A) (by rw[o.O,a.O];exact u.O);obtain⟨b,E,rfl,-⟩:=(p.h d).some_ (by rw[l8,i1,a.O];omega);have z:=qW (So ⟨b,E+f,J⟩) (i-f) (c-f) _ wr (by rw[m4,List.length_drop,a.O];omega) ((p.h d).seg f (i-f));rw[H.O]at z;rw[o.O,a.O]at g;generalize S.extract f i=t at*;have ak:(0:Int)<=f:=a8;have au:(f:Int)<i:=a8;have y:=a6 g;clear g;go_wp2_with(at_builtin;refine h8 rfl (Tm 31) (Tm 36) 186 9 rfl cO w _ l rfl (s.h ((a9.refl wr).alloc _)) _ 1 1 [t] rfl rfl (i5.f (e7.new _ _ _) rfl) a8 (d.alloc _).size ?_;intro an ao B C am ai);go_ret;exact⟨_,rfl,by rw[q.O,y.O];exact B,C w (d.alloc _) (a7 _)⟩
 obtain rfl:f=i:=a8;have g:=FH S;rw[o.O,a.O]at g;have ak:(0:Int)<=f:=a8;have y:=a6 g;clear g;go_wp2;go_ret;exact⟨_,rfl,by rw[q.O,y.O,List.append_nil];exact s,d⟩
theorem wB(h:Nat)(l:List Nm)(s:g4)(c:Int)(W:Wd)(r:D l<=100)(f:i5 W h ((nN U6).row l)):
 Ca prog 178 #[Z h (D l) (D l),Y s,I M c] W λe q=>e=X (Tp #[I U6 (p0 l s c).1,I M (p0 l s c).2])/\a9 W q:=by
 obtain⟨m,n⟩:=j0 f (λk j=>gG l k j s c);obtain⟨R,b⟩:∃R,R=p0 l s c:=⟨_,rfl⟩;rw[<-b];clear f;go_wp2;go_loopw [8] (λi wr=>∃k:Nat,k<=D l/\i=I M k/\R=p0 (l.drop k) s c/\wr=W) (λi _=>D l-(intOf i).toNat);exact⟨0,a8,rfl,b,rfl⟩;clear b;obtain⟨k,j,rfl,b,rfl⟩:=hrel;by_cases g:k<D l
 ·obtain⟨o,p⟩:=cY m g;rw[n k g]at b;generalize l[k]=E at*;obtain⟨a,t⟩:=E;dsimp only at b o p;have k0:(0:Int)<=k:=a8;have k1:(k:Int)<D l:=a8;rcases f:a.toList==s.toList with _|_
  all_goals
   rw[f]at b;have d:=a6 b;clear b;go_wp2_with fail;first
    |(go_ret2;exact⟨by rw[d.O];rfl,.refl _⟩)
    |(go_roundw
      case rel=>exact⟨k+1,g,o3,d.O,by trivial⟩
      case measure=>simp[intOf];omega)
 obtain rfl:k=D l:=a8;rw[List.drop_length]at b;have d:=a6 b;clear b;go_wp2;go_ret2;exact⟨by rw[d.O];rfl,.refl _⟩
def RN(l:List Nm)(x:Int):Int:=l.foldl (λa y=>IntKind.u64.wrap (a+y.2)) x
theorem a0b:RN i9 0=l9:=g6
theorem a3w(W:Wd):Ca prog 181 #[] W λe q=>e=X (I U6 l9)/\a9 W q:=by
 obtain⟨l,f⟩:=j0 (tI W) (show D i9=8 from rfl);obtain⟨R,b⟩:∃R,R=RN i9 0:=⟨_,rfl⟩;rw[<-a0b,<-b];have n:=a6 (λ(k:Nat)(h:k<D i9)(x:Int)=>show RN (i9.drop k) x=RN (i9.drop (k+1)) (IntKind.u64.wrap (x+i9[k].2)) by rw[List.drop_eq_getElem_cons h];rfl);generalize i9=L at*;go_in;go_wp2_with fail;apply l.mono;rintro e r⟨s,rfl,g,p⟩;have m:=a6 g;clear g;go_wp2;go_loopw [2,3] (λv i wr=>∃(k:Nat)(x:Int),k<=8/\i=I M k/\v=I U6 x/\R=RN (L.drop k) x/\wr=r) (λ_ i _=>8-(intOf i).toNat);exact⟨0,0,a8,rfl,rfl,b,rfl⟩;clear b;obtain⟨k,x,h,rfl,rfl,b,rfl⟩:=hrel;by_cases j:k<8
 ·have d:k<D L:=by rw[f.O];exact j
  obtain⟨-,o⟩:=cY m d;rw[n k d]at b;generalize L[k]=E at*;have c:=a6 b;have k0:(0:Int)<=k:=a8;have k1:(k:Int)<8:=a8;obtain⟨a,t⟩:=E;dsimp only at o c;clear b d;go_wp2;go_roundw;exact⟨k+1,_,j,o3,rfl,c.O,by trivial⟩;simp[intOf];omega
 obtain rfl:k=8:=a8;rw[List.drop_of_length_le (by rw[f.O];exact a7 _)]at b;have c:=a6 b;clear b;go_wp2;go_ret;exact⟨by rw[c.O];rfl,p⟩
def evs(a:Act)(b:Array (Nat×Operand)):List (Nat×Va):=(b.map λ(i,x)=>(i,a.eval x)).toList
def cN(P:Pg):List Oper->Act->Nat->Option (Act×List Obj)
 |[],a,_=>So (a,[])
 |o::os,a,n=>if o.guard.isSome then J else match o.op with
  | .build t parts=>(P.built t (evs a parts)).bind λcs=>cN P os (a.put o.dst (.agg cs)) n
  | .buildSlice t len parts=>match P.underlying t with
   |some (.slice e)=>(P.builtSlice e len (evs a parts)).bind λcs=>(cN P os (a.put o.dst (.slice n len len)) (n+1)).map λr=>(r.1,.cells cs e::r.2)
   |_=>J
  | .assign x=>cN P os (a.put o.dst (a.eval x)) n
  |_=>J
theorem aM{P:Pg}{m:Array Oper}{Q:Exit->Act->Wd->Prop}:∀(os:List Oper)(a:Act)(w:Wd)(r:Act×List Obj),cN P os a w=So r->Q .normal r.1 (r.2.foldl World.alloc w)->Wp P m Q os a w
 |[],a,w,r,h,hq=>by cases h;exact hq
 |o::os,a,w,r,h,hq=>by
  unfold cN at h;split at h;cases h;rename_i c;have c:o.guard=J:=by simpa using c
  split at h;rename_i t g d;obtain⟨cs,b,f⟩:=Option.bind_eq_some_iff.1 h;refine Go.wpList_build c t g d (by unfold evs at b;rw[b];rfl) ?_;unfold evs at b;rw[b];exact aM os _ w r f hq;rename_i t l g d;split at h;rename_i e k;obtain⟨cs,b,f⟩:=Option.bind_eq_some_iff.1 h;obtain⟨n,i,rfl⟩:=Option.map_eq_some_iff.1 f;refine Go.Great.wpList_buildSliceTo c t e l g d _ rfl _ rfl k cs b ?_;refine aM os _ (w.alloc (U cs e)) n ?_ hq;rw[(i3:(w.alloc (U cs e)).heap.size=w.heap.size+1)];exact i;cases h;rename_i x d;refine wpList_plain c λp j=> ?_
  unfold Oper.wp execOp;rw[d];exact j _ _ (aM os _ w r h hq);cases h
theorem nC:∀(l:List Obj)(w:Wd),a9 w (l.foldl World.alloc w)
 |[],w=> .refl w
 |o::l,w=>((a9.refl w).alloc o).trans (nC l _)
theorem nD:∀(l:List Obj)(w:Wd)(i:Nat)(cs:Array Va)(e:Ti),l[i]? =So (U cs e)->e7 (l.foldl World.alloc w) (w+i) e cs
 |[],w,i,cs,e,h=>by simp at h
 |o::l,w,0,cs,e,h=>by simp at h;subst h;exact(e7.new w e cs).h (nC l _)
 |o::l,w,i+1,cs,e,h=>by have:=nD l (w.alloc o) i cs e (by simpa using h);rwa[show(w.alloc o).heap.size+i=w.heap.size+(i+1) by simp;omega]at this
theorem QO{P:Pg}{id:Nat}{b:Array Oper}{Q:Exit->Act->Wd->Prop}{a:Act}{w:Wd}(c:(cN P b.toList a w).isSome=Bt)
  (d:Q .normal ((cN P b.toList a w).get c).1 (((cN P b.toList a w).get c).2.foldl World.alloc w)):(Code.region id b Bf).wp P Q a w:=
 wp_region_list (aM _ _ _ _ (Option.some_get c).symm d)
def a1s(n i:Nat):ZP:=⟨(y1.getD i (⟨#[]⟩,[])).1,n+i,(y1.getD i (⟨#[]⟩,[])).2⟩
def JP(n:Nat):List ZP:=(m9 18).map (a1s n)
theorem WT(n:Nat):(JP n).map (λg=>(g.name,g.has))=y1:=by unfold JP;rw[List.map_map];kernel_rfl
theorem OJ(l:List Obj)(W:Wd)(c:l.take 18=(m9 18).map λi=>U (x4.row (a1s 0 i).has).toArray 9):dL W (l.foldl World.alloc W) (JP W):=λg b=>by
 obtain⟨i,hi,rfl⟩:=List.mem_map.1 b;have hi:=List.mem_range.1 hi;have a:l[i]? =So (U (x4.row (a1s W i).has).toArray 9):=by have:=congrArg (·[i]?) c;simp only[List.getElem?_take,hi,if_true,List.getElem?_map,List.getElem?_range hi,Option.map_some]at this;exact this
 exact⟨Nat.le_add_right _ _,i5.f (nD l W i _ _ a) rfl⟩
theorem a42(e:Ending)(l:List Obj)(W:Wd)(d:e=X (Z (W+18:Nat) 18 18))(c:l[18]? =So (U (OL.row (JP W)).toArray 442))(f:l.take 18=(m9 18).map λi=>U (x4.row (a1s 0 i).has).toArray 9):
  ∃(b:Nat)(a:List ZP),e=X (Z b 18 18)/\a.map (λg=>(g.name,g.has))=y1/\i5 (l.foldl World.alloc W) b (OL.row a)/\dL W (l.foldl World.alloc W) a/\a9 W (l.foldl World.alloc W):=
 ⟨_,_,d,WT _,i5.f (nD l W 18 _ _ c) rfl,OJ l W f,nC _ _⟩
theorem TG(W:Wd):Ca prog 332 #[] W λe b=>∃(c:Nat)(a:List ZP),e=X (Z c 18 18)/\a.map (λg=>(g.name,g.has))=y1/\i5 b c (OL.row a)/\dL W b a/\a9 W b:=by go_in;go_upto_region 1 with fail;refine QO g6 ?_;rename_i f d;refine d _ _ ?_;refine wp_ret ?_;exact Bp (results_tmp rfl _ _ _) g6 (a42 _ _ _ (congrArg X g6) g6 g6)
theorem pG(s:g4)(W:Wd):Ca prog 258 #[Y s] W λe y=>∃v,e=X v/\ZD W y v (p2 s)/\a9 W y:=by
 obtain⟨E,A⟩:=j0 TG (show D y1=18 from rfl);obtain⟨R,a⟩:∃R,R=p2 s:=⟨_,rfl⟩;rw[<-a];unfold p2 at a;generalize y1=L at*;go_in;go_wp2_with fail;apply(E _).mono;rintro e H⟨g,b,rfl,f,n,u,w⟩;have t:D b=18:=by rw[<-A.O,<-f,i1]
 have o:R=(b.find? λx=>x.name.toList==s.toList).map (·.has):=by rw[a,<-f,List.find?_map,Option.map_map];rfl
 clear a;obtain⟨j,z,h,C⟩:=F6 n u t (λk q=>aB b (λx=>x.name.toList==s.toList) k q);clear n u f t;go_wp2;go_loopw [4] (λi wr=>wr=H/\∃k:Nat,k<=18/\i=I M k/\R=((b.drop k).find? λx=>x.name.toList==s.toList).map (·.has)) (λi _=>18-(intOf i).toNat);exact⟨rfl,0,e6,rfl,o⟩;clear o;obtain⟨rfl,k,q,rfl,a⟩:=hrel;by_cases F:k<18
 ·have c:k<D b:=by rw[h.O];exact F
  have l:=j.elt0 c (r:=0) rfl;have m:=j.elt0 c (r:=1) rfl;have d:=a6 (z _ (g3 c));rw[C k c]at a;dsimp only[OL,j8]at l m;generalize b[k]=x at*;obtain⟨nm,G,N⟩:=x;dsimp only at l m d a;have P:(k:Int)<18:=a8;clear c;rcases p:nm.toList==s.toList with _|_
  ·rw[p]at a;have B:=a6 a;clear a;go_wp2;go_roundw;exact⟨by trivial,k+1,a8,o3,B.O⟩;simp[intOf];omega
  rw[p]at a;simp only[if_true,Option.map_some]at a;subst a;go_wp2;go_ret;exact⟨_,rfl,⟨G,rfl,d.1,d.2⟩,w⟩
 obtain rfl:k=18:=a8;rw[List.drop_of_length_le (by rw[h.O];exact a7 _)]at a;subst a;go_wp2;go_ret;exact⟨_,rfl,rfl,w⟩
theorem II:∀(f:Nat)(ab:f<=100)(s:g4),Y3 f s=Bt->∀W,Ca prog 259 #[Y s] W λe ad=>e=X (I M (y6 f s))/\a9 W ad
 |0,_,s,h,W=>by cases h
 |f+1,ab,s,h,W=>by
  have q:=a6 (pG s);have ih:=II f a8;have u:=qS f;unfold Y3 at h;unfold y6;rcases o:p2 s with _|l
  ·rw[o]at q;go_in;go_wp2_with fail;apply(q _).mono;rintro e ae⟨v,rfl,y,d⟩;obtain rfl:=y;go_wp2;go_loopw [4,5] (λn i wr=>wr=ae/\n=I M 0/\i=I M 0) (λ_ _ _=>0);exact⟨rfl,rfl,rfl⟩;obtain⟨rfl,rfl,rfl⟩:=hrel;go_wp2;go_ret;exact⟨rfl,d⟩
  rw[o]at q h;have ak:=a4k o;obtain⟨H,L,F,P⟩:=F6 (List.all_eq_true.1 h) ih u (λk(B:k<D l)(x:Int)=>show(l.drop k).foldl (λn m=>max n (y6 f m+1)) x=(l.drop (k+1)).foldl (λn m=>max n (y6 f m+1)) (max x (y6 f l[k]+1)) by rw[List.drop_eq_getElem_cons B];rfl);have t:∀(l:C2)(x:Int),l.foldl (λn m=>max n (y6 f m+1)) (x+1)=l.foldl (λn m=>max n (y6 f m)) x+1:=λl=>by
   induction l with
   |nil=>intro x;rfl
   |cons a l ih=>intro x;rw[List.foldl_cons,List.foldl_cons,(a8:max (x+1) (y6 f a+1)=max x (y6 f a)+1)];exact ih _
  have C:l≠[]:=λe=>by have aa:(y1.all λg=> !g.2.isEmpty)=Bt:=yA;obtain⟨g,ac,rfl⟩:=P1 o;have:=List.all_eq_true.1 aa g ac;rw[e]at this;exact absurd this e6
  obtain⟨R,c⟩:∃R,R=l.foldl (λn m=>max n (y6 f m+1)) 0:=⟨_,rfl⟩;have A:l.foldl (λn m=>max n (y6 f m)) 0+1=R:=by
   rw[c];cases l with
   |nil=>exact absurd rfl C
   |cons a l=>
    have:=(u a).1
    rw[List.foldl_cons,List.foldl_cons,(a8:max 0 (y6 f a+1)=max 0 (y6 f a)+1),t]
  dsimp only;rw[A];clear h ih u o C A t;go_in;go_wp2_with fail;apply(q _).mono;rintro e af⟨v,rfl,y,d⟩;obtain⟨G,rfl,_,z⟩:=y;have N:=a6 z;clear z;go_wp2;go_loopw [4,5] (λn i wr=>∃(k:Nat)(x:Int),k<=D l/\i=I M k/\n=I M x/\0<=x/\x<=f+1/\R=(l.drop k).foldl (λn m=>max n (y6 f m+1)) x/\a9 W wr/\a9 af wr) (λ_ i _=>D l-(intOf i).toNat);exact⟨0,0,a8,rfl,rfl,a8,a8,c,d,a9.refl _⟩;clear c d;obtain⟨k,x,B,rfl,rfl,ah,t,c,d,p⟩:=hrel;by_cases w:k<D l
  ·have Q:=(N.h p).elt0 w (r:=0) rfl;simp only[x4,j8,Nat.mul_one]at Q;rw[P k w]at c;have S:=L _ (H _ (g3 w));have ai:=F l[k];generalize l[k]=m at*;generalize y6 f m=j at*;have b:=a6 c;clear c;have ag:IntKind.i64.wrap (j+1)=j+1:=h7 _ a8;go_wp2_with fail;refine l4 (S _) λal E=>?_;have d:=d.trans E;have p:=p.trans E;by_cases aj:x<j+1;·have b:=b.O;rw[(a8:max x (j+1)=j+1)]at b;have b:=a6 b;go_wp2;go_roundw;exact⟨k+1,_,a8,o3,rfl,a8,a8,b.O,d,p⟩;simp[intOf];omega
   have b:=b.O;rw[(a8:max x (j+1)=x)]at b;have b:=a6 b;go_wp2;go_roundw;exact⟨k+1,_,a8,o3,rfl,a8,a8,b.O,d,p⟩;simp[intOf];omega
  obtain rfl:k=D l:=a8;rw[List.drop_of_length_le a8]at c;have T:R=x:=c;clear c;subst T;go_wp2;go_ret;exact⟨rfl,d⟩
section
theorem AJ:∀(a:Nat)(L:C2)(k:Nat)(h:k<D L),(mO a L)[k]'(by rw[T8];exact h)=(a+k,L[k])
 |a,x::L,0,h=>rfl
 |a,x::L,k+1,h=>by show(mO (a+1) L)[k]'_=_;rw[AJ (a+1) L k (by simpa using h),Nat.add_assoc,Nat.add_comm 1 k];rfl
theorem a6s(l:List UInt8)(x c:UInt8):Lib.hasSuffix (l++[x]) [c]=(x==c):=by unfold Lib.hasSuffix;rw[List.isSuffixOf,List.reverse_append];simp[List.isPrefixOf];exact Bool.beq_comm ..
theorem jB(s:g4)(j:Nat)(h:j<D s.data.toList):p5 s j=s.data.toList[j].toNat:=by unfold p5;rw[b9,e9 h];rfl
theorem a2e(x c:UInt8):(x==c)=((x.toNat:Int)==c.toNat):=by rw[Bool.eq_iff_iff,beq_iff_eq,beq_iff_eq,<-UInt8.toNat_inj,Int.natCast_inj]
theorem a27(s:g4)(c:UInt8){m:Nat}(b:s.size=m+1):Lib.hasSuffix s.data.toList [c]=(p5 s m==c.toNat)/\(p5 s m=c.toNat->(⟨(Lib.trimSuffix s.data.toList [c]).toArray⟩:g4)=s.extract 0 m):=by
 have d:D s.data.toList=m+1:=by rw[<-Lib.size_eq];exact b
 have e:s.data.toList=s.data.toList.take m++[s.data.toList[m]]:=by rw[<-g2,List.take_of_length_le a8]
 have a:Lib.hasSuffix s.data.toList [c]=(p5 s m==c.toNat):=by rw[jB s m a8,<-a2e];exact(congrArg (λz=>Lib.hasSuffix z [c]) e).trans (a6s _ _ _)
 refine⟨a,λq=> ?_⟩;unfold Lib.trimSuffix;rw[if_pos (a.trans (by rw[q,beq_self_eq_true])),d];apply ByteArray.ext;apply Array.toList_inj.1;simp[ByteArray.data_extract,Array.toList_extract,List.extract_eq_take_drop]
theorem MH(s:g4)(c:UInt8)(d:0<s.size):Lib.hasPrefix s.data.toList [c]=(p5 s 0==c.toNat)/\(p5 s 0=c.toNat->(⟨(Lib.trimPrefix s.data.toList [c]).toArray⟩:g4)=s.extract 1 s.size):=by
 have b:0<D s.data.toList:=by rw[<-Lib.size_eq];exact d
 have a:Lib.hasPrefix s.data.toList [c]=(p5 s 0==c.toNat):=by
  rw[jB s 0 b,<-a2e];unfold Lib.hasPrefix;generalize s.data.toList=l at*;rcases l with _|⟨x,r⟩
  cases b;simp[List.isPrefixOf];exact Bool.beq_comm ..
 refine⟨a,λq=> ?_⟩;unfold Lib.trimPrefix;rw[if_pos (a.trans (by rw[q,beq_self_eq_true]))];apply ByteArray.ext;apply Array.toList_inj.1;simp only[ByteArray.data_extract,Array.toList_extract,List.extract_eq_take_drop,List.length_singleton];exact(List.take_of_length_le (by rw[List.length_drop,Lib.size_eq];exact a7 _)).symm
theorem a0c{s:g4}{m:Nat}(h:s.size=m+1):yT s=(p5 s m==92)/\(p5 s m=92->fS s=s.extract 0 m):=a27 s 92 h
theorem a26{s:g4}(h:s.size=0):yT s=Bf:=by have:=iR s h;subst this;rfl
theorem lR:∀(f:Nat)(r:g4),∀x∈y5 f r,x.size<=r.size
 |0,r,x,a=>by cases a
 |f+1,r,x,a=>by
  have b:=aD r 10;unfold y5 at a;split at a;cases a;rcases List.mem_cons.1 a with a|a
  rw[a];exact b.1;exact b6 (lR f _ x a) b.2
section
variable (L:List ByteArray)
def aA(k:Nat):KJ:=s3 ((mO 1 L).take k)
theorem N5(k:Nat)(h:k<D L):aA L (k+1)=C6 (aA L k) (k+1,L[k]):=by unfold aA;rw[g2 (by rw[T8];exact h),U7,AJ 1 L k h,Nat.add_comm 1 k]
def ZL(k0:Nat)(a:List (Nat×g4))(k:Nat)(t:g4):Prop:=(k=k0/\t=⟨#[]⟩/\(∃b:k0<D L,x5 L[k0]=Bf)/\aA L k0=(a,0,⟨#[]⟩))\/k0<k/\aA L k=(a,k0+1,t)
theorem ZL.com{k0 k:Nat}{c:List (Nat×g4)}{t:g4}(a:ZL L k0 c k t)(e:k<D L)(b:x5 L[k]=Bt):ZL L k0 c (k+1) t:=by
 rcases a with⟨rfl,_,⟨_,a⟩,_⟩|⟨f,d⟩
 rw[a]at b;cases b;exact .inr ⟨a8,by rw[N5 L k e,C6,if_pos b];exact d⟩
theorem ZL.on{k0 k:Nat}{e:List (Nat×g4)}{t:g4}(a:ZL L k0 e k t)(c:k<D L)(b:x5 L[k]=Bf)(d:yT L[k]=Bt):ZL L k0 e (k+1) (t++(fS L[k]++⟨#[32]⟩)):=by
 rcases a with⟨rfl,rfl,_,a⟩|⟨g,f⟩
 exact .inr ⟨a8,by rw[N5 L k c,C6,if_neg (by rw[b];decide),if_pos d,a];rfl⟩;exact .inr ⟨a8,by rw[N5 L k c,C6,if_neg (by rw[b];decide),if_pos d,f];rfl⟩
theorem ZL.off{k0 k:Nat}{e:List (Nat×g4)}{t:g4}(a:ZL L k0 e k t)(c:k<D L)(b:x5 L[k]=Bf)(d:yT L[k]=Bf):aA L (k+1)=(e++H7 (k0+1) (t++L[k]),0,⟨#[]⟩):=by
 rcases a with⟨rfl,rfl,_,a⟩|⟨g,f⟩
 rw[N5 L k c,C6,if_neg (by rw[b];decide),if_neg (by rw[d];decide),a];rfl;rw[N5 L k c,C6,if_neg (by rw[b];decide),if_neg (by rw[d];decide),f];rfl
end
def q0(L:C2)(k:Nat)(a:List (Nat×g4)):Prop:=aA L k=(a,0,⟨#[]⟩)\/D L<=k/\(aA L (D L)).1++H7 (aA L (D L)).2.1 (aA L (D L)).2.2=a
theorem q0.end_{s:g4}{k:Nat}{c:List (Nat×g4)}(a:q0 (y5 s.size s) k c)(b:D (y5 s.size s)<=k):T2 s=c:=by
 have e:∀k,D (y5 s.size s)<=k->aA (y5 s.size s) k=s3 (o0 s):=λk b=>by unfold aA o0;rw[List.take_of_length_le (by rw[T8];exact b)]
 unfold T2;rcases a with a|⟨_,a⟩
 rw[<-e k b,a];exact List.append_nil _;rw[<-a,e _ (a7 _)]
end
theorem H9{w:Wd}{c:p1}{l:C2}(d:i5 w c (x4.row l)){k:Nat}(e:k<D l):∃b a,c=So ⟨b,a,J⟩/\w.cell? ⟨b,a+k,J⟩=So (Y l[k]):=by obtain⟨b,a,rfl,-⟩:=d.rows e6 a8;have:=d.l e (r:=0) (u:=Y l[k]) rfl;exact⟨b,a,rfl,by simpa[x4]using this⟩
theorem a3k:kZ prog 120 126 (Ag #[I M 0,Y ⟨#[]⟩]) 2 24:=⟨underlying120,g6,rfl,e6,e6⟩
theorem TE(av:p1)(n c:Nat)(xs:o5)(w:Wd)(be:D xs=n)(db:n<=100000)(H:n<=c)(o:sP xs)(bn:i5 w av (l8 U8 xs)):
 Ca prog 56 #[Z av n c] w λe bw=>∃v,e=X (Tp #[v,I M (y9 (Sn xs)).2])/\c7 bw w 126 G1 v (y9 (Sn xs)).1/\a9 w bw:=by
 have P:(Sn xs).size=n:=by rw[<-be];simp[Sn,ByteArray.size]
 obtain⟨S,bj,ax⟩:=r6 (λbc=>TF av n c xs w be bc H o bn) (λk f=> @q0.end_ (Sn xs) k f) (lR (Sn xs).size (Sn xs));obtain⟨R,ab⟩:∃R,R=y9 (Sn xs):=⟨_,rfl⟩;have br:D (o0 (Sn xs))=D (y5 (Sn xs).size (Sn xs)):=T8 _ _;rw[<-ab];unfold y9 at ab;rw[br,P]at ab;rw[P]at ax bj S;generalize y5 n (Sn xs)=L at*;generalize T2 (Sn xs)=cy at*;have h:=a6 ab;clear bn o ab br P be;by_cases aq:65536<n;·have h:=a6 (h.trans (if_pos aq));have aq:(65536:Int)<n:=a8;go_wp2;go_ret2;exact⟨_,by rw[h.O];rfl,by rw[h.O];exact c7.nil _ _ _ _,.refl _⟩
 obtain⟨h,S⟩:=j0 (h.trans (if_neg aq)) (S a8);have aq:¬(65536:Int)<n:=a8;go_in;go_wp2_with fail;apply S.mono;rintro e al⟨dj,rfl,af,bu⟩;obtain⟨cv,cz,rfl,-,-,bo⟩:=af.inM;obtain⟨bk,az⟩:=j0 bo bu;clear af bo bu S;by_cases ar:1000<D L;·have h:=a6 (h.trans (if_pos ar));have ar:(1000:Int)<D L:=a8;go_wp2;go_ret2;exact⟨_,by rw[h.O];rfl,by rw[h.O];exact c7.nil _ _ _ _,az.O⟩
 have h:=a6 (h.trans (if_neg ar));have ar:¬(1000:Int)<D L:=a8;go_wp2;go_loopw [5,6] (λv x wr=>∃(k:Nat)(f:List (Nat×g4)),k<=D L/\x=I M k/\D f<=k/\q0 L k f/\c7 wr al 126 G1 v f/\a9 al wr) (λ_ x _=>D L-(intOf x).toNat);exact⟨0,[],c6 _,rfl,a7 _,.inl rfl,c7.nil _ _ _ _,.refl _⟩;obtain⟨k,f,ch,rfl,dd,E,af,p⟩:=hrel;obtain⟨i,z,T⟩:=r6 af E p;clear af E p;have k0:(0:Int)<=k:=a8;by_cases ae:k<D L
 ·have k1:(k:Int)<D L:=a8;obtain⟨b,dg,rfl,ac⟩:=H9 (bk.h T.O) ae;have s:=a6 (λW=>pF L[k] (b6 (ax _ (g3 ae)) a8) W);cases l:x5 L[k]<;>rw[l]at s
  ·have bt:ZL L k f k ⟨#[]⟩:= .inl ⟨rfl,rfl,⟨ae,l⟩,z.resolve_right λbc=>a8⟩;have cc:=a6 bt;generalize L[k]=cs at*;clear bt l z;go_wp2_with fail;refine l4 (s _) λa N=>?_;obtain⟨ba,bl⟩:=j0 (T.trans N) (i.h N);clear ac s i T N;have bi:=e7.new a 126 #[I M (k+1),Y ⟨#[]⟩];have bz:=(a9.refl a).alloc (U #[I M (k+1),Y ⟨#[]⟩] 126);obtain⟨ca,cd⟩:=j0 bi bz;clear bi bz;go_upto_block 2 with fail;generalize a.alloc (U #[I M (k+1),Y ⟨#[]⟩] 126)=dl at*;go_cut [6,8,9] (λak _ _ bx=>∃(j:Nat)(t:g4),k<j/\j<=D L/\ak=I M j/\t.size<=100000000/\q0 L j (f++H7 (k+1) t)/\e7 bx a 126 #[I M (k+1),Y t]/\a9 a bx)
   ·go_wp2;go_loopw [6,8,9] (λak ct _ wr=>∃(j:Nat)(t:g4)(ah:Bool),k<=j/\j<=D L/\ak=I M j/\ct=O ah/\t.size<=j*65537/\(ah=Bt/\ZL L k f j t\/ah=Bf/\k<j/\aA L j=(f++H7 (k+1) t,0,⟨#[]⟩))/\e7 wr a 126 #[I M (k+1),Y t]/\a9 a wr) (λak _ _ _=>D L-(intOf ak).toNat);exact⟨k,_,Bt,a7 _,ch,rfl,rfl,c6 _,.inl ⟨rfl,cc.O⟩,ca.O,cd.O⟩;obtain⟨j,t,ah,ci,ad,rfl,rfl,bh,E,o,p⟩:=hrel;have df:(0:Int)<=j:=a8;obtain⟨z,C⟩:=j0 E o;clear E;cases ah;·obtain⟨-,ai,bv⟩:=z.resolve_left i3;have u:=a6 bv;clear o bv;go_wp2;go_meet;exact⟨j,t,ai,ad,rfl,a8,.inl u.O,C.O,p⟩
    obtain⟨-,ai⟩:=z.resolve_right i3;have u:=a6 ai;clear ai;by_cases B:j<D L
    ·have cr:(j:Int)<D L:=a8;have cg:wr.cell? ⟨a,1,J⟩=So (Y t):=o.cell 1;obtain⟨b2,dh,cf,ac⟩:=H9 (bk.h (ba.trans p)) B;cases cf;have de:=ax _ (g3 B);obtain⟨s,aw,G,i⟩:=F6 (λW=>pF L[j] a8 W) (λH=>u.com L B H) (λH bf=>u.on L B H bf) (λH bf=>u.off L B H bf);clear o cg;rcases l:x5 L[j]with _|_
     ·rw[l]at s;obtain⟨G,i⟩:=j0 (G l) (i l);generalize L[j]=F at*;clear l aw u;rcases P:F.size with _|m
      ·have y:=a6 (i (a26 P));have cu:¬9223372036854775807<t.size+0:=a8;clear i G;go_wp2_with fail;refine l4 (s _) λA g=>?_;have d:=C.h g;have Q:=a6 d;have bp:=g.cell ac;have aj:A.cell? ⟨a,1,J⟩=So (Y t):=d.cell 1;have bb:=d.frozen 1;clear d;go_wp2;go_roundw;exact⟨j+1,t++F,Bf,a8,B,o3,rfl,by rw[ByteArray.size_append];omega,.inr ⟨rfl,a8,y.O⟩,Q.f 1 _,(p.trans g).set (a7 _) _⟩;simp[intOf];omega
      obtain⟨aa,ap⟩:=a0c P;obtain⟨ce,ay,cx,-,-,-⟩:=LW (a8:m<F.size) (a8:F.size<=100000000);rw[ay.O]at aa ap;have al:IntKind.i64.wrap ((m:Int)+1-1)=m:=by rw[(a8:(m:Int)+1-1=m)];exact h7 _ a8
      cases bd:ce==92;·have y:=a6 (i (aa.trans bd));have cu:¬9223372036854775807<t.size+(m+1):=a8;clear i G aa ap;go_wp2_with fail;refine l4 (s _) λA g=>?_;have d:=C.h g;have Q:=a6 d;have bp:=g.cell ac;have aj:A.cell? ⟨a,1,J⟩=So (Y t):=d.cell 1;have bb:=d.frozen 1;clear d;go_wp2;go_roundw;exact⟨j+1,t++F,Bf,a8,B,o3,rfl,by rw[ByteArray.size_append];omega,.inr ⟨rfl,a8,y.O⟩,Q.f 1 _,(p.trans g).set (a7 _) _⟩;simp[intOf];omega
      have y:=G (aa.trans bd);have co:=(ap (by simpa using bd)).symm;have bs:(fS F).size=m:=by rw[<-co,l6 _ _ _ a8 a8,Nat.sub_zero]
      generalize fS F=q at*;obtain⟨cb,y⟩:=j0 bs y;have dn:¬9223372036854775807<q.size+1:=a8;have dp:¬9223372036854775807<t.size+(q.size+1):=a8;clear i G aa ap bs;go_wp2_with fail;refine l4 (s _) λA g=>?_;have d:=C.h g;have Q:=a6 d;have bp:=g.cell ac;have aj:A.cell? ⟨a,1,J⟩=So (Y t):=d.cell 1;have bb:=d.frozen 1;clear d;go_wp2;go_roundw;exact⟨j+1,_,Bt,a8,B,o3,rfl,by rw[ByteArray.size_append,ByteArray.size_append,cb.O];show _+(m+1)<=_;omega,.inl ⟨rfl,y.O⟩,Q.f 1 _,(p.trans g).set (a7 _) _⟩;simp[intOf];omega
     rw[l]at s;have y:=a6 (aw l);generalize L[j]=F at*;clear l G i aw;go_wp2_with fail;refine l4 (s _) λA g=>?_;go_wp2;go_roundw;exact⟨j+1,t,Bt,a8,B,o3,rfl,b6 bh (Nat.mul_le_mul_right _ (Nat.le_succ _)),.inl ⟨rfl,y.O⟩,C.h g,p.trans g⟩;simp[intOf];omega
    have y:=a6 (show q0 L j (f++H7 (k+1) t)from .inr ⟨a8,by
     obtain⟨rfl,-⟩|⟨-,q⟩:=u.O
     omega;rw[(a8:D L=j),q]⟩)
    have cr:¬(j:Int)<D L:=a8;have cj:k<j:=a8;clear o;go_wp2;go_meet;exact⟨j,t,cj,ad,rfl,a8,y.O,C.O,p⟩
   obtain⟨j,t,ci,ad,rfl,bh,E,o,p⟩:=hcut;obtain⟨z,C,bm⟩:=r6 E o (IH t bh);have aj:wc.cell? ⟨a,1,J⟩=So (Y t):=o.cell 1;obtain⟨r,bg⟩:∃r,r=H6 t:=⟨_,rfl⟩;rw[<-bg]at bm;have an:=a6 bg;clear E o bg;go_wp2_with fail;refine l4 (bm _) λA g=>?_;have d:=C.h g;have bb:=d.frozen 1;have am:=d.f 1 (Y r);have ag:a9 a (A.setCell ⟨a,1,J⟩ (Y r)):=(p.trans g).set (a7 _) _;have cw:=a6 am;have di:(A.setCell ⟨a,1,J⟩ (Y r)).cell? ⟨a,0,J⟩=So (I M (k+1)):=am.cell 0;have ai:(A.setCell ⟨a,1,J⟩ (Y r)).cell? ⟨a,1,J⟩=So (Y r):=am.cell 1;have bq:=o9 r;have ao:=a6 ag;clear aj;have aj:A.cell? ⟨a,1,J⟩=So (Y t):=d.cell 1;clear d am ag;by_cases au:r.size=0
   ·rw[decide_eq_true au]at bq;have u:=a6 (show q0 L j f from by have:=z.O;unfold H7 at this;rwa[<-an.O,if_pos au,List.append_nil]at this)
    go_wp2;go_roundw;exact⟨j,f,ad,rfl,a8,u.O,bl.h ao.O,ba.trans ao.O⟩;simp[intOf];omega
   rw[decide_eq_false au]at bq;have u:=a6 (show q0 L j (f++[(k+1,r)])from by have:=z.O;unfold H7 at this;rwa[<-an.O,if_neg au]at this)
   have ck:=bl.h ao.O;have ag:=ba.trans ao.O;have cn:D f+1<=1000000:=a8;have cq:=ag.alloc (U #[I M (k+1),Y r] 126);go_wp2_with(at_builtin;refine h8 rfl (Tm 82) (Tm 84) 120 126 rfl a3k al _ f rfl (ck.h ((a9.refl _).alloc _)) _ 1 1 [(k+1,r)] rfl rfl (cF i3 rfl) cn cq.size ?_;intro dk dm cm cp dc da);go_roundw;exact⟨j,_,ad,rfl,by rw[g1];simp;omega,u.O,cm,cp al (ag.alloc _) (a7 _)⟩;simp[intOf];omega
  have ay:=a6 (show q0 L (k+1) f from .inl (by rw[N5 L k ae,C6,if_pos l];exact z.resolve_right λbc=>a8));generalize L[k]=cs at*;clear l z;go_wp2_with fail;refine l4 (s _) λa N=>?_;go_wp2;go_roundw;exact⟨k+1,f,ae,o3,a8,ay.O,i.h N,T.trans N⟩;simp[intOf];omega
 have an:=a6 (bj k f z a8);have k1:¬(k:Int)<D L:=a8;go_wp2;go_ret2;exact⟨_,by rw[h.O];rfl,by rw[h.O,an.O];exact i.mono az.size,az.trans T.O⟩
def mL(s:g4):C2->C2
 |[]=>[s]
 |x::r=>if Op.bytesLess s.toList x.toList then s::x::r else if s.toList==x.toList then x::r else x::mL s r
theorem zQ(s:g4):∀l:C2,D (mL s l)<=D l+1
 |[]=>a7 _
 |x::r=>by have:=zQ s r;unfold mL;split;simp;split<;>simp<;>omega
def mM(s:g4)(q:Bool)(l:C2):C2:=if q then l else mL s l
theorem a3u(H:p1)(c:Nat)(l:C2)(s:g4)(an:D l<=100000)(W:Wd)(P:i5 W H (x4.row l)):Ca prog 260 #[Z H (D l) c,Y s] W λe T=>∃v,e=X v/\c7 T W 9 x4 v (mL s l)/\a9 W T:=by
 obtain⟨L,ab⟩:=j0 P (λk(B:k<D l) q=>show mM s q (l.drop k)=mM s q (l[k]::l.drop (k+1)) by rw[List.drop_eq_getElem_cons B]);obtain⟨R,j⟩:∃R,R=mL s l:=⟨_,rfl⟩;rw[<-j];clear P;go_wp2;go_loopw [5,6,7] (λo p i wr=>∃(k:Nat)(q:Bool)(a:C2),k<=D l/\i=I M k/\p=O q/\D a<=k+q.toNat/\R=a++mM s q (l.drop k)/\c7 wr W 9 x4 o a/\a9 W wr) (λ_ _ i _=>D l-(intOf i).toNat);exact⟨0,Bf,[],a8,rfl,rfl,i3,j,c7.nil _ _ _ _,.refl _⟩;clear j;obtain⟨k,q,a,B,rfl,rfl,t,j,Oq,f⟩:=hrel;have d:=a6 j;clear j;by_cases m:k<D l
 ·obtain⟨b,ah,rfl,ac⟩:=H9 (L.h f) m;have d:=a6 (d.trans (congrArg (a++·) (ab k m q)));have aa:=a6 (λ(w:Wd)(af:a9 W w)=>show w.cell? ⟨b,ah+k,J⟩=So (Y l[k]) by obtain⟨b2,ap,ae,ad⟩:=H9 (L.h af) m;cases ae;exact ad)
  generalize l[k]=x at*;have ak:=a6 m;have k0:(0:Int)<=k:=a8;have k1:(k:Int)<D l:=a8;have ao:k<100000:=a8;have r:k+1<=D l:=m;clear m B;have am:Dc (k<D l)=Bt:=decide_eq_true r;have n:D a+1<=1000000:=by have:=Bool.toNat_le q;omega
  rcases q with _|_
  ·rcases y:Op.bytesLess s.toList x.toList with _|_
   ·rcases N:s.toList==x.toList with _|_
    ·have d:=a6 (show R=(a++[x])++mM s Bf (l.drop (k+1)) by rw[d.O];simp[mM,mL,y,N]);go_wp2_with(at_builtin;refine h8 rfl (Tm 34) (Tm 39) 186 9 rfl cO W _ a rfl (Oq.h ((a9.refl _).alloc _)) _ 1 1 [x] rfl rfl (i5.f (e7.new _ _ _) rfl) n (f.alloc _).size ?_;intro F G g h A z);go_roundw;exact⟨k+1,Bf,a++[x],r,o3,rfl,by simp at t⊢;omega,d.O,g,h W (f.alloc _) (a7 _)⟩;simp[intOf];omega
    have d:=a6 (show R=(a++[x])++mM s Bt (l.drop (k+1)) by rw[d.O];simp[mM,mL,y,N]);go_wp2_with(at_builtin;refine h8 rfl (Tm 34) (Tm 39) 186 9 rfl cO W _ a rfl (Oq.h ((a9.refl _).alloc _)) _ 1 1 [x] rfl rfl (i5.f (e7.new _ _ _) rfl) n (f.alloc _).size ?_;intro F G g h A z);go_roundw;exact⟨k+1,Bt,a++[x],r,o3,rfl,by simp at t⊢;omega,d.O,g,h W (f.alloc _) (a7 _)⟩;simp[intOf];omega
   have d:=a6 (show R=((a++[s])++[x])++mM s Bt (l.drop (k+1)) by rw[d.O];simp[mM,mL,y]);have ag:D (a++[s])+1<=1000000:=by simp at t⊢;omega
   go_upto_region 10 with(at_builtin;refine h8 rfl (Tm 30) (Tm 32) 186 9 rfl cO W _ a rfl (Oq.h ((a9.refl _).alloc _)) _ 1 1 [s] rfl rfl (i5.f (e7.new _ _ _) rfl) n (f.alloc _).size ?_;intro ai aj C E S Q);have u:=E W (f.alloc _) (a7 _);have al:=aa _ u;clear ac Oq S Q;go_wp2_with(at_builtin;refine h8 rfl (Tm 34) (Tm 39) 186 9 rfl cO W _ (a++[s]) rfl (C.h ((a9.refl _).alloc _)) _ 1 1 [x] rfl rfl (i5.f (e7.new _ _ _) rfl) ag (u.alloc _).size ?_;intro F G g h A z);go_roundw;exact⟨k+1,Bt,(a++[s])++[x],r,o3,rfl,by simp at t⊢;omega,d.O,g,h W (u.alloc _) (a7 _)⟩;simp[intOf];omega
  have d:=a6 (show R=(a++[x])++mM s Bt (l.drop (k+1)) by rw[d.O];simp[mM]);go_wp2_with(at_builtin;refine h8 rfl (Tm 34) (Tm 39) 186 9 rfl cO W _ a rfl (Oq.h ((a9.refl _).alloc _)) _ 1 1 [x] rfl rfl (i5.f (e7.new _ _ _) rfl) n (f.alloc _).size ?_;intro F G g h A z);go_roundw;exact⟨k+1,Bt,a++[x],r,o3,rfl,by simp at t⊢;omega,d.O,g,h W (f.alloc _) (a7 _)⟩;simp[intOf];omega
 obtain rfl:k=D l:=a8;have d:=a6 (d.trans (by rw[List.drop_length]));have n:D a+1<=1000000:=by have:=Bool.toNat_le q;omega
 rcases q with _|_
 ·have d:=a6 (show R=a++[s]from d.O);go_wp2_with(at_builtin;refine h8 rfl (Tm 43) (Tm 45) 186 9 rfl cO W _ a rfl (Oq.h ((a9.refl _).alloc _)) _ 1 1 [s] rfl rfl (i5.f (e7.new _ _ _) rfl) n (f.alloc _).size ?_;intro ai aj C E S Q);go_ret;exact⟨_,rfl,by rw[d.O];exact C,E W (f.alloc _) (a7 _)⟩
 have d:=a6 (show R=a by rw[d.O];simp[mM]);go_wp2;go_ret;exact⟨_,rfl,by rw[d.O];exact Oq,f⟩
def YV(w:Wd)(base:Nat)(v:Va)(xs:C2):Prop:=∃(b:p1)(c:Nat),v=Z b (D xs) c/\D xs<=c/\c<=maxLen/\(∀a,b=So a->base<=a.block/\a.block<w)/\((c=0/\b.isSome=Bt)\/∃(g o:Nat)(cs:Array Va),b=So ⟨g,o,J⟩/\e7 w g 9 cs/\o+c<=cs.size/\∀j(d:j<D xs),cs[o+j]? =So (Y xs[j]))
theorem YV.h{w d:Wd}{base:Nat}{v:Va}{xs:C2}(h:YV w base v xs)(x:a9 w d):YV d base v xs:=by obtain⟨f,c,rfl,i,j,b,k⟩:=h;exact⟨f,c,rfl,i,j,λa e=>⟨(b a e).1,Nat.lt_of_lt_of_le (b a e).2 x.size⟩,k.imp id λ⟨g,o,cs,e,B,r⟩=>⟨g,o,cs,e,B.h x,r⟩⟩
theorem YV.lt{w:Wd}{base b:Nat}{v:Va}{xs:C2}(f:YV w base v xs)(d:v.ownBlock=So b):base<=b/\b<w.heap.size:=by
 obtain⟨e,c,rfl,-,-,g,-⟩:=f;cases e with
 |none=>cases d
 |some a=>cases d;exact g a rfl
theorem YV.push{w:Wd}{C:Array Oper}{rest:List Oper}{o:Oper}{a:Act}{Q:Exit->Act->Wd->Prop}(N:o.guard=J)(s x:Operand)
 (S:o.op= .call {callee:= .builtin .append,args:= #[s,x],argTypes:= #[186,186]}) (base:Nat) (xs:C2) (t:YV w base (a.eval s) xs) (B v:Nat) (m:g4) (W:a.eval x=Z B 1 v) (ae:w.cell? ⟨B,0,J⟩=So (Y m)) (aq:D xs<=100000) (af:base<=w)
 (l:∀v' f,YV f base v' (xs++[m])->w.grownBy f (a.eval s).ownBlock->(v'.ownBlock=(a.eval s).ownBlock\/∀b,v'.ownBlock=So b->w.heap.size<=b)->Wp prog C Q rest (a.put o.dst v') f):Wp prog C Q (o::rest) a w:=by
 obtain⟨ac,c,r,ap,ad,ag,y⟩:=t;obtain⟨i,hi,n⟩:=Option.map_eq_some_iff.1 cO.i;simp only[Prod.mk.injEq]at n;obtain⟨n,R,H⟩:=n;have F:∀j u,[Y m][j]? =So u->w.cell? ((⟨B,0,J⟩:Ad).add j)=So u:=λj u d=>by
  cases j with
  |zero=>cases d;rw[Addr.add_lit];exact ae
  |succ j=>simp at d
 have T:∀u∈[Y m],u.oneCell'=Bt:=λu am=>by cases List.mem_singleton.1 am;rfl
 have ai:∀v' f,f.ownsRow w 9 1 v' (D xs+1) (xs.map Y++[Y m])->w.grownBy f J->Wp prog C Q rest (a.put o.dst v') f:=λv' f ak ah=>by
  rcases ak.2 with⟨_,E⟩|⟨g,cap,cur,t,G,L,an,ao,ar,aa⟩
  omega;refine l v' f ⟨_,cap,by rw[t,g1];rfl,by rw[g1];exact an,ao,λa e=>(by cases e;exact⟨b6 af G,e7.lt L⟩),.inr ⟨g,0,cur,rfl,L,a8,λj d=> ?_⟩⟩ (y7 ah _) (.inr λb e=>by rw[t]at e;cases e;exact G);have aj:(xs.map Y++[Y m])=(xs++[m]).map Y:=i3;rw[aj]at aa;have:=congrArg (·[j]?) aa;simp only[List.getElem?_take,i1,d,if_true,List.getElem?_map,e9 d,Option.map_some]at this;rw[Nat.zero_add,<-this];simp at d⊢;omega
 by_cases z:c<D xs+1;refine wpList_append_grows w N s x 186 S 9 i _ 1 16 cO.u hi n R H cO.zs cO.k0 ac (D xs) c (xs.map Y) r ?_ i3 ?_ ⟨B,0,J⟩ 1 v [Y m] W rfl F T z (by simp[maxLen];omega) a8 ai;rintro rfl;rcases y with⟨_,l⟩|⟨g,o,cs,l,_⟩
 exact nomatch l;exact nomatch l;rintro b rfl j u d;rcases y with⟨E,_⟩|⟨g,p,cs,e,h,_,q⟩
 rw[List.getElem?_map]at d;obtain⟨ab,k,rfl⟩:=Option.map_eq_some_iff.1 d;obtain⟨d,_⟩:=List.getElem?_eq_some_iff.1 k;omega;cases e;rw[List.getElem?_map]at d;obtain⟨ab,k,rfl⟩:=Option.map_eq_some_iff.1 d;obtain⟨A,rfl⟩:=List.getElem?_eq_some_iff.1 k;rw[Addr.add_lit,h.cell];exact q j A;rcases y with⟨E,_⟩|⟨g,p,cs,rfl,h,al,q⟩
 omega;refine wpList_append_arg w N s x 186 S 9 i _ 1 16 cO.u hi n R H cO.zs cO.k0 g p (D xs) c (xs.map Y) r i3 (λj u d=> ?_) ⟨B,0,J⟩ 1 v [Y m] W rfl F T (λ_ j d=> ?_) (by simp[maxLen];omega) a8 (λ_=> ?_) (λk=>absurd k z);rw[List.getElem?_map]at d;obtain⟨ab,k,rfl⟩:=Option.map_eq_some_iff.1 d;obtain⟨A,rfl⟩:=List.getElem?_eq_some_iff.1 k;rw[h.cell];exact q j A;obtain rfl:j=0:=by simpa using d
 refine⟨?_,h.frozen _⟩;rw[h.cell,Array.getElem?_eq_getElem a8];rfl;refine l _ _ ⟨_,c,by rw[g1];rfl,by rw[g1];exact Nat.le_of_not_lt z,ad,λa e=>(by cases e;exact⟨(ag _ rfl).1,by show g<(w.setCells _ _ _).heap.size;simpa[World.setCells]using h.lt⟩),.inr ⟨g,p,_,rfl,h.f (p+D xs*1) (Y m),by simpa using al,λj d=> ?_⟩⟩ (by rw[r];exact c8 w g (p+D xs*1) (Y m)) (.inl (by rw[r];rfl));rw[Array.getElem?_setIfInBounds];by_cases e:j=D xs;subst e;rw[if_pos a8,if_pos a8];simp;have P:j<D xs:=by simp at d;omega
 rw[if_neg a8,List.getElem_append_left P];exact q j P
def I8(s:g4):C2:=(p2 s).getD []
def cR(p:C2×C2)(m:g4):C2×C2:=if 0<D (I8 m) then(p.1++[m],p.2)else(p.1,mL m p.2)
def iI:Nat->C2->C2->C2
 |f+1,h::t,out=>let q:=(I8 h).foldl cR (t,out);iI f q.1 q.2
 |_,_,out=>out
def hU:Nat->C2->C2->Bool
 |f+1,h::t,out=>let q:=(I8 h).foldl cR (t,out);Dc (D q.1<=1000)&&Dc (D q.2<=1000)&&hU f q.1 q.2
 |_,td,_=>td.isEmpty
def a5K(x:List UInt8):List (List UInt8)->List (List UInt8)
 |[]=>[x]
 |y::r=>if x<=y then x::y::r else y::a5K x r
def tA(l:List (List UInt8)):List (List UInt8):=l.foldr a5K []
theorem RY(l:List (List UInt8))(f:(tA l).isPerm l=Bt)(g:(tA l).Pairwise λa b=>Dc (a<=b)=Bt):l.mergeSort (λx d=>Dc (x<=d))=tA l:=
 List.Perm.eq_of_pairwise (le:=λa b=>Dc (a<=b)=Bt) (λa b _ _ x d=>List.le_antisymm (of_decide_eq_true x) (of_decide_eq_true d))
  (List.pairwise_mergeSort (le:=λ(x d:List UInt8)=>Dc (x<=d)) (λa b c x d=>decide_eq_true (List.le_trans (of_decide_eq_true x) (of_decide_eq_true d))) (λa b=>by have e:=List.le_total a b;simpa using e) l) g
  ((List.mergeSort_perm l _).trans (List.isPerm_iff.1 f).symm)
def a5B(s:g4):Bool:=Dc (4<y6 8 s)||(Dc ((iI 40 [s] []).map (·.data.toList)=Lib.compact (tA (mI (M0 8 s))))&&hU 40 [s] []&&(tA (mI (M0 8 s))).isPerm (mI (M0 8 s))&&Dc ((tA (mI (M0 8 s))).Pairwise λa b=>Dc (a<=b)=Bt))
theorem VQ:y1.all (λg=>a5B g.1)=Bt:=yA
theorem toList_inj{a b:g4}(h:a.toList=b.toList):a=b:=by rw[Lib.toList_data,Lib.toList_data]at h;exact ByteArray.ext (Array.toList_inj.1 h)
theorem UF(l:C2)(m:List (List UInt8))(h:l.map (·.data.toList)=m):l=ZK m:=by rw[<-h];exact(IS l).symm
theorem qO(s:g4)(l:C2)(j:p2 s=So l)(i:¬4<y6 8 s):iI 40 [s] []=iX (cT (M0 8 s))/\hU 40 [s] []=Bt:=by obtain⟨g,b,rfl⟩:=Option.map_eq_some_iff.1 (show(y1.find? λg=>g.1.toList==s.toList).map (·.2)=So l from j);have e:g.1=s:=toList_inj (eq_of_beq (show(g.1.toList==s.toList)=Bt from List.find?_some (p:=λg:g4×C2=>g.1.toList==s.toList) b));have a:=List.all_eq_true.1 VQ g (List.mem_of_find?_eq_some b);rw[e]at a;unfold a5B at a;rw[decide_eq_false i]at a;simp only[Bool.false_or,j3,decide_eq_true_eq]at a;obtain⟨⟨⟨c,d⟩,f⟩,h⟩:=a;refine⟨?_,d⟩;rw[UF _ _ c];unfold iX cT;rw[RY _ f (by simpa using h)];congr 2;unfold mI ZK;rw[List.map_map];exact(List.map_id _).symm
theorem rF(s:g4)(j:Nat):0<=p5 s j/\p5 s j<256:=by unfold p5;have:=(s.data.toList.getD j 0).toNat_lt;omega
theorem a1t(s:g4)(j:Nat)(h:j<s.size):((s.get! j).toNat:Int)=p5 s j:=by rw[V3 s j h];simp[ByteArray.get!,getElem!_pos,h];rfl
theorem CJ(s:g4)(i j:Nat)(d:i<j)(a:j<i+(Utf8.decode s i).2):j<s.size/\128<=p5 s j:=by
 have key:∀k,i+k<s.size->(s.get! (i+k)).toNat/64=2->j=i+k->j<s.size/\128<=p5 s j:=λk b e c=>by subst c;exact⟨b,by rw[<-a1t s _ b];omega⟩
 simp only[Utf8.decode]at a;repeat' split at a
 all_goals simp only[j3,beq_iff_eq,decide_eq_true_eq]at*
 all_goals first
  |omega
  |(have:j=i+1\/j=i+2\/j=i+3:=a8
    rcases this with q|q|q
    all_goals first
     |exact key 1 a8 a8 q
     |exact key 2 a8 a8 q
     |exact key 3 a8 a8 q
     |omega)
theorem JM(cs:g4)(r:Int)(h:128<=r):BC cs r= -1:=by unfold BC;rw[if_neg a8]
theorem JY(s:g4)(i:Nat)(a:i<s.size)(b:p5 s i<128):Utf8.decode s i=((p5 s i).toNat,1):=by rw[V3 s i a]at b⊢;exact decode_ascii s i a a8
theorem wY(s cs:g4):∀f i,s.size<i+f->(0<=o4 s cs f i↔∃j,i<=j/\j<s.size/\0<=BC cs (p5 s j))
 |0,i,h=>⟨λq=>absurd q (by unfold o4;decide),λ⟨j,b,a,_⟩=>a8⟩
 |f+1,i,h=>by
  unfold o4;by_cases hi:i<s.size;rw[if_pos hi];by_cases e:p5 s i<128;have k:=rF s i;rw[JY s i hi e,(a8:((p5 s i).toNat:Int)=p5 s i)];dsimp only;by_cases q:0<=BC cs (p5 s i);rw[if_pos q];exact⟨λ_=>⟨i,a7 _,hi,q⟩,λ_=>a8⟩;rw[if_neg q,wY s cs f (i+1) a8];refine⟨λ⟨j,b,a⟩=>⟨j,a8,a⟩,λ⟨j,b,a,c⟩=>⟨j,?_,a,c⟩⟩;rcases Nat.lt_or_eq_of_le b with d|rfl
  exact d;exact absurd c q;have l:=decode_high s i hi (by rw[V3 s i hi]at e;omega);rw[if_neg (by rw[JM _ _ a8];decide),wY s cs f _ a8];refine⟨λ⟨j,b,a⟩=>⟨j,a8,a⟩,λ⟨j,b,a,c⟩=>⟨j,?_,a,c⟩⟩;rcases Nat.lt_or_ge j (i+(Utf8.decode s i).2)with d|d
  have:128<=p5 s j:=by
   rcases Nat.lt_or_eq_of_le b with g|rfl
   exact(CJ s i j g d).2;omega
  rw[JM _ _ this]at c;exact absurd c e6;exact d;rw[if_neg hi];exact⟨λq=>absurd q e6,λ⟨j,b,a,_⟩=>a8⟩
theorem JO(cs:List UInt8):∀l:List UInt8,0<=Lib.indexAny l cs↔∃j,∃a:j<D l,cs.contains l[j]=Bt
 |[]=>⟨λq=>absurd q (by unfold Lib.indexAny;decide),λ⟨j,a,_⟩=>by cases a⟩
 |b::l=>by
  have c:=Lib.indexAny_ge cs l;unfold Lib.indexAny;by_cases q:cs.contains b=Bt;rw[if_pos q];exact⟨λ_=>⟨0,i3,q⟩,λ_=>Int.le_refl _⟩;rw[if_neg q];have ih:=JO cs l;refine Iff.trans (b:=0<=Lib.indexAny l cs) ⟨λa=> ?_,λa=> ?_⟩ (ih.trans ⟨λ⟨j,a,k⟩=>⟨j+1,by simpa using a,k⟩,λ⟨j,a,k⟩=> ?_⟩);by_cases e:(Lib.indexAny l cs== -1)=Bt;rw[if_pos e]at a;omega;have:Lib.indexAny l cs≠-1:=by simpa using e
  omega;rw[if_neg G6];omega;rcases j with _|j
  exact absurd k q;exact⟨j,by simpa using a,k⟩
theorem CZ(s cs:g4)(b:∀n:Fin 256,cs.data.toList.contains (UInt8.ofNat n)=Dc (0<=BC cs n)):dZ s cs=Bt↔∃j,j<s.size/\0<=BC cs (p5 s j):=by
 unfold dZ iaT;rw[decide_eq_true_eq];split;rw[wY s cs _ 0 a8];exact⟨λ⟨j,_,a⟩=>⟨j,a⟩,λ⟨j,a⟩=>⟨j,c6 _,a⟩⟩;rw[JO];have e:∀j(a:j<D s.data.toList),cs.data.toList.contains s.data.toList[j]=Dc (0<=BC cs (p5 s j)):=λj a=>by have:=b ⟨s.data.toList[j].toNat,UInt8.toNat_lt _⟩;simp only[UInt8.ofNat_toNat]at this;rw[this];unfold p5;rw[b9,e9 a];rfl
 exact⟨λ⟨j,a,k⟩=>⟨j,by rw[Lib.size_eq];exact a,by rw[e j a]at k;exact of_decide_eq_true k⟩,λ⟨j,a,k⟩=>⟨j,by rw[<-Lib.size_eq];exact a,by rw[e j];exact decide_eq_true k⟩⟩
theorem a1X(s:g4):dZ s HA=Bt↔∃j,j<s.size/\(p5 s j=91\/p5 s j=93):=by
 rw[CZ s HA yA];have:∀c:Fin 256,0<=BC HA c↔c.1=91\/c.1=93:=yA;refine exists_congr λj=>and_congr_right λ_=> ?_
 have a:=rF s j;have:=this ⟨(p5 s j).toNat,a8⟩;dsimp only at this;rw[(a8:((p5 s j).toNat:Int)=p5 s j)]at this;rw[this];omega
theorem tX(s:g4)(j:Nat):0<=BC F2 (p5 s j)↔blk (p5 s j)=Bt:=by have:∀c:Fin 256,0<=BC F2 c↔blk c=Bt:=yA;have a:=rF s j;have:=this ⟨(p5 s j).toNat,a8⟩;dsimp only at this;rwa[(a8:((p5 s j).toNat:Int)=p5 s j)]at this
theorem rK(s:g4):dZ s F2=Bt↔∃j,j<s.size/\blk (p5 s j)=Bt:=by rw[CZ s F2 yA];exact exists_congr λj=>and_congr_right λ_=>tX s j
theorem tW(s:g4):∀n(t:g4),n=t.size->kD n t=S9 n t
 |0,t,_=>rfl
 |n+1,t,h=>by
  have e:X0 (p5 t n)=blk (p5 t n):=by unfold X0;rw[Bool.eq_iff_iff,decide_eq_true_eq];exact tX t n
  unfold kD S9;rw[e,tW s n _ (by rw[l6 _ _ _ a8 a8];omega)]
theorem a3i(s:g4)(c:s.size<3\/p5 s 0≠91\/p5 s (s.size-1)≠93):a2N s=(⟨#[]⟩,Bf):=by
 have key:∀a b:g4×Bool,cH s pW=a->mV a.1 IA=b->(a.2=Bf\/b.2=Bf\/b.1.toList=[])->a2N s=(⟨#[]⟩,Bf):=λa b e i f=>by unfold a2N;dsimp only;rw[e,i,if_neg];rcases f with c|c|c<;>rw[c]<;>simp
 by_cases h:s.size=0;rw[iR s h];rfl;obtain⟨g,k⟩:=MH s 91 a8;by_cases q:p5 s 0=91;have p:=l6 s 1 s.size a8 (a7 _);have j:cH s pW=(s.extract 1 s.size,Bt):=by unfold cH;exact congr (congrArg Prod.mk (k q)) (g.trans (by rw[q];rfl))
 refine key _ _ j rfl ?_;dsimp only;by_cases e:s.size=1;rw[iR (s.extract 1 s.size) a8];exact .inr (.inl rfl);obtain⟨m,o⟩:∃m,s.size=m+2:=⟨s.size-2,a8⟩;obtain⟨l,n⟩:=a27 (s.extract 1 s.size) 93 (m:=m) a8;by_cases d:p5 (s.extract 1 s.size) m=93;rw[H3 _ _ _ _ a8 a8,(a8:1+m=s.size-1)]at d;have f:s.size<3:=by
  rcases c with c|c|c
  exact c;exact absurd q c;exact absurd d c
 obtain rfl:m=0:=a8;refine .inr (.inr ?_);show ByteArray.toList ⟨(Lib.trimSuffix _ [93]).toArray⟩=[];rw[n (by rw[H3 _ _ _ _ a8 a8];exact(by rwa[(a8:s.size-1=1+0)]at d))];simp[Lib.toList_data];refine .inr (.inl (l.trans ?_));simpa using d;exact key _ _ rfl rfl (.inl (g.trans (by simpa using q)))
theorem a0l(s:g4)(m:Nat)(j:s.size=m+1)(k:2<=m)(a:p5 s 0=91)(c:p5 s m=93):a2N s=if dZ (s.extract 1 m) HA then(⟨#[]⟩,Bf)else(s.extract 1 m,Bt):=by
 obtain⟨f,g⟩:=MH s 91 a8;have l:=l6 s 1 s.size a8 (a7 _);have d:cH s pW=(s.extract 1 s.size,Bt):=by unfold cH;exact congr (congrArg Prod.mk (g a)) (f.trans (by rw[a];rfl))
 obtain⟨n,rfl⟩:∃n,m=n+1:=⟨m-1,a8⟩;have q:p5 (s.extract 1 s.size) n=93:=by rw[H3 _ _ _ _ a8 a8,Nat.add_comm];exact c
 obtain⟨h,i⟩:=a27 (s.extract 1 s.size) 93 (m:=n) a8;have e:mV (s.extract 1 s.size) IA=(s.extract 1 (n+1),Bt):=by unfold mV;refine congr (congrArg Prod.mk ((i q).trans ?_)) (h.trans (by rw[q];rfl));rw[ByteArray.extract_extract];congr 1;omega
 have b:=o9 (s.extract 1 (n+1));rw[l6 _ _ _ a8 a8,decide_eq_false a8]at b;unfold a2N;dsimp only;rw[d];dsimp only;rw[e];dsimp only;rw[show((s.extract 1 (n+1)).toList==[])=Bf from by rw[<-b];cases(s.extract 1 (n+1)).toList<;>rfl];cases dZ (s.extract 1 (n+1)) HA<;>rfl
end Go.Proofs.YtcljlejgllkcjaaGreat
