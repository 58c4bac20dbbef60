/- A part of the proof of TopFront: lemmas on the walks of its calls. -/
import Derived.Lib.MapLaws
import Derived.Lib.RuneCount
import Derived.LoopIn
import Derived.LoopNIn
import Derived.OwnWalkIn
import Derived.Shelf.RegionOpen
import Derived.Shelf.SlLaysH0
import Derived.Shelf.SlicesE.Clone
import Derived.Shelf.SlicesE.Index
import Derived.Shelf.SlicesQ.Load
import Derived.Shelf.Small.Utf8
import Derived.Shelf.Small.Wraps
import Derived.Shelf.Strings.FieldsFuncAny
import Derived.Shelf.Strings.IndexAnyAll
import Derived.Shelf.Strings.Search2
import Derived.Test.YtcljlejgllkcjaaGreatM01
set_option maxHeartbeats 12000000
set_option linter.all false
set_option maxRecDepth 100000
namespace Go.Proofs.YtcljlejgllkcjaaGreat
open Go.RowKit Go.ChangeShapes Go.WideShapes Tryz
open Bool renaming and_eq_true→j3,true→Bt,false→Bf
open Decidable renaming decide→Dc
open Ending renaming returned→X
open Go renaming World→Wd,Value→Va,Calls→Ca,TypeId→Ti,Program→Pg,wpList→Wp
open IntKind renaming i64→M,u32→V,u16→U1,u8→U8
open IntWalk renaming i64_in→h7
open List renaming getD_eq_getElem?_getD→b9,getElem?_eq_getElem→e9,length_append→g1,getElem_mem→g3,length_cons→i4,range→m9,length→D
open Nat renaming le_refl→a7,le_trans→b6,zero_le→c6
open Obj renaming cells→U
open Option renaming none→J,some→So
open Value renaming int→I,slice→Z,string→Y,bool→O,func→Fc,tuple→Tp,agg→Ag
section
attribute [local go_sem] Oper.semAt_some
theorem E4(W:Wd):W.grownBy W.drew J:=⟨rfl,rfl,rfl,a7 _,λ_ _ _=>rfl⟩
attribute [local go_sem] Oper.semAt_some
structure B7 where
 code:Int
 jt:Int
 jf:Int
 k:Int
 deriving DecidableEq
def B7.cells(i:B7):Array Va:= #[I U1 i.code,I U8 i.jt,I U8 i.jf,I V i.k]
def B7.val(i:B7):Va:=Ag i.cells
attribute [local go_sem] Oper.semAt_some
theorem WL:(prog.info? 141).map (λi=>(i.zero,i.size,i.bytes))=So (So (Ag #[I U1 0,I U8 0,I U8 0,I V 0]),4,8):=g6
def B7.ok(i:B7):Prop:=(0<=i.code/\i.code<256^2)/\(0<=i.jt/\i.jt<256)/\(0<=i.jf/\i.jf<256)/\(0<=i.k/\i.k<256^4)
def B7.bytes(i:B7):o5:=leB 2 i.code++[i.jt,i.jf]++leB 4 i.k
theorem MN{w:Wd}{base b:Nat}{e:Ti}{c n:Nat}{v:Va}{xs:List Va}(a:w.ownsRow base e c v n xs)(i:b<=base):w.ownsRow b e c v n xs:=by
 refine⟨a.1,?_⟩;rcases a.2 with a|⟨g,cap,cur,d,f,h⟩
 exact .inl a;exact .inr ⟨g,cap,cur,d,b6 i f,h⟩
def VP.own(base:Nat)(t:Ti)(d n:Nat)(xs:List Va):VP:=⟨λv w=>∃a c,v=Z a n c/\w.ownsRow base t d (Z a n c) n xs,λ_ _ _⟨a,c,b,k⟩ e=>⟨a,c,b,eH k e⟩⟩
end
section
def pc(a:List B7):List Va:=a.flatMap λi=>i.cells.toList
def a39:B7:=⟨0,0,0,0⟩
theorem aY(i:B7)(a:List B7):pc (i::a)=i.cells.toList++pc a:=rfl
theorem MK(a b:List B7):pc (a++b)=pc a++pc b:=by simp[pc]
theorem Z4:∀a:List B7,D (pc a)=4*D a
 |[]=>rfl
 |i::a=>by rw[aY,g1,Z4 a];simp[B7.cells];omega
theorem pK:∀(a:List B7)(k r:Nat)(b:k<D a),r<4->(pc a)[k*4+r]? =a[k].cells.toList[r]?
 |i::a,0,r,_,hr=>by rw[aY,List.getElem?_append_left (by simp[B7.cells];omega)];simp
 |i::a,k+1,r,b,hr=>by
  have c:k<D a:=by simpa using b
  rw[aY,List.getElem?_append_right (by simp[B7.cells];omega)];have e:(k+1)*4+r-D i.cells.toList=k*4+r:=by simp[B7.cells];omega
  rw[e,pK a k r c hr];simp
theorem a4f{w:Wd}{b c:Nat}{a:List B7}(d:i5 w (So ⟨b,c,J⟩) (pc a)){k:Nat}(e:k<D a):
 w.cell? ⟨b,c+k*4,J⟩=So (I U1 a[k].code)/\w.cell? ⟨b,c+k*4+1,J⟩=So (I U8 a[k].jt)/\w.cell? ⟨b,c+k*4+2,J⟩=So (I U8 a[k].jf)/\w.cell? ⟨b,c+k*4+3,J⟩=So (I V a[k].k):=by
 refine⟨d.cell (k:=k*4) ?_,d.cell (k:=k*4+1) ?_,d.cell (k:=k*4+2) ?_,d.cell (k:=k*4+3) ?_⟩;exact pK a k 0 e a8;exact pK a k 1 e a8;exact pK a k 2 e a8;exact pK a k 3 e a8
theorem S1{w:Wd}{a:p1}{c:List B7}(d:i5 w a (pc c))(f:0<D c):∃b e,a=So ⟨b,e,J⟩/\b<w.heap.size:=d.some_ (by rw[Z4];omega)
def pe(n:Nat):Int:=if n % 8=0 then 0 else 20
attribute [local go_sem] Oper.semAt_some
theorem j4{W W':Wd}(a:a9 W W')(row:Option Nat):W.grownBy W' row:=⟨a.os,a.tape,a.output,a.size,λk b _=>a.block b⟩
theorem Q8{W W':Wd}{base:Nat}{e:Ti}{d n:Nat}{v:Va}{xs:List Va}{row:Option Nat}(c:W.ownsRow base e d v n xs)(i:W.grownBy W' row)(j:∀r,row=So r->∃o:Obj,W.heap[r]? =So o/\o.isCells=Bf):W'.ownsRow base e d v n xs:=by
 refine c.kept i ?_;rcases c.2 with⟨b,_⟩|⟨g,cap,cur,b,_,f,_⟩
 subst b;exact .inl rfl;refine .inr λe=> ?_
 subst b;obtain⟨o,a,h⟩:=j g e.symm;rw[f]at a;injection a with a
 subst a;cases h
theorem i2{W W':Wd}{g:Nat}{t:Ti}{cs:Array Va}{row:Option Nat}(b:e7 W g t cs)(d:W.grownBy W' row)(f:∀r,row=So r->∃o:Obj,W.heap[r]? =So o/\o.isCells=Bf):e7 W' g t cs:=by
 refine b.grown d λe=> ?_
 obtain⟨o,a,c⟩:=f g e.symm;unfold e7 at b;rw[b]at a;injection a with a
 subst a;cases c
theorem MQ{W W':Wd}{b1 b2:Nat}{c d:Ti}{i r h q:Nat}{j l:Va}{m s:List Va}(f:W.ownsRow b1 c i j h m)(k:W.ownsRow b2 d r l q s)(p:c≠d)(o:W.grownBy W' l.ownBlock):W'.ownsRow b1 c i j h m:=by
 refine f.kept o ?_;rcases f.2 with⟨a,_⟩|⟨g,cap,cur,a,_,n,_⟩
 subst a;exact .inl rfl;refine .inr λe=> ?_
 subst a;rcases k.2 with⟨a,_⟩|⟨v,t,u,a,_,b,_⟩
 subst a;cases e;subst a;injection e with e
 subst e;rw[n]at b;injection b with b
 injection b with _ h2
 exact p h2
attribute [local go_sem] Oper.semAt_some
theorem EP(a:List B7):(m9 (D a)).map (λi=>a.getD i a39)=a:=by apply List.ext_getElem;simp;intro i c b;simp only[List.getElem_map,List.getElem_range];rw[b9,e9 b];rfl
open Go.ChangeAt
section
variable {H:Type} {enc:Ti×Va->H} {W:Wd}
theorem qD{b:Type}{l:List b}{i:Nat}(a:i<D l):∃x,l[i]? =So x:=⟨l[i],e9 a⟩
end
open Go.ChangeAt Go.Deep
section
variable {H:Type} {enc:Ti×Va->H} {W:Wd}
end
end
section
structure s7(α:Type) where
 k:Nat
 c:α->List Va
 len:∀x,D (c x)=k
 one:∀x,∀u∈c x,u.oneCell'=Bt
variable {α:Type} {E:s7 α}
def s7.row(E:s7 α)(xs:List α):List Va:=xs.flatMap E.c
theorem s7.row_cons(x:α)(xs:List α):E.row (x::xs)=E.c x++E.row xs:=rfl
theorem s7.row_append(a b:List α):E.row (a++b)=E.row a++E.row b:=by simp[s7.row]
theorem s7.row_one(x:α):E.row [x]=E.c x:=by simp[s7.row]
theorem s7.row_length:∀xs:List α,D (E.row xs)=D xs*E.k
 |[]=>by simp[s7.row]
 |x::xs=>by rw[E.row_cons,g1,row_length xs,E.len,i4,Nat.succ_mul];omega
theorem s7.row_oneCell(xs:List α):∀u∈E.row xs,u.oneCell'=Bt:=λu b=>by obtain⟨x,_,a⟩:=List.mem_flatMap.1 b;exact E.one x u a
theorem s7.row_at:∀(xs:List α)(j r:Nat)(a:j<D xs),r<E.k->(E.row xs)[j*E.k+r]? =(E.c xs[j])[r]?
 |x::xs,0,r,_,hr=>by rw[E.row_cons,List.getElem?_append_left (by rw[E.len];omega)];simp
 |x::xs,j+1,r,a,hr=>by rw[E.row_cons,List.getElem?_append_right (by rw[E.len,Nat.succ_mul];omega),E.len,show(j+1)*E.k+r-E.k=j*E.k+r by rw[Nat.succ_mul];omega,row_at xs j r (by simpa using a) hr];simp
theorem i5.l{w:Wd}{b c:Nat}{xs:List α}(d:i5 w (So ⟨b,c,J⟩) (E.row xs)){j:Nat}(e:j<D xs){r:Nat}{u:Va}(a:(E.c xs[j])[r]? =So u):w.cell? ⟨b,c+j*E.k+r,J⟩=So u:=by
 have f:r<E.k:=by rw[<-E.len xs[j]];exact(List.getElem?_eq_some_iff.1 a).1
 have:=d.cell (k:=j*E.k+r) (u:=u) (by rw[E.row_at xs j r e f];exact a);rwa[<-Nat.add_assoc]at this
theorem i5.elt0{w:Wd}{b:Nat}{xs:List α}(a:i5 w b (E.row xs)){j:Nat}(c:j<D xs){r:Nat}{u:Va}(d:(E.c xs[j])[r]? =So u):w.cell? ⟨b,j*E.k+r,J⟩=So u:=by have:=a.l c d;rwa[Nat.zero_add]at this
theorem i5.rows{w:Wd}{a:p1}{xs:List α}(c:i5 w a (E.row xs))(e:0<E.k)(d:0<D xs):∃b f,a=So ⟨b,f,J⟩/\b<w.heap.size:=c.some_ (by rw[E.row_length];exact Nat.mul_pos d e)
end
section
open Go.Shelf
theorem l99:Lays.n99 prog ⟨λ|99=>211|206=>282|n=>n,λn=>n,λn=>n⟩:=by constructor<;>first|(intro w;kernel_rfl)|kernel_rfl
theorem a6P:Lays.n100 prog ⟨λ|100=>138|207=>205|n=>n,λn=>n,λn=>n⟩:=by constructor<;>first|(intro w;kernel_rfl)|kernel_rfl
theorem a6O:Lays.n103 prog ⟨λ|103=>208|210=>279|206=>282|n=>n,λ|24=>123|n=>n,λn=>n⟩:=by constructor<;>first|(intro w;kernel_rfl)|kernel_rfl
theorem a6N:Lays.n104 prog ⟨λ|104=>142|211=>207|207=>205|n=>n,λ|24=>123|n=>n,λn=>n⟩:=by constructor<;>first|(intro w;kernel_rfl)|kernel_rfl
theorem a6M:Lays.n106 prog ⟨λ|106=>419|213=>448|265=>457|n=>n,λn=>n,λn=>n⟩:=by constructor<;>first|(intro w;kernel_rfl)|kernel_rfl
theorem a6H:Lays.n219 prog ⟨λ|219=>123|217=>183|225=>184|224=>185|267=>186|266=>264|314=>265|n=>n,λ|46=>211|146=>366|51=>32|n=>n,λ|1=>0|n=>n⟩:=by constructor<;>first|(intro w;kernel_rfl)|kernel_rfl
theorem a6F:Lays.n229 prog ⟨λ|229=>374|n=>n,λ|40=>456|31=>186|152=>507|154=>509|n=>n,λn=>n⟩:=by constructor<;>first|(intro w;kernel_rfl)|kernel_rfl
theorem a6J:Lays.n152 prog ⟨λ|152=>281|137=>363|119=>364|224=>185|225=>184|217=>183|266=>264|n=>n,λ|46=>211|n=>n,λn=>n⟩:=by constructor<;>first|(intro w;kernel_rfl)|kernel_rfl
theorem a6I:Lays.n153 prog ⟨λ|153=>280|152=>281|226=>360|227=>361|228=>362|137=>363|119=>364|224=>185|225=>184|217=>183|266=>264|n=>n,λ|117=>454|116=>453|46=>211|124=>502|n=>n,λn=>n⟩:=by constructor<;>first|(intro w;kernel_rfl)|kernel_rfl
theorem a6G:Lays.n226 prog ⟨λ|226=>360|n=>n,λn=>n,λn=>n⟩:=by constructor<;>first|(intro w;kernel_rfl)|kernel_rfl
theorem a6K:Lays.n137 prog ⟨λ|137=>363|217=>183|266=>264|n=>n,λn=>n,λn=>n⟩:=by constructor<;>first|(intro w;kernel_rfl)|kernel_rfl
theorem a6L:Lays.n119 prog ⟨λ|119=>364|n=>n,λn=>n,λn=>n⟩:=by constructor<;>first|(intro w;kernel_rfl)|kernel_rfl
end
section
open Go.Shelf
theorem aS(s p:g4)(W:Wd):Ca prog 211 #[Y s,Y p] W λe b=>e=X (O (Lib.hasPrefix s.data.toList p.data.toList))/\W=b:=(Any.strings_HasPrefix l99 s p W).mono λ_ _ a=>⟨a.1,a.2.symm⟩
theorem vO(s p:g4)(c:s.size<=1000000)(W:Wd):Ca prog 138 #[Y s,Y p] W λe b=>e=X (O (Lib.hasSuffix s.data.toList p.data.toList))/\W=b:=(Any.strings_HasSuffix a6P s p W a8).mono λ_ _ a=>⟨a.1,a.2.symm⟩
theorem gY(s p:g4)(W:Wd):Ca prog 208 #[Y s,Y p] W λe b=>e=X (Tp #[Y ⟨(Lib.trimPrefix s.data.toList p.data.toList).toArray⟩,O (Lib.hasPrefix s.data.toList p.data.toList)])/\W=b:=(Any.strings_CutPrefix a6O s p W).mono λ_ _ a=>⟨a.1,a.2.symm⟩
theorem gX(s p:g4)(c:s.size<=1000000)(W:Wd):Ca prog 142 #[Y s,Y p] W λe b=>e=X (Tp #[Y ⟨(Lib.trimSuffix s.data.toList p.data.toList).toArray⟩,O (Lib.hasSuffix s.data.toList p.data.toList)])/\W=b:=(Any.strings_CutSuffix a6N s p W a8).mono λ_ _ a=>⟨a.1,a.2.symm⟩
theorem vN(s:g4)(c:Int)(W:Wd):Ca prog 363 #[Y s,I U8 c] W λe b=>e=X (I M (Lib.indexByte s.data.toList c.toNat.toUInt8))/\W=b:=(Any.strings_IndexByte a6K s c W).mono λ_ _ a=>⟨a.1,a.2.symm⟩
theorem DS(a b:g4)(W:Wd):Ca prog 419 #[Y a,Y b] W λe d=>e=X (I M (Lib.compareBytes a.data.toList b.data.toList))/\W=d:=(Any.strings_Compare a6M a b W).mono λ_ _ c=>⟨c.1,c.2.symm⟩
theorem FX(l:List UInt8)(c:UInt8): -1<=Lib.indexByte l c/\Lib.indexByte l c<D l:=by
 refine⟨Lib.indexByte_ge l c,?_⟩;induction l with
 |nil=>exact(e6:(-1:Int)<0)
 |cons b l ih=>unfold Lib.indexByte;rw[i4];split<;>(try split)<;>omega
theorem FW(l:List UInt8)(c:UInt8)(a:∀x∈l,x≠c):Lib.indexByte l c= -1:=by
 induction l with
 |nil=>rfl
 |cons b l ih=>
  unfold Lib.indexByte
  rw[ih λx d=>a x (List.mem_cons_of_mem _ d)]
  have:(b==c)=Bf:=by simpa using a b (List.mem_cons_self ..)
  rw[this];rfl
def H2(s:g4)(c:UInt8):g4×g4×Bool:=
 let i:=Lib.indexByte s.data.toList c
 if 0<=i then(s.extract 0 i.toNat,s.extract (i.toNat+1) s.size,Bt)else(s,⟨#[]⟩,Bf)
theorem eN(s:g4)(c:UInt8):(Lib.indexByte s.data.toList c<0/\H2 s c=(s,⟨#[]⟩,Bf))\/∃k:Nat,k<s.size/\Lib.indexByte s.data.toList c=k/\H2 s c=(s.extract 0 k,s.extract (k+1) s.size,Bt):=by have b:=FX s.data.toList c;rw[<-Lib.size_eq]at b;unfold H2;by_cases hi:Lib.indexByte s.data.toList c<0;exact .inl ⟨hi,by simp only[if_neg (a8:¬0<=Lib.indexByte s.data.toList c)]⟩;obtain⟨k,a⟩:∃k:Nat,Lib.indexByte s.data.toList c=k:=⟨(Lib.indexByte s.data.toList c).toNat,a8⟩;refine .inr ⟨k,a8,a,?_⟩;simp only[a,if_pos (Int.natCast_nonneg k),Int.toNat_natCast]
theorem a0e(s:g4)(c:UInt8)(p:s.size<=1000000)(W:Wd):Ca prog 65 #[Y s,Y ⟨#[c]⟩] W λe g=>e=X (Tp #[Y (H2 s c).1,Y (H2 s c).2.1,O (H2 s c).2.2])/\a9 W g:=by
 have d:=a6 (show Ca prog 123 #[Y s,Y ⟨#[c]⟩] W _ from Any.stringslite_Index_one a6H s c W);have n:(⟨#[c]⟩:g4).size=1:=rfl;have f:=eN s c;generalize Lib.indexByte s.data.toList c=i at*;generalize H2 s c=R at*;generalize(⟨#[c]⟩:g4)=C at*;rcases f with⟨hi,a⟩|⟨k,o,rfl,a⟩
 ·have b:=a6 a;clear a;go_in;go_wp2_with fail;apply d.mono;rintro e h⟨rfl,rfl⟩;go_wp2;go_ret3;exact⟨by rw[b.O];rfl,a9.refl _⟩
 have b:=a6 a;clear a;have h:IntKind.i64.wrap ((k:Int)+1)=((k+1:Nat):Int):=by rw[Int.natCast_add];exact h7 _ a8
 go_in;go_wp2_with fail;apply ZG d;have l:(k:Int)<=s.size:=a8;have m:(((k+1:Nat):Int))<=s.size:=a8;have j:(0:Int)<=k:=a8;go_wp2_with fail;go_quiet (fail)
 go_wp2;go_ret3;exact⟨by rw[b.O];rfl,(a9.refl _).drewN _⟩
theorem DR(s:g4)(c:UInt8)(b:s.size<=1000000)(W:Wd):Ca prog 41 #[Y s,Y ⟨#[c]⟩] W λe f=>e=X (Tp #[Y (H2 s c).1,Y (H2 s c).2.1,O (H2 s c).2.2])/\a9 W f:=by have a:=a6 (a0e s c b);generalize H2 s c=R at*;generalize(⟨#[c]⟩:g4)=C at*;go_in;go_wp2_with fail;refine l4 (a _) λg d=>?_;go_wp2;go_ret3;exact⟨rfl,d⟩
end
section
structure kZ(P:Pg)(t e:Ti)(z:Va)(k b:Nat):Prop where
 u:P.underlying t=So (.slice e)
 i:(P.info? e).map (λi=>(i.zero,i.size,i.bytes))=So (So z,k,b)
 zs:z.cells.size=k
 k0:0<k
 b0:b<=10000
variable {α:Type}
def c7(w:Wd)(base:Nat)(e:Ti)(E:s7 α)(v:Va)(xs:List α):Prop:=∃A c,v=Z A (D xs) c/\w.ownsRow base e E.k v (D xs) (E.row xs)
theorem c7.nil(w:Wd)(base:Nat)(e:Ti)(E:s7 α):c7 w base e E (Z J 0 0) []:=⟨J,0,rfl,World.ownsRow_nil _ _ _ _⟩
section
variable {w w':Wd} {base:Nat} {e:Ti} {E:s7 α} {v:Va} {xs:List α}
theorem c7.h(h:c7 w base e E v xs)(x:a9 w w'):c7 w' base e E v xs:=let⟨A,c,hv,ho⟩:=h;⟨A,c,hv,eH ho x⟩
theorem c7.inM(f:c7 w base e E v xs):∃b c,v=Z b (D xs) c/\D xs<=c/\c<=maxLen/\i5 w b (E.row xs):=by
 obtain⟨b,c,rfl,d⟩:=f;refine⟨b,c,rfl,?_,?_,wI d⟩;rcases d.2 with⟨a,i⟩|⟨g,cap,cur,a,_,_,h,_⟩
 omega;injection a with _ _ hc';omega
 rcases d.2 with⟨a,i⟩|⟨g,cap,cur,a,_,_,h,j,_⟩
 injection a with _ _ hc';unfold maxLen;omega
 injection a with _ _ hc';omega
theorem c7.b(h:c7 w base e E v xs):∃A c,v=Z A (D xs) c:=let⟨A,c,hv,_⟩:=h;⟨A,c,hv⟩
theorem c7.mono{b2:Nat}(d:c7 w base e E v xs)(h:b2<=base):c7 w b2 e E v xs:=by
 obtain⟨b,c,i,f,a⟩:=d;refine⟨b,c,i,f,?_⟩;rcases a with a|⟨g,cap,cur,k1,k2,k3⟩
 exact .inl a;exact .inr ⟨g,cap,cur,k1,b6 h k2,k3⟩
theorem c7.lt(a:c7 w base e E v xs){k:Nat}(b:v.ownBlock=So k):base<=k/\k<w.heap.size:=let⟨_,_,_,ho⟩:=a;ho.lt k b
theorem c7.kept{row:Option Nat}(a:c7 w base e E v xs)(g:w.grownBy w' row)(b:v.ownBlock=J\/v.ownBlock≠row):c7 w' base e E v xs:=let⟨A,c,hv,ho⟩:=a;⟨A,c,hv,ho.kept g b⟩
end
theorem cF{w:Wd}{a:Ti}{cs:Array Va}{xs:List Va}{g:Nat}(b:g=w)(e:cs.toList=xs):i5 (w.alloc (U cs a)) g xs:=by subst b;exact i5.f (e7.new _ _ _) e
theorem h8{P:Pg}{w:Wd}{l:Array Oper}{rest:List Oper}{o:Oper}{a:Act}{Q:Exit->Act->Wd->Prop}(H:o.guard=J)(s x:Operand)(t e:Ti)
 (R:o.op= .call {callee:= .builtin .append,args:= #[s,x],argTypes:= #[t,t]}) {z:Va} {b:Nat} {E:s7 α} (d:kZ P t e z E.k b)
 (base:Nat) (v:Va) (xs:List α) (T:a.eval s=v) (g:c7 w base e E v xs)
 (B:p1) (m j:Nat) (ys:List α) (aa:a.eval x=Z B m j) (N:D ys=m) (y:i5 w B (E.row ys)) (W:D xs+m<=1000000) (G:base<=w)
 (r:∀v' w',c7 w' base e E v' (xs++ys)->(∀f,a9 f w->f<=base->a9 f w')->w.grownBy w' v.ownBlock->(v'.ownBlock=v.ownBlock\/v'.ownBlock=So w.heap.size)->Wp P l Q rest (a.put o.dst v') w'):
 Wp P l Q (o::rest) a w:=by
 obtain⟨n,c,rfl,g⟩:=g;obtain⟨i,hi,h⟩:=Option.map_eq_some_iff.1 d.i;simp only[Prod.mk.injEq]at h;obtain⟨h,L,C⟩:=h;subst N;refine aN H s x t R base e i z E.k b d.u hi h L C d.zs d.k0 n (D xs) c (E.row xs) T g B (D ys) j (E.row ys) aa (E.row_length ys) y (E.row_oneCell ys) W d.b0 G λp q w' S k A=> ?_
 exact r _ w' ⟨p,q,by rw[g1],by rw[E.row_append,g1];exact S⟩ (λf u F=>u.app g F k) k A
end
def blk(c:Int):Bool:=c==32||c==9||c==13
theorem a40(c:Int)(W:Wd):Ca prog 206 #[I U8 c] W λe g=>e=X (O (blk c))/\W=g:=by have a:blk c=(c==32||c==9||c==13):=rfl;generalize blk c=R at*;go_in;cases b:c==32<;>cases d:c==9<;>cases f:c==13;all_goals rw[b,d,f]at a;go_wp2;go_ret;exact⟨by rw[a];rfl,rfl⟩
def p5(s:g4)(i:Nat):Int:=((s.data.toList.getD i 0).toNat:Int)
def T0:Nat->g4->g4
 |0,s=>s
 |n+1,s=>if blk (p5 s 0)then T0 n (s.extract 1 s.size)else s
def S9:Nat->g4->g4
 |0,s=>s
 |n+1,s=>if blk (p5 s n)then S9 n (s.extract 0 n)else s
def H6(s:g4):g4:=S9 (T0 s.size s).size (T0 s.size s)
theorem l6(s:g4)(i j:Nat)(a:i<=j)(b:j<=s.size):(s.extract i j).size=j-i:=by simp[ByteArray.size_extract];omega
theorem V3(s:g4)(i:Nat)(a:i<s.size):p5 s i=(s[i].toNat:Int):=by
 have b:i<D s.data.toList:=by rw[<-Lib.size_eq];exact a
 unfold p5;rw[b9,e9 b];rfl
theorem yO(t:g4):(∃m,∃f:0<t.size,t.size=m+1/\blk (t[0].toNat:Int)=Bt/\(t.extract 1 (m+1)).size=m/\T0 t.size t=T0 (t.extract 1 (m+1)).size (t.extract 1 (m+1)))\/
 T0 t.size t=t/\(t.size=0\/∃m,∃f:0<t.size,t.size=m+1/\blk (t[0].toNat:Int)=Bf):=by
 by_cases c:t.size=0;exact .inr ⟨by rw[c];rfl,.inl c⟩;obtain⟨m,a⟩:∃m,t.size=m+1:=⟨t.size-1,a8⟩;have e:T0 t.size t=if blk (t[0].toNat:Int)then T0 m (t.extract 1 t.size)else t:=by rw[<-V3 t 0 a8,a];simp only[T0,a]
 rw[e];rcases d:blk (t[0].toNat:Int)with _|_
 exact .inr ⟨rfl,.inr ⟨m,a8,a,d⟩⟩;have b:(t.extract 1 (m+1)).size=m:=by rw[l6 _ _ _ a8 a8];omega
 exact .inl ⟨m,a8,a,d,b,by rw[b,a];rfl⟩
theorem lB(t:g4):(∃m,∃g:m<t.size,t.size=m+1/\blk (t[m].toNat:Int)=Bt/\(t.extract 0 m).size=m/\S9 t.size t=S9 (t.extract 0 m).size (t.extract 0 m))\/
 S9 t.size t=t/\(t.size=0\/∃m,∃g:m<t.size,t.size=m+1/\blk (t[m].toNat:Int)=Bf):=by
 by_cases c:t.size=0;exact .inr ⟨by rw[c];rfl,.inl c⟩;obtain⟨m,a⟩:∃m,t.size=m+1:=⟨t.size-1,a8⟩;have f:m<t.size:=a8;have e:S9 t.size t=if blk (t[m].toNat:Int)then S9 m (t.extract 0 m)else t:=by rw[<-V3 t m a8,a];rfl
 rw[e];rcases d:blk (t[m].toNat:Int)with _|_
 exact .inr ⟨rfl,.inr ⟨m,f,a,d⟩⟩;have b:(t.extract 0 m).size=m:=by rw[l6 _ _ _ a8 a8];omega
 exact .inl ⟨m,f,a,d,b,by rw[b];rfl⟩
theorem kB(s:g4)(w:s.size<=100000000)(W:Wd):Ca prog 140 #[Y s] W λe y=>e=X (Y (H6 s))/\a9 W y:=by
 have j:=a6 a40;obtain⟨l,f⟩:∃l,l=T0 s.size s:=⟨_,rfl⟩;obtain⟨R,a⟩:∃R,R=H6 s:=⟨_,rfl⟩;rw[<-a];unfold H6 at a;rw[<-f]at a;go_wp2;go_loopw [0] (λi wr=>∃t:g4,t.size<=100000000/\i=Y t/\l=T0 t.size t/\a9 W wr) (λi _=>match i with|Y t=>t.size|_=>0);exact⟨s,w,rfl,f,a9.refl W⟩;clear f;obtain⟨t,q,rfl,f,d⟩:=hrel;rcases yO t with⟨m,r,v,g,p,c⟩|⟨c,z|⟨m,r,v,g⟩⟩
 ·have b:=λW=>j (t[0].toNat:Int) W
  rw[g]at b;rw[c]at f;go_wp2_with fail;apply(b _).mono;rintro e h⟨rfl,rfl⟩;go_wp2;go_roundw;exact⟨_,a8,rfl,f,d⟩;show(t.extract 1 (m+1)).size<t.size;omega
 ·rw[c]at f;rw[f]at a;clear f;go_wp2;go_loopw [0] (λi wr=>∃u:g4,u.size<=100000000/\i=Y u/\R=S9 u.size u/\a9 W wr) (λi _=>match i with|Y t=>t.size|_=>0);exact⟨_,q,rfl,a,d⟩;clear a d;obtain⟨u,x,rfl,a,d⟩:=hrel;have b:=j.O;rcases lB u with⟨n,o,k,g,p,c⟩|⟨c,k|⟨n,o,k,g⟩⟩
  ·have b:=λW=>j (u[n].toNat:Int) W
   rw[g]at b;rw[c]at a;have h:IntKind.i64.wrap ((n:Int)+1-1)=n:=by rw[(a8:(n:Int)+1-1=n)];exact h7 _ a8
   go_wp2_with fail;apply(b _).mono;rintro e h⟨rfl,rfl⟩;go_wp2;go_roundw;exact⟨_,a8,rfl,a,d⟩;show(u.extract 0 n).size<u.size;omega
  ·rw[c]at a;subst a;go_wp2;go_ret;exact⟨rfl,d⟩
  rw[c]at a;subst a;have b:=λW=>j (R[n].toNat:Int) W
  rw[g]at b;have h:IntKind.i64.wrap ((n:Int)+1-1)=n:=by rw[(a8:(n:Int)+1-1=n)];exact h7 _ a8
  go_wp2_with fail;apply(b _).mono;rintro e h⟨rfl,rfl⟩;go_wp2;go_ret;exact⟨rfl,d⟩
 rw[c]at f;rw[f]at a;clear f;have b:=λW=>j (t[0].toNat:Int) W
 rw[g]at b;go_wp2_with fail;apply(b _).mono;rintro e h⟨rfl,rfl⟩;go_wp2;go_loopw [0] (λi wr=>∃u:g4,u.size<=100000000/\i=Y u/\R=S9 u.size u/\a9 W wr) (λi _=>match i with|Y t=>t.size|_=>0);exact⟨_,q,rfl,a,d⟩;clear a d;obtain⟨u,x,rfl,a,d⟩:=hrel;have b:=j.O;rcases lB u with⟨n,o,k,g,p,c⟩|⟨c,k|⟨n,o,k,g⟩⟩
 ·have b:=λW=>j (u[n].toNat:Int) W
  rw[g]at b;rw[c]at a;have h:IntKind.i64.wrap ((n:Int)+1-1)=n:=by rw[(a8:(n:Int)+1-1=n)];exact h7 _ a8
  go_wp2_with fail;apply(b _).mono;rintro e h⟨rfl,rfl⟩;go_wp2;go_roundw;exact⟨_,a8,rfl,a,d⟩;show(u.extract 0 n).size<u.size;omega
 ·rw[c]at a;subst a;go_wp2;go_ret;exact⟨rfl,d⟩
 rw[c]at a;subst a;have b:=λW=>j (R[n].toNat:Int) W
 rw[g]at b;have h:IntKind.i64.wrap ((n:Int)+1-1)=n:=by rw[(a8:(n:Int)+1-1=n)];exact h7 _ a8
 go_wp2_with fail;apply(b _).mono;rintro e h⟨rfl,rfl⟩;go_wp2;go_ret;exact⟨rfl,d⟩
def x5(s:g4):Bool:=0<(H6 s).size&&(p5 (H6 s) 0==35||p5 (H6 s) 0==59)
theorem iR(t:g4)(h:t.size=0):t=⟨#[]⟩:=by have:t.data.size=0:=h;cases t;simp only[ByteArray.mk.injEq];exact Array.eq_empty_of_size_eq_zero this
theorem o9(t:g4):t.toList.isEmpty=Dc (t.size=0):=by rw[Lib.toList_data,Lib.size_eq];cases t.data.toList<;>simp
theorem wT(s:g4)(k:s.size<=1000000)(W:Wd):Ca prog 141 #[Y s] W λe g=>e=X (O (x5 s))/\a9 W g:=by
 have c:=a6 (kB s a8 W);unfold x5;generalize H6 s=t at*;rcases d:t.size with _|m
 ·have a:=o9 t;rw[d]at a;go_in;go_wp2_with fail;refine l4 c λh b=>?_;go_wp2;go_ret;exact⟨rfl,b⟩
 have a:=o9 t;rw[d]at a;have f:0<t.size:=a8;rw[V3 t 0 f];rcases i:((t[0].toNat:Int)==35)with _|_<;>rcases j:((t[0].toNat:Int)==59)with _|_
 all_goals go_in;go_wp2_with fail;refine l4 c λh b=>?_;go_wp2;go_ret;exact⟨by first|rfl|simp,b⟩
section
open Go.Shelf
def ZQ(s:g4):Prop:=∀x∈s.data.toList,x.toNat<128
theorem ZQ.at{s:g4}(h:ZQ s)(i:Nat)(hi:i<s.size):(s[i]'hi).toNat<128:=h _ (by have:=Lib.data_getElem? s i hi;exact List.mem_of_getElem? this)
theorem CD(r:Int)(e:128<=r)(f:Utf8.valid r=Bt):∃m,∃d:m<(Utf8.encode r).size,(Utf8.encode r).size=m+1/\1<=m/\m<=3/\128<=((Utf8.encode r)[m]'d).toNat:=by obtain⟨a,b,c⟩:=encode_facts r f e;exact⟨(Utf8.encode r).size-1,a8,a8,a8,a8,c _⟩
theorem vM(r:Int)(W:Wd):Ca prog 364 #[I .i32 r] W λe b=>e=X (O (Lib.validRune r))/\W=b:=(Any.utf8_ValidRune a6L r W).mono λ_ _ a=>⟨a.1,a.2.symm⟩
theorem QW(r:Int)(h:Lib.validRune r=Bt):Utf8.valid r=Bt:=by unfold Lib.validRune at h;unfold Utf8.valid;simp only[Bool.or_eq_true,j3,decide_eq_true_eq]at h⊢;omega
theorem LF(s:g4)(r:Int)(aa:s.size<=3)(z:ZQ s)(o:128<=r)(W:Wd):Ca prog 281 #[Y s,I .i32 r] W λe E=>e=X (I M (-1))/\a9 W E:=by
 obtain⟨a,d⟩:=j0 (vM r) z;have ac:Dc ((0:Int)<=r)=Bt:=by simp;omega
 have ad:Dc (r<128)=Bf:=by simp;omega
 have u:=a6 o;clear o;rcases h:r==65533 with _|_
 ·rcases j:Lib.validRune r with _|_
  ·rw[j]at a;go_in;go_wp2_with fail;apply(a _).mono;rintro e k⟨rfl,rfl⟩;go_wp2;go_ret;exact⟨rfl,a9.refl _⟩
  rw[j]at a;obtain⟨m,R,ab,S,T,q⟩:=CD r u (QW r j);have k:IntKind.i64.wrap ((m:Int)+1-1)=m:=by rw[(a8:(m:Int)+1-1=m)];exact h7 _ a8
  have l:=a6 q;clear q;generalize N:Utf8.encode r=G at*;by_cases A:m<s.size
  ·have B:((s[m].toNat:Int)==(G[m].toNat:Int))=Bf:=by have:=d.at m A;have:=l.O;simp;omega
   have t:Lib.indexByte (s.extract (m+1) s.size).data.toList ((G[m].toNat:Int)).toNat.toUInt8= -1:=by
    rw[(i3:((G[m].toNat:Int)).toNat.toUInt8=G[m])];refine FW _ _ λx b e=> ?_
    have f:=d x (mem_extract b);have w:=l.O;rw[e]at f;omega
   have n:=a6 (vN (s.extract (m+1) s.size) (G[m].toNat:Int));rw[t]at n;clear t;have F:IntKind.i64.wrap ((m:Int)+1)=((m+1:Nat):Int):=by rw[Int.natCast_add];exact h7 _ a8
   have f:(m:Int)<s.size:=a8;have w:(((m+1:Nat):Int))<=s.size:=a8;have L:(m:Int)<(m:Int)+1:=a8;go_in;go_wp2_with fail;apply(a _).mono;rintro e k⟨rfl,rfl⟩;go_wp2_with fail;go_step3
   go_wp2;go_loopw [9] (λi wr=>i=I M m/\a9 W wr) (λ_ _=>0);exact⟨rfl,a9.refl _⟩;obtain⟨rfl,b⟩:=hrel;go_wp2_with fail;go_step3
   go_wp2_with fail;go_quiet (fail)
   go_wp2_with fail;refine gP ?_;repeat(apply D7;focus (intro x v p;simp only[g0,o7,uV];(repeat intro c;try simp only[c]);go_wp2_with(apply(n _).mono;rintro e F⟨rfl,rfl⟩);exact dn rfl rfl (a9.refl _)))
   intro x v p;simp only[n9,g0,o7,uV];repeat(intro c;try simp only[c];clear c)
   go_wp2;rw[Exit.noGoto_ret];simp only[Exit.inBlock];simp+zetaDelta only[Exit.noGoto_ret,Exit.inBlock,Exit.then];go_ret;exact⟨rfl,(b.drewN _).trans p⟩
  have f:¬(m:Int)<s.size:=a8;go_in;go_wp2_with fail;apply(a _).mono;rintro e k⟨rfl,rfl⟩;go_wp2_with fail;go_step3
  go_wp2;go_loopw [9] (λi wr=>i=I M m/\a9 W wr) (λ_ _=>0);exact⟨rfl,a9.refl _⟩;obtain⟨rfl,b⟩:=hrel;go_wp2_with fail;rw[Exit.noGoto_ret];simp only[Exit.inBlock];go_ret;exact⟨rfl,b⟩
 have h:r=65533:=by simpa using h
 subst h;go_wp2;go_loopg [5,6] s.size (λg _ _ H=>∃i:Nat,i+g=s.size/\H=W.iter s i);exact⟨0,a8,rfl⟩;obtain⟨i,Q,rfl⟩:=hrel;cases gk with
 |zero=>
  obtain rfl:i=s.size:=a8
  have C:=run_next_end (P:=prog) W s s.size
  go_wp2
  go_ret
  exact⟨rfl,(a9.refl W).alloc _⟩
 |succ g=>
  have hi:i<s.size:=a8
  have y:=d.at i hi
  have C:=λty=>run_next_ascii (P:=prog) W s i ty hi y
  have B:((s[i].toNat:Int)==65533)=Bf:=by simp;omega
  go_wp2
  go_roundg g
  case measure=>omega
  case rel=>exact⟨i+1,a8,rfl⟩
def BC(cs:g4)(r:Int):Int:=if r<128 then Lib.indexByte cs.data.toList r.toNat.toUInt8 else-1
theorem a2k(cs:g4)(r:Int)(d:cs.size<=3)(c:ZQ cs)(b:0<=r)(W:Wd):Ca prog 281 #[Y cs,I .i32 r] W λe f=>e=X (I M (BC cs r))/\a9 W f:=by
 unfold BC;by_cases a:r<128;rw[if_pos a];exact(Any.strings_IndexRune_ascii a6J cs r W b a).mono λ_ _ a=>⟨a.1,a.2▸a9.refl _⟩
 rw[if_neg a];exact LF cs r d c a8 W
theorem mJ(cs:g4)(r:Int)(d:cs.size<=3)(c:ZQ cs)(b:0<=r)(W:Wd):Ca prog 210 #[Y cs,I .i32 r] W λe g=>e=X (O (Dc (0<=BC cs r)))/\a9 W g:=by have a:=a6 (a2k cs r d c b);generalize BC cs r=h at*;go_in;go_wp2_with fail;refine l4 (a _) λi f=>?_;go_wp2;go_ret;exact⟨rfl,f⟩
def o4(s cs:g4):Nat->Nat->Int
 |0,_=> -1
 |f+1,i=>if i<s.size then(if 0<=BC cs (Utf8.decode s i).1 then(i:Int)else o4 s cs f (i+(Utf8.decode s i).2))else-1
def iaT(s cs:g4):Int:=if s.size<=8 then o4 s cs (s.size+1) 0 else Lib.indexAny s.data.toList cs.data.toList
theorem yU(s cs:g4)(ad:s.size<=1000000)(F:2<=cs.size)(G:cs.size<=3)(o:ZQ cs)(W:Wd):Ca prog 280 #[Y s,Y cs] W λe y=>e=X (I M (iaT s cs))/\a9 W y:=by
 unfold iaT;by_cases l:s.size<=8
 ·rw[if_pos l];obtain⟨B,C,A⟩:=r6 (λr E=>a2k cs r G o E) (show∀n,Ca prog 360 #[I M n] W _ from λn=>Any.strings_shouldUseASCIISet a6G n W) (λi(hi:i<s.size)=>Lib.decode_width_pos s i hi);obtain⟨R,a⟩:∃R,R=o4 s cs (s.size+1) 0:=⟨_,rfl⟩;rw[<-a];have Q:=o9 cs;rw[decide_eq_false a8]at Q;have ac:((cs.size:Int)==1)=Bf:=beq_eq_false_iff_ne.2 a8;have H:Dc ((8:Int)<(s.size:Int))=Bf:=decide_eq_false a8;go_in;go_wp2_with fail;apply(C _).mono;rintro e c⟨rfl,rfl⟩;rw[H];go_wp2;go_loopg [9,10] (s.size+1) (λg _ _ z=>∃i:Nat,s.size+1<=i+g/\R=o4 s cs g i/\z.heap[c.heap.size]? =So (.stringIter s i)/\a9 c z);exact⟨0,a8,a,heap_alloc_new _ _,(a9.refl _).alloc _⟩;clear a;obtain⟨i,ab,a,h,v⟩:=hrel;have t:=A i;by_cases hi:i<s.size
  ·obtain⟨g,rfl⟩:∃g,gk=g+1:=⟨gk-1,a8⟩;have T:=λty=>Lib.run_next_any_at (P:=prog) wr c s i ty h hi
   simp only[o4,if_pos hi]at a;have p:=Lib.iterAt_heap wr c s i (i+(Utf8.decode s i).2) h;have x:a9 c (wr.iterAt c s (i+(Utf8.decode s i).2)):=Lib.below_iterAt v (a7 _) s _;have t:=t hi;generalize(Utf8.decode s i).2=d at*;generalize wr.iterAt c.heap.size s (i+d)=ae at*;have m:=B ((Utf8.decode s i).1:Int) a8;generalize BC cs ((Utf8.decode s i).1:Int)=q at*;generalize(((Utf8.decode s i).1:Nat):Int)=r at*;by_cases u:0<=q;·rw[if_pos u]at a;subst a;go_wp2_with fail;refine l4 (m _) λaa f=>?_;go_wp2;go_ret;exact⟨rfl,x.trans f⟩
   rw[if_neg u]at a;go_wp2_with fail;refine l4 (m _) λaa f=>?_;have S:=(f.block (Array.getElem?_eq_some_iff.1 p).1).trans p;go_wp2;go_roundg g;exact⟨i+d,a8,a,S,x.trans f⟩;omega
  have T:=λty=>Lib.run_next_end_at (P:=prog) wr c s i ty h hi
  have L:R= -1:=by
   rw[a];cases gk with
   |zero=>rfl
   |succ g=>simp only[o4,if_neg hi]
  subst L;go_wp2;go_ret;exact⟨rfl,v⟩
 rw[if_neg l];exact(Any.strings_IndexAny_long a6I (λw=>g6) g6 s cs W F a8 a8 a8 (λj b N=>o b (List.mem_of_getElem? N))).mono λe y k=>⟨k.1,k.2▸((a9.refl W).alloc _).alloc _⟩
theorem cQ(s cs:g4)(f:s.size<=1000000)(b:2<=cs.size)(c:cs.size<=3)(d:ZQ cs)(W:Wd):Ca prog 209 #[Y s,Y cs] W λe h=>e=X (O (Dc (0<=iaT s cs)))/\a9 W h:=by have a:=a6 (yU s cs f b c d);generalize iaT s cs=i at*;go_in;go_wp2_with fail;refine l4 (a _) λj g=>?_;go_wp2;go_ret;exact⟨rfl,g⟩
end
section
open Go.Shelf Go.Lib
def Q0{α:Type}(p:α->Bool):List α->Nat->Int
 |[],_=> -1
 |x::r,i=>if p x then i else Q0 p r (i+1)
theorem iL{α:Type}(p:α->Bool)(xs:List α)(k:Nat)(a:k<D xs):Q0 p (xs.drop k) k=if p xs[k]then(k:Int)else Q0 p (xs.drop (k+1)) (k+1):=by rw[List.drop_eq_getElem_cons a];rfl
theorem nV{α:Type}(p:α->Bool):∀(xs:List α)(i:Nat),Dc (0<=Q0 p xs i)=xs.any p
 |[],i=>rfl
 |x::r,i=>by rw[Q0,List.any_cons];cases h:p x;simp only[Bool.false_eq_true,if_false,Bool.false_or];exact nV p r (i+1);simp
theorem kI{α:Type}(p:α->Bool):∀(xs:List α)(i:Nat),(∃k,∃c:k<D xs,Q0 p xs i=((i+k:Nat):Int)/\p xs[k]=Bt/\xs.find? p=So xs[k])\/(Q0 p xs i= -1/\xs.find? p=J)
 |[],i=> .inr ⟨rfl,rfl⟩
 |x::r,i=>by
  unfold Q0;rw[List.find?_cons];cases d:p x;rcases kI p r (i+1)with⟨k,c,a,b,e⟩|⟨a,b⟩
  exact .inl ⟨k+1,by simpa using c,by simp only[Bool.false_eq_true,if_false];rw[a];congr 1;omega,b,e⟩;exact .inr ⟨by simpa using a,b⟩;exact .inl ⟨0,i3,i3,d,rfl⟩
def V4{α:Type}(P:Pg)(g:Nat)(lb:Array Va)(v:α->Va)(p:α->Bool)(w:Wd)(xs:List α):Prop:=
 ∀x∈xs,∀W,a9 w W->Ca P g (#[v x]++lb) W λe a=>e=X (O (p x))/\a9 W a
theorem V4.h{α:Type}{P:Pg}{g:Nat}{lb:Array Va}{v:α->Va}{p:α->Bool}{w a:Wd}{xs:List α}(b:V4 P g lb v p w xs)(x:a9 w a):V4 P g lb v p a xs:=λe d W c=>b e d W (x.trans c)
section
variable {P:Pg} {ρ:Ren} {α:Type}
theorem hX(L:SlLaysH0.n6 P ρ)(E:s7 α)(u:0<E.k)(S:∀w,(isAgg (ρ.t 23)).run P w= .ok Bt w)(aw:∀w,(Go.sizeOf (ρ.t 23)).run P w= .ok E.k w)
 (p:α->Bool) (g:Nat) (lb:Array Va) (T:∀args w,(callFunc g args).run P w= .ok (.enter g args) w) (m:p1) (n c:Nat) (xs:List α) (w:Wd)
 (q:V4 P g lb (λx=>Ag (E.c x).toArray) p w xs) (o:D xs=n) (aa:n<=1000000) (h:i5 w m (E.row xs)):
 Ca P (ρ.f 6) #[Z m n c,Fc (.func g) #[] lb] w λe l=>e=X (I M (Q0 p xs 0))/\a9 w l:=by
 have ae:=L.mixed;have af:=L.t0;have F:=L.a0;have ap:=L.z0;have ak:=L.v0;have ai:=L.t3;have N:=L.a3;have au:=L.z3;have an:=L.v3;have aj:=L.t4;have Q:=L.a4;have av:=L.z4;have ao:=L.v4;have ag:=L.t22;have G:=L.a22;have aq:=L.z22;have al:=L.v22;have ah:=L.t25;have H:=L.a25;have ar:=L.z25;have am:=L.v25;obtain⟨R,a⟩:∃R,R=Q0 p xs 0:=⟨_,rfl⟩;rw[<-a];obtain⟨_,_,s⟩:=L.f6;go_enter s,SlBodyH.n6_ntmps ρ;go_wp2;go_loopg [5,8] n (λt _ B wr=>∃kk:Nat,kk<=n/\n-kk<=t/\B=I M kk/\R=Q0 p (xs.drop kk) kk/\Aside (a9 w wr));exact⟨0,c6 _,a8,rfl,a,a9.refl w⟩;clear a;obtain⟨kk,ac,ab,rfl,a,d⟩:=hrel;by_cases ad:kk<n
 ·have k:kk<D xs:=a8;obtain⟨b,A,rfl,W⟩:=i5.rows h u a8;have y:(kk:Int)<(n:Int):=a8;rw[iL p xs kk k]at a;have z:Sem.run P (loadCellsFrom ⟨b,A+kk*E.k,J⟩ 0 E.k #[]) wr= .ok (E.c xs[kk]).toArray wr:=run_loadCellsFrom_list P _ _ (E.c xs[kk]) E.k (E.len _) (λi v hi=>by rw[Addr.add_lit];exact(h.h d.out).l k hi);have f:=q _ (g3 k) wr d.out;clear q;generalize xs[kk]=C at z f a;cases r:p C with
  |true=>
   rw[r]at f a
   simp only[if_true]at a
   subst a
   clear h o
   go_wp2_with(go_at_fn g;refine l4 f λl j=>?_)
   go_ret
   exact⟨rfl,d.out.trans j⟩
  |false=>
   rw[r]at f a
   simp only[Bool.false_eq_true,if_false]at a
   clear h o
   go_wp2_with(go_at_fn g;refine l4 f λl j=>?_)
   go_roundg (n-(kk+1))
   case measure=>omega
   case rel=>exact⟨kk+1,a8,a8,o3,a,d.out.trans j⟩
 obtain rfl:kk=n:=a8;have y:¬(kk:Int)<(kk:Int):=a8;rw[List.drop_of_length_le a8]at a;subst a;go_wp2;go_ret;exact⟨rfl,d.out⟩
theorem cfQ(L:SlLaysH0.n8 P ρ)(E:s7 α)(m:0<E.k)(f:∀w,(isAgg (ρ.t 23)).run P w= .ok Bt w)(r:∀w,(Go.sizeOf (ρ.t 23)).run P w= .ok E.k w)
 (p:α->Bool) (g:Nat) (lb:Array Va) (h:∀args w,(callFunc g args).run P w= .ok (.enter g args) w) (a:p1) (n c:Nat) (xs:List α) (w:Wd)
 (q:V4 P g lb (λx=>Ag (E.c x).toArray) p w xs) (o:D xs=n) (l:n<=1000000) (j:i5 w a (E.row xs)):
 Ca P (ρ.f 8) #[Z a n c,Fc (.func g) #[] lb] w λe b=>e=X (O (xs.any p))/\a9 w b:=by
 rw[<-nV p xs 0];have A:=L.mixed;have B:=L.t0;have s:=L.a0;have W:=L.z0;have N:=L.v0;have G:=L.t3;have v:=L.a3;have ac:=L.z3;have S:=L.v3;have H:=L.t4;have y:=L.a4;have ad:=L.z4;have T:=L.v4;have C:=L.t22;have t:=L.a22;have aa:=L.z22;have Q:=L.v22;have F:=L.t25;have u:=L.a25;have ab:=L.z25;have R:=L.v25;have z:∀args w,(callFunc (ρ.f 6) args).run P w= .ok (.enter (ρ.f 6) args) w:=L.f6.enters rfl;have i:=hX {L with} E m f r p g lb h a n c xs w q o l j;obtain⟨_,_,d⟩:=L.f8;go_enter d,SlBodyH.n8_ntmps ρ;go_wp2_with(go_at_fn (ρ.f 6);refine l4 i λb k=>?_);go_ret;exact⟨rfl,k⟩
theorem ixE(L:SlLaysH0.n6 P ρ)(v:α->Va)(C:∀w,(isAgg (ρ.t 23)).run P w= .ok Bf w)(an:∀w,(Go.sizeOf (ρ.t 23)).run P w= .ok 1 w)
 (p:α->Bool) (g:Nat) (lb:Array Va) (H:∀args w,(callFunc g args).run P w= .ok (.enter g args) w) (l:p1) (n c:Nat) (xs:List α) (w:Wd)
 (o:V4 P g lb v p w xs) (m:D xs=n) (Q:n<=1000000) (h:i5 w l (xs.map v)):
 Ca P (ρ.f 6) #[Z l n c,Fc (.func g) #[] lb] w λe k=>e=X (I M (Q0 p xs 0))/\a9 w k:=by
 have aa:=L.mixed;have ab:=L.t0;have A:=L.a0;have al:=L.z0;have ag:=L.v0;have ae:=L.t3;have F:=L.a3;have ap:=L.z3;have aj:=L.v3;have af:=L.t4;have G:=L.a4;have aq:=L.z4;have ak:=L.v4;have ac:=L.t22;have B:=L.a22;have am:=L.z22;have ah:=L.v22;have ad:=L.t25;have E:=L.a25;have ao:=L.z25;have ai:=L.v25;obtain⟨R,a⟩:∃R,R=Q0 p xs 0:=⟨_,rfl⟩;rw[<-a];obtain⟨_,_,r⟩:=L.f6;go_enter r,SlBodyH.n6_ntmps ρ;go_wp2;go_loopg [5,8] n (λs _ y wr=>∃kk:Nat,kk<=n/\n-kk<=s/\y=I M kk/\R=Q0 p (xs.drop kk) kk/\Aside (a9 w wr));exact⟨0,c6 _,a8,rfl,a,a9.refl w⟩;clear a;obtain⟨kk,T,S,rfl,a,d⟩:=hrel;by_cases W:kk<n
 ·have j:kk<D xs:=a8;obtain⟨b,x,rfl,N⟩:=i5.some_ h G6;have t:(kk:Int)<(n:Int):=a8;rw[iL p xs kk j]at a;have u:wr.cell? ⟨b,x+kk,J⟩=So (v xs[kk]):=(h.h d.out).cell (by simp[j]);have f:=o _ (g3 j) wr d.out;clear o;generalize xs[kk]=z at u f a;cases q:p z with
  |true=>
   rw[q]at f a
   simp only[if_true]at a
   subst a
   clear h m
   go_wp2_with(go_at_fn g;refine l4 f λk i=>?_)
   go_ret
   exact⟨rfl,d.out.trans i⟩
  |false=>
   rw[q]at f a
   simp only[Bool.false_eq_true,if_false]at a
   clear h m
   go_wp2_with(go_at_fn g;refine l4 f λk i=>?_)
   go_roundg (n-(kk+1))
   case measure=>omega
   case rel=>exact⟨kk+1,a8,a8,o3,a,d.out.trans i⟩
 obtain rfl:kk=n:=a8;have t:¬(kk:Int)<(kk:Int):=a8;rw[List.drop_of_length_le a8]at a;subst a;go_wp2;go_ret;exact⟨rfl,d.out⟩
theorem cfE(L:SlLaysH0.n8 P ρ)(v:α->Va)(f:∀w,(isAgg (ρ.t 23)).run P w= .ok Bf w)(q:∀w,(Go.sizeOf (ρ.t 23)).run P w= .ok 1 w)
 (p:α->Bool) (g:Nat) (lb:Array Va) (h:∀args w,(callFunc g args).run P w= .ok (.enter g args) w) (a:p1) (n c:Nat) (xs:List α) (w:Wd)
 (o:V4 P g lb v p w xs) (m:D xs=n) (l:n<=1000000) (j:i5 w a (xs.map v)):
 Ca P (ρ.f 8) #[Z a n c,Fc (.func g) #[] lb] w λe b=>e=X (O (xs.any p))/\a9 w b:=by
 rw[<-nV p xs 0];have z:=L.mixed;have A:=L.t0;have r:=L.a0;have S:=L.z0;have G:=L.v0;have E:=L.t3;have u:=L.a3;have aa:=L.z3;have Q:=L.v3;have F:=L.t4;have x:=L.a4;have ab:=L.z4;have R:=L.v4;have B:=L.t22;have s:=L.a22;have T:=L.z22;have H:=L.v22;have C:=L.t25;have t:=L.a25;have W:=L.z25;have N:=L.v25;have y:∀args w,(callFunc (ρ.f 6) args).run P w= .ok (.enter (ρ.f 6) args) w:=L.f6.enters rfl;have i:=ixE {L with} v f q p g lb h a n c xs w o m l j;obtain⟨_,_,d⟩:=L.f8;go_enter d,SlBodyH.n8_ntmps ρ;go_wp2_with(go_at_fn (ρ.f 6);refine l4 i λb k=>?_);go_ret;exact⟨rfl,k⟩
end
end
section
open Go.Shelf
theorem a1b:SlLaysH0.n6 prog ⟨λ|6=>64|8=>37|n=>n,λ|22=>38|23=>49|25=>92|n=>n,λn=>n⟩:=by constructor<;>first|exact⟨f64.name,e6,func64.trans (congrArg So g6)⟩|(intro w;kernel_rfl)|kernel_rfl
theorem a1j:SlLaysH0.n8 prog ⟨λ|6=>64|8=>37|n=>n,λ|22=>38|23=>49|25=>92|n=>n,λn=>n⟩:= {a1b with f8:=⟨f37.name,e6,func37.trans (congrArg So g6)⟩}
theorem a1a:SlLaysH0.n6 prog ⟨λ|6=>66|8=>42|n=>n,λ|22=>37|23=>76|25=>100|n=>n,λn=>n⟩:=by constructor<;>first|exact⟨f66.name,e6,func66.trans (congrArg So g6)⟩|(intro w;kernel_rfl)|kernel_rfl
theorem a1i:SlLaysH0.n8 prog ⟨λ|6=>66|8=>42|n=>n,λ|22=>37|23=>76|25=>100|n=>n,λn=>n⟩:= {a1a with f8:=⟨f42.name,e6,func42.trans (congrArg So g6)⟩}
theorem a1c:SlLaysH0.n6 prog ⟨λ|6=>80|n=>n,λ|22=>25|23=>24|25=>80|n=>n,λn=>n⟩:=by constructor<;>first|exact⟨f80.name,e6,func80.trans (congrArg So g6)⟩|(intro w;kernel_rfl)|kernel_rfl
theorem BA:SlLaysH0.n6 prog ⟨λ|6=>149|8=>91|n=>n,λ|22=>29|23=>94|25=>167|n=>n,λn=>n⟩:=by constructor<;>first|exact⟨f149.name,e6,func149.trans (congrArg So g6)⟩|(intro w;kernel_rfl)|kernel_rfl
theorem VX:SlLaysH0.n8 prog ⟨λ|6=>149|8=>91|n=>n,λ|22=>29|23=>94|25=>167|n=>n,λn=>n⟩:= {BA with f8:=⟨f91.name,e6,func91.trans (congrArg So g6)⟩}
theorem a1d:SlLaysH0.n6 prog ⟨λ|6=>297|n=>n,λ|22=>401|23=>316|25=>319|n=>n,λn=>n⟩:=by constructor<;>first|exact⟨f297.name,e6,func297.trans (congrArg So g6)⟩|(intro w;kernel_rfl)|kernel_rfl
theorem JG:SlLaysH0.n6 prog ⟨λ|6=>330|n=>n,λ|22=>252|23=>435|25=>438|n=>n,λn=>n⟩:=by constructor<;>first|exact⟨f330.name,e6,func330.trans (congrArg So g6)⟩|(intro w;kernel_rfl)|kernel_rfl
theorem a1e:SlLaysH0.n6 prog ⟨λ|6=>423|n=>n,λ|22=>511|23=>231|25=>471|n=>n,λn=>n⟩:=by constructor<;>first|exact⟨f423.name,e6,func423.trans (congrArg So g6)⟩|(intro w;kernel_rfl)|kernel_rfl
theorem VS:SlLaysH0.n6 prog ⟨λ|6=>313|8=>239|n=>n,λ|22=>28|23=>3|25=>90|n=>n,λn=>n⟩:=by constructor<;>first|exact⟨f313.name,e6,func313.trans (congrArg So g6)⟩|(intro w;kernel_rfl)|kernel_rfl
theorem a32:SlLaysH0.n8 prog ⟨λ|6=>313|8=>239|n=>n,λ|22=>28|23=>3|25=>90|n=>n,λn=>n⟩:= {VS with f8:=⟨f239.name,e6,func239.trans (congrArg So g6)⟩}
theorem a3Z:SlLaysH0.n6 prog ⟨λ|6=>428|n=>n,λ|22=>33|23=>32|25=>172|n=>n,λn=>n⟩:=by constructor<;>first|exact⟨f428.name,e6,func428.trans (congrArg So g6)⟩|(intro w;kernel_rfl)|kernel_rfl
end
section
open Go.Shelf
theorem ctE{P:Pg}{i:Ren}{a:Type}[Inhabited a](L:SlLaysE.n31 P i)(v:a->Va)(h:a->a->Bool)(m:EqlAt P (i.t 23) v h)(g:p1)(n c:Nat)(xs:List a)(x:a)(w:Wd)(o:D xs=n)(t:n<=1000000)(k:i5 w g (xs.map v)):
 Ca P (i.f 31) #[Z g n c,v x] w λe q=>e=X (O (xs.any λf=>h x f))/\w=q:=by
 subst o;rcases xs with _|⟨f,r⟩
 exact(AnyE.slices_Contains_empty L g c (v x) w).mono λ_ _ d=>⟨d.1,d.2.symm⟩
 obtain⟨b,p,rfl,s⟩:=k.some_ i3;have:=AnyE.slices_Contains L v h m b p (D (f::r)) c (f::r) x w (a7 _) a8 (λj l=>by rw[getElem!_pos (f::r) j l];exact k.cell (by rw[List.getElem?_map,e9 l];rfl))
 rw[List.take_of_length_le (a7 _)]at this;exact this.mono λ_ _ d=>⟨d.1,d.2.symm⟩
theorem a30:SlLaysE.n31 prog ⟨λ|31=>387|29=>433|n=>n,λ|22=>186|23=>9|n=>n,λn=>n⟩:=by
 constructor
 case f29=>exact⟨f433.name,e6,func433.trans (congrArg So g6)⟩
 case f31=>exact⟨f387.name,e6,func387.trans (congrArg So g6)⟩
 all_goals first|(intro w;kernel_rfl)|kernel_rfl
theorem VU:SlLaysE.n31 prog ⟨λ|31=>229|29=>298|n=>n,λ|22=>28|23=>3|n=>n,λn=>n⟩:=by
 constructor
 case f29=>exact⟨f298.name,e6,func298.trans (congrArg So g6)⟩
 case f31=>exact⟨f229.name,e6,func229.trans (congrArg So g6)⟩
 all_goals first|(intro w;kernel_rfl)|kernel_rfl
theorem a31:SlLaysE.n31 prog ⟨λ|31=>23|29=>39|n=>n,λ|22=>69|23=>47|n=>n,λn=>n⟩:=by
 constructor
 case f29=>exact⟨f39.name,e6,func39.trans (congrArg So g6)⟩
 case f31=>exact⟨f23.name,e6,func23.trans (congrArg So g6)⟩
 all_goals first|(intro w;kernel_rfl)|kernel_rfl
theorem clE{P:Pg}{d:Ren}{N:Type}(L:SlLaysE0.n41 P d)(E:s7 N){z:Va}{b:Nat}(h:kZ P (d.t 22) (d.t 23) z E.k b)(ab:∀w,(Go.sizeOf (d.t 23)).run P w= .ok E.k w)(t:p1)(c:Nat)(xs:List N)(w:Wd)(F:D xs<=1000000)(p:i5 w t (E.row xs)):
 Ca P (d.f 41) #[Z t (D xs) c] w λe s=>∃v,e=X v/\c7 s w (d.t 23) E v xs/\a9 w s:=by
 obtain⟨i,hi,o⟩:=Option.map_eq_some_iff.1 h.i;simp only[Prod.mk.injEq]at o;obtain⟨o,q,C⟩:=o;rcases t with _|⟨g,G,sp⟩
 refine(AnyE.slices_Clone_nil L (D xs) c w).mono λe s f=>⟨_,f.1,?_,f.2▸a9.refl _⟩
 have:xs=[]:=by
  rcases xs with _|⟨x,r⟩
  rfl;obtain⟨_,_,f,_⟩:=p.rows h.k0 i3;cases f
 subst this;exact c7.nil _ _ _ _;rcases sp with _|sp
 refine(AnyE.slices_Clone L i z E.k b hi o q C h.zs h.k0 ab g G (D xs) c (E.row xs) w (E.row_length xs) (by unfold maxLen;omega) ?_ (λj u W=>p.cell W) (E.row_oneCell xs)).mono λe s⟨v,S,l,_,aa⟩=>⟨v,S,?_,aa⟩
 have:=Nat.mul_le_mul F h.b0;omega;rcases l.2 with⟨m,B⟩|⟨g,cap,cur,m,R⟩
 exact⟨J,0,by rw[m,B],l⟩;exact⟨_,cap,m,l⟩;obtain rfl:xs=[]:=by
  rcases xs with _|⟨x,r⟩
  rfl;obtain⟨_,_,f,_⟩:=p.rows h.k0 i3;cases f
 clear p F;have ae:=L.mixed;have H:=L.t22;have ac:=L.a22;have al:=L.z22;have ai:=L.v22;have ag:=L.t4;have ad:=L.a4;have am:=L.z4;have aj:=L.v4;have af:∀(w:Wd)(a:p1)(n c A y:Nat),(binOp .eql (d.t 22) (Z a n c) (Z J A y)).run P w= .ok (O a.isNone) w:=λw a n c A y=>Lib.run_eql_slice_nil w _ _ a n c A y L.t22
 have ah:∀w,Sem.run P (underlying (d.t 22)) w= .ok (TypeDesc.slice (d.t 23)) w:=run_underlying H;obtain⟨_,_,Q⟩:=L.f41;go_enter Q,SlBodyN.n41_ntmps d;go_wp2_with(at_builtin;refine wpList_append_own _ rfl _ _ (d.t 22) rfl w (d.t 23) i z E.k b H hi o q C h.zs h.k0 _ _ _ rfl (World.ownsRow_made w #[] 0 (a7 _) (c6 _) i3) ⟨g,G,So sp⟩ 0 c [] rfl i3 (λj u f=>by simp at f) (λu f=>by simp at f) i3 i3 i3 ?_);intro v ak l T _;go_wp2;go_ret;refine⟨v,rfl,?_,((Below.refl _ w).alloc (a7 _) _).grown T i3 (by intro k q;simp[Value.ownBlock]at q;omega)⟩;rcases l.2 with⟨m,B⟩|⟨g,cap,cur,m,R⟩
 exact⟨J,0,m,l⟩;exact⟨_,cap,m,l⟩
theorem c7.spot{w:Wd}{base:Nat}{e:Ti}{f:Type}{E:s7 f}{d:p1}{n c:Nat}{xs:List f}(h:c7 w base e E (Z d n c) xs):∀a,d=So a->a.spot=J:=λa i=>by
 obtain⟨k,l,b,j⟩:=h;injection b with h1 _ _
 subst h1 i;rcases j.2 with⟨b,_⟩|⟨g,cap,cur,b,_⟩
 cases b;injection b with h1;injection h1 with h1;rw[h1]
theorem VW:SlLaysE0.n41 prog ⟨λ|41=>217|n=>n,λ|22=>28|23=>3|n=>n,λn=>n⟩:=by
 constructor
 case f41=>exact⟨f217.name,e6,func217.trans (congrArg So g6)⟩
 all_goals first|(intro w;kernel_rfl)|kernel_rfl
theorem VV:SlLaysE0.n41 prog ⟨λ|41=>218|n=>n,λ|22=>33|23=>32|n=>n,λn=>n⟩:=by
 constructor
 case f41=>exact⟨f218.name,e6,func218.trans (congrArg So g6)⟩
 all_goals first|(intro w;kernel_rfl)|kernel_rfl
theorem a1h:SlLaysE0.n41 prog ⟨λ|41=>132|n=>n,λ|22=>22|23=>5|n=>n,λn=>n⟩:=by
 constructor
 case f41=>exact⟨f132.name,e6,func132.trans (congrArg So g6)⟩
 all_goals first|(intro w;kernel_rfl)|kernel_rfl
theorem wW:SlLaysE0.n41 prog ⟨λ|41=>219|n=>n,λ|22=>29|23=>94|n=>n,λn=>n⟩:=by
 constructor
 case f41=>exact⟨f219.name,e6,func219.trans (congrArg So g6)⟩
 all_goals first|(intro w;kernel_rfl)|kernel_rfl
theorem JH:SlLaysE0.n41 prog ⟨λ|41=>390|n=>n,λ|22=>252|23=>435|n=>n,λn=>n⟩:=by
 constructor
 case f41=>exact⟨f390.name,e6,func390.trans (congrArg So g6)⟩
 all_goals first|(intro w;kernel_rfl)|kernel_rfl
end
end Go.Proofs.YtcljlejgllkcjaaGreat
