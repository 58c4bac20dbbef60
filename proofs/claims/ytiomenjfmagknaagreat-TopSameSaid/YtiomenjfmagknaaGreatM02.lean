/- A part of the proof of TopSame: lemmas on the walks of its calls. -/
import Derived.Lib.MapLaws
import Derived.Lib.RuneCount
import Derived.Shelf.SlLaysH0
import Derived.Shelf.SlicesE.Clone
import Derived.Shelf.SlicesE.Index
import Derived.Shelf.SlicesQ.Load
import Derived.Shelf.Small.Utf8
import Derived.Shelf.Small.Wraps
import Derived.Shelf.Strings.FieldsFuncAny
import Derived.Shelf.Strings.IndexAnyAll
import Derived.Shelf.Strings.Search2
import Derived.Test.YtiomenjfmagknaaGreatM01
set_option maxHeartbeats 12000000
set_option linter.all false
set_option maxRecDepth 100000
namespace Go.Proofs.YtiomenjfmagknaaGreat
open Go.RowKit Go.ChangeShapes Go.WideShapes Tryz
open Bool renaming false_eq_true→a4x,true→Bt,false→Bf
open Decidable renaming decide→Dc
open Ending renaming returned→X
open Go renaming World→Wd,Value→Va,Calls→Ca,bodyPost_ret→Bp,TypeId→Ti,Addr→Ad,Program→Pg,wpList→Wp
open Int renaming toNat_natCast→a4A
open IntKind renaming i64→M,u32→V,u16→U1,u8→U8
open IntWalk renaming i64_in→a37
open Lib renaming hid→a6
open List renaming getD_eq_getElem?_getD→a8,getElem?_eq_getElem→e9,length_append→a2e,length_cons→a3W,getElem_mem→a30
open Nat renaming le_refl→a7,le_trans→c8,reduceAdd→l9,zero_le→i5,zero_add→a4E
open Obj renaming cells→U
open Operand renaming tmp→Tm
open Option renaming none→J,some→So
open Value renaming int→I,slice→Z,string→Y,pointer→K,bool→O,func→Fc,tuple→Tp,agg→Ag
section
structure p6(α:Type) where
 k:Nat
 c:α→List Va
 len:∀x,(c x).length=k
 one:∀x,∀u∈c x,u.oneCell'=Bt
variable {α:Type} {E:p6 α}
def p6.row(E:p6 α)(xs:List α):List Va:=xs.flatMap E.c
theorem p6.row_cons(x:α)(xs:List α):E.row (x::xs)=E.c x++E.row xs:=rfl
theorem p6.row_append(a b:List α):E.row (a++b)=E.row a++E.row b:=by simp[p6.row]
theorem p6.row_one(x:α):E.row [x]=E.c x:=by simp[p6.row]
theorem p6.row_length:∀xs:List α,(E.row xs).length=xs.length*E.k
 |[]=>by simp[p6.row]
 |x::xs=>by rw[E.row_cons,a2e,row_length xs,E.len,a3W,Nat.succ_mul];omega
theorem p6.row_oneCell(xs:List α):∀u∈E.row xs,u.oneCell'=Bt:=fun u b=>by
 obtain⟨x,_,a⟩:=List.mem_flatMap.1 b;exact E.one x u a
theorem p6.row_at:∀(xs:List α)(j r:Nat)(a:j<xs.length),r<E.k→(E.row xs)[j*E.k+r]? =(E.c xs[j])[r]?
 |x::xs,0,r,_,hr=>by
  rw[E.row_cons,List.getElem?_append_left (by rw[E.len];omega)];simp
 |x::xs,j+1,r,a,hr=>by
  rw[E.row_cons,List.getElem?_append_right (by rw[E.len,Nat.succ_mul];omega),E.len,show(j+1)*E.k+r-E.k=j*E.k+r by rw[Nat.succ_mul];omega,row_at xs j r (by simpa using a) hr];simp
theorem h9.b{w:Wd}{b c:Nat}{xs:List α}(d:h9 w (So ⟨b,c,J⟩) (E.row xs)){j:Nat}(e:j<xs.length){r:Nat}{u:Va}(a:(E.c xs[j])[r]? =So u):w.cell? ⟨b,c+j*E.k+r,J⟩=So u:=by
 have f:r<E.k:=by rw[←E.len xs[j]];exact(List.getElem?_eq_some_iff.1 a).1
 have:=d.cell (k:=j*E.k+r) (u:=u) (by rw[E.row_at xs j r e f];exact a);rwa[←Nat.add_assoc]at this
theorem h9.elt0{w:Wd}{b:Nat}{xs:List α}(a:h9 w b (E.row xs)){j:Nat}(c:j<xs.length){r:Nat}{u:Va}(d:(E.c xs[j])[r]? =So u):w.cell? ⟨b,j*E.k+r,J⟩=So u:=by
 have:=a.b c d;rwa[a4E]at this
theorem h9.rows{w:Wd}{a:Option Ad}{xs:List α}(c:h9 w a (E.row xs))(e:0<E.k)(d:0<xs.length):∃b f,a=So ⟨b,f,J⟩∧b<w.heap.size:=c.some_ (by rw[E.row_length];exact Nat.mul_pos d e)
end
section
open Go.Shelf
theorem l99:Lays.n99 prog ⟨fun|99=>158|206=>222|n=>n,fun n=>n,fun n=>n⟩:=by constructor<;>first|(intro w;kernel_rfl)|kernel_rfl
theorem a6z:Lays.n100 prog ⟨fun|100=>102|207=>150|n=>n,fun n=>n,fun n=>n⟩:=by constructor<;>first|(intro w;kernel_rfl)|kernel_rfl
theorem a6y:Lays.n103 prog ⟨fun|103=>155|210=>219|206=>222|n=>n,fun|24=>190|n=>n,fun n=>n⟩:=by constructor<;>first|(intro w;kernel_rfl)|kernel_rfl
theorem a6x:Lays.n104 prog ⟨fun|104=>108|211=>154|207=>150|n=>n,fun|24=>190|n=>n,fun n=>n⟩:=by constructor<;>first|(intro w;kernel_rfl)|kernel_rfl
theorem a6w:Lays.n106 prog ⟨fun|106=>363|213=>394|265=>403|n=>n,fun n=>n,fun n=>n⟩:=by constructor<;>first|(intro w;kernel_rfl)|kernel_rfl
theorem a6r:Lays.n219 prog ⟨fun|219=>299|217=>358|225=>306|224=>305|267=>359|266=>386|314=>387|n=>n,fun|46=>181|146=>402|51=>26|n=>n,fun|1=>0|n=>n⟩:=by constructor<;>first|(intro w;kernel_rfl)|kernel_rfl
theorem a6p:Lays.n229 prog ⟨fun|229=>316|n=>n,fun|40=>412|31=>343|152=>467|154=>469|n=>n,fun n=>n⟩:=by constructor<;>first|(intro w;kernel_rfl)|kernel_rfl
theorem a6t:Lays.n152 prog ⟨fun|152=>221|137=>303|119=>304|224=>305|225=>306|217=>358|266=>386|n=>n,fun|46=>181|n=>n,fun n=>n⟩:=by constructor<;>first|(intro w;kernel_rfl)|kernel_rfl
theorem a6s:Lays.n153 prog ⟨fun|153=>220|152=>221|226=>300|227=>301|228=>302|137=>303|119=>304|224=>305|225=>306|217=>358|266=>386|n=>n,fun|117=>409|116=>408|46=>181|124=>462|n=>n,fun n=>n⟩:=by constructor<;>first|(intro w;kernel_rfl)|kernel_rfl
theorem a6q:Lays.n226 prog ⟨fun|226=>300|n=>n,fun n=>n,fun n=>n⟩:=by constructor<;>first|(intro w;kernel_rfl)|kernel_rfl
theorem a6u:Lays.n137 prog ⟨fun|137=>303|217=>358|266=>386|n=>n,fun n=>n,fun n=>n⟩:=by constructor<;>first|(intro w;kernel_rfl)|kernel_rfl
theorem a6v:Lays.n119 prog ⟨fun|119=>304|n=>n,fun n=>n,fun n=>n⟩:=by constructor<;>first|(intro w;kernel_rfl)|kernel_rfl
end
section
open Go.Shelf
theorem bC(s p:ByteArray)(W:Wd):Ca prog 158 #[Y s,Y p] W fun e b=>e=X (O (Lib.hasPrefix s.data.toList p.data.toList))∧W=b:=(Any.strings_HasPrefix l99 s p W).mono fun _ _ a=>⟨a.1,a.2.symm⟩
theorem vR(s p:ByteArray)(c:s.size≤1000000)(W:Wd):Ca prog 102 #[Y s,Y p] W fun e b=>e=X (O (Lib.hasSuffix s.data.toList p.data.toList))∧W=b:=(Any.strings_HasSuffix a6z s p W (by omega)).mono fun _ _ a=>⟨a.1,a.2.symm⟩
theorem iE(s p:ByteArray)(W:Wd):Ca prog 155 #[Y s,Y p] W fun e b=>e=X (Tp #[Y ⟨(Lib.trimPrefix s.data.toList p.data.toList).toArray⟩,O (Lib.hasPrefix s.data.toList p.data.toList)])∧W=b:=(Any.strings_CutPrefix a6y s p W).mono fun _ _ a=>⟨a.1,a.2.symm⟩
theorem iD(s p:ByteArray)(c:s.size≤1000000)(W:Wd):Ca prog 108 #[Y s,Y p] W fun e b=>e=X (Tp #[Y ⟨(Lib.trimSuffix s.data.toList p.data.toList).toArray⟩,O (Lib.hasSuffix s.data.toList p.data.toList)])∧W=b:=(Any.strings_CutSuffix a6x s p W (by omega)).mono fun _ _ a=>⟨a.1,a.2.symm⟩
theorem vQ(s:ByteArray)(c:Int)(W:Wd):Ca prog 303 #[Y s,I U8 c] W fun e b=>e=X (I M (Lib.indexByte s.data.toList c.toNat.toUInt8))∧W=b:=(Any.strings_IndexByte a6u s c W).mono fun _ _ a=>⟨a.1,a.2.symm⟩
theorem EU(a b:ByteArray)(W:Wd):Ca prog 363 #[Y a,Y b] W fun e d=>e=X (I M (Lib.compareBytes a.data.toList b.data.toList))∧W=d:=(Any.strings_Compare a6w a b W).mono fun _ _ c=>⟨c.1,c.2.symm⟩
theorem GY(l:List UInt8)(c:UInt8): -1≤Lib.indexByte l c∧Lib.indexByte l c<l.length:=by
 refine⟨Lib.indexByte_ge l c,?_⟩
 induction l with
 |nil=>exact(by decide:(-1:Int)<0)
 |cons b l ih=>unfold Lib.indexByte;rw[a3W];split<;>(try split)<;>omega
theorem GX(l:List UInt8)(c:UInt8)(a:∀x∈l,x≠c):Lib.indexByte l c= -1:=by
 induction l with
 |nil=>rfl
 |cons b l ih=>
  unfold Lib.indexByte;rw[ih fun x d=>a x (List.mem_cons_of_mem _ d)];have:(b==c)=Bf:=by simpa using a b (List.mem_cons_self ..)
  rw[this];rfl
def I6(s:ByteArray)(c:UInt8):ByteArray×ByteArray×Bool:=
 let i:=Lib.indexByte s.data.toList c
 if 0≤i then(s.extract 0 i.toNat,s.extract (i.toNat+1) s.size,Bt)else(s,⟨#[]⟩,Bf)
theorem nY(s:ByteArray)(c:UInt8):(Lib.indexByte s.data.toList c<0∧I6 s c=(s,⟨#[]⟩,Bf))∨∃k:Nat,k<s.size∧Lib.indexByte s.data.toList c=k∧I6 s c=(s.extract 0 k,s.extract (k+1) s.size,Bt):=by
 have b:=GY s.data.toList c;rw[←Lib.size_eq]at b;unfold I6;by_cases hi:Lib.indexByte s.data.toList c<0
 ·exact .inl ⟨hi,by simp only[if_neg (by omega:¬0≤Lib.indexByte s.data.toList c)]⟩
 ·obtain⟨k,a⟩:∃k:Nat,Lib.indexByte s.data.toList c=k:=⟨(Lib.indexByte s.data.toList c).toNat,by omega⟩
  refine .inr ⟨k,by omega,a,?_⟩;simp only[a,if_pos (Int.natCast_nonneg k),a4A]
theorem a0u(s:ByteArray)(c:UInt8)(p:s.size≤1000000)(W:Wd):Ca prog 218 #[Y s,Y ⟨#[c]⟩] W fun e g=>e=X (Tp #[Y (I6 s c).1,Y (I6 s c).2.1,O (I6 s c).2.2])∧a9 W g:=by
 have d:=a6 (show Ca prog 299 #[Y s,Y ⟨#[c]⟩] W _ from Any.stringslite_Index_one a6r s c W);have n:(⟨#[c]⟩:ByteArray).size=1:=rfl;have f:=nY s c;generalize Lib.indexByte s.data.toList c=i at*;generalize I6 s c=R at*;generalize(⟨#[c]⟩:ByteArray)=C at*;rcases f with⟨hi,a⟩|⟨k,o,rfl,a⟩
 ·have b:=a6 a
  clear a;go_in;go_wp2_with fail
  apply d.mono;rintro e h⟨rfl,rfl⟩;go_wp2_with fail
  go_ret3
  exact⟨by rw[b.out];rfl,a9.refl _⟩
 ·have b:=a6 a
  clear a;have h:IntKind.i64.wrap ((k:Int)+1)=((k+1:Nat):Int):=by rw[Int.natCast_add];exact a37 _ (by omega)
  go_in;go_wp2_with fail
  apply d.mono;rintro e q⟨rfl,rfl⟩;have l:(k:Int)≤s.size:=by omega
  have m:(((k+1:Nat):Int))≤s.size:=by omega
  have j:(0:Int)≤k:=by omega
  go_wp2_with fail
  go_quiet (fail)
  go_wp2
  go_ret3
  exact⟨by rw[b.out];rfl,(a9.refl _).drewN _⟩
theorem ET(s:ByteArray)(c:UInt8)(b:s.size≤1000000)(W:Wd):Ca prog 153 #[Y s,Y ⟨#[c]⟩] W fun e f=>e=X (Tp #[Y (I6 s c).1,Y (I6 s c).2.1,O (I6 s c).2.2])∧a9 W f:=by
 have a:=a6 (a0u s c b);generalize I6 s c=R at*;generalize(⟨#[c]⟩:ByteArray)=C at*;go_in;go_wp2_with fail
 apply(a _).mono;rintro e g⟨rfl,d⟩;go_wp2
 go_ret3
 exact⟨rfl,d⟩
end
section
structure mU(P:Pg)(t e:Ti)(z:Va)(k b:Nat):Prop where
 u:P.underlying t=So (.slice e)
 i:(P.info? e).map (fun i=>(i.zero,i.size,i.bytes))=So (So z,k,b)
 zs:z.cells.size=k
 k0:0<k
 b0:b≤10000
variable {α:Type}
def e4(w:Wd)(base:Nat)(e:Ti)(E:p6 α)(v:Va)(xs:List α):Prop:=∃A c,v=Z A xs.length c∧w.ownsRow base e E.k v xs.length (E.row xs)
theorem e4.nil(w:Wd)(base:Nat)(e:Ti)(E:p6 α):e4 w base e E (Z J 0 0) []:=⟨J,0,rfl,World.ownsRow_nil _ _ _ _⟩
section
variable {w w':Wd} {base:Nat} {e:Ti} {E:p6 α} {v:Va} {xs:List α}
theorem e4.h(h:e4 w base e E v xs)(x:a9 w w'):e4 w' base e E v xs:=let⟨A,c,hv,ho⟩:=h;⟨A,c,hv,M1 ho x⟩
theorem e4.inM(f:e4 w base e E v xs):∃b c,v=Z b xs.length c∧xs.length≤c∧c≤maxLen∧h9 w b (E.row xs):=by
 obtain⟨b,c,rfl,d⟩:=f;refine⟨b,c,rfl,?_,?_,X2 d⟩
 ·rcases d.2 with⟨a,i⟩|⟨g,cap,cur,a,_,_,h,_⟩
  ·omega
  ·injection a with _ _ hc';omega
 ·rcases d.2 with⟨a,i⟩|⟨g,cap,cur,a,_,_,h,j,_⟩
  ·injection a with _ _ hc';unfold maxLen;omega
  ·injection a with _ _ hc';omega
theorem e4.b(h:e4 w base e E v xs):∃A c,v=Z A xs.length c:=let⟨A,c,hv,_⟩:=h;⟨A,c,hv⟩
theorem e4.mono{b2:Nat}(d:e4 w base e E v xs)(h:b2≤base):e4 w b2 e E v xs:=by
 obtain⟨b,c,i,f,a⟩:=d;refine⟨b,c,i,f,?_⟩;rcases a with a|⟨g,cap,cur,k1,k2,k3⟩
 ·exact .inl a
 ·exact .inr ⟨g,cap,cur,k1,c8 h k2,k3⟩
theorem e4.lt(a:e4 w base e E v xs){k:Nat}(b:v.ownBlock=So k):base≤k∧k<w.heap.size:=let⟨_,_,_,ho⟩:=a;ho.lt k b
theorem e4.kept{row:Option Nat}(a:e4 w base e E v xs)(g:w.grownBy w' row)(b:v.ownBlock=J∨v.ownBlock≠row):e4 w' base e E v xs:=let⟨A,c,hv,ho⟩:=a;⟨A,c,hv,ho.kept g b⟩
end
theorem fF{w:Wd}{a:Ti}{cs:Array Va}{xs:List Va}{g:Nat}(b:g=w)(e:cs.toList=xs):h9 (w.alloc (U cs a)) g xs:=by subst b;exact h9.f (b9.new _ _ _) e
theorem j3{P:Pg}{w:Wd}{n:Array Oper}{rest:List Oper}{k:Oper}{a:Act}{Q:Exit→Act→Wd→Prop}(G:k.guard=J)(s x:Operand)(t e:Ti)
  (N:k.op= .call {callee:= .builtin .append,args:= #[s,x],argTypes:= #[t,t]}) {z:Va} {b:Nat} {E:p6 α} (f:mU P t e z E.k b)
  (base:Nat) (v:Va) (xs:List α) (S:a.eval s=v) (h:e4 w base e E v xs)
  (B:Option Ad) (m d:Nat) (ys:List α) (W:a.eval x=Z B m d) (L:ys.length=m) (y:h9 w B (E.row ys)) (T:xs.length+m≤1000000) (F:base≤w)
  (r:∀v' w',e4 w' base e E v' (xs++ys)→(∀g,a9 g w→g≤base→a9 g w')→w.grownBy w' v.ownBlock→(v'.ownBlock=v.ownBlock∨v'.ownBlock=So w.heap.size)→Wp P n Q rest (a.put k.dst v') w'):
  Wp P n Q (k::rest) a w:=by
 obtain⟨o,c,rfl,h⟩:=h;obtain⟨i,hi,j⟩:=Option.map_eq_some_iff.1 f.i;simp only[Prod.mk.injEq]at j;obtain⟨j,H,C⟩:=j;subst L;refine R7 G s x t N base e i z E.k b f.u hi j H C f.zs f.k0 o xs.length c (E.row xs) S h B ys.length d (E.row ys) W (E.row_length ys) y (E.row_oneCell ys) T f.b0 F fun p q w' R l A=> ?_
 exact r _ w' ⟨p,q,by rw[a2e],by rw[E.row_append,a2e];exact R⟩ (fun g u D=>u.app h D l) l A
end
def blk(c:Int):Bool:=c==32||c==9||c==13
theorem a4R(c:Int)(W:Wd):Ca prog 151 #[I U8 c] W fun e g=>e=X (O (blk c))∧W=g:=by
 have a:blk c=(c==32||c==9||c==13):=rfl;generalize blk c=R at*;go_in;cases b:c==32<;>cases d:c==9<;>cases f:c==13;all_goals
  rw[b,d,f]at a;go_wp2_with fail
  go_ret;exact⟨by rw[a];rfl,rfl⟩
def at0(s:ByteArray)(i:Nat):Int:=((s.data.toList.getD i 0).toNat:Int)
def aA:Nat→ByteArray→ByteArray
 |0,s=>s
 |n+1,s=>if blk (at0 s 0)then aA n (s.extract 1 s.size)else s
def cU:Nat→ByteArray→ByteArray
 |0,s=>s
 |n+1,s=>if blk (at0 s n)then cU n (s.extract 0 n)else s
def W8(s:ByteArray):ByteArray:=cU (aA s.size s).size (aA s.size s)
theorem bW(s:ByteArray)(i j:Nat)(a:i≤j)(b:j≤s.size):(s.extract i j).size=j-i:=by simp[ByteArray.size_extract];omega
theorem xY(s:ByteArray)(i:Nat)(a:i<s.size):at0 s i=(s[i].toNat:Int):=by
 have b:i<s.data.toList.length:=by rw[←Lib.size_eq];exact a
 unfold at0;rw[a8,e9 b];rfl
theorem yW(t:ByteArray):(∃m,∃f:0<t.size,t.size=m+1∧blk (t[0].toNat:Int)=Bt∧(t.extract 1 (m+1)).size=m∧aA t.size t=aA (t.extract 1 (m+1)).size (t.extract 1 (m+1)))∨
  aA t.size t=t∧(t.size=0∨∃m,∃f:0<t.size,t.size=m+1∧blk (t[0].toNat:Int)=Bf):=by
 by_cases c:t.size=0
 ·exact .inr ⟨by rw[c];rfl,.inl c⟩
 ·obtain⟨m,a⟩:∃m,t.size=m+1:=⟨t.size-1,by omega⟩
  have e:aA t.size t=if blk (t[0].toNat:Int)then aA m (t.extract 1 t.size)else t:=by rw[←xY t 0 (by omega),a];simp only[aA,a]
  rw[e];rcases d:blk (t[0].toNat:Int)with _|_
  ·exact .inr ⟨rfl,.inr ⟨m,by omega,a,d⟩⟩
  ·have b:(t.extract 1 (m+1)).size=m:=by rw[bW _ _ _ (by omega) (by omega)];omega
   exact .inl ⟨m,by omega,a,d,b,by rw[b,a];rfl⟩
theorem lN(t:ByteArray):(∃m,∃g:m<t.size,t.size=m+1∧blk (t[m].toNat:Int)=Bt∧(t.extract 0 m).size=m∧cU t.size t=cU (t.extract 0 m).size (t.extract 0 m))∨
  cU t.size t=t∧(t.size=0∨∃m,∃g:m<t.size,t.size=m+1∧blk (t[m].toNat:Int)=Bf):=by
 by_cases c:t.size=0
 ·exact .inr ⟨by rw[c];rfl,.inl c⟩
 ·obtain⟨m,a⟩:∃m,t.size=m+1:=⟨t.size-1,by omega⟩
  have f:m<t.size:=by omega
  have e:cU t.size t=if blk (t[m].toNat:Int)then cU m (t.extract 0 m)else t:=by rw[←xY t m (by omega),a];rfl
  rw[e];rcases d:blk (t[m].toNat:Int)with _|_
  ·exact .inr ⟨rfl,.inr ⟨m,f,a,d⟩⟩
  ·have b:(t.extract 0 m).size=m:=by rw[bW _ _ _ (by omega) (by omega)];omega
   exact .inl ⟨m,f,a,d,b,by rw[b];rfl⟩
theorem kR(s:ByteArray)(w:s.size≤100000000)(W:Wd):Ca prog 105 #[Y s] W fun e y=>e=X (Y (W8 s))∧a9 W y:=by
 have j:=a6 a4R;obtain⟨l,f⟩:∃l,l=aA s.size s:=⟨_,rfl⟩;obtain⟨R,a⟩:∃R,R=W8 s:=⟨_,rfl⟩;rw[←a];unfold W8 at a;rw[←f]at a;go_in;go_wp2_with fail
 go_loopw [0] (fun i wr=>∃t:ByteArray,t.size≤100000000∧i=Y t∧l=aA t.size t∧a9 W wr) (fun i _=>match i with|Y t=>t.size|_=>0)
 case atStart=>exact⟨s,w,rfl,f,a9.refl W⟩
 case round=>
  clear f;obtain⟨t,q,rfl,f,d⟩:=hrel;rcases yW t with⟨m,r,v,g,p,c⟩|⟨c,z|⟨m,r,v,g⟩⟩
  ·have b:=fun W=>j (t[0].toNat:Int) W
   rw[g]at b;rw[c]at f;go_wp2_with fail
   apply(b _).mono;rintro e h⟨rfl,rfl⟩;go_wp2_with fail
   go_roundw
   case rel=>exact⟨_,by omega,rfl,f,d⟩
   case measure=>show(t.extract 1 (m+1)).size<t.size;omega
  ·rw[c]at f
   rw[f]at a;clear f;go_wp2_with fail
   go_loopw [0] (fun i wr=>∃u:ByteArray,u.size≤100000000∧i=Y u∧R=cU u.size u∧a9 W wr) (fun i _=>match i with|Y t=>t.size|_=>0)
   case atStart=>exact⟨_,q,rfl,a,d⟩
   case round=>
    clear a d;obtain⟨u,x,rfl,a,d⟩:=hrel;have b:=j.out;rcases lN u with⟨n,o,k,g,p,c⟩|⟨c,k|⟨n,o,k,g⟩⟩
    ·have b:=fun W=>j (u[n].toNat:Int) W
     rw[g]at b;rw[c]at a;have h:IntKind.i64.wrap ((n:Int)+1-1)=n:=by rw[show(n:Int)+1-1=n by omega];exact a37 _ (by omega)
     go_wp2_with fail
     apply(b _).mono;rintro e h⟨rfl,rfl⟩;go_wp2_with fail
     go_roundw
     case rel=>exact⟨_,by omega,rfl,a,d⟩
     case measure=>show(u.extract 0 n).size<u.size;omega
    ·rw[c]at a
     subst a;go_wp2_with fail
     go_ret;exact⟨rfl,d⟩
    ·rw[c]at a
     subst a;have b:=fun W=>j (R[n].toNat:Int) W
     rw[g]at b;have h:IntKind.i64.wrap ((n:Int)+1-1)=n:=by rw[show(n:Int)+1-1=n by omega];exact a37 _ (by omega)
     go_wp2_with fail
     apply(b _).mono;rintro e h⟨rfl,rfl⟩;go_wp2_with fail
     go_ret;exact⟨rfl,d⟩
  ·rw[c]at f
   rw[f]at a;clear f;have b:=fun W=>j (t[0].toNat:Int) W
   rw[g]at b;go_wp2_with fail
   apply(b _).mono;rintro e h⟨rfl,rfl⟩;go_wp2_with fail
   go_loopw [0] (fun i wr=>∃u:ByteArray,u.size≤100000000∧i=Y u∧R=cU u.size u∧a9 W wr) (fun i _=>match i with|Y t=>t.size|_=>0)
   case atStart=>exact⟨_,q,rfl,a,d⟩
   case round=>
    clear a d;obtain⟨u,x,rfl,a,d⟩:=hrel;have b:=j.out;rcases lN u with⟨n,o,k,g,p,c⟩|⟨c,k|⟨n,o,k,g⟩⟩
    ·have b:=fun W=>j (u[n].toNat:Int) W
     rw[g]at b;rw[c]at a;have h:IntKind.i64.wrap ((n:Int)+1-1)=n:=by rw[show(n:Int)+1-1=n by omega];exact a37 _ (by omega)
     go_wp2_with fail
     apply(b _).mono;rintro e h⟨rfl,rfl⟩;go_wp2_with fail
     go_roundw
     case rel=>exact⟨_,by omega,rfl,a,d⟩
     case measure=>show(u.extract 0 n).size<u.size;omega
    ·rw[c]at a
     subst a;go_wp2_with fail
     go_ret;exact⟨rfl,d⟩
    ·rw[c]at a
     subst a;have b:=fun W=>j (R[n].toNat:Int) W
     rw[g]at b;have h:IntKind.i64.wrap ((n:Int)+1-1)=n:=by rw[show(n:Int)+1-1=n by omega];exact a37 _ (by omega)
     go_wp2_with fail
     apply(b _).mono;rintro e h⟨rfl,rfl⟩;go_wp2_with fail
     go_ret;exact⟨rfl,d⟩
def dV(s:ByteArray):Bool:=0<(W8 s).size&&(at0 (W8 s) 0==35||at0 (W8 s) 0==59)
theorem a2m(t:ByteArray):t.toList.isEmpty=Dc (t.size=0):=by
 rw[Lib.toList_data,Lib.size_eq];cases t.data.toList<;>simp
theorem wU(s:ByteArray)(k:s.size≤1000000)(W:Wd):Ca prog 107 #[Y s] W fun e g=>e=X (O (dV s))∧a9 W g:=by
 have c:=a6 (kR s (by omega) W);unfold dV;generalize W8 s=t at*;rcases d:t.size with _|m
 ·have a:=a2m t
  rw[d]at a;go_in;go_wp2_with fail
  apply c.mono;rintro e h⟨rfl,b⟩;go_wp2_with fail
  go_ret;exact⟨rfl,b⟩
 ·have a:=a2m t
  rw[d]at a;have f:0<t.size:=by omega
  rw[xY t 0 f];rcases i:((t[0].toNat:Int)==35)with _|_<;>rcases j:((t[0].toNat:Int)==59)with _|_
  all_goals
   go_in;go_wp2_with fail
   apply c.mono;rintro e h⟨rfl,b⟩;go_wp2_with fail
   go_ret;exact⟨by first|rfl|simp,b⟩
section
open Go.Shelf
def p3(s:ByteArray):Prop:=∀x∈s.data.toList,x.toNat<128
theorem p3.at{s:ByteArray}(h:p3 s)(i:Nat)(hi:i<s.size):(s[i]'hi).toNat<128:=h _ (by
 have:=Lib.data_getElem? s i hi;exact List.mem_of_getElem? this)
theorem CV(r:Int)(e:128≤r)(f:Utf8.valid r=Bt):∃m,∃d:m<(Utf8.encode r).size,(Utf8.encode r).size=m+1∧1≤m∧m≤3∧128≤((Utf8.encode r)[m]'d).toNat:=by
 obtain⟨a,b,c⟩:=encode_facts r f e;exact⟨(Utf8.encode r).size-1,by omega,by omega,by omega,by omega,c _⟩
theorem vP(r:Int)(W:Wd):Ca prog 304 #[I .i32 r] W fun e b=>e=X (O (Lib.validRune r))∧W=b:=(Any.utf8_ValidRune a6v r W).mono fun _ _ a=>⟨a.1,a.2.symm⟩
theorem RU(r:Int)(h:Lib.validRune r=Bt):Utf8.valid r=Bt:=by
 unfold Lib.validRune at h;unfold Utf8.valid;simp only[Bool.or_eq_true,Bool.and_eq_true,decide_eq_true_eq]at h⊢;omega
theorem MG(s:ByteArray)(r:Int)(ai:s.size≤3)(N:p3 s)(C:128≤r)(W:Wd):Ca prog 221 #[Y s,I .i32 r] W fun e T=>e=X (I M (-1))∧a9 W T:=by
 obtain⟨a,j⟩:=i6 (vP r) N;have ak:Dc ((0:Int)≤r)=Bt:=by simp;omega
 have al:Dc (r<128)=Bf:=by simp;omega
 have F:=a6 C;clear C;rcases n:r==65533 with _|_
 ·rcases o:Lib.validRune r with _|_
  ·rw[o]at a
   go_in;go_wp2_with fail
   apply(a _).mono;rintro e p⟨rfl,rfl⟩;go_wp2_with fail
   go_ret;exact⟨rfl,a9.refl _⟩
  ·rw[o]at a
   obtain⟨m,af,aj,ag,ah,D⟩:=CV r F (RU r o);have p:IntKind.i64.wrap ((m:Int)+1-1)=m:=by rw[show(m:Int)+1-1=m by omega];exact a37 _ (by omega)
   have q:=a6 D;clear D;generalize ad:Utf8.encode r=G at*;by_cases Q:m<s.size
   ·have R:((s[m].toNat:Int)==(G[m].toNat:Int))=Bf:=by
     have:=j.at m Q;have:=q.out;simp;omega
    have E:Lib.indexByte (s.extract (m+1) s.size).data.toList ((G[m].toNat:Int)).toNat.toUInt8= -1:=by
     rw[show((G[m].toNat:Int)).toNat.toUInt8=G[m] by simp];refine GX _ _ fun x b e=> ?_
     have l:=j x (mem_extract b);have H:=q.out;rw[e]at l;omega
    have t:=a6 (vQ (s.extract (m+1) s.size) (G[m].toNat:Int));rw[E]at t;clear E;have aa:IntKind.i64.wrap ((m:Int)+1)=((m+1:Nat):Int):=by rw[Int.natCast_add];exact a37 _ (by omega)
    have l:(m:Int)<s.size:=by omega
    have H:(((m+1:Nat):Int))≤s.size:=by omega
    have ac:(m:Int)<(m:Int)+1:=by omega
    go_in;go_wp2_with fail
    apply(a _).mono;rintro e p⟨rfl,rfl⟩;go_wp2_with fail
    go_step3
    go_wp2_with fail
    go_loopw [9] (fun i wr=>i=I M m∧a9 W wr) (fun _ _=>0)
    case atStart=>exact⟨rfl,a9.refl _⟩
    case round=>
     obtain⟨rfl,b⟩:=hrel;go_wp2_with fail
     go_step3
     go_wp2_with fail
     go_quiet (fail)
     go_wp2_with fail
     refine e7 rfl [.is ?Al,.is ?Am,.is ?An,.is ?Ao,.is ?Ap,.is ?Aq,.is ?Ar,.is ?As,.is ?At] (by kernel_rfl) ?Au ?Aa ⟨?Ab,?Ac,?Ad,?Ae,?Af,?Ag,?Ah,?Ai,?Aj,trivial⟩ ?Ak
     case Aa=>intro x;simp only[e6,Act.put,uL,l9]<;>rfl
     case Ab|Ac|Ad|Ae|Af|Ag|Ah=>
      intro x k h;simp only[e5,j8,uV];repeat(intro d;try simp only[d])
      go_wp2_with fail
      refine a0e ?_ rfl (a9.refl _);rfl
     case Ai=>
      intro x k h;simp only[e5,j8,uV];intro c f;simp only[c,f];go_wp2_with(apply(t _).mono;rintro e aa⟨rfl,rfl⟩)
      refine a0e ?_ rfl (a9.refl _);rfl
     case Aj=>
      intro x k h;simp only[e5,j8,uV];repeat(intro d;try simp only[d])
      go_wp2_with fail
      refine a0e ?_ rfl (a9.refl _);rfl
     case Ak=>
      intro x k h;simp only[l8,e5,j8,uV];intro u v w c y z f A B;simp only[u,v,w,c,y,z,f,A,B];clear u v w c y z f A B;go_wp2;rw[Exit.noGoto_ret];simp only[Exit.inBlock];simp+zetaDelta only[Exit.noGoto_ret,Exit.inBlock,Exit.then];go_ret;exact⟨rfl,(b.drewN _).trans h⟩
   ·have l:¬(m:Int)<s.size:=by omega
    go_in;go_wp2_with fail
    apply(a _).mono;rintro e p⟨rfl,rfl⟩;go_wp2_with fail
    go_step3
    go_wp2_with fail
    go_loopw [9] (fun i wr=>i=I M m∧a9 W wr) (fun _ _=>0)
    case atStart=>exact⟨rfl,a9.refl _⟩
    case round=>
     obtain⟨rfl,b⟩:=hrel;go_wp2_with fail
     rw[Exit.noGoto_ret];simp only[Exit.inBlock];go_ret;exact⟨rfl,b⟩
 ·have n:r=65533:=by simpa using n
  subst n;go_in;go_wp2_with fail
  go_loopg [5,6] s.size (fun g _ _ ab=>∃i:Nat,i+g=s.size∧ab=W.iter s i)
  case atStart=>exact⟨0,by omega,rfl⟩
  case round=>
   obtain⟨i,ae,rfl⟩:=hrel;cases gk with
   |zero=>
    obtain rfl:i=s.size:=by omega
    have S:=run_next_end (P:=prog) W s s.size;go_wp2;go_ret;exact⟨rfl,(a9.refl W).alloc _⟩
   |succ g=>
    have hi:i<s.size:=by omega
    have L:=j.at i hi;have S:=fun ty=>run_next_ascii (P:=prog) W s i ty hi L
    have R:((s[i].toNat:Int)==65533)=Bf:=by simp;omega
    go_wp2_with fail
    go_roundg g
    case measure=>omega
    case rel=>exact⟨i+1,by omega,rfl⟩
def irT(cs:ByteArray)(r:Int):Int:=if r<128 then Lib.indexByte cs.data.toList r.toNat.toUInt8 else-1
theorem a2f(cs:ByteArray)(r:Int)(d:cs.size≤3)(c:p3 cs)(b:0≤r)(W:Wd):Ca prog 221 #[Y cs,I .i32 r] W fun e f=>e=X (I M (irT cs r))∧a9 W f:=by
 unfold irT;by_cases a:r<128
 ·rw[if_pos a]
  exact(Any.strings_IndexRune_ascii a6t cs r W b a).mono fun _ _ a=>⟨a.1,a.2▸a9.refl _⟩
 ·rw[if_neg a]
  exact MG cs r d c (by omega) W
theorem mW(cs:ByteArray)(r:Int)(d:cs.size≤3)(c:p3 cs)(b:0≤r)(W:Wd):Ca prog 157 #[Y cs,I .i32 r] W fun e g=>e=X (O (Dc (0≤irT cs r)))∧a9 W g:=by
 have a:=a6 (a2f cs r d c b);generalize irT cs r=h at*;go_in;go_wp2_with fail
 apply(a _).mono;rintro e i⟨rfl,f⟩;go_wp2;go_ret;exact⟨rfl,f⟩
def iaR(s cs:ByteArray):Nat→Nat→Int
 |0,_=> -1
 |f+1,i=>if i<s.size then(if 0≤irT cs (Utf8.decode s i).1 then(i:Int)else iaR s cs f (i+(Utf8.decode s i).2))else-1
def iaT(s cs:ByteArray):Int:=if s.size≤8 then iaR s cs (s.size+1) 0 else Lib.indexAny s.data.toList cs.data.toList
theorem zG(s cs:ByteArray)(ac:s.size≤1000000)(E:2≤cs.size)(F:cs.size≤3)(o:p3 cs)(W:Wd):Ca prog 220 #[Y s,Y cs] W fun e y=>e=X (I M (iaT s cs))∧a9 W y:=by
 unfold iaT;by_cases l:s.size≤8
 ·rw[if_pos l]
  obtain⟨B,C,A⟩:=p7 (fun r D=>a2f cs r F o D) (show∀n,Ca prog 300 #[I M n] W _ from fun n=>Any.strings_shouldUseASCIISet a6q n W) (fun i(hi:i<s.size)=>Lib.decode_width_pos s i hi);obtain⟨R,a⟩:∃R,R=iaR s cs (s.size+1) 0:=⟨_,rfl⟩;rw[←a];have N:=a2m cs;rw[decide_eq_false (by omega)]at N;have ab:((cs.size:Int)==1)=Bf:=beq_eq_false_iff_ne.2 (by omega);have G:Dc ((8:Int)<(s.size:Int))=Bf:=decide_eq_false (by omega);go_in;go_wp2_with fail
  apply(C _).mono;rintro e c⟨rfl,rfl⟩;rw[G];go_wp2_with fail
  go_loopg [9,10] (s.size+1) (fun g _ _ z=>∃i:Nat,s.size+1≤i+g∧R=iaR s cs g i∧z.heap[c.heap.size]? =So (.stringIter s i)∧a9 c z)
  case atStart=>exact⟨0,by omega,a,heap_alloc_new _ _,(a9.refl _).alloc _⟩
  case round=>
   clear a;obtain⟨i,aa,a,h,v⟩:=hrel;have t:=A i;by_cases hi:i<s.size
   ·obtain⟨g,rfl⟩:∃g,gk=g+1:=⟨gk-1,by omega⟩
    have S:=fun ty=>Lib.run_next_any_at (P:=prog) wr c s i ty h hi
    simp only[iaR,if_pos hi]at a;have p:=Lib.iterAt_heap wr c s i (i+(Utf8.decode s i).2) h;have x:a9 c (wr.iterAt c s (i+(Utf8.decode s i).2)):=Lib.below_iterAt v (a7 _) s _;have t:=t hi;generalize(Utf8.decode s i).2=d at*;generalize wr.iterAt c.heap.size s (i+d)=ad at*;have m:=B ((Utf8.decode s i).1:Int) (by omega);generalize irT cs ((Utf8.decode s i).1:Int)=q at*;generalize(((Utf8.decode s i).1:Nat):Int)=r at*;by_cases u:0≤q
    ·rw[if_pos u]at a
     subst a;go_wp2_with fail
     apply(m _).mono;rintro e T⟨rfl,f⟩;go_wp2_with fail
     go_ret;exact⟨rfl,x.trans f⟩
    ·rw[if_neg u]at a
     go_wp2_with fail
     apply(m _).mono;rintro e T⟨rfl,f⟩;have Q:=(f.block (Array.getElem?_eq_some_iff.1 p).1).trans p;go_wp2_with fail
     go_roundg g
     case measure=>omega
     case rel=>exact⟨i+d,by omega,a,Q,x.trans f⟩
   ·have S:=fun ty=>Lib.run_next_end_at (P:=prog) wr c s i ty h hi
    have H:R= -1:=by
     rw[a];cases gk with
     |zero=>rfl
     |succ g=>simp only[iaR,if_neg hi]
    subst H;go_wp2_with fail
    go_ret;exact⟨rfl,v⟩
 ·rw[if_neg l]
  exact(Any.strings_IndexAny_long a6s (fun w=>by kernel_rfl) (by kernel_rfl) s cs W E (by omega) (by omega) (by omega) (fun j b L=>o b (List.mem_of_getElem? L))).mono fun e y k=>⟨k.1,k.2▸((a9.refl W).alloc _).alloc _⟩
theorem cY(s cs:ByteArray)(f:s.size≤1000000)(b:2≤cs.size)(c:cs.size≤3)(d:p3 cs)(W:Wd):Ca prog 156 #[Y s,Y cs] W fun e h=>e=X (O (Dc (0≤iaT s cs)))∧a9 W h:=by
 have a:=a6 (zG s cs f b c d);generalize iaT s cs=i at*;go_in;go_wp2_with fail
 apply(a _).mono;rintro e j⟨rfl,g⟩;go_wp2;go_ret;exact⟨rfl,g⟩
end
section
open Go.Shelf Go.Lib
def Z7{α:Type}(p:α→Bool):List α→Nat→Int
 |[],_=> -1
 |x::r,i=>if p x then i else Z7 p r (i+1)
theorem BP{α:Type}(p:α→Bool)(xs:List α)(k:Nat)(a:k<xs.length):Z7 p (xs.drop k) k=if p xs[k]then(k:Int)else Z7 p (xs.drop (k+1)) (k+1):=by
 rw[List.drop_eq_getElem_cons a];rfl
theorem xB{α:Type}(p:α→Bool):∀(xs:List α)(i:Nat),Dc (0≤Z7 p xs i)=xs.any p
 |[],i=>rfl
 |x::r,i=>by
  rw[Z7,List.any_cons];cases h:p x
  ·simp only[a4x,if_false,Bool.false_or];exact xB p r (i+1)
  ·simp
theorem kU{α:Type}(p:α→Bool):∀(xs:List α)(i:Nat),(∃k,∃c:k<xs.length,Z7 p xs i=((i+k:Nat):Int)∧p xs[k]=Bt∧xs.find? p=So xs[k])∨(Z7 p xs i= -1∧xs.find? p=J)
 |[],i=> .inr ⟨rfl,rfl⟩
 |x::r,i=>by
  unfold Z7;rw[List.find?_cons];cases d:p x
  ·rcases kU p r (i+1)with⟨k,c,a,b,e⟩|⟨a,b⟩
   ·exact .inl ⟨k+1,by simpa using c,by simp only[a4x,if_false];rw[a];congr 1;omega,b,e⟩
   ·exact .inr ⟨by simpa using a,b⟩
  ·exact .inl ⟨0,by simp,by simp,d,rfl⟩
def V2{α:Type}(P:Pg)(g:Nat)(lb:Array Va)(v:α→Va)(p:α→Bool)(w:Wd)(xs:List α):Prop:=
 ∀x∈xs,∀W,a9 w W→Ca P g (#[v x]++lb) W fun e a=>e=X (O (p x))∧a9 W a
theorem V2.h{α:Type}{P:Pg}{g:Nat}{lb:Array Va}{v:α→Va}{p:α→Bool}{w a:Wd}{xs:List α}(b:V2 P g lb v p w xs)(x:a9 w a):V2 P g lb v p a xs:=fun e d W c=>b e d W (x.trans c)
section
variable {P:Pg} {ρ:Ren} {α:Type}
theorem ixQ(a:SlLaysH0.n6 P ρ)(E:p6 α)(y:0<E.k)(Q:∀w,(isAgg (ρ.t 23)).run P w= .ok Bt w)(av:∀w,(Go.sizeOf (ρ.t 23)).run P w= .ok E.k w)
  (p:α→Bool) (g:Nat) (lb:Array Va) (S:∀args w,(callFunc g args).run P w= .ok (.enter g args) w) (o:Option Ad) (n c:Nat) (xs:List α) (w:Wd)
  (r:V2 P g lb (fun x=>Ag (E.c x).toArray) p w xs) (q:xs.length=n) (W:n≤1000000) (j:h9 w o (E.row xs)):
  Ca P (ρ.f 6) #[Z o n c,Fc (.func g) #[] lb] w fun e m=>e=X (I M (Z7 p xs 0))∧a9 w m:=by
 have ad:=a.mixed;have ae:=a.t0;have F:=a.a0;have ao:=a.z0;have aj:=a.v0;have ah:=a.t3;have L:=a.a3;have ar:=a.z3;have am:=a.v3;have ai:=a.t4;have N:=a.a4;have au:=a.z4;have an:=a.v4;have af:=a.t22;have G:=a.a22;have ap:=a.z22;have ak:=a.v22;have ag:=a.t25;have H:=a.a25;have aq:=a.z25;have al:=a.v25;obtain⟨R,d⟩:∃R,R=Z7 p xs 0:=⟨_,rfl⟩;rw[←d];obtain⟨_,_,t⟩:=a.f6;go_enter t,SlBodyH.n6_ntmps ρ;go_wp2;go_loopg [5,8] n (fun u _ C wr=>∃kk:Nat,kk≤n∧n-kk≤u∧C=I M kk∧R=Z7 p (xs.drop kk) kk∧Aside (a9 w wr))
 case atStart=>exact⟨0,i5 _,by omega,rfl,d,a9.refl w⟩
 case round=>
  clear d;obtain⟨kk,ab,aa,rfl,d,f⟩:=hrel;by_cases ac:kk<n
  ·have l:kk<xs.length:=by omega
   obtain⟨b,B,rfl,T⟩:=h9.rows j y (by omega);have z:(kk:Int)<(n:Int):=by omega
   rw[BP p xs kk l]at d;have A:Sem.run P (loadCellsFrom ⟨b,B+kk*E.k,J⟩ 0 E.k #[]) wr= .ok (E.c xs[kk]).toArray wr:=run_loadCellsFrom_list P _ _ (E.c xs[kk]) E.k (E.len _) (fun i v hi=>by rw[Addr.add_lit];exact(j.h f.out).b l hi);have h:=r _ (a30 l) wr f.out;clear r;generalize xs[kk]=D at A h d;cases s:p D with
   |true=>
    rw[s]at h d;simp only[if_true]at d;subst d;clear j q;go_wp2_with(go_at_fn g;apply h.mono;rintro e m⟨rfl,k⟩)
    go_ret;exact⟨rfl,f.out.trans k⟩
   |false=>
    rw[s]at h d;simp only[a4x,if_false]at d;clear j q;go_wp2_with(go_at_fn g;apply h.mono;rintro e m⟨rfl,k⟩)
    go_roundg (n-(kk+1))
    case measure=>omega
    case rel=>exact⟨kk+1,by omega,by omega,by go_num,d,f.out.trans k⟩
  ·obtain rfl:kk=n:=by omega
   have z:¬(kk:Int)<(kk:Int):=by omega
   rw[List.drop_of_length_le (by omega)]at d;subst d;go_wp2;go_ret;exact⟨rfl,f.out⟩
theorem cfQ(a:SlLaysH0.n8 P ρ)(E:p6 α)(o:0<E.k)(h:∀w,(isAgg (ρ.t 23)).run P w= .ok Bt w)(s:∀w,(Go.sizeOf (ρ.t 23)).run P w= .ok E.k w)
  (p:α→Bool) (g:Nat) (lb:Array Va) (i:∀args w,(callFunc g args).run P w= .ok (.enter g args) w) (b:Option Ad) (n c:Nat) (xs:List α) (w:Wd)
  (r:V2 P g lb (fun x=>Ag (E.c x).toArray) p w xs) (q:xs.length=n) (m:n≤1000000) (k:h9 w b (E.row xs)):
  Ca P (ρ.f 8) #[Z b n c,Fc (.func g) #[] lb] w fun e d=>e=X (O (xs.any p))∧a9 w d:=by
 rw[←xB p xs 0];have B:=a.mixed;have C:=a.t0;have t:=a.a0;have T:=a.z0;have L:=a.v0;have G:=a.t3;have y:=a.a3;have ab:=a.z3;have R:=a.v3;have H:=a.t4;have z:=a.a4;have ac:=a.z4;have S:=a.v4;have D:=a.t22;have u:=a.a22;have W:=a.z22;have N:=a.v22;have F:=a.t25;have v:=a.a25;have aa:=a.z25;have Q:=a.v25;have A:∀args w,(callFunc (ρ.f 6) args).run P w= .ok (.enter (ρ.f 6) args) w:=a.f6.enters rfl;have j:=ixQ {a with} E o h s p g lb i b n c xs w r q m k;obtain⟨_,_,f⟩:=a.f8;go_enter f,SlBodyH.n8_ntmps ρ;go_wp2_with(go_at_fn (ρ.f 6);apply j.mono;rintro e d⟨rfl,l⟩)
 go_ret;exact⟨rfl,l⟩
theorem ixE(a:SlLaysH0.n6 P ρ)(v:α→Va)(D:∀w,(isAgg (ρ.t 23)).run P w= .ok Bf w)(am:∀w,(Go.sizeOf (ρ.t 23)).run P w= .ok 1 w)
  (p:α→Bool) (g:Nat) (lb:Array Va) (H:∀args w,(callFunc g args).run P w= .ok (.enter g args) w) (m:Option Ad) (n c:Nat) (xs:List α) (w:Wd)
  (q:V2 P g lb v p w xs) (o:xs.length=n) (N:n≤1000000) (i:h9 w m (xs.map v)):
  Ca P (ρ.f 6) #[Z m n c,Fc (.func g) #[] lb] w fun e l=>e=X (I M (Z7 p xs 0))∧a9 w l:=by
 have W:=a.mixed;have aa:=a.t0;have B:=a.a0;have ak:=a.z0;have af:=a.v0;have ad:=a.t3;have F:=a.a3;have ao:=a.z3;have ai:=a.v3;have ae:=a.t4;have G:=a.a4;have ap:=a.z4;have aj:=a.v4;have ab:=a.t22;have C:=a.a22;have al:=a.z22;have ag:=a.v22;have ac:=a.t25;have E:=a.a25;have an:=a.z25;have ah:=a.v25;obtain⟨R,d⟩:∃R,R=Z7 p xs 0:=⟨_,rfl⟩;rw[←d];obtain⟨_,_,s⟩:=a.f6;go_enter s,SlBodyH.n6_ntmps ρ;go_wp2;go_loopg [5,8] n (fun t _ z wr=>∃kk:Nat,kk≤n∧n-kk≤t∧z=I M kk∧R=Z7 p (xs.drop kk) kk∧Aside (a9 w wr))
 case atStart=>exact⟨0,i5 _,by omega,rfl,d,a9.refl w⟩
 case round=>
  clear d;obtain⟨kk,S,Q,rfl,d,f⟩:=hrel;by_cases T:kk<n
  ·have k:kk<xs.length:=by omega
   obtain⟨b,y,rfl,L⟩:=h9.some_ i (by simp;omega);have u:(kk:Int)<(n:Int):=by omega
   rw[BP p xs kk k]at d;have x:wr.cell? ⟨b,y+kk,J⟩=So (v xs[kk]):=(i.h f.out).cell (by simp[k]);have h:=q _ (a30 k) wr f.out;clear q;generalize xs[kk]=A at x h d;cases r:p A with
   |true=>
    rw[r]at h d;simp only[if_true]at d;subst d;clear i o;go_wp2_with(go_at_fn g;apply h.mono;rintro e l⟨rfl,j⟩)
    go_ret;exact⟨rfl,f.out.trans j⟩
   |false=>
    rw[r]at h d;simp only[a4x,if_false]at d;clear i o;go_wp2_with(go_at_fn g;apply h.mono;rintro e l⟨rfl,j⟩)
    go_roundg (n-(kk+1))
    case measure=>omega
    case rel=>exact⟨kk+1,by omega,by omega,by go_num,d,f.out.trans j⟩
  ·obtain rfl:kk=n:=by omega
   have u:¬(kk:Int)<(kk:Int):=by omega
   rw[List.drop_of_length_le (by omega)]at d;subst d;go_wp2;go_ret;exact⟨rfl,f.out⟩
theorem cfE(a:SlLaysH0.n8 P ρ)(v:α→Va)(h:∀w,(isAgg (ρ.t 23)).run P w= .ok Bf w)(r:∀w,(Go.sizeOf (ρ.t 23)).run P w= .ok 1 w)
  (p:α→Bool) (g:Nat) (lb:Array Va) (i:∀args w,(callFunc g args).run P w= .ok (.enter g args) w) (b:Option Ad) (n c:Nat) (xs:List α) (w:Wd)
  (q:V2 P g lb v p w xs) (o:xs.length=n) (m:n≤1000000) (k:h9 w b (xs.map v)):
  Ca P (ρ.f 8) #[Z b n c,Fc (.func g) #[] lb] w fun e d=>e=X (O (xs.any p))∧a9 w d:=by
 rw[←xB p xs 0];have A:=a.mixed;have B:=a.t0;have s:=a.a0;have R:=a.z0;have G:=a.v0;have E:=a.t3;have x:=a.a3;have W:=a.z3;have N:=a.v3;have F:=a.t4;have y:=a.a4;have aa:=a.z4;have Q:=a.v4;have C:=a.t22;have t:=a.a22;have S:=a.z22;have H:=a.v22;have D:=a.t25;have u:=a.a25;have T:=a.z25;have L:=a.v25;have z:∀args w,(callFunc (ρ.f 6) args).run P w= .ok (.enter (ρ.f 6) args) w:=a.f6.enters rfl;have j:=ixE {a with} v h r p g lb i b n c xs w q o m k;obtain⟨_,_,f⟩:=a.f8;go_enter f,SlBodyH.n8_ntmps ρ;go_wp2_with(go_at_fn (ρ.f 6);apply j.mono;rintro e d⟨rfl,l⟩)
 go_ret;exact⟨rfl,l⟩
end
end
section
open Go.Shelf
theorem a1m:SlLaysH0.n6 prog ⟨fun|6=>40|8=>23|n=>n,fun|22=>41|23=>73|25=>76|n=>n,fun n=>n⟩:=by
 constructor<;>first|exact⟨f40.name,by decide,func40.trans (congrArg So (by kernel_rfl))⟩|(intro w;kernel_rfl)|kernel_rfl
theorem a1u:SlLaysH0.n8 prog ⟨fun|6=>40|8=>23|n=>n,fun|22=>41|23=>73|25=>76|n=>n,fun n=>n⟩:= {a1m with f8:=⟨f23.name,by decide,func23.trans (congrArg So (by kernel_rfl))⟩}
theorem a1l:SlLaysH0.n6 prog ⟨fun|6=>42|8=>26|n=>n,fun|22=>40|23=>51|25=>78|n=>n,fun n=>n⟩:=by
 constructor<;>first|exact⟨f42.name,by decide,func42.trans (congrArg So (by kernel_rfl))⟩|(intro w;kernel_rfl)|kernel_rfl
theorem a1t:SlLaysH0.n8 prog ⟨fun|6=>42|8=>26|n=>n,fun|22=>40|23=>51|25=>78|n=>n,fun n=>n⟩:= {a1l with f8:=⟨f26.name,by decide,func26.trans (congrArg So (by kernel_rfl))⟩}
theorem a1n:SlLaysH0.n6 prog ⟨fun|6=>56|n=>n,fun|22=>25|23=>24|25=>65|n=>n,fun n=>n⟩:=by
 constructor<;>first|exact⟨f56.name,by decide,func56.trans (congrArg So (by kernel_rfl))⟩|(intro w;kernel_rfl)|kernel_rfl
theorem BM:SlLaysH0.n6 prog ⟨fun|6=>115|8=>67|n=>n,fun|22=>34|23=>144|25=>145|n=>n,fun n=>n⟩:=by
 constructor<;>first|exact⟨f115.name,by decide,func115.trans (congrArg So (by kernel_rfl))⟩|(intro w;kernel_rfl)|kernel_rfl
theorem WF:SlLaysH0.n8 prog ⟨fun|6=>115|8=>67|n=>n,fun|22=>34|23=>144|25=>145|n=>n,fun n=>n⟩:= {BM with f8:=⟨f67.name,by decide,func67.trans (congrArg So (by kernel_rfl))⟩}
theorem a1o:SlLaysH0.n6 prog ⟨fun|6=>237|n=>n,fun|22=>358|23=>280|25=>283|n=>n,fun n=>n⟩:=by
 constructor<;>first|exact⟨f237.name,by decide,func237.trans (congrArg So (by kernel_rfl))⟩|(intro w;kernel_rfl)|kernel_rfl
theorem KI:SlLaysH0.n6 prog ⟨fun|6=>270|n=>n,fun|22=>232|23=>392|25=>395|n=>n,fun n=>n⟩:=by
 constructor<;>first|exact⟨f270.name,by decide,func270.trans (congrArg So (by kernel_rfl))⟩|(intro w;kernel_rfl)|kernel_rfl
theorem a1p:SlLaysH0.n6 prog ⟨fun|6=>367|n=>n,fun|22=>471|23=>211|25=>431|n=>n,fun n=>n⟩:=by
 constructor<;>first|exact⟨f367.name,by decide,func367.trans (congrArg So (by kernel_rfl))⟩|(intro w;kernel_rfl)|kernel_rfl
theorem VZ:SlLaysH0.n6 prog ⟨fun|6=>253|8=>186|n=>n,fun|22=>33|23=>3|25=>148|n=>n,fun n=>n⟩:=by
 constructor<;>first|exact⟨f253.name,by decide,func253.trans (congrArg So (by kernel_rfl))⟩|(intro w;kernel_rfl)|kernel_rfl
theorem a3Q:SlLaysH0.n8 prog ⟨fun|6=>253|8=>186|n=>n,fun|22=>33|23=>3|25=>148|n=>n,fun n=>n⟩:= {VZ with f8:=⟨f186.name,by decide,func186.trans (congrArg So (by kernel_rfl))⟩}
theorem a3N:SlLaysH0.n6 prog ⟨fun|6=>372|n=>n,fun|22=>37|23=>26|25=>151|n=>n,fun n=>n⟩:=by
 constructor<;>first|exact⟨f372.name,by decide,func372.trans (congrArg So (by kernel_rfl))⟩|(intro w;kernel_rfl)|kernel_rfl
end
section
open Go.Shelf
theorem ctE{P:Pg}{i:Ren}{a:Type}[Inhabited a](k:SlLaysE.n31 P i)(v:a→Va)(h:a→a→Bool)(o:EqlAt P (i.t 23) v h)(g:Option Ad)(n c:Nat)(xs:List a)(x:a)(w:Wd)(p:xs.length=n)(u:n≤1000000)(l:h9 w g (xs.map v)):
  Ca P (i.f 31) #[Z g n c,v x] w fun e s=>e=X (O (xs.any fun f=>h x f))∧w=s:=by
 subst p;rcases xs with _|⟨f,r⟩
 ·exact(AnyE.slices_Contains_empty k g c (v x) w).mono fun _ _ d=>⟨d.1,d.2.symm⟩
 ·obtain⟨b,q,rfl,t⟩:=l.some_ (by simp)
  have:=AnyE.slices_Contains k v h o b q (f::r).length c (f::r) x w (a7 _) (by omega) (fun j m=>by
   rw[getElem!_pos (f::r) j m];exact l.cell (by rw[List.getElem?_map,e9 m];rfl))
  rw[List.take_of_length_le (a7 _)]at this;exact this.mono fun _ _ d=>⟨d.1,d.2.symm⟩
theorem a3O:SlLaysE.n31 prog ⟨fun|31=>329|29=>377|n=>n,fun|22=>343|23=>9|n=>n,fun n=>n⟩:=by
 constructor
 case f29=>exact⟨f377.name,by decide,func377.trans (congrArg So (by kernel_rfl))⟩
 case f31=>exact⟨f329.name,by decide,func329.trans (congrArg So (by kernel_rfl))⟩
 all_goals first|(intro w;kernel_rfl)|kernel_rfl
theorem WC:SlLaysE.n31 prog ⟨fun|31=>176|29=>238|n=>n,fun|22=>33|23=>3|n=>n,fun n=>n⟩:=by
 constructor
 case f29=>exact⟨f238.name,by decide,func238.trans (congrArg So (by kernel_rfl))⟩
 case f31=>exact⟨f176.name,by decide,func176.trans (congrArg So (by kernel_rfl))⟩
 all_goals first|(intro w;kernel_rfl)|kernel_rfl
theorem a3P:SlLaysE.n31 prog ⟨fun|31=>41|29=>87|n=>n,fun|22=>104|23=>46|n=>n,fun n=>n⟩:=by
 constructor
 case f29=>exact⟨f87.name,by decide,func87.trans (congrArg So (by kernel_rfl))⟩
 case f31=>exact⟨f41.name,by decide,func41.trans (congrArg So (by kernel_rfl))⟩
 all_goals first|(intro w;kernel_rfl)|kernel_rfl
theorem clE{P:Pg}{f:Ren}{L:Type}(d:SlLaysE0.n41 P f)(E:p6 L){z:Va}{b:Nat}(l:mU P (f.t 22) (f.t 23) z E.k b)(aa:∀w,(Go.sizeOf (f.t 23)).run P w= .ok E.k w)(y:Option Ad)(c:Nat)(xs:List L)(w:Wd)(F:xs.length≤1000000)(q:h9 w y (E.row xs)):
  Ca P (f.f 41) #[Z y xs.length c] w fun e t=>∃v,e=X v∧e4 t w (f.t 23) E v xs∧a9 w t:=by
 obtain⟨i,hi,p⟩:=Option.map_eq_some_iff.1 l.i;simp only[Prod.mk.injEq]at p;obtain⟨p,s,D⟩:=p;rcases y with _|⟨g,G,sp⟩
 ·refine(AnyE.slices_Clone_nil d xs.length c w).mono fun e t h=>⟨_,h.1,?_,h.2▸a9.refl _⟩
  have:xs=[]:=by
   rcases xs with _|⟨x,r⟩
   ·rfl
   ·obtain⟨_,_,h,_⟩:=q.rows l.k0 (by simp)
    cases h
  subst this;exact e4.nil _ _ _ _
 ·rcases sp with _|sp
  ·refine(AnyE.slices_Clone d i z E.k b hi p s D l.zs l.k0 aa g G xs.length c (E.row xs) w (E.row_length xs) (by unfold maxLen;omega) ?_ (fun j u T=>q.cell T) (E.row_oneCell xs)).mono fun e t⟨v,R,m,_,W⟩=>⟨v,R,?_,W⟩
   ·have:=Nat.mul_le_mul F l.b0
    omega
   ·rcases m.2 with⟨o,C⟩|⟨g,cap,cur,o,Q⟩
    ·exact⟨J,0,by rw[o,C],m⟩
    ·exact⟨_,cap,o,m⟩
  ·obtain rfl:xs=[]:=by
    rcases xs with _|⟨x,r⟩
    ·rfl
    ·obtain⟨_,_,h,_⟩:=q.rows l.k0 (by simp)
     cases h
   clear q F;have ad:=d.mixed;have H:=d.t22;have ab:=d.a22;have ak:=d.z22;have ah:=d.v22;have af:=d.t4;have ac:=d.a4;have al:=d.z4;have ai:=d.v4;have ae:∀(w:Wd)(a:Option Ad)(n c B A:Nat),(binOp .eql (f.t 22) (Z a n c) (Z J B A)).run P w= .ok (O a.isNone) w:=fun w a n c B A=>Lib.run_eql_slice_nil w _ _ a n c B A d.t22
   have ag:∀w,Sem.run P (underlying (f.t 22)) w= .ok (TypeDesc.slice (f.t 23)) w:=run_underlying H;obtain⟨_,_,N⟩:=d.f41;go_enter N,SlBodyN.n41_ntmps f;go_wp2_with(at_builtin;refine wpList_append_own _ rfl _ _ (f.t 22) rfl w (f.t 23) i z E.k b H hi p s D l.zs l.k0 _ _ _ rfl (World.ownsRow_made w #[] 0 (a7 _) (i5 _) (by simp)) ⟨g,G,So sp⟩ 0 c [] rfl (by simp) (fun j u h=>by simp at h) (fun u h=>by simp at h) (by simp) (by simp) (by simp) ?_)
   intro v aj m S _;go_wp2;go_ret;refine⟨v,rfl,?_,((Below.refl _ w).alloc (a7 _) _).grown S (by simp) (by intro k s;simp[Value.ownBlock]at s;omega)⟩;rcases m.2 with⟨o,C⟩|⟨g,cap,cur,o,Q⟩
   ·exact⟨J,0,o,m⟩
   ·exact⟨_,cap,o,m⟩
theorem e4.spot{w:Wd}{base:Nat}{e:Ti}{f:Type}{E:p6 f}{d:Option Ad}{n c:Nat}{xs:List f}(h:e4 w base e E (Z d n c) xs):∀a,d=So a→a.spot=J:=fun a i=>by
 obtain⟨k,l,b,j⟩:=h;injection b with h1 _ _
 subst h1 i;rcases j.2 with⟨b,_⟩|⟨g,cap,cur,b,_⟩
 ·cases b
 ·injection b with h1;injection h1 with h1;rw[h1]
theorem WE:SlLaysE0.n41 prog ⟨fun|41=>164|n=>n,fun|22=>33|23=>3|n=>n,fun n=>n⟩:=by
 constructor
 case f41=>exact⟨f164.name,by decide,func164.trans (congrArg So (by kernel_rfl))⟩
 all_goals first|(intro w;kernel_rfl)|kernel_rfl
theorem WD:SlLaysE0.n41 prog ⟨fun|41=>165|n=>n,fun|22=>37|23=>26|n=>n,fun n=>n⟩:=by
 constructor
 case f41=>exact⟨f165.name,by decide,func165.trans (congrArg So (by kernel_rfl))⟩
 all_goals first|(intro w;kernel_rfl)|kernel_rfl
theorem a1s:SlLaysE0.n41 prog ⟨fun|41=>96|n=>n,fun|22=>22|23=>5|n=>n,fun n=>n⟩:=by
 constructor
 case f41=>exact⟨f96.name,by decide,func96.trans (congrArg So (by kernel_rfl))⟩
 all_goals first|(intro w;kernel_rfl)|kernel_rfl
theorem wW:SlLaysE0.n41 prog ⟨fun|41=>166|n=>n,fun|22=>34|23=>144|n=>n,fun n=>n⟩:=by
 constructor
 case f41=>exact⟨f166.name,by decide,func166.trans (congrArg So (by kernel_rfl))⟩
 all_goals first|(intro w;kernel_rfl)|kernel_rfl
theorem KJ:SlLaysE0.n41 prog ⟨fun|41=>332|n=>n,fun|22=>232|23=>392|n=>n,fun n=>n⟩:=by
 constructor
 case f41=>exact⟨f332.name,by decide,func332.trans (congrArg So (by kernel_rfl))⟩
 all_goals first|(intro w;kernel_rfl)|kernel_rfl
end
theorem eW{a:Type}(l:List a)(p:a→Bool)(k:Nat)(b:k<l.length):(l.drop k).find? p=if p l[k]then So l[k]else(l.drop (k+1)).find? p:=by
 rw[List.drop_eq_getElem_cons b,List.find?_cons];split<;>simp_all
abbrev lW(x:Int):Int:=bits .andNot V x 65535
theorem yC(x:Int)(W:Wd):Ca prog 139 #[I V x] W fun e a=>e=X (I V (lW x))∧W=a:=by
 go_in;go_wp2;go_ret;exact⟨rfl,rfl⟩
def jT:List (Int×ByteArray):=[(2147483648,⟨#[107,105,108,108]⟩),(0,⟨#[107,105,108,108,116,104,114,101,97,100]⟩),(196608,⟨#[116,114,97,112]⟩),(327680,⟨#[101,114,114,110,111]⟩),(2143289344,⟨#[110,111,116,105,102,121]⟩),(2146435072,⟨#[116,114,97,99,101]⟩),(2147221504,⟨#[108,111,103]⟩),(2147418112,⟨#[97,108,108,111,119]⟩)]
def a4u:Array Va:=(jT.flatMap fun a=>[I V a.1,Y a.2]).toArray
def a5L(a:Int×ByteArray):Va:=Ag #[I V a.1,Y a.2]
theorem IK:∀(k:Nat)(a:k<jT.length)(W:Wd),(Instr.index 485 (Ag a4u) (I M k)).run prog W= .ok (a5L jT[k]) W
 |0,_,_|1,_,_|2,_,_|3,_,_|4,_,_|5,_,_|6,_,_|7,_,_=>by kernel_rfl
 |n+8,h,_=>absurd h (by simp[jT])
theorem ZK(W:Wd):Ca prog 384 #[] W fun e a=>e=X (Ag a4u)∧a9 W a:=by
 go_in;go_wp2;exact Bp (g0 rfl _ _ _ _ _ _ rfl (b9.new _ _ _) underlying485 rfl (by kernel_rfl)) rfl ⟨rfl,(a9.refl W).alloc _⟩
def ZN(l:List (Int×ByteArray))(y:Int):ByteArray:=match l.find? fun a=>a.1==y with
 |some a=>a.2
 |none=>⟨#[]⟩
def IL(x:Int):ByteArray:=ZN jT (lW x)
theorem QS(k:Nat)(b:k<jT.length)(a:Int):ZN (jT.drop k) a=if jT[k].1==a then jT[k].2 else ZN (jT.drop (k+1)) a:=by
 unfold ZN;rw[eW jT _ k b];cases c:jT[k].1==a<;>simp
theorem a13(x:Int)(W:Wd):Ca prog 347 #[I V x] W fun e A=>e=X (Y (IL x))∧a9 W A:=by
 obtain⟨w,v,y,z⟩:=J5 IK ZK (yC x) (fun k r=>QS k r (lW x));have F:jT.length=8:=rfl;obtain⟨R,b⟩:∃R,R=IL x:=⟨_,rfl⟩;rw[←b];unfold IL at b;generalize lW x=u at*;generalize a4u=C at*;generalize jT=l at*;go_in;go_wp2_with fail
 apply(v _).mono;rintro e N⟨rfl,f⟩;go_wp2_with fail
 go_loopw [6] (fun i wr=>∃k:Nat,k≤8∧i=I M k∧R=ZN (l.drop k) u∧a9 W wr) (fun i _=>8-(intOf i).toNat)
 case atStart=>exact⟨0,by decide,rfl,b,f⟩
 case round=>
  clear b f;obtain⟨k,r,rfl,b,f⟩:=hrel;by_cases G:k<8
  ·have q:=w k (by omega)
   rw[z k (by omega)]at b;dsimp only[a5L]at q b;generalize l[k]'(by omega)=E at*;obtain⟨a,s⟩:=E;dsimp only at q b;have t:=f.alloc (U #[I V a,Y s] 484);have B:=b9.new wr 484 #[I V a,Y s];rcases j:a==u with _|_
   all_goals
    rw[j]at b;have H:=a6 j;clear j;go_wp2_with fail
    try rw[show Dc ((k:Int)<8)=Bt by simp;omega]
    refine e7 rfl [.is ?Ah,.is ?Ai,.is ?Aj,.is ?Ak,.is ?Al] (by kernel_rfl) ?Am ?Aa ⟨?Ab,?Ac,?Ad,?Ae,?Af,trivial⟩ ?Ag
    case Aa=>intro x;simp only[e6,Act.put,uL,l9]<;>rfl
    case Ab|Ac|Ad=>
     intro x h c;simp only[e5,j8,uV];repeat(intro d;try simp only[d])
     have L:=(B.h c).cell 0;go_wp2_with fail
     refine a0e ?_ rfl (a9.refl _);rfl
    case Ae=>
     intro x h c;simp only[e5,j8,uV];intro g;simp only[g];go_wp2_with(apply(y _).mono;rintro e P⟨rfl,rfl⟩)
     refine a0e ?_ rfl (a9.refl _);rfl
    case Af=>
     intro x h c;simp only[e5,j8,uV];repeat(intro d;try simp only[d])
     go_wp2_with fail
     refine a0e ?_ rfl (a9.refl _);rfl
    case Ag=>
     intro x h c;simp only[l8,e5,j8,uV];intro m n g o p;simp only[m,n,g,o,p];clear m n g o p;have D:=(B.h c).cell 1;rw[H.out];go_wp2;first
      |(go_ret;exact⟨by rw[b];rfl,t.trans c⟩)
      |(go_roundw
        case rel=>exact⟨k+1,by omega,by go_num,by rw[b];rfl,t.trans c⟩
        case measure=>simp[intOf];omega)
  ·obtain rfl:k=8:=by omega
   have b:R=⟨#[]⟩:=by rw[b,List.drop_of_length_le (by omega)];rfl
   go_wp2;go_ret;exact⟨by rw[b];rfl,f⟩
theorem ZM(x:Int)(W:Wd):Ca prog 262 #[I V x] W fun e c=>e=X (O (!(IL x).toList.isEmpty))∧a9 W c:=by
 have a:=a6 (a13 x);generalize IL x=s at*;go_in;go_wp2_with fail
 apply(a _).mono;rintro e d⟨rfl,b⟩;go_wp2;go_ret;exact⟨rfl,b⟩
def BJ(a b:Int):Bool:=Dc (wrap32 (lW a)<wrap32 (lW b))
theorem a14(a b:Int)(W:Wd):Ca prog 95 #[I V a,I V b] W fun e f=>e=X (O (BJ a b))∧W=f:=by
 obtain⟨c,d⟩:=i6 (yC a) (yC b);unfold BJ;generalize lW a=x at*;generalize lW b=h at*;go_in;go_wp2_with fail
 apply(c _).mono;rintro e g⟨rfl,rfl⟩;go_wp2_with fail
 apply(d _).mono;rintro e g⟨rfl,rfl⟩;go_wp2;go_ret;exact⟨rfl,rfl⟩
def gJ(a b:Int):Int:=if BJ b a then b else a
theorem ZL(a b:Int)(g:Nat)(W:Wd)(h:W.cell? ⟨g,0,J⟩=So (I V a))(j:W.cell? ⟨g,1,J⟩=So (I V b)):
  Ca prog 49 #[Z g 2 2] W fun e f=>e=X (I V (gJ a b))∧a9 W f:=by
 have d:=a6 (a14 b a);have c:gJ a b=if BJ b a then b else a:=rfl
 generalize gJ a b=R at*;generalize BJ b a=q at*;go_in;go_wp2_with fail
 go_loopw [3,12] (fun r i wr=>W=wr∧(r=I V a∧i=I M 0∨r=I V R∧i=I M 1)) (fun r i _=>1-(intOf i).toNat)
 case atStart=>exact⟨rfl,.inl ⟨rfl,rfl⟩⟩
 case round=>
  obtain⟨rfl,⟨rfl,rfl⟩|⟨rfl,rfl⟩⟩:=hrel
  ·go_wp2_with fail
   apply(d _).mono;rintro e k⟨rfl,rfl⟩;cases q;all_goals
    simp only[if_true,a4x,if_false]at c;subst c;go_wp2
    go_roundw
    case rel=>first|exact⟨rfl,.inr ⟨rfl,rfl⟩⟩|exact⟨trivial,.inr ⟨rfl,rfl⟩⟩
    case measure=>simp[intOf]
  ·go_wp2
   go_ret;exact⟨rfl,a9.refl _⟩
structure yN where
 code:Int
 name:ByteArray
 cls:Int
def yN.cells(e:yN):Array Va:= #[I U1 e.code,Y e.name,I U8 e.cls]
def yN.val(e:yN):Va:=Ag e.cells
def M9:List yN:=[⟨32,⟨#[108,100,97,98,115]⟩,1⟩,⟨128,⟨#[108,100,108,101,110]⟩,1⟩,⟨0,⟨#[108,100,105]⟩,1⟩,⟨96,⟨#[108,100,109]⟩,1⟩,⟨129,⟨#[108,100,120,108,101,110]⟩,1⟩,⟨1,⟨#[108,100,120,105]⟩,1⟩,⟨97,⟨#[108,100,120,109]⟩,1⟩,⟨2,⟨#[115,116]⟩,2⟩,⟨3,⟨#[115,116,120]⟩,2⟩,⟨4,⟨#[97,100,100]⟩,3⟩,⟨20,⟨#[115,117,98]⟩,3⟩,⟨36,⟨#[109,117,108]⟩,3⟩,⟨52,⟨#[100,105,118]⟩,3⟩,⟨68,⟨#[111,114]⟩,3⟩,⟨84,⟨#[97,110,100]⟩,3⟩,⟨100,⟨#[108,115,104]⟩,3⟩,⟨116,⟨#[114,115,104]⟩,3⟩,⟨164,⟨#[120,111,114]⟩,3⟩,⟨12,⟨#[97,100,100,120]⟩,3⟩,⟨28,⟨#[115,117,98,120]⟩,3⟩,⟨44,⟨#[109,117,108,120]⟩,3⟩,⟨60,⟨#[100,105,118,120]⟩,3⟩,⟨76,⟨#[111,114,120]⟩,3⟩,⟨92,⟨#[97,110,100,120]⟩,3⟩,⟨108,⟨#[108,115,104,120]⟩,3⟩,⟨124,⟨#[114,115,104,120]⟩,3⟩,⟨172,⟨#[120,111,114,120]⟩,3⟩,⟨132,⟨#[110,101,103]⟩,3⟩,⟨5,⟨#[106,97]⟩,4⟩,⟨21,⟨#[106,101,113]⟩,4⟩,⟨37,⟨#[106,103,116]⟩,4⟩,⟨53,⟨#[106,103,101]⟩,4⟩,⟨69,⟨#[106,115,101,116]⟩,4⟩,⟨29,⟨#[106,101,113,120]⟩,4⟩,⟨45,⟨#[106,103,116,120]⟩,4⟩,⟨61,⟨#[106,103,101,120]⟩,4⟩,⟨77,⟨#[106,115,101,116,120]⟩,4⟩,⟨6,⟨#[114,101,116]⟩,5⟩,⟨22,⟨#[114,101,116,97]⟩,5⟩,⟨7,⟨#[116,97,120]⟩,6⟩,⟨135,⟨#[116,120,97]⟩,6⟩]
def XW:Array Va:= #[I U1 32,Y ⟨#[108,100,97,98,115]⟩,I U8 1,I U1 128,Y ⟨#[108,100,108,101,110]⟩,I U8 1,I U1 0,Y ⟨#[108,100,105]⟩,I U8 1,I U1 96,Y ⟨#[108,100,109]⟩,I U8 1,I U1 129,Y ⟨#[108,100,120,108,101,110]⟩,I U8 1,I U1 1,Y ⟨#[108,100,120,105]⟩,I U8 1,I U1 97,Y ⟨#[108,100,120,109]⟩,I U8 1,I U1 2,Y ⟨#[115,116]⟩,I U8 2,I U1 3,Y ⟨#[115,116,120]⟩,I U8 2,I U1 4,Y ⟨#[97,100,100]⟩,I U8 3,I U1 20,Y ⟨#[115,117,98]⟩,I U8 3,I U1 36,Y ⟨#[109,117,108]⟩,I U8 3,I U1 52,Y ⟨#[100,105,118]⟩,I U8 3,I U1 68,Y ⟨#[111,114]⟩,I U8 3,I U1 84,Y ⟨#[97,110,100]⟩,I U8 3,I U1 100,Y ⟨#[108,115,104]⟩,I U8 3,I U1 116,Y ⟨#[114,115,104]⟩,I U8 3,I U1 164,Y ⟨#[120,111,114]⟩,I U8 3,I U1 12,Y ⟨#[97,100,100,120]⟩,I U8 3,I U1 28,Y ⟨#[115,117,98,120]⟩,I U8 3,I U1 44,Y ⟨#[109,117,108,120]⟩,I U8 3,I U1 60,Y ⟨#[100,105,118,120]⟩,I U8 3,I U1 76,Y ⟨#[111,114,120]⟩,I U8 3,I U1 92,Y ⟨#[97,110,100,120]⟩,I U8 3,I U1 108,Y ⟨#[108,115,104,120]⟩,I U8 3,I U1 124,Y ⟨#[114,115,104,120]⟩,I U8 3,I U1 172,Y ⟨#[120,111,114,120]⟩,I U8 3,I U1 132,Y ⟨#[110,101,103]⟩,I U8 3,I U1 5,Y ⟨#[106,97]⟩,I U8 4,I U1 21,Y ⟨#[106,101,113]⟩,I U8 4,I U1 37,Y ⟨#[106,103,116]⟩,I U8 4,I U1 53,Y ⟨#[106,103,101]⟩,I U8 4,I U1 69,Y ⟨#[106,115,101,116]⟩,I U8 4,I U1 29,Y ⟨#[106,101,113,120]⟩,I U8 4,I U1 45,Y ⟨#[106,103,116,120]⟩,I U8 4,I U1 61,Y ⟨#[106,103,101,120]⟩,I U8 4,I U1 77,Y ⟨#[106,115,101,116,120]⟩,I U8 4,I U1 6,Y ⟨#[114,101,116]⟩,I U8 5,I U1 22,Y ⟨#[114,101,116,97]⟩,I U8 5,I U1 7,Y ⟨#[116,97,120]⟩,I U8 6,I U1 135,Y ⟨#[116,120,97]⟩,I U8 6]
def a4e:Va:=Ag XW
def P1:yN:=⟨0,⟨#[]⟩,0⟩
theorem a2n{P:Pg}{d:Array Oper}{rest:List Oper}{b:Oper}{a:Act}{w:Wd}{Q:Exit→Act→Wd→Prop}(j:b.guard=J)(t:Ti)(e:Array (Nat×Operand))(k:b.op= .build t e)
  (c:Array Va) (h:P.built t (e.map fun(i,x)=>(i,a.eval x)).toList=So c)
  (f:Wp P d Q rest (a.put b.dst (Ag c)) w):Wp P d Q (b::rest) a w:=by
 refine wpList_plain j fun _ g=> ?_
 unfold Oper.wp execOp;simp only[k,Sem.run_bind,run_build w t _ _ h,Result.andThen_ok];exact g _ _ f
theorem PS:∀(k:Nat)(a:k<41)(W:Wd),(Instr.index 329 a4e (I M k)).run prog W= .ok (M9.getD k P1).val W
 |0,_,_=>by kernel_rfl
 |1,_,_=>by kernel_rfl
 |2,_,_=>by kernel_rfl
 |3,_,_=>by kernel_rfl
 |4,_,_=>by kernel_rfl
 |5,_,_=>by kernel_rfl
 |6,_,_=>by kernel_rfl
 |7,_,_=>by kernel_rfl
 |8,_,_=>by kernel_rfl
 |9,_,_=>by kernel_rfl
 |10,_,_=>by kernel_rfl
 |11,_,_=>by kernel_rfl
 |12,_,_=>by kernel_rfl
 |13,_,_=>by kernel_rfl
 |14,_,_=>by kernel_rfl
 |15,_,_=>by kernel_rfl
 |16,_,_=>by kernel_rfl
 |17,_,_=>by kernel_rfl
 |18,_,_=>by kernel_rfl
 |19,_,_=>by kernel_rfl
 |20,_,_=>by kernel_rfl
 |21,_,_=>by kernel_rfl
 |22,_,_=>by kernel_rfl
 |23,_,_=>by kernel_rfl
 |24,_,_=>by kernel_rfl
 |25,_,_=>by kernel_rfl
 |26,_,_=>by kernel_rfl
 |27,_,_=>by kernel_rfl
 |28,_,_=>by kernel_rfl
 |29,_,_=>by kernel_rfl
 |30,_,_=>by kernel_rfl
 |31,_,_=>by kernel_rfl
 |32,_,_=>by kernel_rfl
 |33,_,_=>by kernel_rfl
 |34,_,_=>by kernel_rfl
 |35,_,_=>by kernel_rfl
 |36,_,_=>by kernel_rfl
 |37,_,_=>by kernel_rfl
 |38,_,_=>by kernel_rfl
 |39,_,_=>by kernel_rfl
 |40,_,_=>by kernel_rfl
 |n+41,h,_=>absurd h (by omega)
theorem CU(W:Wd):
  Ca prog 209 #[] W fun e f=>e=X a4e∧a9 W f:=by
 have c:∀v∈XW.toList,v.oneCell'=Bt:=by
  have:XW.toList.all (·.oneCell')=Bt:=by kernel_rfl
  exact List.all_eq_true.1 this
 go_in;have b:∀x:Array Va,b9 (W.alloc (U x 329)) W 329 x:=fun x=>b9.new _ _ _
 go_wp2_with(first|(refine a2n rfl 329 _ rfl XW (by kernel_rfl) ?_)|(refine c7 rfl 329 (Tm 0) (Tm 42) rfl W 329 zeroCells329 XW rfl rfl (b _) (by kernel_rfl) (by kernel_rfl) c ?_;intro g a d))
 exact Bp (g0 rfl _ _ _ _ _ _ rfl a underlying329 rfl (by kernel_rfl)) rfl ⟨rfl,((a9.refl W).alloc _).grown d (fun k e=>by cases e;exact a7 _)⟩
def T9(p:yN→Bool):yN×Bool:=match M9.find? p with
 |some e=>(e,Bt)
 |none=>(P1,Bf)
theorem XO{p:yN→Bool}{k:Nat}(d:k<41)(c:∀j,j<k→p (M9.getD j P1)=Bf)(a:p (M9.getD k P1)=Bt):T9 p=(M9.getD k P1,Bt):=by
 have e:M9.length=41:=rfl;have:M9.find? p=So (M9.getD k P1):=by
  rw[List.find?_eq_some_iff_getElem];refine⟨a,k,by omega,?_,fun j b=> ?_⟩
  ·rw[a8,e9 (by omega)];rfl
  ·have:=c j b
   rw[a8,e9 (show j<M9.length by omega)]at this;simpa using this
 unfold T9;rw[this]
theorem XN{p:yN→Bool}(b:∀j,j<41→p (M9.getD j P1)=Bf):T9 p=(P1,Bf):=by
 have d:M9.length=41:=rfl;have:M9.find? p=J:=by
  rw[List.find?_eq_none];intro x c;obtain⟨j,a,rfl⟩:=List.getElem_of_mem c;have:=b j (by omega);rw[a8,e9 a]at this;simpa using this
 unfold T9;rw[this]
theorem by1(c q:Int)(s:ByteArray)(g:Nat)(a:Int)(W:Wd)(d:W.cell? ⟨g,0,J⟩=So (I U1 a)):
  Ca prog 135 #[Ag #[I U1 c,Y s,I U8 q],K g] W fun e h=>e=X (O (c==a))∧a9 W h:=by
 have f:g<W.heap.size:=block_lt_of_cell d;have j:g≠W.heap.size:=Nat.ne_of_lt f;have i:∀b,(W.alloc b).cell? ⟨g,0,J⟩=So (I U1 a):=fun b=>((a9.refl W).alloc b).cell d
 go_in;go_wp2;go_ret;first|exact⟨rfl,(a9.refl W).alloc _⟩|exact⟨rfl,a9.refl W⟩
theorem PL(g:Nat)(a:Int)(W:Wd)(D:W.cell? ⟨g,0,J⟩=So (I U1 a)):
  Ca prog 134 #[Fc (.func 135) #[] #[K g]] W fun e Q=>e=X (Tp #[(T9 fun e=>e.code==a).1.val,O (T9 fun e=>e.code==a).2])∧a9 W Q:=by
 obtain⟨w,u,v,x⟩:=J5 (fun(k:Nat)(n:k<41)(W:Wd)=>PS k n W) (fun W:Wd=>CU W) (fun(k:Nat)(n:k<41)=>XO (p:=fun e=>e.code==a) n) (XN (p:=fun e=>e.code==a));generalize a4e=L at*;generalize T9 (fun e=>e.code==a)=R at*;have aa:=block_lt_of_cell D;go_in;go_wp2_with fail
 have r:=(a9.refl W).alloc (U #[I U1 0,Y ⟨#[]⟩,I U8 0] 169);have b:=b9.new W 169 #[I U1 0,Y ⟨#[]⟩,I U8 0];apply(u _).mono;rintro e ab⟨rfl,B⟩;replace r:=r.trans B;replace b:=b.h B;clear B;go_wp2_with fail
 go_loopw [7] (fun i wr=>∃k:Nat,k≤41∧i=I M k∧(∀j,j<k→((M9.getD j P1).code==a)=Bf)∧a9 W wr∧b9 wr W 169 #[I U1 0,Y ⟨#[]⟩,I U8 0]) (fun i _=>41-(intOf i).toNat)
 case atStart=>exact⟨0,by decide,rfl,fun j A=>absurd A (by omega),r,b⟩
 case round=>
  clear r b;obtain⟨k,n,rfl,f,o,b⟩:=hrel;by_cases G:k<41
  ·have P:∀W,(Instr.index 329 L (I M k)).run prog W= .ok (Ag #[I U1 (M9.getD k P1).code,Y (M9.getD k P1).name,I U8 (M9.getD k P1).cls]) W:=fun W=>w k G W
   have m:=a6 (v k G f);have l:∀(d:((M9.getD k P1).code==a)=Bf) j,j<k+1→((M9.getD j P1).code==a)=Bf:=fun d j A=>by
    rcases Nat.lt_succ_iff_lt_or_eq.1 A with N|rfl
    ·exact f j N
    ·exact d
   generalize M9.getD k P1=E at*;obtain⟨c,s,q⟩:=E;have F:=o.cell D;dsimp only at P m l;by_cases d:(c==a)=Bt
   ·have y:=m d
    subst y;clear f l m v x w u;go_wp2_with fail
    refine(by1 c q s g a _ (((a9.refl wr).alloc _).cell F)).mono ?_;rintro e S⟨rfl,h⟩;have C:=(o.alloc (U #[I U1 c,Y s,I U8 q] 169)).trans h;have H:=(b9.new wr 169 #[I U1 c,Y s,I U8 q]).h h;replace b:=(b.alloc (U #[I U1 c,Y s,I U8 q] 169)).h h;rw[d];go_wp2_with(first|(refine i8 rfl 169 (Tm 5) rfl _ _ _ _ rfl H underlying169 rfl (by kernel_rfl) ?_)|(refine c7 rfl 169 (Tm 2) (Tm 13) rfl _ _ _ _ rfl rfl b rfl (by kernel_rfl) (by simp[Value.oneCell']) ?_;intro T t z))
    exact Bp (h7 rfl _ _ _ _ _ _ rfl t underlying169 rfl (by kernel_rfl)) rfl ⟨rfl,C.grown z (fun k e=>by cases e;exact a7 _)⟩
   ·have d:(c==a)=Bf:=by simpa using d
    replace l:=l d;clear f m;go_wp2_with fail
    refine(by1 c q s g a _ (((a9.refl wr).alloc _).cell F)).mono ?_;rintro e S⟨rfl,h⟩;have C:=(o.alloc (U #[I U1 c,Y s,I U8 q] 169)).trans h;replace b:=(b.alloc (U #[I U1 c,Y s,I U8 q] 169)).h h;rw[d];go_wp2
    go_roundw
    case rel=>exact⟨k+1,by omega,by go_num,l,C,b⟩
    case measure=>simp[intOf];omega
  ·obtain rfl:k=41:=by omega
   have y:=x f;subst y;clear f v x w u;go_wp2_with(refine c7 rfl 169 (Tm 2) (Tm 15) rfl _ _ _ _ rfl rfl b rfl (by kernel_rfl) (by simp[Value.oneCell']) ?_;intro T t z)
   exact Bp (h7 rfl _ _ _ _ _ _ rfl t underlying169 rfl (by kernel_rfl)) rfl ⟨rfl,o.grown z (fun k e=>by cases e;exact a7 _)⟩
theorem a23(a:Int)(W:Wd):
  Ca prog 89 #[I U1 a] W fun e m=>e=X (Tp #[(T9 fun e=>e.code==a).1.val,O (T9 fun e=>e.code==a).2])∧a9 W m:=by
 have H:=a6 (fun(g:Nat)(W:Wd)(i:W.cell? ⟨g,0,J⟩=So (I U1 a))=>PL g a W i);generalize T9 (fun e=>e.code==a)=R at*;obtain⟨⟨c,s,q⟩,n⟩:=R;go_in;go_wp2_with fail
 have l:=((a9.refl W).alloc (U #[I U1 a] 114)).alloc (U #[I U1 0,Y ⟨#[]⟩,I U8 0] 169);have b:b9 ((W.alloc (U #[I U1 a] 114)).alloc (U #[I U1 0,Y ⟨#[]⟩,I U8 0] 169)) (W+1) 169 #[I U1 0,Y ⟨#[]⟩,I U8 0]:=b9.b (by simp);have f:=(b9.new W 114 #[I U1 a]).alloc (U #[I U1 0,Y ⟨#[]⟩,I U8 0] 169);apply(H W _ (by rw[f.cell];rfl)).mono;rintro e o⟨rfl,d⟩;replace b:=b.h d;go_wp2_with(refine c7 rfl 169 (Tm 2) (Tm _) rfl _ _ _ _ rfl rfl b rfl (by kernel_rfl) (by simp[Value.oneCell',yN.cells]) ?_;intro p h j)
 exact Bp (h7 rfl _ _ _ _ _ _ rfl h underlying169 rfl (by kernel_rfl)) rfl ⟨rfl,(l.trans d).grown j (fun k e=>by cases e;omega)⟩
def Y3(a:Int):yN×Bool:=T9 fun e=>e.code==a
theorem OR(a:Int)(W:Wd):
  Ca prog 273 #[I U1 a] W fun e d=>e=X (O (Y3 a).2)∧a9 W d:=by
 have H:=a6 (a23 a W);rw[show(T9 fun e=>e.code==a)=Y3 a from rfl]at H;generalize Y3 a=R at*;obtain⟨⟨c,s,q⟩,f⟩:=R;simp only[yN.val,yN.cells]at H;go_in;go_wp2_with fail
 apply H.mono;rintro e g⟨rfl,b⟩;go_wp2;go_ret;exact⟨rfl,b.alloc _⟩
theorem y7(a:Int)(W:Wd):
  Ca prog 46 #[I U1 a] W fun e d=>e=X (I U8 (Y3 a).1.cls)∧a9 W d:=by
 have H:=a6 (a23 a W);rw[show(T9 fun e=>e.code==a)=Y3 a from rfl]at H;generalize Y3 a=R at*;obtain⟨⟨c,s,q⟩,f⟩:=R;simp only[yN.val,yN.cells]at H;go_in;go_wp2_with fail
 apply H.mono;rintro e g⟨rfl,b⟩;go_wp2;go_ret;exact⟨rfl,b.alloc _⟩
def Y6(a:Int):Bool:=(Y3 a).2&&((Y3 a).1.cls==3||(Y3 a).1.cls==4)&&(bits .and U1 a 8 !=0)
theorem sP(a:Int)(W:Wd):
  Ca prog 211 #[I U1 a] W fun e i=>e=X (O (Y6 a))∧a9 W i:=by
 have H:=a6 (a23 a W);rw[show(T9 fun e=>e.code==a)=Y3 a from rfl]at H;unfold Y6;generalize Y3 a=R at*;obtain⟨⟨c,s,q⟩,h⟩:=R;simp only[yN.val,yN.cells]at H;generalize j:bits .and U1 a 8=b at*;go_in;go_wp2_with fail
 apply H.mono;rintro e k⟨rfl,d⟩;cases h
 ·go_wp2
  go_ret;exact⟨rfl,d.alloc _⟩
 ·cases f:(q==3)
  ·cases g:(q==4)
   ·go_wp2
    go_ret;exact⟨pF (by rw[f,g];rfl),d.alloc _⟩
   ·go_wp2
    go_ret;exact⟨pF (by rw[f,g];rfl),d.alloc _⟩
  ·go_wp2
   go_ret;exact⟨pF (by rw[f];rfl),d.alloc _⟩
end Go.Proofs.YtiomenjfmagknaaGreat
