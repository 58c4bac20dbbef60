/- A part of the proof of TopSame: lemmas on the walks of its calls. -/
import Derived.Great.BuildSlice
import Derived.Maps.OwnIn
import Derived.Test.YtiomenjfmagknaaGreatM05
set_option maxHeartbeats 12000000
set_option linter.all false
set_option maxRecDepth 100000
namespace Go.Proofs.YtiomenjfmagknaaGreat
open Go.RowKit Go.ChangeShapes Go.WideShapes Tryz
open Bool renaming false_eq_true→a4x,true→Bt,false→Bf
open Decidable renaming decide→Dc
open Ending renaming returned→X
open Go renaming World→Wd,Value→Va,Calls→Ca,callsIn_wide→Cw,undef→Un,bodyPost_ret→Bp,TypeId→Ti,Addr→Ad,Program→Pg,results_none→Rz,callsIn_of_wp_marks→Cm,callsIn_of_wp→Co,CallsIn→Ci,wpList→Wp
open Go.Proofs renaming enters_of→Eo
open IntKind renaming i64→M,u32→V,u16→U1,u8→U8
open IntWalk renaming i64_in→a37
open Lib renaming hid→a6
open List renaming length_append→a2e,length_cons→a3W,take_succ_eq_append_getElem→a4a,append_assoc→a4s,length_take→a4C
open Nat renaming le_refl→a7,le_trans→c8,reduceAdd→l9,zero_le→i5,reduceSub→a4D,zero_add→a4E
open Obj renaming cells→U
open Operand renaming tmp→Tm
open Option renaming none→J,some→So
open Value renaming int→I,slice→Z,string→Y,pointer→K,bool→O,func→Fc,tuple→Tp,agg→Ag
def xX(y:Nat):Bool:=Dc (y<33)||decide (126<y)||y==47
def nX:ByteArray:=⟨#[46,99,111,110,102]⟩
def sG(s:ByteArray):Bool:=if s.size<6 then Bf else if 60<s.size then Bf else if Lib.hasSuffix s.data.toList nX.data.toList=Bf then Bf else !(s.data.toList.any fun b=>xX b.toNat)
theorem a1L(s:ByteArray)(ah:s.size≤1000000)(W:Wd):Ca prog 58 #[Y s] W fun e ai=>e=X (O (sG s))∧a9 W ai:=by
 obtain⟨R,d⟩:∃R,R=sG s:=⟨_,rfl⟩;rw[←d];unfold sG at d;by_cases m:s.size<6
 ·rw[if_pos m]at d
  subst d;have T:Dc ((s.size:Int)<6)=Bt:=by simp;omega
  clear m;go_in;go_wp2_with fail
  go_ret;exact⟨rfl,a9.refl _⟩
 ·rw[if_neg m]at d
  have T:Dc ((s.size:Int)<6)=Bf:=by simp;omega
  by_cases n:60<s.size
  ·rw[if_pos n]at d
   subst d;have aa:Dc ((60:Int)<s.size)=Bt:=by simp;omega
   clear m n;go_in;go_wp2_with fail
   go_ret;exact⟨rfl,a9.refl _⟩
  ·rw[if_neg n]at d
   have aa:Dc ((60:Int)<s.size)=Bf:=by simp;omega
   have p:=a6 (fun W=>vR s nX ah W);have am:(⟨#[46,99,111,110,102]⟩:ByteArray)=nX:=rfl;generalize nX=C at*;rcases j:Lib.hasSuffix s.data.toList C.data.toList with _|_
   ·rw[if_pos j]at d
    rw[j]at p;subst d;clear j;go_in;go_wp2_with fail
    apply(p _).mono;rintro e aj⟨rfl,rfl⟩;go_wp2_with fail
    go_ret;exact⟨rfl,a9.refl _⟩
   ·rw[if_neg (by rw[j];decide)]at d
    rw[j]at p;obtain⟨G,c,ak,ag,F,A⟩:=oT s W;obtain⟨S,P⟩:=i6 F A;have D:(z7 s).length=s.size:=by simp[z7]
    obtain⟨y,Q,N⟩:=p7 D (show∀k(r:k<s.data.toList.length),(s.data.toList.drop k).any (fun b=>xX b.toNat)=(xX s.data.toList[k].toNat||(s.data.toList.drop (k+1)).any (fun b=>xX b.toNat))from fun k r=>by rw[List.drop_eq_getElem_cons r];rfl) (fun k(r:k<s.data.toList.length)(n:k<(z7 s).length)=>show(z7 s)[k]=(s.data.toList[k].toNat:Int) by simp[z7]);obtain⟨w,f⟩:∃w,w=s.data.toList.any (fun b=>xX b.toNat):=⟨_,rfl⟩;rw[←f]at d;have q:=a6 d;have an:s.data.toList.length=s.size:=by simp
    clear d A F D j m n;generalize s.data.toList=z at*;generalize z7 s=B at*;go_in;go_wp2_with fail
    apply(p _).mono;rintro e aj⟨rfl,rfl⟩;go_wp2_with fail
    clear ag;go_loopw [21] (fun i wr=>∃k:Nat,k≤s.size∧i=I M k∧w=(z.drop k).any (fun b=>xX b.toNat)∧a9 W wr∧a9 ak wr) (fun i _=>s.size-(intOf i).toNat)
    case atStart=>exact⟨0,by omega,rfl,f,S.out,a9.refl _⟩
    case round=>
     clear f;obtain⟨k,r,rfl,f,o,H⟩:=hrel;by_cases E:k<s.size
     ·have af:=(P.h H).cell (k:=k) (u:=I U8 (B[k]'(by rw[y.out];exact E))) (M2 (by rw[y.out];exact E))
      rw[N k (by omega),a4E]at af;rw[Q k (by omega)]at f;generalize ae:z[k]'(by omega)=b at*;generalize b.toNat=a at*;clear ae b;have k0:(0:Int)≤k:=by omega
      have k1:(k:Int)<s.size:=by omega
      have g:xX a=(Dc ((a:Int)<33)||decide ((126:Int)<a)||((a:Int)==47)):=by
       unfold xX;have ab:Dc ((a:Int)<33)=Dc (a<33):=decide_eq_decide.2 (by omega);have ac:Dc ((126:Int)<a)=Dc (126<a):=decide_eq_decide.2 (by omega);have ad:((a:Int)==47)=(a==47):=by rw[Bool.eq_iff_iff];simp;omega
       rw[ab,ac,ad]
      cases t:xX a
      ·rw[t]at f g
       have v:Dc ((a:Int)<33)=Bf:=by revert g;cases Dc ((a:Int)<33)<;>simp
       have x:Dc ((126:Int)<a)=Bf:=by revert g;rw[v];cases Dc ((126:Int)<a)<;>simp
       have al:((a:Int)==47)=Bf:=by revert g;rw[v,x];cases((a:Int)==47)<;>simp
       have L:=a6 f;clear f g t;go_wp2_with fail
       go_roundw
       case rel=>exact⟨k+1,by omega,by go_num,by rw[L.out];rfl,o,H⟩
       case measure=>simp[intOf];omega
      ·rw[t]at f g
       have h:=q.out;rw[f]at h;have l:=a6 h;clear h f q t;cases v:Dc ((a:Int)<33)
       ·cases x:Dc ((126:Int)<a)
        ·have al:((a:Int)==47)=Bt:=by rw[v,x]at g;exact g.symm
         clear g;go_wp2_with fail
         go_ret;exact⟨by rw[l.out];rfl,o⟩
        ·clear g
         go_wp2_with fail
         go_ret;exact⟨by rw[l.out];rfl,o⟩
       ·clear g
        go_wp2_with fail
        go_ret;exact⟨by rw[l.out];rfl,o⟩
     ·obtain rfl:k=s.size:=by omega
      have h:=q.out;rw[f,List.drop_eq_nil_of_le (by omega)]at h;have l:=a6 h;clear h f q;go_wp2_with fail
      go_ret;exact⟨by rw[l.out];rfl,o⟩
structure a1f where
 name:ByteArray
 dir:Int
 A:Option Ad
 n:Nat
 c:Nat
def q7:p6 a1f:=⟨3,fun f=>[Y f.name,I M f.dir,Z f.A f.n f.c],fun _=>rfl,by simp[Value.oneCell']⟩
theorem a2K(f:a1f)(g:f.name.size≤1000000)(W:Wd):Ca prog 57 (#[Ag (q7.c f).toArray]++ #[]) W fun e j=>e=X (O (!sG f.name))∧a9 W j:=by
 obtain⟨nm,d,a,n,c⟩:=f;have b:=a6 (a1L nm g);have h:=(a9.refl W).alloc (U #[Y nm,I M d,Z a n c] 24);show Ca prog 57 #[Ag #[Y nm,I M d,Z a n c]] W _;dsimp only;generalize sG nm=m at*;go_in;go_wp2_with fail
 apply(b _).mono;rintro e k⟨rfl,i⟩;go_wp2_with fail
 go_ret;exact⟨rfl,h.trans i⟩
def fU(a:List a1f):Int:=Z7 (fun f=> !sG f.name) a 0
theorem uH(b:Option Ad)(n c:Nat)(a:List a1f)(w:Wd)(h:a.length=n)(j:n≤1000000)(g:h9 w b (q7.row a))(i:∀f∈a,f.name.size≤1000000):
  Ca prog 32 #[Z b n c] w fun e d=>e=X (I M (fU a))∧a9 w d:=by
 have H:=a6 (show Ca prog 56 #[Z b n c,Fc (.func 57) #[] #[]] w fun e d=>e=X (I M (fU a))∧a9 w d from ixQ a1n q7 (by decide) isAgg24 sizeOf24 (fun f=> !sG f.name) 57 #[] (Eo func57 (by kernel_rfl) rfl) b n c a w (fun f k W _=>a2K f (i f k) W) h j g);generalize fU a=R at*;clear g i h;go_in;go_wp2_with fail
 apply H.mono;rintro e m⟨rfl,l⟩;go_wp2_with fail
 go_ret;exact⟨rfl,l⟩
def u8E:p6 Int:=⟨1,fun x=>[I U8 x],fun _=>rfl,by simp[Value.oneCell']⟩
theorem vJ:∀xs:List Int,u8E.row xs=i3 U8 xs
 |[]=>rfl
 |x::r=>by rw[p6.row_cons,vJ r];rfl
theorem u8T:mU prog 22 5 (I U8 0) 1 1:=⟨underlying22,by kernel_rfl,rfl,by decide,by decide⟩
theorem HJ(nm:ByteArray)(d:Int)(a:Option Ad)(n c:Nat)(xs:List Int)(w:Wd)(R:xs.length=n)(Q:n≤1000000)(s:h9 w a (i3 U8 xs)):
  Ca prog 50 #[Ag #[Y nm,I M d,Z a n c]] w fun e C=>∃v,e=X (Ag #[Y nm,I M d,v])∧e4 C w 5 u8E v xs∧a9 w C:=by
 subst R;have j:b9 ((w.alloc (U #[Y nm,I M d,Z a xs.length c] 24)).alloc (U #[Y ⟨#[]⟩,I M 0,Z J 0 0] 24)) w 24 #[Y nm,I M d,Z a xs.length c]:=(b9.new w _ _).alloc _;have r:b9 ((w.alloc (U #[Y nm,I M d,Z a xs.length c] 24)).alloc (U #[Y ⟨#[]⟩,I M 0,Z J 0 0] 24)) (w+1) 24 #[Y ⟨#[]⟩,I M 0,Z J 0 0]:=b9.b (by simp);have m:a9 w ((w.alloc (U #[Y nm,I M d,Z a xs.length c] 24)).alloc (U #[Y ⟨#[]⟩,I M 0,Z J 0 0] 24)):=((a9.refl w).alloc _).alloc _;have z:((w.alloc (U #[Y nm,I M d,Z a xs.length c] 24)).alloc (U #[Y ⟨#[]⟩,I M 0,Z J 0 0] 24)).heap.size=w.heap.size+2:=by simp
 have H:=a6 (show Ca prog 96 #[Z a xs.length c] _ _ from clE a1s u8E u8T sizeOf5 a c xs _ Q (by rw[vJ];exact s.h m));have S:=j.cell 2;obtain⟨h,L,N,q⟩:=J5 j r m z;clear s j r m z;go_in;go_wp2_with fail
 apply H.mono;rintro e D⟨v,rfl,l,b⟩;obtain⟨B,f,rfl⟩:=l.b;have E:=(h.h b).f 2 (Z B xs.length f);have ah:w+1≠w.heap.size:=by omega
 have F:=(L.h b).grown (x4 _ w 2 (Z B xs.length f)) (fun e=>by injection e;omega);have ac:=(h.h b).frozen 2;obtain⟨ad,ae,af⟩:=(h.h b).c3;obtain⟨T,aa,ab⟩:=E.c3;have ai:w+2≤D.heap.size:=by rw[←q.out];exact b.size
 have t:∀{W:Wd}(g i:Nat)(u:Va),g<w.heap.size+2→e4 W (w+2) 5 u8E (Z B xs.length f) xs→e4 (W.setCell ⟨g,i,J⟩ u) (w+2) 5 u8E (Z B xs.length f) xs:=fun g i u ag k=>k.kept (x4 _ _ _ u) (.inr fun e=>by have:=(k.lt e).1;omega)
 have A:=t w 2 (Z B xs.length f) (by omega) (l.mono (by rw[q.out];exact a7 _));have y:a9 w (D.setCell ⟨w,2,J⟩ (Z B xs.length f)):=(N.trans b).set (p:=⟨w,2,J⟩) (a7 _) _;obtain⟨o,P⟩:=i6 A y;clear A y t l b;go_wp2_with(refine c7 rfl 24 (Tm 2) (Tm 7) rfl (w+1) _ _ _ rfl rfl F rfl (by kernel_rfl) (by simp[Value.oneCell']) ?_;intro aj G x)
 refine Bp (g0 rfl _ _ _ _ _ _ rfl G underlying24 rfl (by kernel_rfl)) rfl ⟨_,rfl,(o.kept x (.inr fun e=> ?_)).mono (by omega),P.grown x (fun k e=>by cases e;omega)⟩;have:=(o.lt e).1;omega
section
open Go.MapKept
abbrev SV:=ByteArray×Va
def cN(s:ByteArray):List SV→Nat→Option (Nat×Va)
 |[],_=>J
 |p::r,i=>if s==p.1 then So (i,p.2)else cN s r (i+1)
def H0(L:List SV)(s:ByteArray):Option Va:=(cN s L 0).map (·.2)
def zY(L:List SV)(s:ByteArray)(v:Va):List SV:=match cN s L 0 with
 |none=>L++[(s,v)]
 |some (j,_)=>L.set j (s,v)
def E6(w:Wd)(g:Nat)(L:List SV):Prop:=∃b c,w.heap[g]? =So (.map b c)∧Stamped b c∧b.toList.map (fun e=>(e.key,e.val))=L.map fun p=>(Y p.1,p.2)
section
variable {P:Pg} {w w':Wd} {g:Nat} {L:List SV} {t k e:Ti}
theorem E6.lt(h:E6 w g L):g<w.heap.size:=let⟨_,_,h,_⟩:=h;(Array.getElem?_eq_some_iff.1 h).1
theorem E6.h(h:E6 w g L)(x:a9 w w'):E6 w' g L:=let⟨es,c,k,z,m⟩:=h;⟨es,c,(x.block h.lt).trans k,z,m⟩
theorem E6.grown{row:Option Nat}(b:E6 w g L)(x:w.grownBy w' row)(d:So g≠row):E6 w' g L:=let⟨es,c,k,z,m⟩:=b;⟨es,c,(x.block g b.lt d).trans k,z,m⟩
theorem E6.new(b:g=w):E6 (w.alloc (.map #[] 0)) g []:=by subst b;exact⟨#[],0,(heap_alloc w _).1,stamped_empty 0,rfl⟩
theorem kW(s:ByteArray):∀(b:List MapEntry)(L:List SV)(i:Nat),b.map (fun e=>(e.key,e.val))=L.map (fun p=>(Y p.1,p.2))→Instr.findNow .string (.string s) b i=So (cN s L i)
 |[],[],i,_=>rfl
 |[],_::_,i,h=>by cases h
 |_::_,[],i,h=>by cases h
 |e::b,p::L,i,h=>by
  simp only[List.map_cons,List.cons.injEq,Prod.mk.injEq]at h;obtain⟨⟨c,d⟩,f⟩:=h;have ih:=kW s b L (i+1) f;unfold Instr.findNow cN;rw[c];cases j:s==p.1<;>simp[Instr.sameNow,j,ih,d]
theorem xC(s:ByteArray):∀(L:List SV)(i j:Nat)(v:Va),cN s L i=So (j,v)→i≤j∧L[j-i]? =So (s,v)
 |[],i,j,v,h=>by cases h
 |p::L,i,j,v,h=>by
  unfold cN at h;cases c:s==p.1
  ·rw[c]at h
   obtain⟨d,b⟩:=xC s L (i+1) j v h;refine⟨by omega,?_⟩;rw[show j-i=(j-(i+1))+1 by omega];exact b
  ·rw[c]at h
   have e:=(bytes_beq s p.1).1 c;injection h with h
   injection h with d b
   subst d b;refine⟨a7 _,?_⟩;rw[Nat.sub_self,e];rfl
theorem tR(s:ByteArray):∀(L:List SV)(i:Nat),cN s L i=J→∀p∈L,p.1≠s
 |[],_,_,p,b=>by cases b
 |q::L,i,h,p,b=>by
  unfold cN at h;cases c:s==q.1
  ·rw[c]at h
   rcases List.mem_cons.1 b with rfl|b
   ·exact fun e=>by rw[e,(bytes_beq s s).2 rfl]at c;cases c
   ·exact tR s L (i+1) h p b
  ·rw[c]at h;cases h
theorem E6.look(m:E6 w g L)(i:P.underlying t=So (.map k e))(d:P.underlying k=So .string)(s:ByteArray){z:Va}(q:(zeroValue e).run P w= .ok z w):
  (Instr.lookup t (.map (So g)) (.string s) Bt).run P w= .ok (.tuple #[(H0 L s).getD z,.bool (H0 L s).isSome]) w:=by
 obtain⟨l,c,f,r,n⟩:=m;have b:=kW s l.toList L 0 n;have h:IsKey .string (.string s):=trivial;unfold H0;cases hi:cN s L 0 with
 |none=>
  rw[hi]at b;simp[Instr.lookup,run_underlying i,Go.MapKept.run_getObj_map f,Go.MapKept.run_checkKey d h,Go.MapKept.run_findKey d b,q,Result.andThen]
 |some p=>
  obtain⟨j,v⟩:=p;rw[hi]at b;simp[Instr.lookup,run_underlying i,Go.MapKept.run_getObj_map f,Go.MapKept.run_checkKey d h,Go.MapKept.run_findKey d b,Result.andThen]
theorem E6.put(N:E6 w g L)(G:P.underlying t=So (.map k e))(z:P.underlying k=So .string)(s:ByteArray)(v:Va):
  ∃w',(Instr.mapUpdate t (.map (So g)) (.string s) v).run P w= .ok () w'∧E6 w' g (zY L s v)∧w.grownBy w' (So g):=by
 obtain⟨b,c,d,H,n⟩:=N;have y:=kW s b.toList L 0 n;have C:IsKey .string (.string s):=trivial;have F:∀o,w.grownBy {w with heap:=w.heap.setIfInBounds g o} (So g):=fun o=>⟨rfl,rfl,rfl,by simp,fun i _ hi=>(heap_set d).2 i fun e=>hi (by rw[e])⟩
 unfold zY;cases hi:cN s L 0 with
 |none=>
  rw[hi]at y;exact⟨{w with heap:=w.heap.setIfInBounds g (.map (b.push {key:= .string s,val:=v,born:=c}) (c+1))},by simp[Instr.mapUpdate,run_underlying G,Go.MapKept.run_getObj_map d,Go.MapKept.run_checkKey z C,Go.MapKept.run_findKey z y,Go.MapKept.run_setObj_map _ d,Result.andThen],⟨_,_,(heap_set d).1,stamped_push H (fun x aa e=>by
   have:(x.key,x.val)∈L.map fun p=>(Y p.1,p.2):=by rw[←n];exact List.mem_map.2 ⟨x,aa,rfl⟩
   obtain⟨q,W,r⟩:=List.mem_map.1 this;injection r with r e3
   rw[e]at r;exact tR s L 0 hi q W (by injection r)),by simp[n]⟩,F _⟩
 |some p=>
  obtain⟨j,u⟩:=p;rw[hi]at y;obtain⟨-,A⟩:=xC s L 0 j u hi;rw[Nat.sub_zero]at A;have S:∃f,b[j]? =So f∧f.key= .string s:=by
   have:=congrArg (fun l=>l[j]?) n;simp only[List.getElem?_map,A,Option.map_some]at this;obtain⟨f,h,m⟩:=Option.map_eq_some_iff.1 this;injection m with m D
   exact⟨f,by simpa using h,m⟩
  obtain⟨f,h,m⟩:=S;refine⟨{w with heap:=w.heap.setIfInBounds g (.map (b.modify j fun e=> {e with key:= .string s,val:=v}) c)},by simp[Instr.mapUpdate,run_underlying G,Go.MapKept.run_getObj_map d,Go.MapKept.run_checkKey z C,Go.MapKept.run_findKey z y,h,m,Go.MapKept.run_keyThatStays C,Go.MapKept.run_setObj_map _ d,Result.andThen],⟨_,_,(heap_set d).1,stamped_modify H _ _ (fun _ _=>rfl) (fun ab _ E=>by rw[h]at E;cases E;exact m.symm),?_⟩,F _⟩;apply List.ext_getElem?;intro i;have B:=congrArg (fun l=>l[i]?) n;simp only[List.getElem?_map]at B;by_cases e:j=i
  ·subst e
   have T:j<L.length:=(List.getElem?_eq_some_iff.1 A).1;have D:b.toList[j]? =So f:=by simpa using h
   simp[Array.getElem?_modify,List.getElem?_map,h,D,T]
  ·have R:b.toList[i]? =b[i]? :=by simp
   rw[R]at B;simp[List.getElem?_map,Array.getElem?_modify,e,B]
variable {ops:Array Oper} {rest:List Oper} {o:Oper} {a:Act} {Q:Exit→Act→Wd→Prop}
theorem V9(h:o.guard=J)(m x v:Operand)(t k e:Ti)(b:o.op=Op.mapUpdate t m x v∨o.op=Op.insert t m x v)(n:P.underlying t=So (.map k e))(i:P.underlying k=So .string)(g:Nat)(L:List SV)(j:a.eval m= .map (So g))(f:E6 w g L)(s:ByteArray)(q:a.eval x= .string s)(u:Va)(p:a.eval v=u)
  (c:∀w',E6 w' g (zY L s u)→w.grownBy w' (So g)→Wp P ops Q rest (a.put o.dst Un) w'):Wp P ops Q (o::rest) a w:=by
 refine wpList_plain h fun z d=> ?_
 obtain⟨w',l,r,y⟩:=f.put n i s u;unfold Oper.wp;rcases b with b|b<;>
 ·simp[execOp,b,j,q,p,l,Result.andThen]
  exact d _ _ (c w' r y)
theorem A4(f:o.guard=J)(m x:Operand)(t k e:Ti)(j:o.op=Op.lookup t m x Bt)(n:P.underlying t=So (.map k e))(h:P.underlying k=So .string)(z:Va)(q:∀w,(zeroValue e).run P w= .ok z w)(g:Nat)(L:List SV)(i:a.eval m= .map (So g))(d:E6 w g L)(s:ByteArray)(p:a.eval x= .string s)
  (b:Wp P ops Q rest (a.put o.dst (.tuple #[(H0 L s).getD z,.bool (H0 L s).isSome])) w):Wp P ops Q (o::rest) a w:=by
 refine wpList_plain f fun r c=> ?_
 have l:=d.look n h s (q w);unfold Oper.wp;simp[execOp,j,i,p,l,Result.andThen];exact c _ _ b
end
end
section
open Go.MapKept
open Go.ChangeMaps (setBlock heap_setBlock_same heap_setBlock_other)
attribute [local go_sem] Oper.semAt_some
def o4(f:a1f):Va:=Ag #[Y f.name,I M f.dir,Z f.A f.n f.c]
def HO:Va→a1f
 |Ag cs=>match cs.toList with
  |[Y n,I _ d,Z A m c]=>⟨n,d,A,m,c⟩
  |_=>⟨⟨#[]⟩,0,J,0,0⟩
 |_=>⟨⟨#[]⟩,0,J,0,0⟩
theorem a2z(f:a1f):HO (o4 f)=f:=rfl
theorem AG{d g:Type}[DecidableEq g](f:d→g):∀(l:List d)(e:d),(l.map f).Nodup→e∈l→l.Perm (e::l.filter fun x=> !(f x==f e))
 |[],e,_,a=>by cases a
 |x::l,e,hn,a=>by
  rw[List.map_cons,List.nodup_cons]at hn;by_cases b:f x=f e
  ·have j:x=e:=by
    rcases List.mem_cons.1 a with a|a
    ·exact a.symm
    ·exact absurd (List.mem_map.2 ⟨e,a,b.symm⟩) hn.1
   subst j;have h:l.filter (fun c=> !(f c==f x))=l:=List.filter_eq_self.2 fun c k=>by
    have:f c≠f x:=fun q=>hn.1 (List.mem_map.2 ⟨c,k,q⟩)
    simpa using this
   rw[List.filter_cons,h];simp
  ·have i:e∈l:=by
    rcases List.mem_cons.1 a with a|a
    ·rw[a]at b;exact absurd rfl b
    ·exact a
   have ih:=AG f l e hn.2 i;rw[List.filter_cons];have:(!(f x==f e))=Bt:=by simpa using b
   rw[if_pos this];exact(ih.cons x).trans (List.Perm.swap e x _)
theorem GL{a:Array MapEntry}{b:Array Nat}(h:(a.toList.map (·.born)).Nodup){e:MapEntry}(g:e∈(leftOf a b).toList):(leftOf a b).toList.Perm (e::(leftOf a (b.push e.born)).toList):=by
 have f:((leftOf a b).toList.map (·.born)).Nodup:=by
  unfold leftOf;rw[Array.toList_filter];exact(List.filter_sublist.map _).nodup h
 have d:(leftOf a (b.push e.born)).toList=(leftOf a b).toList.filter fun x=> !(x.born==e.born):=by
  unfold leftOf;rw[Array.toList_filter,Array.toList_filter,List.filter_filter];congr 1;funext x;by_cases c:x.born=e.born
  ·simp[c]
  ·have d:¬e.born=x.born:=fun q=>c q.symm
   simp[c,d]
 rw[d];exact AG (·.born) _ e f g
theorem GK(a:Array MapEntry):(leftOf a #[]).toList=a.toList:=by
 unfold leftOf;simp
theorem oY{w:Wd}{r:Nat}{c:Obj}(a:Obj)(b:w.heap[r]? =So c):w.grownBy (setBlock w r a) (So r)∧(setBlock w r a).heap[r]? =So a:=
 ⟨⟨rfl,rfl,rfl,by simp[setBlock],fun i _ hi=>(heap_set b).2 i (fun e=>hi (by rw[e]))⟩,(heap_set b).1⟩
theorem EL(l gb b B:Nat)(c:Array MapEntry)(a:Nat)(h:List a1f)(F:Stamped c a)(E:c.toList.map (·.val)=h.map o4)(Jq:List a1f→Wd→Prop)(s:AbidesFrom B Jq)
  (R:∀g x W,Jq g W→g.length<h.length→YieldAt .wide 1 prog l #[o4 x] W fun e W'=>e=X (O Bt)∧Jq (g++[x]) W'∧KeepsWalks W W')
  (W:Wd) (bg:B≤W) (A:W.cell? ⟨gb,0,J⟩=So (.map (So b))) (t:W.heap[b]? =So (.map c a)) (p:Jq [] W):
  Ci .wide 2 prog 98 #[Fc (.yield l) #[] #[],K gb] W fun e W'=>(∃v,e=X v)∧∃ys,ys.Perm h∧Jq ys W':=by
 have o:=run_range_map (P:=prog) W 121 9 24 b c a underlying121 t;have ar:=(Array.getElem?_eq_some_iff.1 t).1;refine Co func98 rfl trivial ?_ rfl;simp only[ntmps98,uE,l9,a4D]
 gi_wp2
 have al:(W.alloc (.mapIter (So b) a #[] a)).heap[W.heap.size]? =So (.mapIter (So b) a #[] a):=(heap_alloc W _).1;have ak:(W.alloc (.mapIter (So b) a #[] a)).heap[b]? =So (.map c a):=((heap_alloc W _).2 b ar).trans t;have ai:Jq [] (W.alloc (.mapIter (So b) a #[] a)):=s _ _ _ J p (World.grownBy_alloc _ _ J) (fun r e=>by cases e);clear o A t p;have af:((leftOf c #[]).toList.map fun e=>HO e.val)=h:=by
  have:=congrArg (List.map HO) E;rw[List.map_map,List.map_map]at this;rw[GK];exact this.trans ((List.map_congr_left fun f _=>a2z f).trans (List.map_id h))
 have ag:∀e∈c.toList,e.val=o4 (HO e.val):=fun e i=>by
  have:e.val∈h.map o4:=by rw[←E];exact List.mem_map.2 ⟨e,i,rfl⟩
  obtain⟨f,_,q⟩:=List.mem_map.1 this;rw[←q,a2z]
 generalize az:W.heap.size=r at*;clear E az
 gi_loopw [8] (fun bh wr=>∃(g:List a1f)(d:Array Nat)(k:Nat),a≤k∧wr.heap[r]? =So (.mapIter (So b) a d k)∧wr.heap[b]? =So (.map c a)∧(g++(leftOf c d).toList.map fun e=>HO e.val).Perm h∧Jq g wr) (fun _ wr=>match wr.heap[r]? with|some (.mapIter _ _ d _)=>(leftOf c d).size|_=>0)
 case atStart=>exact⟨[],#[],a,a7 _,al,ak,by rw[af];exact List.Perm.refl _,ai⟩
 case round=>
  clear al ak ai af;obtain⟨g,d,k,aq,u,D,n,C⟩:=hrel;rcases run_next_at (P:=prog) wr 0 r b a k d c a u D F.1 aq with⟨p,o⟩|⟨e,i,j,y,o⟩
  ·have ax:(leftOf c d).toList=[]:=List.eq_nil_of_length_eq_zero (by simpa using p)
   rw[ax,List.map_nil,List.append_nil]at n
   gi_wp2
   go_end0
   exact⟨⟨_,rfl⟩,g,n,C⟩
  ·have ac:=mem_left i
   have ae:=GL F.2.1 i;have ad:=left_shrinks c d e i;have av:g.length<h.length:=by
    have:=n.length_eq;have A:0<(leftOf c d).toList.length:=List.length_pos_of_mem i;simp at this A⊢;omega
   have Q:wr.grownBy j J:=by
    rcases y with rfl|rfl
    ·exact World.grownBy.refl _ _
    ·exact B1 _
   have w:j.heap[r]? =So (.mapIter (So b) a d k):=by rcases y with rfl|rfl<;>exact u
   have m:j.heap[b]? =So (.map c a):=by rcases y with rfl|rfl<;>exact D
   obtain⟨z,H⟩:=oY (.mapIter (So b) a (d.push e.born) a) w;have aw:b≠r:=fun q=>by rw[q,w]at m;cases m
   have G:(setBlock j r (.mapIter (So b) a (d.push e.born) a)).heap[b]? =So (.map c a):=(z.block b (Array.getElem?_eq_some_iff.1 m).1 (fun q=>by injection q with q;exact aw q)).trans m;have S:=run_entry_at (P:=prog) _ r b a d c a e H G ac.1 F.2.1;have aj:Jq g (setBlock j r (.mapIter (So b) a (d.push e.born) a)):=s _ _ _ (So r) (s _ _ _ J C Q (fun _ q=>by cases q)) z (fun q ay=>by cases ay;exact⟨by omega,_,w,rfl⟩);have ah:=ag e ac.1;generalize setBlock j r (.mapIter (So b) a (d.push e.born) a)=L at*;obtain⟨ab,ba,N,am,an⟩:=gP (((ae.map (fun e=>HO e.val)).append_left g).symm.trans n) ad H G u;clear n ae ad i H G u D C Q z w m y;generalize T:HO e.val=f at*;rw[ah]at o S;have au:Hid (((g++[f])++((leftOf c (d.push e.born)).toList.map fun e=>HO e.val)).Perm h):=a6 (by rw[←T,a4s];exact ab.out);obtain⟨bf,tmps,bc,bd,bb,ap⟩:=R g f (L.alloc (U #[Y f.name,I M f.dir,Z f.A f.n f.c] 24)) (s _ _ _ J aj (World.grownBy_alloc _ _ J) (fun r e=>by cases e)) av;unfold o4 at o S bb;clear ab aj ah T R ag
   gi_wp2
   apply ap.mono;rintro be W3⟨rfl,ao,aa⟩
   gi_wp2
   go_roundw
   case rel=>
    have k3:=(KeepsWalks.alloc L (U #[Y f.name,I M f.dir,Z f.A f.n f.c] 24)).trans aa;exact⟨g++[f],d.push e.born,a,a7 _,k3.same _ _ N rfl,k3.same _ _ am rfl,au.out,ao⟩
   case measure=>
    have k3:=(KeepsWalks.alloc L (U #[Y f.name,I M f.dir,Z f.A f.n f.c] 24)).trans aa;rw[k3.same _ _ N rfl,an.out];exact ba.out
end
theorem uT(a:Int):Y3 a=(P1,Bf)∨∃e∈M9,a=e.code∧Y3 a=(e,Bt):=by
 unfold Y3 T9;cases h:M9.find? (fun e=>e.code==a)with
 |none=>exact .inl rfl
 |some e=>
  have:=List.find?_some h;exact .inr ⟨e,List.mem_of_find?_eq_some h,by simpa using(beq_iff_eq.1 this).symm,rfl⟩
def j7(c:Int):Int:=(Y3 c).1.cls
def EF(i:i2):Bool:= !(Y3 i.code).2
def mV(i:i2):Bool:=i.code==32&&((i.k % 4 !=0)||decide (64≤i.k))
def LN(i:i2):Bool:=(i.code==96||i.code==97||j7 i.code==2)&&Dc (16≤i.k)
def QX(i:i2):Bool:=i.code==52&&i.k==0
def RK(i:i2):Bool:=(i.code==100||i.code==116)&&Dc (31<i.k)
def ZU(i:i2)(l:Int):Bool:=if i.code==5 then Dc (l≤i.k)else(j7 i.code==4&&Dc (l≤max i.jt i.jf))
theorem IV(i:i2)(l:Int)(W:Wd):Ca prog 272 #[i.val,I M l] W fun e f=>e=X (O (EF i))∧a9 W f:=by
 have a:=a6 (fun W=>OR i.code W);have c:=(a9.refl W).alloc (U #[I U1 i.code,I U8 i.jt,I U8 i.jf,I V i.k] 116);unfold EF;unfold i2.val i2.cells;obtain⟨co,h,g,k⟩:=i;dsimp only at*;generalize(Y3 co).2=b at*;go_in;go_wp2_with fail
 apply(a _).mono;rintro e j⟨rfl,d⟩;go_wp2;go_ret;exact⟨rfl,c.trans d⟩
theorem IU(i:i2)(hi:i.ok)(l:Int)(W:Wd):Ca prog 274 #[i.val,I M l] W fun e b=>e=X (O (mV i))∧a9 W b:=by
 have a:=(a9.refl W).alloc (U #[I U1 i.code,I U8 i.jt,I U8 i.jf,I V i.k] 116);have k0:=hi.2.2.2.1;unfold mV;unfold i2.val i2.cells;obtain⟨co,h,g,k⟩:=i;dsimp only at*;rcases c:(co==32)with _|_<;>rcases d:(k % 4 !=0)with _|_<;>rcases f:Dc (64≤k)with _|_
 all_goals
  go_in;go_wp2;go_ret;exact⟨rfl,a⟩
theorem IT(i:i2)(l:Int)(W:Wd):Ca prog 275 #[i.val,I M l] W fun e d=>e=X (O (LN i))∧a9 W d:=by
 have c:=a6 (fun W=>y7 i.code W);have a:=(a9.refl W).alloc (U #[I U1 i.code,I U8 i.jt,I U8 i.jf,I V i.k] 116);have B:=b9.new W 116 #[I U1 i.code,I U8 i.jt,I U8 i.jf,I V i.k];unfold LN j7;unfold i2.val i2.cells;obtain⟨co,n,m,k⟩:=i;dsimp only at*;generalize(Y3 co).1.cls=q at*;rcases f:(co==96)with _|_<;>rcases g:(co==97)with _|_<;>rcases h:(q==2)with _|_<;>rcases j:Dc (16≤k)with _|_
 all_goals
  go_in;go_wp2_with(go_at_call 46;apply(c _).mono;rintro e p⟨rfl,b⟩;have o:=(B.h b).cell 3;replace a:=a.trans b)
  go_ret;exact⟨rfl,a⟩
theorem IS(i:i2)(l:Int)(W:Wd):Ca prog 276 #[i.val,I M l] W fun e b=>e=X (O (QX i))∧a9 W b:=by
 have a:=(a9.refl W).alloc (U #[I U1 i.code,I U8 i.jt,I U8 i.jf,I V i.k] 116);unfold QX;unfold i2.val i2.cells;obtain⟨co,g,f,k⟩:=i;dsimp only at*;rcases c:(co==52)with _|_<;>rcases d:(k==0)with _|_
 all_goals
  go_in;go_wp2;go_ret;exact⟨rfl,a⟩
theorem IR(i:i2)(l:Int)(W:Wd):Ca prog 277 #[i.val,I M l] W fun e b=>e=X (O (RK i))∧a9 W b:=by
 have a:=(a9.refl W).alloc (U #[I U1 i.code,I U8 i.jt,I U8 i.jf,I V i.k] 116);unfold RK;unfold i2.val i2.cells;obtain⟨co,h,g,k⟩:=i;dsimp only at*;rcases c:(co==100)with _|_<;>rcases d:(co==116)with _|_<;>rcases f:Dc (31<k)with _|_
 all_goals
  go_in;go_wp2;go_ret;exact⟨rfl,a⟩
theorem IQ(i:i2)(hi:i.ok)(l:Int)(W:Wd):Ca prog 278 #[i.val,I M l] W fun e h=>e=X (O (ZU i l))∧a9 W h:=by
 have c:=a6 (fun W=>y7 i.code W);have a:=(a9.refl W).alloc (U #[I U1 i.code,I U8 i.jt,I U8 i.jf,I V i.k] 116);have B:=b9.new W 116 #[I U1 i.code,I U8 i.jt,I U8 i.jf,I V i.k];have u:IntKind.i64.wrap i.k=i.k:=a37 _ (by have:=hi.2.2.2;omega);have p:=hi.2.1.1;have r:=hi.2.1.2;have j:=hi.2.2.1.1;have m:=hi.2.2.1.2;have k0:=hi.2.2.2.1;have k1:i.k<4294967296:=by have:=hi.2.2.2.2;omega
 unfold ZU j7;unfold i2.val i2.cells;obtain⟨co,g,f,k⟩:=i;dsimp only at*;generalize(Y3 co).1.cls=q at*;rcases n:(co==5)with _|_
 ·rcases o:(q==4)with _|_<;>rcases d:Dc (l≤max g f)with _|_
  all_goals
   go_in;go_wp2_with(go_at_call 46;apply(c _).mono;rintro e v⟨rfl,b⟩;have s:=(B.h b).cell 1;have t:=(B.h b).cell 2;replace a:=a.trans b)
   go_ret;exact⟨rfl,a⟩
 ·rcases d:Dc (l≤k)with _|_
  all_goals
   go_in;go_wp2;go_ret;exact⟨rfl,a⟩
def fn0(f:Nat):Va:=Fc (.func f) #[] #[]
def wrA:Array Va:= #[I M 40,fn0 272,I M 41,fn0 274,I M 43,fn0 275,I M 44,fn0 276,I M 45,fn0 277,I M 42,fn0 278]
def wrV:Va:=Ag wrA
theorem EE(W:Wd):Ca prog 205 #[] W fun e a=>e=X wrV∧a9 W a:=by
 have b:∀W,(Go.sizeOf 324).run prog W= .ok 12 W:=fun _=>by kernel_rfl
 go_in;go_wp2;exact Bp (g0 rfl _ _ W 324 _ _ rfl (b9.b rfl) underlying324 rfl (by kernel_rfl)) rfl ⟨rfl,(a9.refl W).alloc _⟩
def DX(i:i2)(l:Int):Nat→Bool
 |0=>EF i
 |1=>mV i
 |2=>LN i
 |3=>QX i
 |4=>RK i
 |5=>ZU i l
 |_=>Bf
def LM:Nat→Int
 |0=>40
 |1=>41
 |2=>43
 |3=>44
 |4=>45
 |_=>42
def gG(i:i2)(l:Int):Int:=
 if EF i then 40 else if mV i then 41 else if LN i then 43 else if QX i then 44 else if RK i then 45 else if ZU i (max l 0)then 42 else 0
theorem a0Z{i:i2}{l:Int}(k:Nat)(c:k<6)(d:∀j,j<k→DX i (max l 0) j=Bf)(a:DX i (max l 0) k=Bt):gG i l=LM k:=by
 have n:=fun j(b:j<k)=>d j b
 match k,c with
 |0,_=>unfold gG;simp only[show EF i=Bt from a,if_true];rfl
 |1,_=>unfold gG;simp[show EF i=Bf from n 0 (by omega),show mV i=Bt from a,LM]
 |2,_=>unfold gG;simp[show EF i=Bf from n 0 (by omega),show mV i=Bf from n 1 (by omega),show LN i=Bt from a,LM]
 |3,_=>unfold gG;simp[show EF i=Bf from n 0 (by omega),show mV i=Bf from n 1 (by omega),show LN i=Bf from n 2 (by omega),show QX i=Bt from a,LM]
 |4,_=>unfold gG;simp[show EF i=Bf from n 0 (by omega),show mV i=Bf from n 1 (by omega),show LN i=Bf from n 2 (by omega),show QX i=Bf from n 3 (by omega),show RK i=Bt from a,LM]
 |5,_=>unfold gG;simp[show EF i=Bf from n 0 (by omega),show mV i=Bf from n 1 (by omega),show LN i=Bf from n 2 (by omega),show QX i=Bf from n 3 (by omega),show RK i=Bf from n 4 (by omega),show ZU i (max l 0)=Bt from a,LM]
theorem a0Y{i:i2}{l:Int}(n:∀j,j<6→DX i (max l 0) j=Bf):gG i l=0:=by
 unfold gG;simp[show EF i=Bf from n 0 (by omega),show mV i=Bf from n 1 (by omega),show LN i=Bf from n 2 (by omega),show QX i=Bf from n 3 (by omega),show RK i=Bf from n 4 (by omega),show ZU i (max l 0)=Bf from n 5 (by omega)]
def wrF:Nat→Nat
 |0=>272
 |1=>274
 |2=>275
 |3=>276
 |4=>277
 |_=>278
theorem RJ:∀(k:Nat)(a:k<6)(W:Wd),(Instr.index 324 wrV (I M k)).run prog W= .ok (Ag #[I M (LM k),Fc (.func (wrF k)) #[] #[]]) W
 |0,_,W=>by kernel_rfl
 |1,_,W=>by kernel_rfl
 |2,_,W=>by kernel_rfl
 |3,_,W=>by kernel_rfl
 |4,_,W=>by kernel_rfl
 |5,_,W=>by kernel_rfl
theorem YR(i:i2)(hi:i.ok)(l:Int)(W:Wd):Ca prog 132 #[i.val,I M l] W fun e Q=>e=X (I M (gG i l))∧a9 W Q:=by
 obtain⟨r,N,q,y⟩:=J5 (fun(k:Nat)(H:k<6)(W:Wd)=>RJ k H W) (fun W:Wd=>EE W) (fun(k:Nat)(H:k<6)=>a0Z (i:=i) (l:=l) k H) (a0Y (i:=i) (l:=l));have G:=(a9.refl W).alloc (U #[I U1 i.code,I U8 i.jt,I U8 i.jf,I V i.k] 116);have m:=b9.new W 116 #[I U1 i.code,I U8 i.jt,I U8 i.jf,I V i.k];generalize wrV=E at*;obtain⟨co,g,f,kk⟩:=i;generalize p:gG ⟨co,g,f,kk⟩ l=R at*;unfold i2.val i2.cells;dsimp only at G m⊢;go_in;go_wp2_with fail
 apply(N _).mono;rintro e S⟨rfl,L⟩;replace G:=G.trans L;replace m:=m.h L;clear L p;go_wp2_with fail
 go_loopw [8] (fun i wr=>∃k:Nat,k≤6∧i=I M k∧(∀j,j<k→DX ⟨co,g,f,kk⟩ (max l 0) j=Bf)∧a9 W wr∧b9 wr W 116 #[I U1 co,I U8 g,I U8 f,I V kk]) (fun i _=>6-(intOf i).toNat)
 case atStart=>exact⟨0,by decide,rfl,fun j z=>absurd z (by omega),G,m⟩
 case round=>
  clear G m;obtain⟨k,H,rfl,n,h,m⟩:=hrel;by_cases P:k<6
  ·match k,P with
   |0,_=>
    have s:∀W,(Instr.index 324 E (I M 0)).run prog W= .ok (Ag #[I M 40,Fc (.func 272) #[] #[]]) W:=fun W=>r 0 (by decide) W
    have o:=b9.new wr 323 #[I M 40,Fc (.func 272) #[] #[]];have d:=(a9.refl wr).alloc (U #[I M 40,Fc (.func 272) #[] #[]] 323);obtain⟨u,v,w,x⟩:=(m.h d).c4;rcases c:DX ⟨co,g,f,kk⟩ (max l 0) 0 with _|_
    ·have a:=a6 (fun W=>IV ⟨co,g,f,kk⟩ (max l 0) W)
     rw[show EF ⟨co,g,f,kk⟩=Bf from c]at a;have t:∀j,j<0+1→DX ⟨co,g,f,kk⟩ (max l 0) j=Bf:=fun j z=>by
      rcases Nat.lt_succ_iff_lt_or_eq.1 z with C|rfl
      ·exact n j C
      ·exact c
     have B:=a6 t;clear n t q y r c;go_wp2_with fail
     apply(a _).mono;rintro e D⟨rfl,b⟩;have A:=(m.h d).h b;replace h:=h.trans (d.trans b);clear u v w x o d b m a s;go_wp2
     go_roundw
     case rel=>exact⟨0+1,by decide,rfl,B.out,h,A⟩
     case measure=>simp[intOf]
    ·have a:=a6 (fun W=>IV ⟨co,g,f,kk⟩ (max l 0) W)
     rw[show EF ⟨co,g,f,kk⟩=Bt from c]at a;have p:=q 0 (by decide) n c;rw[show LM 0=40 from rfl]at p;subst p;clear n q y r c;go_wp2_with fail
     apply(a _).mono;rintro e D⟨rfl,b⟩;have F:=(o.h b).cell 0;replace h:=h.trans (d.trans b);clear u v w x o d b m a s;go_wp2;go_ret;exact⟨rfl,h⟩
   |1,_=>
    have s:∀W,(Instr.index 324 E (I M 1)).run prog W= .ok (Ag #[I M 41,Fc (.func 274) #[] #[]]) W:=fun W=>r 1 (by decide) W
    have o:=b9.new wr 323 #[I M 41,Fc (.func 274) #[] #[]];have d:=(a9.refl wr).alloc (U #[I M 41,Fc (.func 274) #[] #[]] 323);obtain⟨u,v,w,x⟩:=(m.h d).c4;rcases c:DX ⟨co,g,f,kk⟩ (max l 0) 1 with _|_
    ·have a:=a6 (fun W=>IU ⟨co,g,f,kk⟩ hi (max l 0) W)
     rw[show mV ⟨co,g,f,kk⟩=Bf from c]at a;have t:∀j,j<1+1→DX ⟨co,g,f,kk⟩ (max l 0) j=Bf:=fun j z=>by
      rcases Nat.lt_succ_iff_lt_or_eq.1 z with C|rfl
      ·exact n j C
      ·exact c
     have B:=a6 t;clear n t q y r c;go_wp2_with fail
     apply(a _).mono;rintro e D⟨rfl,b⟩;have A:=(m.h d).h b;replace h:=h.trans (d.trans b);clear u v w x o d b m a s;go_wp2
     go_roundw
     case rel=>exact⟨1+1,by decide,rfl,B.out,h,A⟩
     case measure=>simp[intOf]
    ·have a:=a6 (fun W=>IU ⟨co,g,f,kk⟩ hi (max l 0) W)
     rw[show mV ⟨co,g,f,kk⟩=Bt from c]at a;have p:=q 1 (by decide) n c;rw[show LM 1=41 from rfl]at p;subst p;clear n q y r c;go_wp2_with fail
     apply(a _).mono;rintro e D⟨rfl,b⟩;have F:=(o.h b).cell 0;replace h:=h.trans (d.trans b);clear u v w x o d b m a s;go_wp2;go_ret;exact⟨rfl,h⟩
   |2,_=>
    have s:∀W,(Instr.index 324 E (I M 2)).run prog W= .ok (Ag #[I M 43,Fc (.func 275) #[] #[]]) W:=fun W=>r 2 (by decide) W
    have o:=b9.new wr 323 #[I M 43,Fc (.func 275) #[] #[]];have d:=(a9.refl wr).alloc (U #[I M 43,Fc (.func 275) #[] #[]] 323);obtain⟨u,v,w,x⟩:=(m.h d).c4;rcases c:DX ⟨co,g,f,kk⟩ (max l 0) 2 with _|_
    ·have a:=a6 (fun W=>IT ⟨co,g,f,kk⟩ (max l 0) W)
     rw[show LN ⟨co,g,f,kk⟩=Bf from c]at a;have t:∀j,j<2+1→DX ⟨co,g,f,kk⟩ (max l 0) j=Bf:=fun j z=>by
      rcases Nat.lt_succ_iff_lt_or_eq.1 z with C|rfl
      ·exact n j C
      ·exact c
     have B:=a6 t;clear n t q y r c;go_wp2_with fail
     apply(a _).mono;rintro e D⟨rfl,b⟩;have A:=(m.h d).h b;replace h:=h.trans (d.trans b);clear u v w x o d b m a s;go_wp2
     go_roundw
     case rel=>exact⟨2+1,by decide,rfl,B.out,h,A⟩
     case measure=>simp[intOf]
    ·have a:=a6 (fun W=>IT ⟨co,g,f,kk⟩ (max l 0) W)
     rw[show LN ⟨co,g,f,kk⟩=Bt from c]at a;have p:=q 2 (by decide) n c;rw[show LM 2=43 from rfl]at p;subst p;clear n q y r c;go_wp2_with fail
     apply(a _).mono;rintro e D⟨rfl,b⟩;have F:=(o.h b).cell 0;replace h:=h.trans (d.trans b);clear u v w x o d b m a s;go_wp2;go_ret;exact⟨rfl,h⟩
   |3,_=>
    have s:∀W,(Instr.index 324 E (I M 3)).run prog W= .ok (Ag #[I M 44,Fc (.func 276) #[] #[]]) W:=fun W=>r 3 (by decide) W
    have o:=b9.new wr 323 #[I M 44,Fc (.func 276) #[] #[]];have d:=(a9.refl wr).alloc (U #[I M 44,Fc (.func 276) #[] #[]] 323);obtain⟨u,v,w,x⟩:=(m.h d).c4;rcases c:DX ⟨co,g,f,kk⟩ (max l 0) 3 with _|_
    ·have a:=a6 (fun W=>IS ⟨co,g,f,kk⟩ (max l 0) W)
     rw[show QX ⟨co,g,f,kk⟩=Bf from c]at a;have t:∀j,j<3+1→DX ⟨co,g,f,kk⟩ (max l 0) j=Bf:=fun j z=>by
      rcases Nat.lt_succ_iff_lt_or_eq.1 z with C|rfl
      ·exact n j C
      ·exact c
     have B:=a6 t;clear n t q y r c;go_wp2_with fail
     apply(a _).mono;rintro e D⟨rfl,b⟩;have A:=(m.h d).h b;replace h:=h.trans (d.trans b);clear u v w x o d b m a s;go_wp2
     go_roundw
     case rel=>exact⟨3+1,by decide,rfl,B.out,h,A⟩
     case measure=>simp[intOf]
    ·have a:=a6 (fun W=>IS ⟨co,g,f,kk⟩ (max l 0) W)
     rw[show QX ⟨co,g,f,kk⟩=Bt from c]at a;have p:=q 3 (by decide) n c;rw[show LM 3=44 from rfl]at p;subst p;clear n q y r c;go_wp2_with fail
     apply(a _).mono;rintro e D⟨rfl,b⟩;have F:=(o.h b).cell 0;replace h:=h.trans (d.trans b);clear u v w x o d b m a s;go_wp2;go_ret;exact⟨rfl,h⟩
   |4,_=>
    have s:∀W,(Instr.index 324 E (I M 4)).run prog W= .ok (Ag #[I M 45,Fc (.func 277) #[] #[]]) W:=fun W=>r 4 (by decide) W
    have o:=b9.new wr 323 #[I M 45,Fc (.func 277) #[] #[]];have d:=(a9.refl wr).alloc (U #[I M 45,Fc (.func 277) #[] #[]] 323);obtain⟨u,v,w,x⟩:=(m.h d).c4;rcases c:DX ⟨co,g,f,kk⟩ (max l 0) 4 with _|_
    ·have a:=a6 (fun W=>IR ⟨co,g,f,kk⟩ (max l 0) W)
     rw[show RK ⟨co,g,f,kk⟩=Bf from c]at a;have t:∀j,j<4+1→DX ⟨co,g,f,kk⟩ (max l 0) j=Bf:=fun j z=>by
      rcases Nat.lt_succ_iff_lt_or_eq.1 z with C|rfl
      ·exact n j C
      ·exact c
     have B:=a6 t;clear n t q y r c;go_wp2_with fail
     apply(a _).mono;rintro e D⟨rfl,b⟩;have A:=(m.h d).h b;replace h:=h.trans (d.trans b);clear u v w x o d b m a s;go_wp2
     go_roundw
     case rel=>exact⟨4+1,by decide,rfl,B.out,h,A⟩
     case measure=>simp[intOf]
    ·have a:=a6 (fun W=>IR ⟨co,g,f,kk⟩ (max l 0) W)
     rw[show RK ⟨co,g,f,kk⟩=Bt from c]at a;have p:=q 4 (by decide) n c;rw[show LM 4=45 from rfl]at p;subst p;clear n q y r c;go_wp2_with fail
     apply(a _).mono;rintro e D⟨rfl,b⟩;have F:=(o.h b).cell 0;replace h:=h.trans (d.trans b);clear u v w x o d b m a s;go_wp2;go_ret;exact⟨rfl,h⟩
   |5,_=>
    have s:∀W,(Instr.index 324 E (I M 5)).run prog W= .ok (Ag #[I M 42,Fc (.func 278) #[] #[]]) W:=fun W=>r 5 (by decide) W
    have o:=b9.new wr 323 #[I M 42,Fc (.func 278) #[] #[]];have d:=(a9.refl wr).alloc (U #[I M 42,Fc (.func 278) #[] #[]] 323);obtain⟨u,v,w,x⟩:=(m.h d).c4;rcases c:DX ⟨co,g,f,kk⟩ (max l 0) 5 with _|_
    ·have a:=a6 (fun W=>IQ ⟨co,g,f,kk⟩ hi (max l 0) W)
     rw[show ZU ⟨co,g,f,kk⟩ (max l 0)=Bf from c]at a;have t:∀j,j<5+1→DX ⟨co,g,f,kk⟩ (max l 0) j=Bf:=fun j z=>by
      rcases Nat.lt_succ_iff_lt_or_eq.1 z with C|rfl
      ·exact n j C
      ·exact c
     have B:=a6 t;clear n t q y r c;go_wp2_with fail
     apply(a _).mono;rintro e D⟨rfl,b⟩;have A:=(m.h d).h b;replace h:=h.trans (d.trans b);clear u v w x o d b m a s;go_wp2
     go_roundw
     case rel=>exact⟨5+1,by decide,rfl,B.out,h,A⟩
     case measure=>simp[intOf]
    ·have a:=a6 (fun W=>IQ ⟨co,g,f,kk⟩ hi (max l 0) W)
     rw[show ZU ⟨co,g,f,kk⟩ (max l 0)=Bt from c]at a;have p:=q 5 (by decide) n c;rw[show LM 5=42 from rfl]at p;subst p;clear n q y r c;go_wp2_with fail
     apply(a _).mono;rintro e D⟨rfl,b⟩;have F:=(o.h b).cell 0;replace h:=h.trans (d.trans b);clear u v w x o d b m a s;go_wp2;go_ret;exact⟨rfl,h⟩
  ·obtain rfl:k=6:=by omega
   have p:=y n;subst p;clear n q y r N;go_wp2_with fail
   go_ret;exact⟨rfl,h⟩
section
theorem BX{a b c:Wd}{row:Option Nat}(d:a.grownBy b row)(k:b.grownBy c row):a.grownBy c row:=
 ⟨k.os.trans d.os,k.tape.trans d.tape,k.output.trans d.output,c8 d.size k.size,fun i hi e=>(k.block i (Nat.lt_of_lt_of_le hi d.size) e).trans (d.block i hi e)⟩
theorem QG(g c:Nat)(u:Va)(w:Wd)(ty:Ti)(a:w.cell? ⟨g,1,J⟩=So u)(d:w.frozen? ⟨g,1,J⟩=Bf):
  (Builtin.clear_ #[33] ty #[Z (So ⟨g,1,J⟩) 1 c]).run prog w= .ok (Tp #[]) (w.setCell ⟨g,1,J⟩ (I M 0)):=by
 have b:∀j,j<1→(w.cell? ⟨g,1+j,J⟩).isSome=Bt:=fun j f=>by
  have:j=0:=by omega
  subst this;simp[a]
 have e:∀j,j<1→w.frozen? ⟨g,1+j,J⟩=Bf:=fun j f=>by
  have:j=0:=by omega
  subst this;simpa using d
 have:=Lib.run_clear_slice (P:=prog) w 33 3 ty (I M 0) underlying33 (fun _=>by kernel_rfl) rfl rfl g 1 1 c (by decide) b e;rw[this];simp[World.setCells]
theorem rX{w:Wd}{d:Array Oper}{rest:List Oper}{b:Oper}{a:Act}{Q:Exit→Act→Wd→Prop}(j:b.guard=J)(x:Operand)
  (k:b.op= .call {callee:= .builtin .clear,args:= #[x],argTypes:= #[33]}) (g c:Nat) (u:Va) (m:a.eval x=Z (So ⟨g,1,J⟩) 1 c) (f:w.cell? ⟨g,1,J⟩=So u) (i:w.frozen? ⟨g,1,J⟩=Bf)
  (e:Wp prog d Q rest (a.put b.dst (Tp #[])) (w.setCell ⟨g,1,J⟩ (I M 0))):Wp prog d Q (b::rest) a w:=by
 refine wpList_plain j fun n h=> ?_
 unfold Oper.wp execOp;have l:=QG g c u w b.type f i;simp only[k,resolve,invoke,builtin,Sem.run_bind,Sem.run_pure,Result.andThen_ok,List.map_toArray,List.map_cons,List.map_nil,m,l];exact h _ _ e
theorem Z4(a:Option Ad)(n c:Nat)(d:n<2)(w:Wd):Ca prog 357 #[Z a n c] w fun e b=>e=X (Z a n c)∧w=b:=by
 have f:(n:Int)<2:=by omega
 go_in;go_wp2;go_ret;exact⟨rfl,rfl⟩
theorem sK(g c:Nat)(x k:Int)(F:2≤c∧c≤1000000)(A:x≠k)(w:Wd)(y:w.cell? ⟨g,0,J⟩=So (I M x))(z:w.cell? ⟨g,1,J⟩=So (I M k)):
  Ca prog 357 #[Z g 2 c] w fun e f=>e=X (Z g 2 c)∧a9 w f:=by
 have j:(k==x)=Bf:=by simpa using Ne.symm A
 have E:∀{w f:Wd}{p:Ad}{u:Va},a9 w f→w.cell? p=So u→f.cell? p=So u:=fun e D=>e.cell D
 obtain⟨B,C⟩:=i6 (fun(W:Wd)(e:a9 w W)=>e.cell y) (fun(W:Wd)(e:a9 w W)=>e.cell z);clear A E y z;go_in;go_wp2;go_loopw [3] (fun i wr=>a9 w wr∧(i=I M 1∨i=I M 2)) (fun i _=>2-(intOf i).toNat)
 case atStart=>exact⟨a9.refl _,.inl rfl⟩
 case round=>
  obtain⟨b,rfl|rfl⟩:=hrel
  ·go_wp2_with fail
   refine e7 rfl [.is ?Am,.is ?An,.is ?Ao,.is ?Ap,.is ?Aq,.is ?Ar,.is ?As,.is ?At,.is ?Au,.is ?Av] (by kernel_rfl) ?Aw ?Aa ⟨?Ab,?Ac,?Ad,?Ae,?Af,?Ag,?Ah,?Ai,?Aj,?Ak,trivial⟩ ?Al
   case Aa=>intro x;simp only[e6,Act.put,uL,l9]<;>rfl
   case Ab|Ac|Ad|Ae|Af|Ag|Ah|Ai|Aj|Ak=>
    intro x h a;simp only[e5,j8,uV];repeat(intro d;try simp only[d])
    have H:=C h (b.trans a);have G:=B h (b.trans a);go_wp2_with fail
    refine a0e ?_ rfl (a9.refl _);rfl
   case Al=>
    intro x h a;simp only[l8,e5,j8,uV];intro l j m n o q r s t v;simp only[l,j,m,n,o,q,r,s,t,v];clear l j m n o q r s t v;go_wp2
    go_roundw
    case rel=>exact⟨b.trans a,.inr rfl⟩
    case measure=>simp[intOf]
  ·go_wp2
   go_ret;exact⟨rfl,b⟩
theorem xR(g c:Nat)(x:Int)(F:2≤c∧c≤1000000)(cs:Array Va)(w:Wd)(h:b9 w g 3 cs)(v:cs[0]? =So (I M x))(y:cs[1]? =So (I M x)):
  Ca prog 357 #[Z g 2 c] w fun e A=>e=X (Z g 1 c)∧b9 A g 3 (cs.setIfInBounds 1 (I M 0))∧w.grownBy A (So g):=by
 have j:(x==x)=Bt:=by simp
 obtain⟨B,l,D,C⟩:=J5 (fun(W:Wd)(e:a9 w W)=>((h.h e).cell 0).trans v) (fun(W:Wd)(e:a9 w W)=>((h.h e).cell 1).trans y) (fun(W:Wd)(e:a9 w W)=>((h.h e).frozen 1)) h;clear v y h;go_in;go_wp2;go_loopw [3] (fun i wr=>a9 w wr∧i=I M 1) (fun i _=>2-(intOf i).toNat)
 case atStart=>exact⟨a9.refl _,rfl⟩
 case round=>
  obtain⟨f,rfl⟩:=hrel;go_wp2_with fail
  refine e7 rfl [.is ?Am,.is ?An,.is ?Ao,.is ?Ap,.is ?Aq,.is ?Ar,.is ?As,.is ?At,.is ?Au,.is ?Av] (by kernel_rfl) ?Aw ?Aa ⟨?Ab,?Ac,?Ad,?Ae,?Af,?Ag,?Ah,?Ai,?Aj,?Ak,trivial⟩ ?Al
  case Aa=>intro x;simp only[e6,Act.put,uL,l9]<;>rfl
  case Ab|Ac|Ad|Ae|Af|Ag|Ah|Ai|Aj|Ak=>
   intro x b a;simp only[e5,j8,uV];repeat(intro d;try simp only[d])
   have z:=l b (f.trans a);have G:=B b (f.trans a);go_wp2_with fail
   refine a0e ?_ rfl (a9.refl _);rfl
  case Al=>
   intro x b a;simp only[l8,e5,j8,uV];intro m j n o p q r s t u;simp only[m,j,n,o,p,q,r,s,t,u];clear m j n o p q r s t u;have z:=l b (f.trans a);have E:=D b (f.trans a);go_wp2
   go_loop [3,5] (fun k i=>k=I M 1∧i=I M 1) (fun _ _=>0)
   case atStart=>exact⟨rfl,rfl⟩
   case round=>
    obtain⟨rfl,rfl⟩:=hrel;go_wp2_with(refine rX rfl (Tm 56) rfl g (c-1) _ rfl z E ?_)
    go_ret;exact⟨rfl,b9.f (C.h (f.trans a)) 1 _,BX (h8 (f.trans a) _) (x4 b g 1 _)⟩
attribute [local go_sem] Oper.semAt_some
def fV(i:i2)(a:Int):List Int:=
 if j7 i.code==0||j7 i.code==5 then []else
 if j7 i.code==4 then(if i.code==5 then [a+1+i.k]else if i.jt==i.jf then [a+1+min i.jt i.jf]else [a+1+min i.jt i.jf,a+1+max i.jt i.jf])else [a+1]
def aV(i:i2)(a b:Int):List Int:=(fV i a).takeWhile fun n=>Dc (n<b)
theorem D0{p:Int→Bool}:∀(a:List Int)(k:Nat)(b:k<a.length),(∀x∈a.take k,p x=Bt)→p a[k]=Bf→a.takeWhile p=a.take k
 |x::a,0,_,_,h=>by simp only[List.takeWhile_cons];rw[show p x=Bf from h];rfl
 |x::a,k+1,b,ha,h=>by
  have c:p x=Bt:=ha x (by simp);simp only[List.takeWhile_cons,c,if_true,List.take_succ_cons];congr 1;exact D0 a k (by simpa using b) (fun e d=>ha e (by simp[d])) (by simpa using h)
theorem F2{p:Int→Bool}:∀(a:List Int),(∀x∈a,p x=Bt)→a.takeWhile p=a
 |[],_=>rfl
 |x::a,h=>by
  simp only[List.takeWhile_cons,h x (by simp),if_true];rw[F2 a fun c b=>h c (by simp[b])]
theorem y8{p:Int→Bool}:∀(a:List Int)(k:Nat)(b:k<a.length),(∀x∈a.take (k+1),p x=Bt)→a[k]∈a.takeWhile p
 |x::a,0,_,h=>by
  simp only[List.takeWhile_cons,h x (by simp),if_true];exact List.mem_cons_self ..
 |x::a,k+1,b,h=>by
  simp only[List.takeWhile_cons,h x (by simp),if_true];exact List.mem_cons_of_mem _ (y8 a k (by simpa using b) (fun d c=>h d (by simp[c])))
theorem RT(l bv bw be B:Nat)(i:i2)(hi:i.ok)(a A:Nat)(bo:a≤100000∧A≤100000)(L:Wd→Nat→Prop)(az:Wd→Prop)(Jq:List Int→Wd→Prop)(bz:AbidesFrom B Jq)(bl:∀ar W,Jq ar W→az W)
  (ab:∀W b,az W→L W b→b<W.heap.size) (ai:∀W W' b,az W→a9 W W'→L W' b→L W b) (cr:∀W,az W→¬L W bv∧¬L W bw∧¬L W be)
  (ct:∀ar x W,Jq ar W→ar.length<2→x∈aV i a A→YieldAt .wide 1 prog l #[I M x] W fun e W'=>e=X (O Bt)∧Jq (ar++[x]) W'∧KpO L W W')
  (W:Wd) (j:b9 W bv 116 i.cells) (F:b9 W bw 3 #[I M a]) (P:b9 W be 3 #[I M A]) (T:Jq [] W):
  Ci .wide 2 prog 356 #[Fc (.yield l) #[] #[],K bv,K bw,K be] W fun e W'=>(∃v,e=X v)∧∃xs,xs=aV i a A∧Jq xs W':=by
 have G:=a6 (fun W=>y7 i.code W);have au:=j.cell 0;have bx:∀(W':Wd)(g:Nat),a9 W W'→W.heap.size≤g→¬L W' g:=fun W' g e dv cy=>by
  have:=ab W g (bl _ _ T) (ai W W' g (bl _ _ T) e cy);omega
 have ca:∀(W':Wd),a9 W W'→Jq [] W':=fun W' e=>bz _ _ _ J T (h8 e J) (fun r e=>by cases e)
 obtain⟨H,N⟩:=i6 ca bx;clear bx ca ab ai bz;obtain⟨co,d,h,k⟩:=i;have m:fV ⟨co,d,h,k⟩ a=fV ⟨co,d,h,k⟩ a:=rfl
 conv at m=>rhs;unfold fV j7;dsimp only
 dsimp only[i2.cells]at j au G;generalize(Y3 co).1.cls=q at*;obtain⟨_,⟨de,df⟩,⟨cj,ck⟩,k0,k1⟩:=hi;have k1:k<4294967296:=by have ba:k<256^4:=k1;omega
 dsimp only at de df cj ck k0;have dn:=bo.1;have dp:=bo.2;clear bo;by_cases br:q=0∨q=5
 ·have dd:fV ⟨co,d,h,k⟩ a=[]:=by rw[m];rcases br with rfl|rfl<;>rfl
  clear m;rcases br with rfl|rfl
  all_goals
   refine Co func356 rfl trivial ?_ rfl;simp only[ntmps356,uE,l9,a4D];gi_wp2_with fail
   gi_wp2_with(first|(refine⟨trivial,?_⟩;gi_at_call 46;apply((Cw (n:=1)).2 (G _)).mono;rintro e s⟨rfl,c⟩)|(refine⟨trivial,?_⟩;gi_at_call 357;apply((Cw (n:=1)).2 (Z4 J 0 0 (by decide) _)).mono;rintro e S⟨rfl,rfl⟩))
   gi_loopw [51] (fun k wr=>k=I M 0∧wr=s) (fun _ _=>0)
   case atStart=>exact⟨rfl,rfl⟩
   case round=>
    obtain⟨rfl,rfl⟩:=hrel
    gi_wp2
    go_end0
    exact⟨⟨_,rfl⟩,[],by unfold aV;rw[dd];rfl,H _ c⟩
 ·have da:(q==0)=Bf:=by simp;omega
  have dc:(q==5)=Bf:=by simp;omega
  rw[da,dc]at m;simp only[Bool.or_false,a4x,if_false]at m;have bd:IntKind.i64.wrap ((a:Int)+1)=(a:Int)+1:=a37 _ (by omega);clear br;by_cases bs:q=4
  rotate_left
  focus
   have db:(q==4)=Bf:=by simpa using bs
   rw[db]at m;simp only[a4x,if_false]at m;clear bs;refine Co func356 rfl trivial ?_ rfl;simp only[ntmps356,uE,l9,a4D];gi_wp2_with fail
   gi_wp2_with(first|(refine⟨trivial,?_⟩;gi_at_call 46;apply((Cw (n:=1)).2 (G _)).mono;rintro e s⟨rfl,c⟩;have dk:=(F.h c).cell 0)|(refine⟨trivial,?_⟩;gi_at_call 357;apply((Cw (n:=1)).2 (Z4 _ 1 1 (by decide) _)).mono;rintro e S⟨rfl,rfl⟩))
   have D:=b9.new s 3 #[I M ((a:Int)+1)];have u:=c.alloc (U #[I M ((a:Int)+1)] 3);have ag:Jq (List.take 0 [((a:Int)+1)]) _:=H _ u;have ac:=N _ s u c.size;have Q:=P.h u;generalize s.alloc (U #[I M ((a:Int)+1)] 3)=S at*;generalize s.heap.size=af at*;have ad:=m;have bb:∀k(E:k<[((a:Int)+1)].length),#[I M ((a:Int)+1)][k]? =So (I M [((a:Int)+1)][k]):=fun k E=>by
    obtain rfl:k=0:=by simpa using E
    rfl
   have cp:[((a:Int)+1)].length≤2:=by simp
   generalize aa: #[I M ((a:Int)+1)]=cs at*;have R:=a6 (show [((a:Int)+1)].length=1 from rfl);generalize [((a:Int)+1)]=o at*;clear m aa G H N au dk j F P T c u bd cp
  rotate_right
  subst bs;simp only[beq_self_eq_true,if_true]at m;by_cases bj:co=5
  rotate_left
  focus
   have bk:(co==5)=Bf:=by simpa using bj
   rw[bk]at m;simp only[a4x,if_false]at m;clear bj;by_cases bq:d=h
   rotate_left
   focus
    have ce:(d==h)=Bf:=by simpa using bq
    rw[ce]at m;simp only[a4x,if_false]at m;have cw:min d h<max d h:=by omega
    have dg:IntKind.i64.wrap (min d h)=min d h:=a37 _ (by omega);have dh:IntKind.i64.wrap (max d h)=max d h:=a37 _ (by omega);have di:0≤min d h:=by omega
    have dj:max d h<256:=by omega
    have ay:IntKind.i64.wrap ((a:Int)+1+min d h)=(a:Int)+1+min d h:=a37 _ (by omega);have dm:IntKind.i64.wrap ((a:Int)+1+max d h)=(a:Int)+1+max d h:=a37 _ (by omega);have cg:(a:Int)+1+min d h≠(a:Int)+1+max d h:=by omega
    generalize al:(a:Int)+1+min d h=z at*;generalize ak:(a:Int)+1+max d h=C at*;refine Co func356 rfl trivial ?_ rfl;simp only[ntmps356,uE,l9,a4D];gi_wp2_with fail
    gi_wp2_with(refine⟨trivial,?_⟩;gi_at_call 46;apply((Cw (n:=1)).2 (G _)).mono;rintro e s⟨rfl,c⟩;have am:=(j.h c).cell 0;have an:=(j.h c).cell 1;have ao:=(j.h c).cell 2;have ap:=(j.h c).cell 3;have aq:=(F.h c).cell 0;have av:=fun y:Obj=>((j.h c).alloc y).cell 0;have aw:=fun y:Obj=>((j.h c).alloc y).cell 3;have ax:=fun y:Obj=>((F.h c).alloc y).cell 0)
    refine⟨trivial,?_⟩;have D:=b9.new s 3 #[I M z,I M C];have aj:=c.alloc (U #[I M z,I M C] 3);apply((Cw (n:=1)).2 (sK s 2 z C (by decide) cg _ (D.cell 0) (D.cell 1))).mono;rintro e S⟨rfl,bu⟩;have u:a9 W S:=aj.trans bu;replace D:=D.h bu;clear aj bu;gi_wp2_with fail
    have ag:Jq (List.take 0 [z,C]) _:=H _ u;have ac:=N _ s u c.size;have Q:=P.h u;generalize s.heap.size=af at*;have ad:=m;have bb:∀k(E:k<[z,C].length),(#[I M z,I M C]:Array Va)[k]? =So (I M [z,C][k]):=fun k E=>by
     (match k,E with|0,_=>rfl|1,_=>rfl)
    generalize aa:(#[I M z,I M C]:Array Va)=cs at*;have R:=a6 (show [z,C].length=2 from rfl);generalize [z,C]=o at*;clear m aa G H N au am an ao ap aq av aw ax j F P T c u bd ay dm al ak cg cw dg dh di dj bq ce bk
   rotate_right
   subst bq;simp only[beq_self_eq_true,if_true]at m;have cx:max d d=d:=by omega
   have cf:min d d=d:=by omega
   have ay:IntKind.i64.wrap ((a:Int)+1+d)=(a:Int)+1+d:=a37 _ (by omega);rw[cf]at m;generalize al:(a:Int)+1+d=z at*;refine Co func356 rfl trivial ?_ rfl;simp only[ntmps356,uE,l9,a4D];gi_wp2_with fail
   gi_wp2_with(refine⟨trivial,?_⟩;gi_at_call 46;apply((Cw (n:=1)).2 (G _)).mono;rintro e s⟨rfl,c⟩;have am:=(j.h c).cell 0;have an:=(j.h c).cell 1;have ao:=(j.h c).cell 2;have ap:=(j.h c).cell 3;have aq:=(F.h c).cell 0;have av:=fun y:Obj=>((j.h c).alloc y).cell 0;have aw:=fun y:Obj=>((j.h c).alloc y).cell 3;have ax:=fun y:Obj=>((F.h c).alloc y).cell 0)
   refine⟨trivial,?_⟩;have cc:=b9.new s 3 #[I M z,I M z];have aj:=c.alloc (U #[I M z,I M z] 3);apply((Cw (n:=1)).2 (xR s 2 z (by decide) _ _ cc rfl rfl)).mono;rintro e S⟨rfl,D,cd⟩;have u:a9 W S:=aj.grown cd (fun k e=>by cases e;exact c.size);clear cc aj cd;gi_wp2_with fail
   have ag:Jq (List.take 0 [z]) _:=H _ u;have ac:=N _ s u c.size;have Q:=P.h u;generalize s.heap.size=af at*;have ad:=m;have bb:∀k(E:k<[z].length),(#[I M z,I M z].setIfInBounds 1 (I M 0):Array Va)[k]? =So (I M [z][k]):=fun k E=>by
    (obtain rfl:k=0:=by simpa using E);rfl
   generalize aa:(#[I M z,I M z].setIfInBounds 1 (I M 0):Array Va)=cs at*;have R:=a6 (show [z].length=1 from rfl);generalize [z]=o at*;clear m aa G H N au am an ao ap aq av aw ax j F P T c u bd ay al cx cf bk
  rotate_right
  subst bj;simp only[beq_self_eq_true,if_true]at m;have dl:IntKind.i64.wrap k=k:=a37 _ (by omega);have ay:IntKind.i64.wrap ((a:Int)+1+k)=(a:Int)+1+k:=a37 _ (by omega);generalize al:(a:Int)+1+k=z at*;refine Co func356 rfl trivial ?_ rfl;simp only[ntmps356,uE,l9,a4D];gi_wp2_with fail
  gi_wp2_with(first|(refine⟨trivial,?_⟩;gi_at_call 46;apply((Cw (n:=1)).2 (G _)).mono;rintro e s⟨rfl,c⟩;have am:=(j.h c).cell 0;have an:=(j.h c).cell 1;have ao:=(j.h c).cell 2;have ap:=(j.h c).cell 3;have aq:=(F.h c).cell 0;have av:=fun y:Obj=>((j.h c).alloc y).cell 0;have aw:=fun y:Obj=>((j.h c).alloc y).cell 3;have ax:=fun y:Obj=>((F.h c).alloc y).cell 0)|(refine⟨trivial,?_⟩;gi_at_call 357;apply((Cw (n:=1)).2 (Z4 _ 1 1 (by decide) _)).mono;rintro e S⟨rfl,rfl⟩))
  have D:=b9.b (w:=s.alloc (U #[I M ((a:Int)+1+min d h),I M ((a:Int)+1+max d h)] 3)) (t:=3) (cs:= #[I M z]) (g:=s+1) (by simp);have u:=(c.alloc (U #[I M ((a:Int)+1+min d h),I M ((a:Int)+1+max d h)] 3)).alloc (U #[I M z] 3);have ag:Jq (List.take 0 [z]) _:=H _ u;have ac:=N _ (s+1) u (by have:=c.size;omega);have Q:=P.h u;generalize(s.alloc (U #[I M ((a:Int)+1+min d h),I M ((a:Int)+1+max d h)] 3)).alloc (U #[I M z] 3)=S at*;generalize s.heap.size+1=af at*;have ad:=m;have bb:∀k(E:k<[z].length),(#[I M z]:Array Va)[k]? =So (I M [z][k]):=fun k E=>by
   (obtain rfl:k=0:=by simpa using E);rfl
  generalize aa:(#[I M z]:Array Va)=cs at*;have R:=a6 (show [z].length=1 from rfl);generalize [z]=o at*;clear m aa G H N au am an ao ap aq av aw ax j F P T c u bd dl ay al;all_goals
   gi_loopw [51] (fun k wr=>∃kk:Nat,kk≤o.length∧k=I M kk∧(∀x∈o.take kk,Dc (x<(A:Int))=Bt)∧Jq (o.take kk) wr∧b9 wr af 3 cs∧¬L wr af∧b9 wr be 3 #[I M A]) (fun k _=>o.length-(intOf k).toNat)
   case atStart=>exact⟨0,i5 _,rfl,(fun x bc=>by simp at bc),ag,D,ac,Q⟩
   case round=>
    clear ag D ac Q;obtain⟨k,E,rfl,ae,ah,D,ac,Q⟩:=hrel;by_cases ab:k<o.length
    ·have ds:=(D.cell k).trans (bb k ab)
     have dt:=Q.cell 0;have b1:(0:Int)≤k:=by omega
     first
      |have b2:(k:Int)<1:=by have:=R.out;omega
      |have b2:(k:Int)<2:=by have:=R.out;omega
     have ai:=D0 (p:=fun n=>Dc (n<(A:Int))) o k ab ae;have bt:o.take (k+1)=o.take k++[o[k]]:=by rw[a4a ab]
     have bp:Dc (o[k]<(A:Int))=Bt→∀x∈o.take (k+1),Dc (x<(A:Int))=Bt:=fun ba x bc=>by
      rw[bt]at bc;rcases List.mem_append.1 bc with bi|bi
      ·exact ae x bi
      ·rw[List.mem_singleton.1 bi];exact ba
     have bn:=fun(cu:Dc (o[k]<(A:Int))=Bt)=>ct (o.take k) o[k] wr ah (by have:=R.out;rw[a4C];omega) (by unfold aV;rw[ad];exact y8 o k ab (bp cu))
     rw[←bt]at bn;have bh:=a6 ai;have bg:=a6 bp;clear ai bp bt ae;generalize o[k]=C at*;by_cases ak:C<(A:Int)
     ·have ci:Dc ((A:Int)≤C)=Bf:=by simp;omega
      have bf:=a6 (bg (by simpa using ak));obtain⟨du,tmps,dq,dr,dw,cq⟩:=bn (by simpa using ak);clear bh bg ak
      gi_wp2
      apply cq.mono;rintro e W3⟨rfl,cn,cb⟩;obtain⟨cv,cz⟩:=cb _ _ _ D ac;obtain⟨cm,_⟩:=cb _ _ _ Q (cr wr (bl _ _ ah)).2.2
      gi_wp2
      go_roundw
      case rel=>exact⟨k+1,by omega,by go_num,bf.out,cn,cv,cz,cm⟩
      case measure=>simp[intOf];omega
     ·have ci:Dc ((A:Int)≤C)=Bt:=by simp;omega
      have ch:=bh (by simp;omega);clear bh bg bn
      gi_wp2
      refine⟨(fun f ba=>by cases ba),?_⟩
      gi_wp2
      refine Bp (Rz rfl _ _ _) rfl ?_;exact⟨⟨_,rfl⟩,_,by unfold aV;rw[ad,ch],ah⟩
    ·have bm:o.take k=o:=List.take_of_length_le (by omega)
     have bf:=F2 (p:=fun n=>Dc (n<(A:Int))) o (by rw[bm]at ae;exact ae);rw[bm]at ah;clear bm ae;rcases(show k=1∨k=2 by have:=R.out;omega)with rfl|rfl
     all_goals
      first
       |(exfalso;have:=R.out;omega)
       |(gi_wp2;go_end0;exact⟨⟨_,rfl⟩,_,by unfold aV;rw[ad,bf],ah⟩)
attribute [local go_sem] Oper.semAt_some
theorem a0i(i:i2)(a b:Int)(w:Wd):
  Ci .wide 2 prog 280 #[i.val,I M a,I M b] w fun e c=>e=X (Fc (.func 356) #[] #[K w,K (w+1:Nat),K (w+2:Nat)])∧
   c=((w.alloc (U i.cells 116)).alloc (U #[I M a] 3)).alloc (U #[I M b] 3):=by
 obtain⟨co,f,d,k⟩:=i;simp only[i2.val,i2.cells];refine Co func280 rfl trivial ?_ rfl;simp only[ntmps280,uE,l9,a4D]
 gi_wp2
 go_ret;exact⟨rfl,rfl⟩
theorem EI(f g h:Nat)(i:i2)(hi:i.ok)(a e:Nat)(t:a≤100000∧e≤100000)(c:Wd→Nat→Prop)(d:Wd→Prop)
  (y:∀W b,d W→c W b→b<W.heap.size) (z:∀W W' b,d W→a9 W W'→c W' b→c W b) (r:∀W,d W→¬c W f∧¬c W g∧¬c W h)
  (w:Wd) (k:b9 w f 116 i.cells) (m:b9 w g 3 #[I M a]) (n:b9 w h 3 #[I M e]):
  ZP .wide 2 prog 356 #[K f,K g,K h] (fun x:Int=> #[I M x]) (fun x _=>x∈aV i a e) (KpO c) d (fun xs=>xs=aV i a e) 2 w:=fun l Jq W j q p s o=>
 RT l f g h W i hi a e t c d Jq q p y z r (fun B x W u v A=>s B x W u A v) W (k.below j k.lt) (m.below j m.lt) (n.below j n.lt) o
theorem XC:(prog.info? 3).map (fun i=>(i.zero,i.size,i.bytes))=So (So (I M 0),1,8):=by kernel_rfl
def CI(w:Wd)(z g:Nat)(a:List Int)(W:Wd):Prop:=
 (∃v,b9 W g 33 #[v]∧W.ownsRow (g+1) 3 1 v a.length (i3 M a))∧Below w w W∧z≤W
def lY(ps:List i2)(a:Int):List Int:=
 if a<0∨(ps.length:Int)≤a∨4096<ps.length then []else aV (ps.getD a.toNat j5) a ps.length
end
section
attribute [local go_sem] Oper.semAt_some
theorem PC:(prog.info? 24).map (fun i=>(i.zero,i.size,i.bytes))=So (So (Ag #[Y ⟨#[]⟩,I M 0,Z J 0 0]),3,48):=by kernel_rfl
theorem vH(gb b:Nat)(c:List SV)(a:List a1f)(m:c.map (·.2)=a.map o4)(w:Wd)(t:gb<w)(j:w.cell? ⟨gb,0,J⟩=So (.map (So b)))(n:E6 w b c):
  jU .wide 2 prog 98 #[K gb] (fun f:a1f=> #[o4 f]) (fun _ _=>True) KeepsWalks (fun ys=>ys.Perm a) a.length w:=fun l Jq W d k o i=>by
 obtain⟨h,g,s,v,u⟩:=n.h (show a9 w W from d);refine EL l gb b W h g a v ?_ Jq k (fun y x e q r=>o y x e q trivial r) W (a7 _) ((d.cell (p:=⟨gb,0,J⟩) t).trans j) s i;have:=congrArg (List.map Prod.snd) u;rw[List.map_map,List.map_map]at this;exact this.trans m
theorem LP(a:Nat)(w:Wd):
  Ci .wide 3 prog 52 #[.map (So a)] w fun e b=>e=X (Fc (.func 98) #[] #[K w])∧b=w.alloc (U #[.map (So a)] 121):=by
 refine Co func52 rfl trivial ?_ rfl;simp only[ntmps52,uE,l9,a4D]
 gi_wp2
 go_ret;exact⟨rfl,rfl⟩
def FI(w:Wd)(z g:Nat)(a:List a1f)(W:Wd):Prop:=
 (∃v,b9 W g 25 #[v]∧W.ownsRow (g+1) 24 3 v a.length (q7.row a))∧Below w w W∧z≤W
theorem a4B(w:Wd)(z g:Nat)(i:w≤z):OwnFrom z (FI w z g):=fun j W W' row⟨⟨v,d,f⟩,c,h⟩ a b=>
 ⟨⟨v,e8 d a fun r e=>(b r e).2,P9 f a fun r e=>(b r e).2⟩,c.grown a c.size (fun r e=>c8 i (b r e).1),c8 h a.size⟩
def a2C(z gb:Nat)(g:Nat)(f:a1f):Act:=
 {tmps:= #[Z J 0 0,Fc (.func 98) #[] #[K gb],K z,Un,Z J 0 0,K g,Fc (.func 98) #[] #[K gb],Ag #[Y f.name,I M f.dir,Z f.A f.n f.c],Un,Un,Un,Un,Un],defers:=[]}
def a5E(z gb:Nat)(x:a1f)(b:Nat)(a:Act)(W:Wd):Prop:=∃g,b≤g∧a=a2C z gb g x∧b9 W g 24 #[Y x.name,I M x.dir,Z x.A x.n x.c]
theorem PN(l:List a1f)(f:a1f):q7.row (l++[f])=q7.row l++[Y f.name,I M f.dir,Z f.A f.n f.c]:=by simp[p6.row,q7]
theorem rN(gb s:Nat)(p:List SV)(q:List a1f)(bs:q.length≤1000)(ax:p.map (·.2)=q.map o4)(w:Wd)(t:b9 w gb 121 #[.map (So s)])(aa:E6 w s p):
  Ci .wide 3 prog 97 #[Z J 0 0,Fc (.func 98) #[] #[K gb]] w fun e aj=>
   ∃v ys,e=X v∧ys.Perm q∧e4 aj w 24 q7 v ys∧a9 w aj:=by
 refine Cm func97 rfl trivial ?_ rfl;simp only[ntmps97,uE,l9,a4D];have ay:Below w w (w.alloc (U #[Z J 0 0] 25)):=(a9.refl w).alloc _;have T:b9 (w.alloc (U #[Z J 0 0] 25)) w 25 #[Z J 0 0]:=b9.new _ _ _;have bu:(w.alloc (U #[Z J 0 0] 25)).heap.size=w.heap.size+1:=by simp
 have k1:=t.alloc (U #[Z J 0 0] 25);have ab:E6 (w.alloc (U #[Z J 0 0] 25)) s p:=aa.h ((a9.refl w).alloc _);clear t aa;gi_wp2_with fail
 generalize w.alloc (U #[Z J 0 0] 25)=S at*;refine s5 rfl (by decide) (gf:=98) (lb:= #[K gb]) rfl trivial (Eo func98 (by kernel_rfl) rfl)
  (vH gb s p q ax S k1.lt (by rw[k1.cell];rfl) ab)
  (fun h k=>h.trans k)
  (fun W l f R _ h _ bi=>KeepsWalks.putObj _ h bi) (Below.refl _ _) (fun _=>rfl)
  (fun x W l f R L ae y=>L)
  (FI w S w) (a4B w S w (by omega))
  ⟨⟨_,T,World.ownsRow_nil _ _ _ _⟩,ay,a7 _⟩
  (a5E w gb)
  (fun x cb ap W l f R⟨g,t,ar,au⟩ ae y=>⟨g,t,ar,e8 au (grownBy_putObj' W l R) (fun r e=>by cases e;exact⟨f,ae,y⟩)⟩)
  (fun _ _ _ h _=>h) (fun W W' e=>⟨e.size,fun k f n _=>(e.block (Array.getElem?_eq_some_iff.1 n).1).trans n⟩) ?Aa ?Ab ?Ac
 case Aa=>
  rintro l⟨nm,d,b,m,c⟩ W bm L i;unfold o4
  gi_wp2
  exact i _ _ ((a9.refl W).alloc _) ⟨W,a7 _,rfl,b9.new _ _ _⟩
 case Ab=>
  rintro l o⟨nm,d,b,m,c⟩ bn W ap⟨⟨ca,bh,bg⟩,_,_⟩⟨⟨v,a,B⟩,H,az⟩ L⟨g,bv,rfl,bc⟩ av br;have y:=a.cell 0;obtain⟨bw,bx,bz⟩:=bc.c3;have ba:o.length+1≤maxLen:=by unfold maxLen;omega
  have bb:(o.length+1)*48≤140737488355328:=by omega
  obtain⟨bl,hi,ag,ah,ai⟩:=info_parts PC;have al:=a6 hi;have am:=a6 ag;have an:=a6 ah;have ao:=a6 ai;clear hi ag ah ai T k1 ab bh bg av;have bk:w+1≤(W.alloc (U #[Y nm,I M d,Z b m c] 24)).heap.size:=by simp;omega
  have A:=B.alloc (U #[Y nm,I M d,Z b m c] 24);unfold a2C;dsimp only at*;gi_wp2_with(gi_at_builtin;(refine wpListIn_append_own_at _ rfl (Tm 8) (Tm 10) 25 rfl (w+1) 24 bl _ 3 48 underlying25 al am an ao rfl (by decide) _ _ _ rfl A ⟨W,0,J⟩ 1 1 [Y nm,I M d,Z b m c] rfl rfl (fun j u bf=>(h9.f (b9.b rfl) rfl:h9 _ W [Y nm,I M d,Z b m c]).add bf) (by simp[Value.oneCell']) ba bb bk ?_);intro v' D N z _ bt;obtain⟨G,F,rfl⟩:=ownsRow_succ N;have Q:b9 D w 25 #[v]:=(a.alloc _).grown z (fun e=>by have:=(A.lt _ e.symm).1;omega);have bp:=Q.cell 0;have bq:=Q.frozen 0)
  have bd:∀k,v.ownBlock=So k→w.heap.size+1≤k:=fun k e=>(A.lt k e).1
  have ac:=grownBy_setCell' D w (Z G (o.length+1) F);have C:=(a9.refl W).alloc (U #[Y nm,I M d,Z b m c] 24);have aw:Below w w (D.setCell ⟨w,0,J⟩ (Z G (o.length+1) F)):=(a9.set (((show a9 w W from H).trans C).grown z (fun k e=>by have:=bd k e;omega)) (a7 _) _);have ad:KeepsOthers W (D.setCell ⟨w,0,J⟩ (Z G (o.length+1) F)):=by
   refine KeepsOthers.trans ⟨C.size,fun k f n _=>(C.block (Array.getElem?_eq_some_iff.1 n).1).trans n⟩ (KeepsOthers.trans (KeepsOthers.of_grownBy z ?_) (KeepsOthers.setCell _ _ _));intro j f e af;rcases A.2 with⟨rfl,_⟩|⟨g,cap,cur,rfl,_,be,_⟩
   ·cases e
   ·cases e
    rw[be]at af;cases af;rfl
  refine⟨ad.from _,ad.walks,⟨⟨_,Q.f 0 _,?_⟩,aw,?_⟩⟩
  ·have:=N.kept ac (.inr (fun e=>by have:=(N.lt _ e).1;omega))
   simp only[a2e,a3W,List.length_nil,a4E];rw[PN];exact this
  ·exact c8 az (c8 C.size (c8 z.size ac.size))
 case Ac=>
  rintro ak xs W bo bj⟨⟨v,a,B⟩,H,_⟩ i;have y:=a.cell 0;obtain⟨P,E,rfl⟩:∃P E,v=Z P xs.length E:=by
   rcases B.2 with⟨a,aq⟩|⟨g,cap,cur,a,_⟩
   ·exact⟨J,0,by rw[a,aq]⟩
   ·exact⟨_,_,a⟩
  gi_wp2
  refine⟨by simp,.inl ⟨_,_,rfl,run_takeDeferred i,?_⟩⟩;exact⟨_,results_tmp rfl _ _ _,_,xs,rfl,bj,⟨P,E,rfl,tN (ownsRow_putObj B _ i rfl) (Nat.le_succ _)⟩,Below.trans H (belowK_b (w:=w) (a7 _) W ak _ _ (by omega) i rfl rfl)⟩
theorem nF(gb d:Nat)(b:List SV)(a:List a1f)(k:a.length≤1000)(g:b.map (·.2)=a.map o4)(w:Wd)(f:b9 w gb 121 #[.map (So d)])(h:E6 w d b):
  Ci .wide 4 prog 51 #[Fc (.func 98) #[] #[K gb]] w fun e j=>
   ∃v ys,e=X v∧ys.Perm a∧e4 j w 24 q7 v ys∧a9 w j:=by
 have H:=a6 (rN gb d b a k g w f h);clear f h g;refine Co func51 rfl trivial ?_ rfl;simp only[ntmps51,uE,l9,a4D];gi_wp2_with(refine⟨trivial,?_⟩;gi_at_call 97;apply(H.out).mono;rintro e p⟨v,ys,rfl,l,i,m⟩;obtain⟨o,n,c,rfl⟩:=i.f)
 go_ret;exact⟨_,ys,rfl,l,i,m⟩
end
end Go.Proofs.YtiomenjfmagknaaGreat
