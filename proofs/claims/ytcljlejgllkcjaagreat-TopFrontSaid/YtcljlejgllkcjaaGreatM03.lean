/- A part of the proof of TopFront: lemmas on the walks of its calls. -/
import Derived.Test.YtcljlejgllkcjaaGreatM02
set_option maxHeartbeats 12000000
set_option linter.all false
set_option maxRecDepth 100000
namespace Go.Proofs.YtcljlejgllkcjaaGreat
open Go.RowKit Go.ChangeShapes Go.WideShapes Tryz
open Bool renaming true→Bt,false→Bf
open Decidable renaming decide→Dc
open Ending renaming returned→X
open Go renaming World→Wd,Value→Va,Calls→Ca,TypeId→Ti,Program→Pg,wpList→Wp
open Go.Proofs renaming enters_of→Eo
open IntKind renaming i64→M,u32→V,u64→U6,u16→U1,u8→U8
open IntWalk renaming i64_in→h7
open List renaming getD_eq_getElem?_getD→b9,getElem?_eq_getElem→e9,take_succ_eq_append_getElem→g2,length_map→i1,length_take→m4,length→D
open Nat renaming le_refl→a7,le_trans→b6,zero_le→c6
open Obj renaming cells→U
open Operand renaming tmp→Tm
open Option renaming none→J,some→So
open Value renaming int→I,slice→Z,string→Y,pointer→K,bool→O,func→Fc,tuple→Tp,agg→Ag
theorem aB{a:Type}(l:List a)(p:a->Bool)(k:Nat)(b:k<D l):(l.drop k).find? p=if p l[k]then So l[k]else(l.drop (k+1)).find? p:=by rw[List.drop_eq_getElem_cons b,List.find?_cons];split<;>simp_all
abbrev lM(x:Int):Int:=bits .andNot V x 65535
theorem xY(x:Int)(W:Wd):Ca prog 194 #[I V x] W λe a=>e=X (I V (lM x))/\W=a:=by go_in;go_wp2;go_ret;exact⟨rfl,rfl⟩
def jE:List (Int×g4):=[(2147483648,⟨#[107,105,108,108]⟩),(0,⟨#[107,105,108,108,116,104,114,101,97,100]⟩),(196608,⟨#[116,114,97,112]⟩),(327680,⟨#[101,114,114,110,111]⟩),(2143289344,⟨#[110,111,116,105,102,121]⟩),(2146435072,⟨#[116,114,97,99,101]⟩),(2147221504,⟨#[108,111,103]⟩),(2147418112,⟨#[97,108,108,111,119]⟩)]
def a4w:Array Va:=(jE.flatMap λa=>[I V a.1,Y a.2]).toArray
def a55(a:Int×g4):Va:=Ag #[I V a.1,Y a.2]
theorem HI:∀(k:Nat)(a:k<D jE)(W:Wd),(Instr.index 525 (Ag a4w) (I M k)).run prog W= .ok (a55 jE[k]) W
 |0,_,_|1,_,_|2,_,_|3,_,_|4,_,_|5,_,_|6,_,_|7,_,_=>g6
 |n+8,h,_=>absurd h (by simp[jE])
theorem YR(W:Wd):Ca prog 440 #[] W λe a=>e=X (Ag a4w)/\a9 W a:=by go_in;go_wp2;exact F9 (e7.new _ _ _) underlying525 ⟨rfl,(a9.refl W).alloc _⟩
def YU(l:List (Int×g4))(y:Int):g4:=match l.find? λa=>a.1==y with
 |some a=>a.2
 |none=>⟨#[]⟩
def HJ(x:Int):g4:=YU jE (lM x)
theorem PV(k:Nat)(b:k<D jE)(a:Int):YU (jE.drop k) a=if jE[k].1==a then jE[k].2 else YU (jE.drop (k+1)) a:=by unfold YU;rw[aB jE _ k b];cases c:jE[k].1==a<;>simp
theorem a1Z(x:Int)(W:Wd):Ca prog 405 #[I V x] W λe u=>e=X (Y (HJ x))/\a9 W u:=by
 obtain⟨p,o,q,r⟩:=F6 HI YR (xY x) (λk l=>PV k l (lM x));have y:D jE=8:=rfl;obtain⟨R,b⟩:∃R,R=HJ x:=⟨_,rfl⟩;rw[<-b];unfold HJ at b;generalize lM x=n at*;generalize a4w=v at*;generalize jE=h at*;go_in;go_wp2_with fail;apply(o _).mono;rintro e C⟨rfl,d⟩;go_wp2;go_loopw [6] (λi wr=>∃k:Nat,k<=8/\i=I M k/\R=YU (h.drop k) n/\a9 W wr) (λi _=>8-(intOf i).toNat);exact⟨0,e6,rfl,b,d⟩;clear b d;obtain⟨k,l,rfl,b,d⟩:=hrel;by_cases z:k<8
 ·have j:=p k a8;rw[r k a8]at b;dsimp only[a55]at j b;generalize h[k]' a8=E at*;obtain⟨a,s⟩:=E;dsimp only at j b;have m:=d.alloc (U #[I V a,Y s] 524);have B:=e7.new wr 524 #[I V a,Y s];rcases g:a==n with _|_
  all_goals
   rw[g]at b;have H:=a6 g;clear g;go_wp2_with fail;try rw[show Dc ((k:Int)<8)=Bt by simp;omega]
   refine gP ?_;repeat(apply D7;focus (intro x t c;simp only[g0,o7,uV];(repeat intro f;try simp only[f]);have A:=(B.h c).cell 0;go_wp2_with(apply(q _).mono;rintro e F⟨rfl,rfl⟩);exact dn rfl rfl (a9.refl _)))
   intro x t c;simp only[n9,g0,o7,uV];repeat(intro f;try simp only[f];clear f)
   have w:=(B.h c).cell 1;rw[H.O];go_wp2;first
    |(go_ret;exact⟨by rw[b];rfl,m.trans c⟩)
    |(go_roundw
      case rel=>exact⟨k+1,a8,o3,by rw[b];rfl,m.trans c⟩
      case measure=>simp[intOf];omega)
 obtain rfl:k=8:=a8;have b:R=⟨#[]⟩:=by rw[b,List.drop_of_length_le a8];rfl
 go_wp2;go_ret;exact⟨by rw[b];rfl,d⟩
theorem YT(x:Int)(W:Wd):Ca prog 322 #[I V x] W λe c=>e=X (O (!(HJ x).toList.isEmpty))/\a9 W c:=by have a:=a6 (a1Z x);generalize HJ x=s at*;go_in;go_wp2_with fail;refine l4 (a _) λd b=>?_;go_wp2;go_ret;exact⟨rfl,b⟩
def AW(a b:Int):Bool:=Dc (wrap32 (lM a)<wrap32 (lM b))
theorem a10(a b:Int)(W:Wd):Ca prog 131 #[I V a,I V b] W λe f=>e=X (O (AW a b))/\W=f:=by obtain⟨c,d⟩:=j0 (xY a) (xY b);unfold AW;generalize lM a=x at*;generalize lM b=h at*;go_in;go_wp2_with fail;apply(c _).mono;rintro e g⟨rfl,rfl⟩;go_wp2_with fail;apply(d _).mono;rintro e g⟨rfl,rfl⟩;go_wp2;go_ret;exact⟨rfl,rfl⟩
def fY(a b:Int):Int:=if AW b a then b else a
theorem YS(a b:Int)(g:Nat)(W:Wd)(h:W.cell? ⟨g,0,J⟩=So (I V a))(j:W.cell? ⟨g,1,J⟩=So (I V b)):
 Ca prog 73 #[Z g 2 2] W λe f=>e=X (I V (fY a b))/\a9 W f:=by
 have d:=a6 (a10 b a);have c:fY a b=if AW b a then b else a:=rfl
 generalize fY a b=R at*;generalize AW b a=q at*;go_wp2;go_loopw [3,12] (λr i wr=>W=wr/\(r=I V a/\i=I M 0\/r=I V R/\i=I M 1)) (λr i _=>1-(intOf i).toNat);exact⟨rfl,.inl ⟨rfl,rfl⟩⟩;obtain⟨rfl,⟨rfl,rfl⟩|⟨rfl,rfl⟩⟩:=hrel
 ·go_wp2_with fail;apply(d _).mono;rintro e k⟨rfl,rfl⟩;cases q;all_goals
   simp only[if_true,Bool.false_eq_true,if_false]at c;subst c;go_wp2;go_roundw;first|exact⟨rfl,.inr ⟨rfl,rfl⟩⟩|exact⟨trivial,.inr ⟨rfl,rfl⟩⟩
   simp[intOf]
 go_wp2;go_ret;exact⟨rfl,a9.refl _⟩
structure yI where
 code:Int
 name:g4
 cls:Int
def yI.cells(e:yI):Array Va:= #[I U1 e.code,Y e.name,I U8 e.cls]
def yI.val(e:yI):Va:=Ag e.cells
def bL:List yI:=[⟨32,⟨#[108,100,97,98,115]⟩,1⟩,⟨128,⟨#[108,100,108,101,110]⟩,1⟩,⟨0,⟨#[108,100,105]⟩,1⟩,⟨96,⟨#[108,100,109]⟩,1⟩,⟨129,⟨#[108,100,120,108,101,110]⟩,1⟩,⟨1,⟨#[108,100,120,105]⟩,1⟩,⟨97,⟨#[108,100,120,109]⟩,1⟩,⟨2,⟨#[115,116]⟩,2⟩,⟨3,⟨#[115,116,120]⟩,2⟩,⟨4,⟨#[97,100,100]⟩,3⟩,⟨20,⟨#[115,117,98]⟩,3⟩,⟨36,⟨#[109,117,108]⟩,3⟩,⟨52,⟨#[100,105,118]⟩,3⟩,⟨68,⟨#[111,114]⟩,3⟩,⟨84,⟨#[97,110,100]⟩,3⟩,⟨100,⟨#[108,115,104]⟩,3⟩,⟨116,⟨#[114,115,104]⟩,3⟩,⟨164,⟨#[120,111,114]⟩,3⟩,⟨12,⟨#[97,100,100,120]⟩,3⟩,⟨28,⟨#[115,117,98,120]⟩,3⟩,⟨44,⟨#[109,117,108,120]⟩,3⟩,⟨60,⟨#[100,105,118,120]⟩,3⟩,⟨76,⟨#[111,114,120]⟩,3⟩,⟨92,⟨#[97,110,100,120]⟩,3⟩,⟨108,⟨#[108,115,104,120]⟩,3⟩,⟨124,⟨#[114,115,104,120]⟩,3⟩,⟨172,⟨#[120,111,114,120]⟩,3⟩,⟨132,⟨#[110,101,103]⟩,3⟩,⟨5,⟨#[106,97]⟩,4⟩,⟨21,⟨#[106,101,113]⟩,4⟩,⟨37,⟨#[106,103,116]⟩,4⟩,⟨53,⟨#[106,103,101]⟩,4⟩,⟨69,⟨#[106,115,101,116]⟩,4⟩,⟨29,⟨#[106,101,113,120]⟩,4⟩,⟨45,⟨#[106,103,116,120]⟩,4⟩,⟨61,⟨#[106,103,101,120]⟩,4⟩,⟨77,⟨#[106,115,101,116,120]⟩,4⟩,⟨6,⟨#[114,101,116]⟩,5⟩,⟨22,⟨#[114,101,116,97]⟩,5⟩,⟨7,⟨#[116,97,120]⟩,6⟩,⟨135,⟨#[116,120,97]⟩,6⟩]
def XL:Array Va:= #[I U1 32,Y ⟨#[108,100,97,98,115]⟩,I U8 1,I U1 128,Y ⟨#[108,100,108,101,110]⟩,I U8 1,I U1 0,Y ⟨#[108,100,105]⟩,I U8 1,I U1 96,Y ⟨#[108,100,109]⟩,I U8 1,I U1 129,Y ⟨#[108,100,120,108,101,110]⟩,I U8 1,I U1 1,Y ⟨#[108,100,120,105]⟩,I U8 1,I U1 97,Y ⟨#[108,100,120,109]⟩,I U8 1,I U1 2,Y ⟨#[115,116]⟩,I U8 2,I U1 3,Y ⟨#[115,116,120]⟩,I U8 2,I U1 4,Y ⟨#[97,100,100]⟩,I U8 3,I U1 20,Y ⟨#[115,117,98]⟩,I U8 3,I U1 36,Y ⟨#[109,117,108]⟩,I U8 3,I U1 52,Y ⟨#[100,105,118]⟩,I U8 3,I U1 68,Y ⟨#[111,114]⟩,I U8 3,I U1 84,Y ⟨#[97,110,100]⟩,I U8 3,I U1 100,Y ⟨#[108,115,104]⟩,I U8 3,I U1 116,Y ⟨#[114,115,104]⟩,I U8 3,I U1 164,Y ⟨#[120,111,114]⟩,I U8 3,I U1 12,Y ⟨#[97,100,100,120]⟩,I U8 3,I U1 28,Y ⟨#[115,117,98,120]⟩,I U8 3,I U1 44,Y ⟨#[109,117,108,120]⟩,I U8 3,I U1 60,Y ⟨#[100,105,118,120]⟩,I U8 3,I U1 76,Y ⟨#[111,114,120]⟩,I U8 3,I U1 92,Y ⟨#[97,110,100,120]⟩,I U8 3,I U1 108,Y ⟨#[108,115,104,120]⟩,I U8 3,I U1 124,Y ⟨#[114,115,104,120]⟩,I U8 3,I U1 172,Y ⟨#[120,111,114,120]⟩,I U8 3,I U1 132,Y ⟨#[110,101,103]⟩,I U8 3,I U1 5,Y ⟨#[106,97]⟩,I U8 4,I U1 21,Y ⟨#[106,101,113]⟩,I U8 4,I U1 37,Y ⟨#[106,103,116]⟩,I U8 4,I U1 53,Y ⟨#[106,103,101]⟩,I U8 4,I U1 69,Y ⟨#[106,115,101,116]⟩,I U8 4,I U1 29,Y ⟨#[106,101,113,120]⟩,I U8 4,I U1 45,Y ⟨#[106,103,116,120]⟩,I U8 4,I U1 61,Y ⟨#[106,103,101,120]⟩,I U8 4,I U1 77,Y ⟨#[106,115,101,116,120]⟩,I U8 4,I U1 6,Y ⟨#[114,101,116]⟩,I U8 5,I U1 22,Y ⟨#[114,101,116,97]⟩,I U8 5,I U1 7,Y ⟨#[116,97,120]⟩,I U8 6,I U1 135,Y ⟨#[116,120,97]⟩,I U8 6]
def a4j:Va:=Ag XL
def T9:yI:=⟨0,⟨#[]⟩,0⟩
theorem x6{P:Pg}{c:Array Oper}{rest:List Oper}{o:Oper}{a:Act}{w:Wd}{Q:Exit->Act->Wd->Prop}(h:o.guard=J)(t:Ti)(d:Array (Nat×Operand))(j:o.op= .build t d)
 (b:Array Va) (g:P.built t (d.map λ(i,x)=>(i,a.eval x)).toList=So b)
 (e:Wp P c Q rest (a.put o.dst (Ag b)) w):Wp P c Q (o::rest) a w:=by
 refine wpList_plain h λ_ f=> ?_
 unfold Oper.wp execOp;simp only[j,Sem.run_bind,run_build w t _ _ g,Result.andThen_ok];exact f _ _ e
theorem OZ:∀(k:Nat)(a:k<41)(W:Wd),(Instr.index 376 a4j (I M k)).run prog W= .ok (bL.getD k T9).val W
 |0,_,_=>g6
 |1,_,_=>g6
 |2,_,_=>g6
 |3,_,_=>g6
 |4,_,_=>g6
 |5,_,_=>g6
 |6,_,_=>g6
 |7,_,_=>g6
 |8,_,_=>g6
 |9,_,_=>g6
 |10,_,_=>g6
 |11,_,_=>g6
 |12,_,_=>g6
 |13,_,_=>g6
 |14,_,_=>g6
 |15,_,_=>g6
 |16,_,_=>g6
 |17,_,_=>g6
 |18,_,_=>g6
 |19,_,_=>g6
 |20,_,_=>g6
 |21,_,_=>g6
 |22,_,_=>g6
 |23,_,_=>g6
 |24,_,_=>g6
 |25,_,_=>g6
 |26,_,_=>g6
 |27,_,_=>g6
 |28,_,_=>g6
 |29,_,_=>g6
 |30,_,_=>g6
 |31,_,_=>g6
 |32,_,_=>g6
 |33,_,_=>g6
 |34,_,_=>g6
 |35,_,_=>g6
 |36,_,_=>g6
 |37,_,_=>g6
 |38,_,_=>g6
 |39,_,_=>g6
 |40,_,_=>g6
 |n+41,h,_=>absurd h a8
theorem CC(W:Wd):
 Ca prog 270 #[] W λe f=>e=X a4j/\a9 W f:=by
 have c:∀v∈XL.toList,v.oneCell'=Bt:=by have:XL.toList.all (·.oneCell')=Bt:=g6;exact List.all_eq_true.1 this
 go_in;have b:∀x:Array Va,e7 (W.alloc (U x 376)) W 376 x:=λx=>e7.new _ _ _
 go_wp2_with(first|(refine x6 rfl 376 _ rfl XL g6 ?_)|(refine j1 rfl 376 (Tm 0) (Tm 42) rfl W 376 zeroCells376 XL rfl rfl (b _) g6 g6 c ?_;intro g a d));exact F9 a underlying376 ⟨rfl,((a9.refl W).alloc _).grown d (λk e=>by cases e;exact a7 _)⟩
def a4A(p:yI->Bool):yI×Bool:=match bL.find? p with
 |some e=>(e,Bt)
 |none=>(T9,Bf)
theorem XD{p:yI->Bool}{k:Nat}(d:k<41)(c:∀j,j<k->p (bL.getD j T9)=Bf)(a:p (bL.getD k T9)=Bt):a4A p=(bL.getD k T9,Bt):=by
 have e:D bL=41:=rfl;have:bL.find? p=So (bL.getD k T9):=by rw[List.find?_eq_some_iff_getElem];refine⟨a,k,a8,?_,λj b=> ?_⟩;rw[b9,e9 a8];rfl;have:=c j b;rw[b9,e9 (a8:j<D bL)]at this;simpa using this
 unfold a4A;rw[this]
theorem XC{p:yI->Bool}(b:∀j,j<41->p (bL.getD j T9)=Bf):a4A p=(T9,Bf):=by
 have d:D bL=41:=rfl;have:bL.find? p=J:=by rw[List.find?_eq_none];intro x c;obtain⟨j,a,rfl⟩:=List.getElem_of_mem c;have:=b j a8;rw[b9,e9 a]at this;simpa using this
 unfold a4A;rw[this]
theorem by1(c q:Int)(s:g4)(g:Nat)(a:Int)(W:Wd)(b:W.cell? ⟨g,0,J⟩=So (I U1 a)):
 Ca prog 190 #[Ag #[I U1 c,Y s,I U8 q],K g] W λe f=>e=X (O (c==a))/\a9 W f:=by
 have d:g<W.heap.size:=block_lt_of_cell b;have i:g≠W.heap.size:=Nat.ne_of_lt d;have h:∀o,(W.alloc o).cell? ⟨g,0,J⟩=So (I U1 a):=λo=>((a9.refl W).alloc o).cell b
 go_in;go_wp2;go_ret;first|exact⟨rfl,(a9.refl W).alloc _⟩|exact⟨rfl,a9.refl W⟩
theorem OS(g:Nat)(a:Int)(W:Wd)(F:W.cell? ⟨g,0,J⟩=So (I U1 a)):
 Ca prog 189 #[Fc (.func 190) #[] #[K g]] W λe S=>e=X (Tp #[(a4A λe=>e.code==a).1.val,O (a4A λe=>e.code==a).2])/\a9 W S:=by
 obtain⟨w,u,v,x⟩:=F6 (λ(k:Nat)(n:k<41)(W:Wd)=>OZ k n W) (λW:Wd=>CC W) (λ(k:Nat)(n:k<41)=>XD (p:=λe=>e.code==a) n) (XC (p:=λe=>e.code==a));generalize a4j=N at*;generalize a4A (λe=>e.code==a)=R at*;have ab:=block_lt_of_cell F;go_in;go_wp2_with fail;have r:=(a9.refl W).alloc (U #[I U1 0,Y ⟨#[]⟩,I U8 0] 199);have b:=e7.new W 199 #[I U1 0,Y ⟨#[]⟩,I U8 0];refine l4 (u _) λac B=>?_;replace r:=r.trans B;replace b:=b.h B;clear B;go_wp2;go_loopw [7] (λi wr=>∃k:Nat,k<=41/\i=I M k/\(∀j,j<k->((bL.getD j T9).code==a)=Bf)/\a9 W wr/\e7 wr W 199 #[I U1 0,Y ⟨#[]⟩,I U8 0]) (λi _=>41-(intOf i).toNat);exact⟨0,e6,rfl,λj A=>absurd A a8,r,b⟩;clear r b;obtain⟨k,n,rfl,f,o,b⟩:=hrel;by_cases H:k<41
 ·have Q:∀W,(Instr.index 376 N (I M k)).run prog W= .ok (Ag #[I U1 (bL.getD k T9).code,Y (bL.getD k T9).name,I U8 (bL.getD k T9).cls]) W:=λW=>w k H W
  have m:=a6 (v k H f);have l:∀(d:((bL.getD k T9).code==a)=Bf) j,j<k+1->((bL.getD j T9).code==a)=Bf:=λd j A=>by
   rcases Nat.lt_succ_iff_lt_or_eq.1 A with P|rfl
   exact f j P;exact d
  generalize bL.getD k T9=E at*;obtain⟨c,s,q⟩:=E;have G:=o.cell F;dsimp only at Q m l;by_cases d:(c==a)=Bt;·have y:=m d;subst y;clear f l m v x w u;go_wp2_with fail;refine(by1 c q s g a _ (((a9.refl wr).alloc _).cell G)).mono ?_;rintro e T⟨rfl,h⟩;have C:=(o.alloc (U #[I U1 c,Y s,I U8 q] 199)).trans h;have L:=(e7.new wr 199 #[I U1 c,Y s,I U8 q]).h h;replace b:=(b.alloc (U #[I U1 c,Y s,I U8 q] 199)).h h;rw[d];go_wp2_with(first|(refine D1 L underlying199 ?_)|(refine q6 b ?_;intro aa t z));exact s0 rfl t underlying199 ⟨rfl,C.grown z (λk e=>by cases e;exact a7 _)⟩
  have d:(c==a)=Bf:=by simpa using d
  replace l:=l d;clear f m;go_wp2_with fail;refine(by1 c q s g a _ (((a9.refl wr).alloc _).cell G)).mono ?_;rintro e T⟨rfl,h⟩;have C:=(o.alloc (U #[I U1 c,Y s,I U8 q] 199)).trans h;replace b:=(b.alloc (U #[I U1 c,Y s,I U8 q] 199)).h h;rw[d];go_wp2;go_roundw;exact⟨k+1,a8,o3,l,C,b⟩;simp[intOf];omega
 obtain rfl:k=41:=a8;have y:=x f;subst y;clear f v x w u;go_wp2_with(refine q6 b ?_;intro aa t z);exact s0 rfl t underlying199 ⟨rfl,o.grown z (λk e=>by cases e;exact a7 _)⟩
theorem GX(a:Int)(W:Wd):
 Ca prog 125 #[I U1 a] W λe m=>e=X (Tp #[(a4A λe=>e.code==a).1.val,O (a4A λe=>e.code==a).2])/\a9 W m:=by
 have H:=a6 (λ(g:Nat)(W:Wd)(i:W.cell? ⟨g,0,J⟩=So (I U1 a))=>OS g a W i);generalize a4A (λe=>e.code==a)=R at*;obtain⟨⟨c,s,q⟩,n⟩:=R;go_in;go_wp2_with fail;have l:=((a9.refl W).alloc (U #[I U1 a] 139)).alloc (U #[I U1 0,Y ⟨#[]⟩,I U8 0] 199);have b:e7 ((W.alloc (U #[I U1 a] 139)).alloc (U #[I U1 0,Y ⟨#[]⟩,I U8 0] 199)) (W+1) 199 #[I U1 0,Y ⟨#[]⟩,I U8 0]:=e7.b i3;have f:=(e7.new W 139 #[I U1 a]).alloc (U #[I U1 0,Y ⟨#[]⟩,I U8 0] 199);refine l4 (H W _ (by rw[f.cell];rfl)) λo d=>?_;replace b:=b.h d;go_wp2_with(refine q6 b ?_ (hx1q:=by simp[Value.oneCell',yI.cells]);intro p h j);exact s0 rfl h underlying199 ⟨rfl,(l.trans d).grown j (λk e=>by cases e;omega)⟩
def dV(a:Int):yI×Bool:=a4A λe=>e.code==a
theorem NW(a:Int)(W:Wd):
 Ca prog 334 #[I U1 a] W λe d=>e=X (O (dV a).2)/\a9 W d:=by
 have H:=a6 (GX a W);rw[show(a4A λe=>e.code==a)=dV a from rfl]at H;generalize dV a=R at*;obtain⟨⟨c,s,q⟩,f⟩:=R;simp only[yI.val,yI.cells]at H;go_in;go_wp2_with fail;refine l4 H λg b=>?_;go_wp2;go_ret;exact⟨rfl,b.alloc _⟩
theorem K9(a:Int)(W:Wd):
 Ca prog 70 #[I U1 a] W λe d=>e=X (I U8 (dV a).1.cls)/\a9 W d:=by
 have H:=a6 (GX a W);rw[show(a4A λe=>e.code==a)=dV a from rfl]at H;generalize dV a=R at*;obtain⟨⟨c,s,q⟩,f⟩:=R;simp only[yI.val,yI.cells]at H;go_in;go_wp2_with fail;refine l4 H λg b=>?_;go_wp2;go_ret;exact⟨rfl,b.alloc _⟩
def vL(a:Int):Bool:=(dV a).2&&((dV a).1.cls==3||(dV a).1.cls==4)&&(bits .and U1 a 8 !=0)
theorem sQ(a:Int)(W:Wd):
 Ca prog 272 #[I U1 a] W λe i=>e=X (O (vL a))/\a9 W i:=by
 have H:=a6 (GX a W);rw[show(a4A λe=>e.code==a)=dV a from rfl]at H;unfold vL;generalize dV a=R at*;obtain⟨⟨c,s,q⟩,h⟩:=R;simp only[yI.val,yI.cells]at H;generalize j:bits .and U1 a 8=b at*;go_in;go_wp2_with fail;refine l4 H λk d=>?_;cases h;·go_wp2;go_ret;exact⟨rfl,d.alloc _⟩
 cases f:(q==3)
 ·cases g:(q==4);·go_wp2;go_ret;exact⟨pB (by rw[f,g];rfl),d.alloc _⟩
  go_wp2;go_ret;exact⟨pB (by rw[f,g];rfl),d.alloc _⟩
 go_wp2;go_ret;exact⟨pB (by rw[f];rfl),d.alloc _⟩
abbrev Nm:=g4×Int
def nN(k:IntKind):s7 Nm:=⟨2,λa=>[Y a.1,I k a.2],λ_=>rfl,λx u b=>by simp at b;rcases b with rfl|rfl<;>rfl⟩
theorem cY{k:IntKind}{w:Wd}{b:Nat}{xs:List Nm}(a:i5 w b ((nN k).row xs)){j:Nat}(c:j<D xs):
  w.cell? ⟨b,j*2,J⟩=So (Y xs[j].1)/\w.cell? ⟨b,j*2+1,J⟩=So (I k xs[j].2):=
 ⟨a.elt0 c (r:=0) rfl,a.elt0 c (r:=1) rfl⟩
def p0(l:List Nm)(s:g4)(b:Int):Int×Int:=match l.find? λa=>a.1.toList==s.toList with
 |some a=>(a.2,0)
 |none=>(0,b)
theorem gG(l:List Nm)(k:Nat)(b:k<D l)(s:g4)(a:Int):p0 (l.drop k) s a=if l[k].1.toList==s.toList then(l[k].2,0)else p0 (l.drop (k+1)) s a:=by unfold p0;rw[aB l _ k b];cases c:l[k].1.toList==s.toList<;>simp
def ZJ(l:List Nm)(n:Int):g4:=match l.find? λa=>a.2==n with
 |some a=>a.1
 |none=>⟨#[]⟩
theorem UE(l:List Nm)(k:Nat)(a:k<D l)(n:Int):ZJ (l.drop k) n=if l[k].2==n then l[k].1 else ZJ (l.drop (k+1)) n:=by unfold ZJ;rw[aB l _ k a];cases b:l[k].2==n<;>simp
def E6:List Nm:=[(⟨#[69,80,69,82,77]⟩,1),(⟨#[69,78,79,69,78,84]⟩,2),(⟨#[69,73,79]⟩,5),(⟨#[69,66,65,68,70]⟩,9),(⟨#[69,65,71,65,73,78]⟩,11),(⟨#[69,78,79,77,69,77]⟩,12),(⟨#[69,65,67,67,69,83]⟩,13),(⟨#[69,70,65,85,76,84]⟩,14),(⟨#[69,66,85,83,89]⟩,16),(⟨#[69,78,79,68,69,86]⟩,19),(⟨#[69,73,78,86,65,76]⟩,22),(⟨#[69,78,79,83,89,83]⟩,38),(⟨#[69,79,80,78,79,84,83,85,80,80]⟩,95),(⟨#[69,65,70,78,79,83,85,80,80,79,82,84]⟩,97),(⟨#[69,84,73,77,69,68,79,85,84]⟩,110)]
def a4B:Array Va:=((nN V).row E6).toArray
theorem GK(W:Wd):Ca prog 372 #[] W λe f=>e=X (Ag a4B)/\a9 W f:=by
 have c:∀v∈a4B.toList,v.oneCell'=Bt:=by have:a4B.toList.all (·.oneCell')=Bt:=g6;exact List.all_eq_true.1 this
 go_in;have b:∀x:Array Va,e7 (W.alloc (U x 466)) W 466 x:=λx=>e7.new _ _ _
 go_wp2_with(first|(refine x6 rfl 466 _ rfl a4B g6 ?_)|(refine j1 rfl 466 (Tm 0) (Tm 16) rfl W 466 _ a4B rfl rfl (b _) g6 g6 c ?_;intro g a d));exact F9 a underlying466 ⟨rfl,((a9.refl W).alloc _).grown d (λk e=>by cases e;exact a7 _)⟩
def j7:List Nm:=[(⟨#[65,70,95,85,78,73,88]⟩,1),(⟨#[65,70,95,73,78,69,84]⟩,2),(⟨#[65,70,95,73,78,69,84,54]⟩,10),(⟨#[65,70,95,78,69,84,76,73,78,75]⟩,16),(⟨#[65,70,95,80,65,67,75,69,84]⟩,17),(⟨#[65,70,95,66,76,85,69,84,79,79,84,72]⟩,31),(⟨#[65,70,95,65,76,71]⟩,38),(⟨#[65,70,95,86,83,79,67,75]⟩,40)]
def D5:Array Va:=((nN V).row j7).toArray
theorem iP(W:Wd):Ca prog 151 #[] W λe f=>e=X (Ag D5)/\a9 W f:=by
 have c:∀v∈D5.toList,v.oneCell'=Bt:=by have:D5.toList.all (·.oneCell')=Bt:=g6;exact List.all_eq_true.1 this
 go_in;have b:∀x:Array Va,e7 (W.alloc (U x 236)) W 236 x:=λx=>e7.new _ _ _
 go_wp2_with(first|(refine x6 rfl 236 _ rfl D5 g6 ?_)|(refine j1 rfl 236 (Tm 0) (Tm 9) rfl W 236 _ D5 rfl rfl (b _) g6 g6 c ?_;intro g a d));exact F9 a underlying236 ⟨rfl,((a9.refl W).alloc _).grown d (λk e=>by cases e;exact a7 _)⟩
def i9:List Nm:=[(⟨#[116,105,109,101]⟩,128),(⟨#[109,110,116]⟩,131072),(⟨#[99,103,114,111,117,112]⟩,33554432),(⟨#[117,116,115]⟩,67108864),(⟨#[105,112,99]⟩,134217728),(⟨#[117,115,101,114]⟩,268435456),(⟨#[112,105,100]⟩,536870912),(⟨#[110,101,116]⟩,1073741824)]
def K4:Array Va:=((nN U6).row i9).toArray
theorem fT(W:Wd):Ca prog 155 #[] W λe f=>e=X (Ag K4)/\a9 W f:=by
 have c:∀v∈K4.toList,v.oneCell'=Bt:=by have:K4.toList.all (·.oneCell')=Bt:=g6;exact List.all_eq_true.1 this
 go_in;have b:∀x:Array Va,e7 (W.alloc (U x 242)) W 242 x:=λx=>e7.new _ _ _
 go_wp2_with(first|(refine x6 rfl 242 _ rfl K4 g6 ?_)|(refine j1 rfl 242 (Tm 0) (Tm 9) rfl W 242 _ K4 rfl rfl (b _) g6 g6 c ?_;intro g a d));exact F9 a underlying242 ⟨rfl,((a9.refl W).alloc _).grown d (λk e=>by cases e;exact a7 _)⟩
theorem fE(l:List Nm)(g n:Nat)(s:g4)(c:Int)(W:Wd)(v:D l=n)(x:n<=1000)(d:i5 W g ((nN V).row l)):
 Ca prog 373 #[Z g n n,Y s,I M c] W λe t=>e=X (Tp #[I V (p0 l s c).1,I M (p0 l s c).2])/\a9 W t:=by
 obtain⟨o,p⟩:=j0 d (λk h=>gG l k h s c);obtain⟨R,b⟩:∃R,R=p0 l s c:=⟨_,rfl⟩;rw[<-b];clear d;go_wp2;go_loopw [13] (λi wr=>∃k:Nat,k<=n/\i=I M k/\R=p0 (l.drop k) s c/\a9 W wr) (λi _=>n-(intOf i).toNat);exact⟨0,a8,rfl,b,a9.refl W⟩;clear b;obtain⟨k,h,rfl,b,f⟩:=hrel;by_cases w:k<n
 ·obtain⟨q,r⟩:=cY (o.h f) (j:=k) a8;rw[p k a8]at b;generalize l[k]' a8=E at*;obtain⟨a,u⟩:=E;dsimp only at b q r;have m:=f.alloc (U #[Y a,I V u] 235);rcases d:a.toList==s.toList with _|_
  all_goals
   rw[d]at b;go_wp2_with fail;first
    |(go_ret2;subst b;exact⟨rfl,m⟩)
    |(go_roundw
      case rel=>exact⟨k+1,a8,o3,b,m⟩
      case measure=>simp[intOf];omega)
 obtain rfl:k=n:=a8;rw[List.drop_of_length_le a8]at b;subst b;go_wp2;go_ret2;exact⟨rfl,f⟩
theorem sA(l:List Nm)(g n:Nat)(s:g4)(c:Int)(W:Wd)(v:D l=n)(x:n<=1000)(d:i5 W g ((nN U6).row l)):
 Ca prog 388 #[Z g n n,Y s,I M c] W λe t=>e=X (Tp #[I U6 (p0 l s c).1,I M (p0 l s c).2])/\a9 W t:=by
 obtain⟨o,p⟩:=j0 d (λk h=>gG l k h s c);obtain⟨R,b⟩:∃R,R=p0 l s c:=⟨_,rfl⟩;rw[<-b];clear d;go_wp2;go_loopw [13] (λi wr=>∃k:Nat,k<=n/\i=I M k/\R=p0 (l.drop k) s c/\a9 W wr) (λi _=>n-(intOf i).toNat);exact⟨0,a8,rfl,b,a9.refl W⟩;clear b;obtain⟨k,h,rfl,b,f⟩:=hrel;by_cases w:k<n
 ·obtain⟨q,r⟩:=cY (o.h f) (j:=k) a8;rw[p k a8]at b;generalize l[k]' a8=E at*;obtain⟨a,u⟩:=E;dsimp only at b q r;have m:=f.alloc (U #[Y a,I U6 u] 241);rcases d:a.toList==s.toList with _|_
  all_goals
   rw[d]at b;go_wp2_with fail;first
    |(go_ret2;subst b;exact⟨rfl,m⟩)
    |(go_roundw
      case rel=>exact⟨k+1,a8,o3,b,m⟩
      case measure=>simp[intOf];omega)
 obtain rfl:k=n:=a8;rw[List.drop_of_length_le a8]at b;subst b;go_wp2;go_ret2;exact⟨rfl,f⟩
theorem a6y(l:List Nm)(g n:Nat)(c:Int)(W:Wd)(t:D l=n)(v:n<=1000)(d:i5 W g ((nN V).row l)):
 Ca prog 152 #[Z g n n,I V c] W λe s=>e=X (Y (ZJ l c))/\a9 W s:=by
 obtain⟨o,p⟩:=j0 d (λk h=>UE l k h c);obtain⟨R,b⟩:∃R,R=ZJ l c:=⟨_,rfl⟩;rw[<-b];clear d;go_wp2;go_loopw [9] (λi wr=>∃k:Nat,k<=n/\i=I M k/\R=ZJ (l.drop k) c/\a9 W wr) (λi _=>n-(intOf i).toNat);exact⟨0,a8,rfl,b,a9.refl W⟩;clear b;obtain⟨k,h,rfl,b,f⟩:=hrel;by_cases u:k<n
 ·obtain⟨q,r⟩:=cY (o.h f) (j:=k) a8;rw[p k a8]at b;generalize l[k]' a8=E at*;obtain⟨a,z⟩:=E;dsimp only at b q r;have m:=f.alloc (U #[Y a,I V z] 235);rcases d:z==c with _|_
  all_goals
   rw[d]at b;go_wp2_with fail;first
    |(go_ret;subst b;exact⟨rfl,m⟩)
    |(go_roundw
      case rel=>exact⟨k+1,a8,o3,b,m⟩
      case measure=>simp[intOf];omega)
 obtain rfl:k=n:=a8;rw[List.drop_of_length_le a8]at b;subst b;go_wp2;go_ret;exact⟨rfl,f⟩
theorem UO(s:g4)(W:Wd):Ca prog 291 #[Y s] W λe p=>e=X (Tp #[I V (p0 j7 s 180).1,I M (p0 j7 s 180).2])/\a9 W p:=by
 have f:=a6 iP;have m:∀v∈D5.toList,v.oneCell'=Bt:=(nN V).row_oneCell j7;have i:D5.toList=(nN V).row j7:=rfl;have g:=a6 (λw G(j:i5 w (So ⟨G,0,J⟩) ((nN V).row j7))=>fE j7 G 8 s 180 w rfl e6 j);generalize D5=h at*;generalize j7=q at*;go_in;go_wp2_with fail;refine l4 (f _) λb c=>?_;have l:∀x:Array Va,e7 (b.alloc (U x 236)) b 236 x:=λx=>e7.new _ _ _
 go_wp2_with(refine j1 rfl 236 (Tm 4) (Tm 5) rfl b 236 _ h rfl rfl (l _) g6 g6 m ?_;intro t d n);have o:=(c.alloc (U _ 236)).grown n (λk e=>by cases e;exact c.size);refine l4 (g _ _ (i5.f d i)) λr a=>?_;replace a:=o.trans a;go_wp2;go_ret2;exact⟨rfl,a⟩
theorem a0K(s:g4)(W:Wd):Ca prog 294 #[Y s] W λe p=>e=X (Tp #[I U6 (p0 i9 s 181).1,I M (p0 i9 s 181).2])/\a9 W p:=by
 have f:=a6 fT;have m:∀v∈K4.toList,v.oneCell'=Bt:=(nN U6).row_oneCell i9;have i:K4.toList=(nN U6).row i9:=rfl;have g:=a6 (λw G(j:i5 w (So ⟨G,0,J⟩) ((nN U6).row i9))=>sA i9 G 8 s 181 w rfl e6 j);generalize K4=h at*;generalize i9=q at*;go_in;go_wp2_with fail;refine l4 (f _) λb c=>?_;have l:∀x:Array Va,e7 (b.alloc (U x 242)) b 242 x:=λx=>e7.new _ _ _
 go_wp2_with(refine j1 rfl 242 (Tm 4) (Tm 5) rfl b 242 _ h rfl rfl (l _) g6 g6 m ?_;intro t d n);have o:=(c.alloc (U _ 242)).grown n (λk e=>by cases e;exact c.size);refine l4 (g _ _ (i5.f d i)) λr a=>?_;replace a:=o.trans a;go_wp2;go_ret2;exact⟨rfl,a⟩
theorem wN(c:Int)(W:Wd):Ca prog 98 #[I V c] W λe q=>e=X (Y (ZJ j7 c))/\a9 W q:=by
 have g:=a6 iP;have n:∀v∈D5.toList,v.oneCell'=Bt:=(nN V).row_oneCell j7;have j:D5.toList=(nN V).row j7:=rfl;have h:=a6 (λw G(l:i5 w (So ⟨G,0,J⟩) ((nN V).row j7))=>a6y j7 G 8 c w rfl e6 l);generalize D5=i at*;generalize j7=r at*;go_in;go_wp2_with fail;refine l4 (g _) λb d=>?_;have m:∀x:Array Va,e7 (b.alloc (U x 236)) b 236 x:=λx=>e7.new _ _ _
 go_wp2_with(refine j1 rfl 236 (Tm 3) (Tm 4) rfl b 236 _ i rfl rfl (m _) g6 g6 n ?_;intro t f o);have p:=(d.alloc (U _ 236)).grown o (λk e=>by cases e;exact d.size);refine l4 (h _ _ (i5.f f j)) λs a=>?_;replace a:=p.trans a;go_wp2;go_ret;exact⟨rfl,a⟩
theorem hH:∀(k:Nat)(a:k<D i9)(W:Wd),(Instr.index 242 (Ag K4) (I M k)).run prog W= .ok (Ag #[Y i9[k].1,I U6 i9[k].2]) W
 |0,_,_|1,_,_|2,_,_|3,_,_|4,_,_|5,_,_|6,_,_|7,_,_=>g6
 |n+8,h,_=>absurd h (by simp[i9])
def AG(l:List Nm)(x:Int):Int:=l.foldl (λa y=>bits .or U6 a y.2) x
def l9:Int:=AG i9 0
theorem AL(W:Wd):Ca prog 100 #[] W λe n=>e=X (I U6 l9)/\a9 W n:=by
 obtain⟨h,g,j⟩:=r6 hH fT (show D i9=8 from rfl);obtain⟨R,b⟩:∃R,R=AG i9 0:=⟨_,rfl⟩;unfold l9;rw[<-b];have l:=a6 (λ(k:Nat)(f:k<D i9)(x:Int)=>show AG (i9.drop k) x=AG (i9.drop (k+1)) (bits .or U6 x i9[k].2) by rw[List.drop_eq_getElem_cons f];rfl);generalize K4=o at*;generalize i9=d at*;go_in;go_wp2_with fail;refine l4 (g _) λr c=>?_;go_wp2;go_loopw [1,5] (λa i wr=>∃(k:Nat)(x:Int),k<=8/\i=I M k/\a=I U6 x/\R=AG (d.drop k) x/\a9 W wr) (λ_ i _=>8-(intOf i).toNat);exact⟨0,0,e6,rfl,rfl,b,c⟩;clear b c;obtain⟨k,x,f,rfl,rfl,b,c⟩:=hrel;have p:=j.O;by_cases q:k<8;·have m:=h k a8;rw[l k a8]at b;generalize d[k]' a8=E at*;obtain⟨a,s⟩:=E;dsimp only at m b;go_wp2;go_roundw;exact⟨k+1,_,a8,o3,rfl,b,c.alloc _⟩;simp[intOf];omega
 obtain rfl:k=8:=a8;rw[List.drop_of_length_le a8]at b;go_wp2;go_ret;exact⟨by rw[b];rfl,c⟩
def I0(l:List Nm)(all:Int):o5:=(l.filter λy=>bits .and U6 all y.2 !=0).map (·.2)
def yL:s7 Int:=⟨1,λx=>[I U6 x],λ_=>rfl,λx u a=>by simp at a;rw[a];rfl⟩
theorem a21:kZ prog 405 34 (I U6 0) 1 8:=⟨underlying405,g6,rfl,e6,e6⟩
theorem a0M(all:Int)(W:Wd):Ca prog 303 #[I U6 all] W λe o=>∃v,e=X v/\c7 o W 34 yL v (I0 i9 all)/\a9 W o:=by
 obtain⟨r,p,s⟩:=r6 hH fT (show D i9=8 from rfl);have q:=a6 (λ(k:Nat)(m:k<D i9)=>show I0 (i9.take (k+1)) all=I0 (i9.take k) all++(if bits .and U6 all i9[k].2 !=0 then [i9[k].2]else []) by unfold I0;rw[g2 m,List.filter_append,List.map_append,List.filter_cons,List.filter_nil];split<;>rfl)
 have t:=a6 (λk:Nat=>show(I0 (i9.take k) all).length<=8 by unfold I0;rw[i1];refine b6 (List.length_filter_le _ _) ?_;rw[m4];exact Nat.min_le_right _ _)
 generalize K4=z at*;generalize i9=g at*;go_in;go_wp2_with fail;refine l4 (p _) λL c=>?_;go_wp2;go_loopw [3,7] (λy i wr=>∃k:Nat,k<=8/\i=I M k/\c7 wr W 34 yL y (I0 (g.take k) all)/\a9 W wr) (λ_ i _=>8-(intOf i).toNat);exact⟨0,e6,rfl,c7.nil _ _ _ _,c⟩;clear c;obtain⟨k,m,rfl,h,c⟩:=hrel;have C:=s.O;by_cases F:k<8
 ·have u:=r k a8;have b:=q k a8;have G:=t k;generalize g[k]' a8=E at*;obtain⟨a,d⟩:=E;dsimp only at u b;have j:=c.alloc (U #[Y a,I U6 d] 241);have n:=h.h ((a9.refl wr).alloc (U #[Y a,I U6 d] 241));generalize I0 (g.take k) all=xs at*;rcases l:bits .and U6 all d !=0 with _|_
  ·rw[l]at b;simp only[Bool.false_eq_true,if_false,List.append_nil]at b;have f:=a6 b;clear b;go_wp2;go_roundw;exact⟨k+1,a8,o3,by rw[f.O];exact n,j⟩;simp[intOf];omega
  rw[l]at b;simp only[if_true]at b;have f:=a6 b;clear b;go_wp2_with(at_builtin;refine h8 rfl (Tm 15) (Tm 18) 405 34 rfl a21 W _ xs rfl (n.h ((a9.refl _).alloc _)) _ 1 1 [d] rfl rfl (cF i3 rfl) a8 (j.alloc _).size ?_;intro H N w x B A);go_roundw;exact⟨k+1,a8,o3,by rw[f.O];exact w,x W (j.alloc _) (a7 _)⟩;simp[intOf];omega
 obtain rfl:k=8:=a8;rw[List.take_of_length_le a8]at h;go_wp2;go_ret;exact⟨_,rfl,h,c⟩
section
open Go.Shelf
def mX(c:Nat):Bool:=blk (c:Int)
theorem a2W(c:Nat)(W:Wd):Ca prog 375 (#[I .i32 c]++ #[]) W λe g=>e=X (O (mX c))/\∃q,g=W.drewN q:=by show Ca prog 375 #[I .i32 c] W _;unfold mX;generalize(c:Int)=x;have a:blk x=(x==32||x==9||x==13):=rfl;generalize blk x=R at*;go_in;cases b:x==32<;>cases d:x==9<;>cases f:x==13;all_goals rw[b,d,f]at a;go_wp2;go_ret;exact⟨by rw[a];rfl,0,rfl⟩
def x4:s7 g4:=⟨1,λs=>[Y s],λ_=>rfl,λx u a=>by simp at a;rw[a];rfl⟩
theorem cO:kZ prog 186 9 (Y ⟨#[]⟩) 1 16:=⟨underlying186,g6,rfl,e6,e6⟩
theorem a4S(xs:C2):x4.row xs=xs.map Y:=by
 induction xs with
 |nil=>rfl
 |cons x r ih=>rw[x4.row_cons,ih];rfl
def l3(s:g4):C2:=Lib.goFieldsP mX s
theorem S8(s:g4)(h:s.size<=1000000)(W:Wd):Ca prog 286 #[Y s] W λe a=>∃v,e=X v/\c7 a W 9 x4 v (l3 s)/\a9 W a:=by have b:=a6 (show Ca prog 374 #[Y s,Fc (.func 375) #[] #[]] W _ from Any.strings_FieldsFunc a6F 375 #[] (Eo func375 g6 rfl) mX s W a8 (λW x _=>a2W x W) g6 g6);unfold l3;generalize Lib.goFieldsP mX s=L at*;go_in;go_wp2_with fail;apply b.mono;rintro e i⟨f,rfl,g,c,d⟩;go_wp2;go_ret;exact⟨_,rfl,⟨_,_,rfl,by rw[a4S];exact c⟩,d⟩
def sV:g4:=⟨#[126]⟩
def j6(s:g4):g4×Bool:=(⟨(Lib.trimPrefix s.data.toList sV.data.toList).toArray⟩,Lib.hasPrefix s.data.toList sV.data.toList)
theorem jJ(s:g4)(W:Wd):Ca prog 290 #[Y s] W λe g=>e=X (Tp #[Y (j6 s).1,O (j6 s).2])/\a9 W g:=by have d:=a6 (gY s sV);unfold j6;generalize f:sV=c at*;have h:(⟨#[126]⟩:g4)=c:=f;generalize(⟨(Lib.trimPrefix s.data.toList c.data.toList).toArray⟩:g4)=a at*;generalize Lib.hasPrefix s.data.toList c.data.toList=b at*;go_in;go_wp2_with fail;apply(d _).mono;rintro e i⟨rfl,rfl⟩;go_wp2;go_ret2;exact⟨rfl,a9.refl _⟩
def XN:C2:=[⟨#[110,111]⟩,⟨#[102,97,108,115,101]⟩,⟨#[111,102,102]⟩,⟨#[48]⟩]
def KM:C2:=[⟨#[121,101,115]⟩,⟨#[116,114,117,101]⟩,⟨#[111,110]⟩,⟨#[49]⟩]
def mS(l:C2)(s:g4):Bool:=l.any λy=>s.toList==y.toList
def V9:List (C2):=[XN,KM]
def mC(s:g4):List (C2)->Nat->Bool×Int
 |[],_=>(Bf,150)
 |l::r,k=>if mS l s then((k:Int)==1,0)else mC s r (k+1)
def G4(s:g4):Bool×Int:=mC s V9 0
def SH:Array Va:=((XN++KM).map Y).toArray
theorem SG(W:Wd):Ca prog 386 #[] W λe a=>e=X (Ag SH)/\a9 W a:=by go_in;go_wp2;exact F9 (e7.new _ _ _) underlying479 ⟨rfl,(a9.refl W).alloc _⟩
theorem ED:∀(k:Nat)(a:k<D V9)(W:Wd),(Instr.index 479 (Ag SH) (I M k)).run prog W= .ok (Ag (V9[k].map Y).toArray) W
 |0,_,_|1,_,_=>g6
 |n+2,h,_=>absurd h (by simp[V9])
theorem SF:∀(k:Nat)(a:k<D V9),D V9[k]=4
 |0,_|1,_=>rfl
 |n+2,h=>absurd h (by simp[V9])
theorem a4N(s:g4)(W:Wd):Ca prog 293 #[Y s] W λe d=>e=X (Tp #[O (G4 s).1,I M (G4 s).2])/\a9 W d:=by
 obtain⟨A,u,r⟩:=r6 SG ED (λ(l:C2)(m:D l=4) w G(C:i5 w G (l.map Y))=>show Ca prog 387 #[Z G 4 4,Y s] w λe d=>e=X (O (mS l s))/\w=d from ctE a30 Y (λx N=>x.toList==N.toList) (EqlAt.string _ _) G 4 4 l s w m e6 C);obtain⟨R,b⟩:∃R,R=G4 s:=⟨_,rfl⟩;rw[<-b];unfold G4 at b;obtain⟨y,z,t⟩:=r6 (show D V9=2 from rfl) SF (λk(j:k<D V9)=>show mC s (V9.drop k) k=if mS V9[k] s then((k:Int)==1,0)else mC s (V9.drop (k+1)) (k+1) by rw[List.drop_eq_getElem_cons j];rfl);generalize SH=P at*;generalize V9=f at*;go_in;go_wp2_with fail;apply(A _).mono;rintro e T⟨rfl,c⟩;go_wp2;go_loopw [7] (λi wr=>∃k:Nat,k<=2/\i=I M k/\R=mC s (f.drop k) k/\a9 W wr) (λi _=>2-(intOf i).toNat);exact⟨0,e6,rfl,b,c⟩;clear b c;obtain⟨k,j,rfl,b,c⟩:=hrel;have m:=y.O;by_cases S:k<2
 ·have Q:=u k a8;have n:=z k a8;rw[t k a8]at b;generalize f[k]' a8=l at*;have B:=r l n;have H:∀v∈(l.map Y).toArray.toList,v.oneCell'=Bt:=λv o=>by simp at o;obtain⟨a,_,rfl⟩:=o;rfl
  have h:(l.map Y).toArray.size=4:=by simp[n]
  have E:(l.map Y).toArray.toList=l.map Y:=rfl;generalize(l.map Y).toArray=cs at*;have F:∀x:Array Va,e7 (wr.alloc (U x 478)) wr 478 x:=λx=>e7.new _ _ _
  go_wp2_with(refine j1 rfl 478 (Tm 5) (Tm 10) rfl wr 478 _ cs rfl rfl (F _) (by rw[h];rfl) (by rw[h];kernel_rfl) H ?_;intro ab q L);have p:=(c.alloc (U _ 478)).grown L (λk e=>by cases e;exact c.size);apply(B _ _ (i5.f q E)).mono;rintro e aa⟨rfl,rfl⟩;rcases g:mS l s with _|_
  ·rw[g]at b;go_wp2;go_roundw;exact⟨k+1,a8,o3,b,p⟩;simp[intOf];omega
  rw[g,if_pos rfl]at b;subst b;go_wp2;go_ret2;exact⟨rfl,p⟩
 obtain rfl:k=2:=a8;rw[List.drop_of_length_le a8]at b;subst b;go_wp2;go_ret2;exact⟨rfl,c⟩
def I9(s:g4):o5:=s.data.toList.map λb=>(b.toNat:Int)
theorem yV(s:g4)(w:Wd):∃G c a,(convert 9 22 (Y s)).run prog w= .ok (Z (So ⟨G,0,J⟩) s.size c) a/\a9 w a/\i5 a (So ⟨G,0,J⟩) (l8 U8 (I9 s)):=by
 refine⟨_,_,_,run_bytes_of_string (P:=prog) w 9 22 5 s underlying9 underlying22 underlying5,((a9.refl w).drew).alloc _,λj u e=>⟨w,0,rfl,?_⟩⟩;rw[Nat.zero_add];have b:j<D s.data.toList:=by simpa[l8,I9]using(List.getElem?_eq_some_iff.1 e).1
 have d:j<s.data.size:=by simpa using b
 refine(cell_of_row _ w j _ 5 _ (heap_alloc_new _ _)).trans ?_;rw[<-e];unfold bytesRow l8 I9;rw[Array.getElem?_append_left (by simpa using d),Array.getElem?_map,Array.getElem?_eq_getElem d,List.getElem?_map,List.getElem?_map,e9 b];rfl
def gJ:List UInt8->Int->Option Int
 |[],n=>So n
 |c::r,n=>if c.toNat<48||57<c.toNat then J else gJ r (min (10*n+(c.toNat-48)) 1048576)
def w8(s:g4):Int×Int:=if(p0 E6 s 160).2=0 then((p0 E6 s 160).1,0)else match gJ s.data.toList 0 with
 |none=>(0,160)
 |some n=>if s.size<1||4<s.size||4095<n then(0,160)else(n,0)
theorem IW(s:g4)(be:s.size<=1000000)(W:Wd):Ca prog 285 #[Y s] W λe ay=>e=X (Tp #[I V (w8 s).1,I M (w8 s).2])/\a9 W ay:=by
 obtain⟨R,g⟩:∃R,R=w8 s:=⟨_,rfl⟩;rw[<-g];unfold w8 at g;have ad:=a6 GK;have aq:∀v∈a4B.toList,v.oneCell'=Bt:=(nN V).row_oneCell E6;have ao:a4B.toList=(nN V).row E6:=rfl;have ae:=a6 (λw G(r:i5 w (So ⟨G,0,J⟩) ((nN V).row E6))=>fE E6 G 15 s 160 w rfl e6 r);generalize a4B=al at*;generalize E6=ak at*;go_in;go_wp2_with fail;refine l4 (ad _) λC A=>?_;have ap:∀x:Array Va,e7 (C.alloc (U x 466)) C 466 x:=λx=>e7.new _ _ _
 go_wp2_with(refine j1 rfl 466 (Tm 4) (Tm 10) rfl C 466 _ al rfl rfl (ap _) g6 g6 aq ?_;intro bh ab aw);have ax:=(A.alloc (U _ 466)).grown aw (λk e=>by cases e;exact A.size);refine l4 (ae _ _ (i5.f ab ao)) λba y=>?_;replace y:=ax.trans y;generalize p0 ak s 160=ac at*;obtain⟨bc,an⟩:=ac;dsimp only at g;by_cases N:an=0;·subst N;rw[if_pos rfl]at g;subst g;go_wp2;go_ret2;exact⟨rfl,y⟩
 rw[if_neg N]at g;obtain⟨G,c,az,av,S,r⟩:=yV s ba;obtain⟨aj,ah⟩:=j0 (y.trans S) r;have P:D (I9 s)=s.size:=by simp[I9]
 obtain⟨E,ai,ag⟩:=r6 P (show∀k(t:k<D s.data.toList) n,gJ (s.data.toList.drop k) n=if s.data.toList[k].toNat<48||57<s.data.toList[k].toNat then J else gJ (s.data.toList.drop (k+1)) (min (10*n+(s.data.toList[k].toNat-48)) 1048576)from λk t n=>by rw[List.drop_eq_getElem_cons t];rfl) (λk(t:k<D s.data.toList)(z:k<D (I9 s))=>show(I9 s)[k]=(s.data.toList[k].toNat:Int) by simp[I9]);obtain⟨o,a⟩:∃o,o=gJ s.data.toList 0:=⟨_,rfl⟩;rw[<-a]at g;have l:=a6 g;clear g r S P;have bf:D s.data.toList=s.size:=i3;generalize s.data.toList=L at*;generalize I9 s=B at*;go_wp2_with fail;clear av;go_loopw [7,23] (λn i wr=>∃(k:Nat)(x:Int),k<=s.size/\i=I M k/\n=I M x/\0<=x/\x<=1048576/\o=gJ (L.drop k) x/\a9 W wr/\a9 az wr) (λ_ i _=>s.size-(intOf i).toNat);exact⟨0,0,a8,rfl,rfl,a8,a8,a,aj.O,a9.refl _⟩;clear a;obtain⟨k,x,t,rfl,rfl,bg,A,a,m,T⟩:=hrel;by_cases Q:k<s.size
 ·have au:=(ah.h T).cell (k:=k) (u:=I U8 (B[k]'(by rw[E.O];exact Q))) (Q9 (by rw[E.O];exact Q));rw[ag k a8,Nat.zero_add]at au;rw[ai k a8]at a;generalize ar:L[k]' a8=b at*;have bd:b.toNat<256:=b.toNat_lt;generalize b.toNat=j at*;clear ar b;have k0:(0:Int)<=k:=a8;have k1:(k:Int)<s.size:=a8;by_cases p:j<48
  ·have h:o=J:=by rw[a];simp[p]
   have d:=l.O;rw[h]at d;have f:=a6 d;clear d a h l;have aa:Dc ((j:Int)<48)=Bt:=by simp;omega
   go_wp2;go_ret2;exact⟨by rw[f.O];rfl,m⟩
  by_cases z:57<j
  ·have h:o=J:=by rw[a];simp[z]
   have d:=l.O;rw[h]at d;have f:=a6 d;clear d a h l;have aa:Dc ((j:Int)<48)=Bf:=by simp;omega
   have bb:Dc ((57:Int)<j)=Bt:=by simp;omega
   go_wp2;go_ret2;exact⟨by rw[f.O];rfl,m⟩
  have aa:Dc ((j:Int)<48)=Bf:=by simp;omega
  have bb:Dc ((57:Int)<j)=Bf:=by simp;omega
  have h:o=gJ (L.drop (k+1)) (min (10*x+((j:Int)-48)) 1048576):=by rw[a];simp[p,z]
  have af:=a6 h;clear a h;go_wp2;go_roundw;exact⟨k+1,_,a8,o3,rfl,a8,a8,af.O,m,T⟩;simp[intOf];omega
 obtain rfl:k=s.size:=a8;rw[List.drop_of_length_le a8]at a;have d:=l.O;rw[a]at d;dsimp only[gJ]at d;by_cases p:s.size<1\/4<s.size\/4095<x
 ·have q:R=(0,160):=by rw[d];simp only[Bool.or_eq_true,decide_eq_true_eq,or_assoc,if_pos p]
  have f:=a6 q;clear d q l a;rcases F:Dc ((s.size:Int)<1)with _|_
  ·rcases H:Dc ((4:Int)<s.size)with _|_
   ·have am:Dc (4095<x)=Bt:=by simp at F H⊢;omega
    go_wp2;go_ret2;exact⟨by rw[f.O];rfl,m⟩
   go_wp2;go_ret2;exact⟨by rw[f.O];rfl,m⟩
  go_wp2;go_ret2;exact⟨by rw[f.O];rfl,m⟩
 have q:R=(x,0):=by rw[d];simp only[Bool.or_eq_true,decide_eq_true_eq,or_assoc,if_neg p]
 have f:=a6 q;clear d q l a;have F:Dc ((s.size:Int)<1)=Bf:=by simp;omega
 have H:Dc ((4:Int)<s.size)=Bf:=by simp;omega
 have am:Dc (4095<x)=Bf:=by simp;omega
 go_wp2;go_ret2;exact⟨by rw[f.O];rfl,m⟩
end
def pW:g4:=⟨#[91]⟩
def IA:g4:=⟨#[93]⟩
def HA:g4:=⟨#[91,93]⟩
def F2:g4:=⟨#[32,9,13]⟩
def cH(s p:g4):g4×Bool:=(⟨(Lib.trimPrefix s.data.toList p.data.toList).toArray⟩,Lib.hasPrefix s.data.toList p.data.toList)
def mV(s p:g4):g4×Bool:=(⟨(Lib.trimSuffix s.data.toList p.data.toList).toArray⟩,Lib.hasSuffix s.data.toList p.data.toList)
theorem HU(l:List UInt8):(⟨l.toArray⟩:g4).size=D l:=by simp[ByteArray.size]
theorem PG(s p:g4):(cH s p).1.size<=s.size:=by unfold cH Lib.trimPrefix;rw[HU,Lib.size_eq];split;simp;exact a7 _
theorem PE(s p:g4):(mV s p).1.size<=s.size:=by unfold mV Lib.trimSuffix;rw[HU,Lib.size_eq];split;simp;exact a7 _
def dZ(s cs:g4):Bool:=Dc (0<=iaT s cs)
def a2N(c:g4):g4×Bool:=
 let a:=cH c pW
 let b:=mV a.1 IA
 if a.2&&b.2&& !(b.1.toList==[])&& !dZ b.1 HA then(b.1,Bt)else(⟨#[]⟩,Bf)
theorem yK(s:g4)(z:s.size<=1000000)(W:Wd):Ca prog 143 #[Y s] W λe f=>e=X (Tp #[Y (a2N s).1,O (a2N s).2])/\a9 W f:=by
 have m:=PG s pW;have n:=PE (cH s pW).1 IA;obtain⟨i,j,l⟩:=r6 (λW=>show Ca prog 208 #[Y s,Y pW] W λe f=>e=X (Tp #[Y (cH s pW).1,O (cH s pW).2])/\W=f from gY s pW W) (λW=>show Ca prog 142 #[Y (cH s pW).1,Y IA] W λe f=>e=X (Tp #[Y (mV (cH s pW).1 IA).1,O (mV (cH s pW).1 IA).2])/\W=f from gX _ IA a8 W) (λW=>show Ca prog 209 #[Y (mV (cH s pW).1 IA).1,Y HA] W λe f=>e=X (O (dZ (mV (cH s pW).1 IA).1 HA))/\a9 W f from cQ _ HA a8 e6 e6 (by unfold ZQ HA;decide) W);obtain⟨R,h⟩:∃R,R=a2N s:=⟨_,rfl⟩;rw[<-h];unfold a2N at h;dsimp only at h;clear m n;generalize cH s pW=a at*;obtain⟨a,p⟩:=a;dsimp only at*;generalize mV a IA=b at*;obtain⟨b,q⟩:=b;dsimp only at*;generalize dZ b HA=r at*;have c:=a6 h;clear h;have w:(⟨#[91]⟩:g4)=pW:=rfl;have x:(⟨#[93]⟩:g4)=IA:=rfl;have y:(⟨#[91,93]⟩:g4)=HA:=rfl;generalize pW=t at*;generalize IA=u at*;generalize HA=v at*;rcases p with _|_
 ·go_in;go_wp2_with fail;apply(i _).mono;rintro e g⟨rfl,rfl⟩;go_wp2_with fail;apply(j _).mono;rintro e g⟨rfl,rfl⟩;go_wp2;go_ret2;exact⟨by rw[c.O];rfl,a9.refl _⟩
 rcases q with _|_
 ·go_in;go_wp2_with fail;apply(i _).mono;rintro e g⟨rfl,rfl⟩;go_wp2_with fail;apply(j _).mono;rintro e g⟨rfl,rfl⟩;go_wp2;go_ret2;exact⟨by rw[c.O];rfl,a9.refl _⟩
 rcases k:b.toList==[]with _|_
 ·rcases r with _|_
  all_goals have d:=c.O;rw[k]at d;replace c:=a6 d;clear d;go_in;go_wp2_with fail;apply(i _).mono;rintro e g⟨rfl,rfl⟩;go_wp2_with fail;apply(j _).mono;rintro e g⟨rfl,rfl⟩;go_wp2_with fail;refine l4 (l _) λA o=>?_;go_wp2;go_ret2;exact⟨by rw[c.O];rfl,o⟩
 have d:=c.O;rw[k]at d;replace c:=a6 d;clear d;go_in;go_wp2_with fail;apply(i _).mono;rintro e g⟨rfl,rfl⟩;go_wp2_with fail;apply(j _).mono;rintro e g⟨rfl,rfl⟩;go_wp2;go_ret2;exact⟨by rw[c.O];rfl,a9.refl _⟩
section
open Go.Shelf
structure QE where
 name:g4
 act:Int
 has:Bool
def QE.val(e:QE):Va:=Ag #[Y e.name,I V e.act,O e.has]
def vC:QE:=⟨⟨#[]⟩,0,Bf⟩
def WA:g4:=⟨#[107,105,108,108]⟩
def r3(w:g4):QE×Int:=
 let c:=H2 w 58
 if c.1.toList==[]then(vC,161)
 else if c.2.2 then(if c.2.1.toList==WA.toList then(⟨c.1,2147483648,Bt⟩,0)
  else if(w8 c.2.1).2=0 then(⟨c.1,bits .or V 327680 (w8 c.2.1).1,Bt⟩,0)else(vC,(w8 c.2.1).2))
 else(⟨c.1,0,Bf⟩,0)
theorem aD(w:g4)(c:UInt8):(H2 w c).1.size<=w.size/\(H2 w c).2.1.size<=w.size:=by
 rcases eN w c with⟨_,a⟩|⟨k,b,_,a⟩
 rw[a];exact⟨a7 _,c6 _⟩;rw[a];simp only[ByteArray.size_extract];omega
theorem ZV(w:g4)(E:w.size<=1000000)(W:Wd):Ca prog 367 #[Y w] W λe T=>e=X (Tp #[(r3 w).1.val,I M (r3 w).2])/\a9 W T:=by
 obtain⟨N,o⟩:=j0 (DR w 58 E) (IW (H2 w 58).2.1 (b6 (aD w 58).2 E));obtain⟨R,i⟩:∃R,R=r3 w:=⟨_,rfl⟩;rw[<-i];unfold r3 at i;dsimp only at i;generalize H2 w 58=C at*;obtain⟨a,b,q⟩:=C;dsimp only at o i;generalize w8 b=L at*;obtain⟨z,P⟩:=L;have A:WA.toList=[107,105,108,108]:=g6;rw[A]at i;dsimp only at o i;have d:=a6 i;clear i A;have S:=(a9.refl W).alloc (U #[Y ⟨#[]⟩,I V 0,O Bf] 458);have H:=e7.new W 458 #[Y ⟨#[]⟩,I V 0,O Bf];go_in;go_wp2_with fail;refine l4 (N _) λm s=>?_;have l:=S.trans s;have j:=H.h s;rcases x:a.toList==[]with _|_
 ·have c:=d.O;rw[x]at c;rcases q with _|_
  ·have g:=a6 c;clear c d;go_wp2_with(refine q6 (j.h ((a9.refl _).alloc _)) ?_;intro n f h);exact s0 rfl f underlying458 ⟨by rw[g.O];rfl,(l.alloc _).grown h (λk e=>by cases e;exact a7 _)⟩
  rcases y:b.toList==[107,105,108,108]with _|_
  ·rw[y]at c;simp only[Bool.false_eq_true,if_false,if_true]at c;replace d:=a6 c;clear c;go_wp2_with fail;refine l4 (o _) λae t=>?_;have F:=(l.alloc (U #[Y a,I V 0,O Bt] 458)).trans t;have u:=(j.h ((a9.refl _).alloc (U #[Y a,I V 0,O Bt] 458))).h t;have v:=(e7.new m 458 #[Y a,I V 0,O Bt]).h t;by_cases r:P=0;·have c:=d.O;rw[if_pos r]at c;have g:=a6 c;clear c d;subst r;obtain⟨aa,ab,ac⟩:=v.c3;have ad:=v.frozen 1;have B:W<m.heap.size:=Nat.lt_of_lt_of_le i3 s.size;have G:=u.far (p:=⟨m,1,J⟩) (Nat.ne_of_lt B) (I V (bits .or V 327680 z));have Q:=F.set (p:=⟨m,1,J⟩) (Nat.le_of_lt B) (I V (bits .or V 327680 z));go_wp2_with(refine q6 (G) ?_;intro n f h);exact s0 rfl f underlying458 ⟨by rw[g.O];rfl,(Q).grown h (λk e=>by cases e;exact a7 _)⟩
   have c:=d.O;rw[if_neg r]at c;have g:=a6 c;clear c d;go_wp2_with(refine q6 (u) ?_;intro n f h);exact s0 rfl f underlying458 ⟨by rw[g.O];rfl,(F).grown h (λk e=>by cases e;exact a7 _)⟩
  rw[y]at c;have g:=a6 c;clear c d;go_wp2_with(refine q6 (j.h ((a9.refl _).alloc _)) ?_;intro n f h);exact s0 rfl f underlying458 ⟨by rw[g.O];rfl,(l.alloc _).grown h (λk e=>by cases e;exact a7 _)⟩
 have c:=d.O;rw[x]at c;have g:=a6 c;clear c d;go_wp2_with(refine q6 (j) ?_;intro n f h);exact s0 rfl f underlying458 ⟨by rw[g.O];rfl,(l).grown h (λk e=>by cases e;exact a7 _)⟩
end
theorem wr8(b:UInt8):wrap32 (b.toNat:Int)=(b.toNat:Int):=by have:=b.toNat_lt;unfold wrap32;omega
def X0(c:Int):Bool:=Dc (0<=BC F2 c)
def kD:Nat->g4->g4
 |0,s=>s
 |n+1,s=>if X0 (p5 s n)then kD n (s.extract 0 n)else s
theorem FR(t:g4):(∃m,∃g:m<t.size,t.size=m+1/\X0 (t[m].toNat:Int)=Bt/\(t.extract 0 m).size=m/\kD t.size t=kD (t.extract 0 m).size (t.extract 0 m))\/
 kD t.size t=t/\(t.size=0\/∃m,∃g:m<t.size,t.size=m+1/\X0 (t[m].toNat:Int)=Bf):=by
 by_cases c:t.size=0;exact .inr ⟨by rw[c];rfl,.inl c⟩;obtain⟨m,a⟩:∃m,t.size=m+1:=⟨t.size-1,a8⟩;have f:m<t.size:=a8;have e:kD t.size t=if X0 (t[m].toNat:Int)then kD m (t.extract 0 m)else t:=by rw[<-V3 t m a8,a];rfl
 rw[e];rcases d:X0 (t[m].toNat:Int)with _|_
 exact .inr ⟨rfl,.inr ⟨m,f,a,d⟩⟩;have b:(t.extract 0 m).size=m:=by rw[l6 _ _ _ a8 a8];omega
 exact .inl ⟨m,f,a,d,b,by rw[b];rfl⟩
def x1(s:g4):g4×g4×Bool:=
 let c:=H2 s 61
 let k:=kD c.1.size c.1
 if c.2.2&& !Lib.hasPrefix s.data.toList [91]&& !k.toList.isEmpty&& !dZ k F2 then(k,H6 c.2.1,Bt)else(⟨#[]⟩,⟨#[]⟩,Bf)
theorem oF(s:g4)(F:s.size<=1000000)(W:Wd):Ca prog 144 #[Y s] W λe l=>e=X (Tp #[Y (x1 s).1,Y (x1 s).2.1,O (x1 s).2.2])/\a9 W l:=by
 have S:=aD s 61;obtain⟨L,g,N,H,E⟩:=Y2 (DR s 61 F) (λW=>show Ca prog 211 #[Y s,Y pW] W λe l=>e=X (O (Lib.hasPrefix s.data.toList [91]))/\W=l from aS s pW W) (kB (H2 s 61).2.1 (b6 S.2 (b6 F e6))) (λk(T:k.size<=1000000) W=>show Ca prog 209 #[Y k,Y F2] W λe l=>e=X (O (dZ k F2))/\a9 W l from cQ k F2 T e6 e6 (by unfold ZQ F2;decide) W) (λc(Q:0<=c) W=>show Ca prog 210 #[Y F2,I .i32 c] W λe l=>e=X (O (X0 c))/\a9 W l from mJ F2 c e6 (by unfold ZQ F2;decide) Q W);obtain⟨R,m⟩:∃R,R=x1 s:=⟨_,rfl⟩;rw[<-m];unfold x1 at m;dsimp only at m;have ag:(⟨#[91]⟩:g4)=pW:=rfl;have ah:(⟨#[32,9,13]⟩:g4)=F2:=rfl;generalize H2 s 61=c at*;obtain⟨k0,aj,q⟩:=c;dsimp only at*;obtain⟨h,f⟩:∃h,h=kD k0.size k0:=⟨_,rfl⟩;rw[<-f]at m;generalize pW=af at*;generalize ai:F2=P at*;have a:=a6 m;clear m;go_in;go_wp2_with fail;refine l4 (L _) λG d=>?_;go_wp2;go_loopw [2] (λi wr=>∃u:g4,u.size<=1000000/\i=Y u/\h=kD u.size u/\a9 W wr) (λi _=>match i with|Y t=>t.size|_=>0);exact⟨_,a8,rfl,f,d⟩;clear f d;obtain⟨u,ac,rfl,f,d⟩:=hrel;rcases FR u with⟨n,ab,p,z,j,x⟩|⟨x,p|⟨n,ab,p,z⟩⟩
 ·have o:=E (u[n].toNat:Int) a8;rw[z]at o;rw[x]at f;have j:=o9 u;rw[p,decide_eq_false a8]at j;have C:=wr8 (u[n]);have G:IntKind.i64.wrap ((n:Int)+1-1)=n:=by rw[(a8:(n:Int)+1-1=n)];exact h7 _ a8
  go_wp2_with fail;refine l4 (o _) λC A=>?_;go_wp2;go_roundw;exact⟨_,a8,rfl,f,d.trans A⟩;show(u.extract 0 n).size<u.size;omega
 ·rw[x]at f;subst f;have j:=o9 h;rw[p,decide_eq_true rfl]at j;rcases q with _|_
  ·have b:=a.O;replace a:=a6 b;clear b;go_wp2;go_ret3;exact⟨by rw[a.O];rfl,d⟩
  rcases r:Lib.hasPrefix s.data.toList [91]with _|_
  rotate_left
  ·rw[r]at g a;go_wp2_with fail;apply(g _).mono;rintro e y⟨rfl,rfl⟩;go_wp2;go_ret3;exact⟨by rw[a.O];rfl,d⟩
  rw[r]at g a;have b:=a.O;rw[j]at b;replace a:=a6 b;clear b;go_wp2_with fail;apply(g _).mono;rintro e y⟨rfl,rfl⟩;go_wp2;go_ret3;exact⟨by rw[a.O];rfl,d⟩
 rw[x]at f;subst f;have aa:=ac;have j:=o9 h;rw[p,decide_eq_false a8]at j;have o:=E (h[n].toNat:Int) a8;rw[z]at o;have C:=wr8 (h[n]);have G:IntKind.i64.wrap ((n:Int)+1-1)=n:=by rw[(a8:(n:Int)+1-1=n)];exact h7 _ a8
 go_wp2_with fail;refine l4 (o _) λC A=>?_;replace d:=d.trans A;clear o;have v:=H h aa;rcases q with _|_
 ·have b:=a.O;replace a:=a6 b;clear b;go_wp2;go_ret3;exact⟨by rw[a.O];rfl,d⟩
 rcases r:Lib.hasPrefix s.data.toList [91]with _|_
 rotate_left
 ·rw[r]at g a;go_wp2_with fail;apply(g _).mono;rintro e y⟨rfl,rfl⟩;go_wp2;go_ret3;exact⟨by rw[a.O];rfl,d⟩
 rw[r]at g a;rcases w:dZ h P with _|_
 ·rw[w]at v;have b:=a.O;rw[j,w]at b;replace a:=a6 b;clear b;go_wp2_with fail;apply(g _).mono;rintro e y⟨rfl,rfl⟩;go_wp2_with fail;refine l4 (v _) λae B=>?_;go_wp2_with fail;refine l4 (N _) λak ad=>?_;go_wp2;go_ret3;exact⟨by rw[a.O];rfl,(d.trans B).trans ad⟩
 rw[w]at v;have b:=a.O;rw[j,w]at b;replace a:=a6 b;clear b;go_wp2_with fail;apply(g _).mono;rintro e y⟨rfl,rfl⟩;go_wp2_with fail;refine l4 (v _) λae B=>?_;go_wp2;go_ret3;exact⟨by rw[a.O];rfl,d.trans B⟩
end Go.Proofs.YtcljlejgllkcjaaGreat
