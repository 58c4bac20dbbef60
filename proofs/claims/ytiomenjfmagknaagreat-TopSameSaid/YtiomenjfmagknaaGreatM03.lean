/- A part of the proof of TopSame: lemmas on the walks of its calls. -/
import Derived.Laws.EntriesVeiled
import Derived.Test.YtiomenjfmagknaaGreatM02
set_option maxHeartbeats 12000000
set_option linter.all false
set_option maxRecDepth 100000
namespace Go.Proofs.YtiomenjfmagknaaGreat
open Go.RowKit Go.ChangeShapes Go.WideShapes Tryz
open Bool renaming false_eq_true→a4x,true→Bt,false→Bf
open Decidable renaming decide→Dc
open Ending renaming returned→X
open Go renaming World→Wd,Value→Va,Calls→Ca,callsIn_wide→Cw,undef→Un,bodyPost_ret→Bp,TypeId→Ti,Addr→Ad,strOfNums→Sn,callsIn_of_wp_marks→Cm,callsIn_of_wp→Co,CallsIn→Ci
open Go.Proofs renaming enters_of→Eo
open IntKind renaming i64→M,u32→V,u64→U6,u8→U8
open IntWalk renaming i64_in→a37
open Lib renaming hid→a6
open List renaming getElem?_eq_getElem→e9,length_append→a2e,length_map→a32,take_succ_eq_append_getElem→a4a,append_assoc→a4s,length_take→a4C,map_append→a4F
open Nat renaming le_refl→a7,le_trans→c8,reduceAdd→l9,zero_le→i5,reduceSub→a4D,zero_add→a4E
open Obj renaming cells→U
open Operand renaming tmp→Tm
open Option renaming none→J,some→So
open Value renaming int→I,slice→Z,string→Y,pointer→K,bool→O,func→Fc,tuple→Tp,agg→Ag
abbrev Nm:=ByteArray×Int
def wO(k:IntKind):p6 Nm:=⟨2,fun a=>[Y a.1,I k a.2],fun _=>rfl,fun x u b=>by simp at b;rcases b with rfl|rfl<;>rfl⟩
theorem pR{k:IntKind}{w:Wd}{b:Nat}{xs:List Nm}(a:h9 w b ((wO k).row xs)){j:Nat}(c:j<xs.length):
  w.cell? ⟨b,j*2,J⟩=So (Y xs[j].1)∧w.cell? ⟨b,j*2+1,J⟩=So (I k xs[j].2):=
 ⟨a.elt0 c (r:=0) rfl,a.elt0 c (r:=1) rfl⟩
def a03(l:List Nm)(s:ByteArray)(b:Int):Int×Int:=match l.find? fun a=>a.1.toList==s.toList with
 |some a=>(a.2,0)
 |none=>(0,b)
theorem qQ(l:List Nm)(k:Nat)(b:k<l.length)(s:ByteArray)(a:Int):a03 (l.drop k) s a=if l[k].1.toList==s.toList then(l[k].2,0)else a03 (l.drop (k+1)) s a:=by
 unfold a03;rw[eW l _ k b];cases c:l[k].1.toList==s.toList<;>simp
def ZX(l:List Nm)(n:Int):ByteArray:=match l.find? fun a=>a.2==n with
 |some a=>a.1
 |none=>⟨#[]⟩
theorem UL(l:List Nm)(k:Nat)(a:k<l.length)(n:Int):ZX (l.drop k) n=if l[k].2==n then l[k].1 else ZX (l.drop (k+1)) n:=by
 unfold ZX;rw[eW l _ k a];cases b:l[k].2==n<;>simp
def Y1:List Nm:=[(⟨#[69,80,69,82,77]⟩,1),(⟨#[69,78,79,69,78,84]⟩,2),(⟨#[69,73,79]⟩,5),(⟨#[69,66,65,68,70]⟩,9),(⟨#[69,65,71,65,73,78]⟩,11),(⟨#[69,78,79,77,69,77]⟩,12),(⟨#[69,65,67,67,69,83]⟩,13),(⟨#[69,70,65,85,76,84]⟩,14),(⟨#[69,66,85,83,89]⟩,16),(⟨#[69,78,79,68,69,86]⟩,19),(⟨#[69,73,78,86,65,76]⟩,22),(⟨#[69,78,79,83,89,83]⟩,38),(⟨#[69,79,80,78,79,84,83,85,80,80]⟩,95),(⟨#[69,65,70,78,79,83,85,80,80,79,82,84]⟩,97),(⟨#[69,84,73,77,69,68,79,85,84]⟩,110)]
def Y2:Array Va:=((wO V).row Y1).toArray
theorem HG(W:Wd):Ca prog 314 #[] W fun e f=>e=X (Ag Y2)∧a9 W f:=by
 have c:∀v∈Y2.toList,v.oneCell'=Bt:=by
  have:Y2.toList.all (·.oneCell')=Bt:=by kernel_rfl
  exact List.all_eq_true.1 this
 go_in;have b:∀x:Array Va,b9 (W.alloc (U x 426)) W 426 x:=fun x=>b9.new _ _ _
 go_wp2_with(first|(refine a2n rfl 426 _ rfl Y2 (by kernel_rfl) ?_)|(refine c7 rfl 426 (Tm 0) (Tm 16) rfl W 426 _ Y2 rfl rfl (b _) (by kernel_rfl) (by kernel_rfl) c ?_;intro g a d))
 exact Bp (g0 rfl _ _ _ _ _ _ rfl a underlying426 rfl (by kernel_rfl)) rfl ⟨rfl,((a9.refl W).alloc _).grown d (fun k e=>by cases e;exact a7 _)⟩
def j0:List Nm:=[(⟨#[65,70,95,85,78,73,88]⟩,1),(⟨#[65,70,95,73,78,69,84]⟩,2),(⟨#[65,70,95,73,78,69,84,54]⟩,10),(⟨#[65,70,95,78,69,84,76,73,78,75]⟩,16),(⟨#[65,70,95,80,65,67,75,69,84]⟩,17),(⟨#[65,70,95,66,76,85,69,84,79,79,84,72]⟩,31),(⟨#[65,70,95,65,76,71]⟩,38),(⟨#[65,70,95,86,83,79,67,75]⟩,40)]
def z5:Array Va:=((wO V).row j0).toArray
theorem jG(W:Wd):Ca prog 117 #[] W fun e f=>e=X (Ag z5)∧a9 W f:=by
 have c:∀v∈z5.toList,v.oneCell'=Bt:=by
  have:z5.toList.all (·.oneCell')=Bt:=by kernel_rfl
  exact List.all_eq_true.1 this
 go_in;have b:∀x:Array Va,b9 (W.alloc (U x 216)) W 216 x:=fun x=>b9.new _ _ _
 go_wp2_with(first|(refine a2n rfl 216 _ rfl z5 (by kernel_rfl) ?_)|(refine c7 rfl 216 (Tm 0) (Tm 9) rfl W 216 _ z5 rfl rfl (b _) (by kernel_rfl) (by kernel_rfl) c ?_;intro g a d))
 exact Bp (g0 rfl _ _ _ _ _ _ rfl a underlying216 rfl (by kernel_rfl)) rfl ⟨rfl,((a9.refl W).alloc _).grown d (fun k e=>by cases e;exact a7 _)⟩
def i7:List Nm:=[(⟨#[116,105,109,101]⟩,128),(⟨#[109,110,116]⟩,131072),(⟨#[99,103,114,111,117,112]⟩,33554432),(⟨#[117,116,115]⟩,67108864),(⟨#[105,112,99]⟩,134217728),(⟨#[117,115,101,114]⟩,268435456),(⟨#[112,105,100]⟩,536870912),(⟨#[110,101,116]⟩,1073741824)]
def H9:Array Va:=((wO U6).row i7).toArray
theorem gB(W:Wd):Ca prog 121 #[] W fun e f=>e=X (Ag H9)∧a9 W f:=by
 have c:∀v∈H9.toList,v.oneCell'=Bt:=by
  have:H9.toList.all (·.oneCell')=Bt:=by kernel_rfl
  exact List.all_eq_true.1 this
 go_in;have b:∀x:Array Va,b9 (W.alloc (U x 222)) W 222 x:=fun x=>b9.new _ _ _
 go_wp2_with(first|(refine a2n rfl 222 _ rfl H9 (by kernel_rfl) ?_)|(refine c7 rfl 222 (Tm 0) (Tm 9) rfl W 222 _ H9 rfl rfl (b _) (by kernel_rfl) (by kernel_rfl) c ?_;intro g a d))
 exact Bp (g0 rfl _ _ _ _ _ _ rfl a underlying222 rfl (by kernel_rfl)) rfl ⟨rfl,((a9.refl W).alloc _).grown d (fun k e=>by cases e;exact a7 _)⟩
theorem fN(l:List Nm)(g n:Nat)(s:ByteArray)(c:Int)(W:Wd)(v:l.length=n)(x:n≤1000)(d:h9 W g ((wO V).row l)):
  Ca prog 315 #[Z g n n,Y s,I M c] W fun e t=>e=X (Tp #[I V (a03 l s c).1,I M (a03 l s c).2])∧a9 W t:=by
 obtain⟨o,p⟩:=i6 d (fun k h=>qQ l k h s c);obtain⟨R,b⟩:∃R,R=a03 l s c:=⟨_,rfl⟩;rw[←b];clear d;go_in;go_wp2_with fail
 go_loopw [13] (fun i wr=>∃k:Nat,k≤n∧i=I M k∧R=a03 (l.drop k) s c∧a9 W wr) (fun i _=>n-(intOf i).toNat)
 case atStart=>exact⟨0,by omega,rfl,b,a9.refl W⟩
 case round=>
  clear b;obtain⟨k,h,rfl,b,f⟩:=hrel;by_cases w:k<n
  ·obtain⟨q,r⟩:=pR (o.h f) (j:=k) (by omega)
   rw[p k (by omega)]at b;generalize l[k]'(by omega)=E at*;obtain⟨a,u⟩:=E;dsimp only at b q r;have m:=f.alloc (U #[Y a,I V u] 215);rcases d:a.toList==s.toList with _|_
   all_goals
    rw[d]at b;go_wp2_with fail
    first
     |(go_ret2;subst b;exact⟨rfl,m⟩)
     |(go_roundw
       case rel=>exact⟨k+1,by omega,by go_num,b,m⟩
       case measure=>simp[intOf];omega)
  ·obtain rfl:k=n:=by omega
   rw[List.drop_of_length_le (by omega)]at b;subst b;go_wp2
   go_ret2
   exact⟨rfl,f⟩
theorem sE(l:List Nm)(g n:Nat)(s:ByteArray)(c:Int)(W:Wd)(v:l.length=n)(x:n≤1000)(d:h9 W g ((wO U6).row l)):
  Ca prog 330 #[Z g n n,Y s,I M c] W fun e t=>e=X (Tp #[I U6 (a03 l s c).1,I M (a03 l s c).2])∧a9 W t:=by
 obtain⟨o,p⟩:=i6 d (fun k h=>qQ l k h s c);obtain⟨R,b⟩:∃R,R=a03 l s c:=⟨_,rfl⟩;rw[←b];clear d;go_in;go_wp2_with fail
 go_loopw [13] (fun i wr=>∃k:Nat,k≤n∧i=I M k∧R=a03 (l.drop k) s c∧a9 W wr) (fun i _=>n-(intOf i).toNat)
 case atStart=>exact⟨0,by omega,rfl,b,a9.refl W⟩
 case round=>
  clear b;obtain⟨k,h,rfl,b,f⟩:=hrel;by_cases w:k<n
  ·obtain⟨q,r⟩:=pR (o.h f) (j:=k) (by omega)
   rw[p k (by omega)]at b;generalize l[k]'(by omega)=E at*;obtain⟨a,u⟩:=E;dsimp only at b q r;have m:=f.alloc (U #[Y a,I U6 u] 221);rcases d:a.toList==s.toList with _|_
   all_goals
    rw[d]at b;go_wp2_with fail
    first
     |(go_ret2;subst b;exact⟨rfl,m⟩)
     |(go_roundw
       case rel=>exact⟨k+1,by omega,by go_num,b,m⟩
       case measure=>simp[intOf];omega)
  ·obtain rfl:k=n:=by omega
   rw[List.drop_of_length_le (by omega)]at b;subst b;go_wp2
   go_ret2
   exact⟨rfl,f⟩
theorem a6l(l:List Nm)(g n:Nat)(c:Int)(W:Wd)(t:l.length=n)(v:n≤1000)(d:h9 W g ((wO V).row l)):
  Ca prog 118 #[Z g n n,I V c] W fun e s=>e=X (Y (ZX l c))∧a9 W s:=by
 obtain⟨o,p⟩:=i6 d (fun k h=>UL l k h c);obtain⟨R,b⟩:∃R,R=ZX l c:=⟨_,rfl⟩;rw[←b];clear d;go_in;go_wp2_with fail
 go_loopw [9] (fun i wr=>∃k:Nat,k≤n∧i=I M k∧R=ZX (l.drop k) c∧a9 W wr) (fun i _=>n-(intOf i).toNat)
 case atStart=>exact⟨0,by omega,rfl,b,a9.refl W⟩
 case round=>
  clear b;obtain⟨k,h,rfl,b,f⟩:=hrel;by_cases u:k<n
  ·obtain⟨q,r⟩:=pR (o.h f) (j:=k) (by omega)
   rw[p k (by omega)]at b;generalize l[k]'(by omega)=E at*;obtain⟨a,z⟩:=E;dsimp only at b q r;have m:=f.alloc (U #[Y a,I V z] 215);rcases d:z==c with _|_
   all_goals
    rw[d]at b;go_wp2_with fail
    first
     |(go_ret;subst b;exact⟨rfl,m⟩)
     |(go_roundw
       case rel=>exact⟨k+1,by omega,by go_num,b,m⟩
       case measure=>simp[intOf];omega)
  ·obtain rfl:k=n:=by omega
   rw[List.drop_of_length_le (by omega)]at b;subst b;go_wp2;go_ret;exact⟨rfl,f⟩
theorem UU(s:ByteArray)(W:Wd):Ca prog 231 #[Y s] W fun e p=>e=X (Tp #[I V (a03 j0 s 180).1,I M (a03 j0 s 180).2])∧a9 W p:=by
 have f:=a6 jG;have m:∀v∈z5.toList,v.oneCell'=Bt:=(wO V).row_oneCell j0;have i:z5.toList=(wO V).row j0:=rfl;have g:=a6 (fun w G(j:h9 w (So ⟨G,0,J⟩) ((wO V).row j0))=>fN j0 G 8 s 180 w rfl (by decide) j);generalize z5=h at*;generalize j0=q at*;go_in;go_wp2_with fail
 apply(f _).mono;rintro e b⟨rfl,c⟩;have l:∀x:Array Va,b9 (b.alloc (U x 216)) b 216 x:=fun x=>b9.new _ _ _
 go_wp2_with(refine c7 rfl 216 (Tm 4) (Tm 5) rfl b 216 _ h rfl rfl (l _) (by kernel_rfl) (by kernel_rfl) m ?_;intro t d n)
 have o:=(c.alloc (U _ 216)).grown n (fun k e=>by cases e;exact c.size);apply(g _ _ (h9.f d i)).mono;rintro e r⟨rfl,a⟩;replace a:=o.trans a;go_wp2_with fail
 go_ret2
 exact⟨rfl,a⟩
theorem a02(s:ByteArray)(W:Wd):Ca prog 234 #[Y s] W fun e p=>e=X (Tp #[I U6 (a03 i7 s 181).1,I M (a03 i7 s 181).2])∧a9 W p:=by
 have f:=a6 gB;have m:∀v∈H9.toList,v.oneCell'=Bt:=(wO U6).row_oneCell i7;have i:H9.toList=(wO U6).row i7:=rfl;have g:=a6 (fun w G(j:h9 w (So ⟨G,0,J⟩) ((wO U6).row i7))=>sE i7 G 8 s 181 w rfl (by decide) j);generalize H9=h at*;generalize i7=q at*;go_in;go_wp2_with fail
 apply(f _).mono;rintro e b⟨rfl,c⟩;have l:∀x:Array Va,b9 (b.alloc (U x 222)) b 222 x:=fun x=>b9.new _ _ _
 go_wp2_with(refine c7 rfl 222 (Tm 4) (Tm 5) rfl b 222 _ h rfl rfl (l _) (by kernel_rfl) (by kernel_rfl) m ?_;intro t d n)
 have o:=(c.alloc (U _ 222)).grown n (fun k e=>by cases e;exact c.size);apply(g _ _ (h9.f d i)).mono;rintro e r⟨rfl,a⟩;replace a:=o.trans a;go_wp2_with fail
 go_ret2
 exact⟨rfl,a⟩
theorem wP(c:Int)(W:Wd):Ca prog 74 #[I V c] W fun e q=>e=X (Y (ZX j0 c))∧a9 W q:=by
 have g:=a6 jG;have n:∀v∈z5.toList,v.oneCell'=Bt:=(wO V).row_oneCell j0;have j:z5.toList=(wO V).row j0:=rfl;have h:=a6 (fun w G(l:h9 w (So ⟨G,0,J⟩) ((wO V).row j0))=>a6l j0 G 8 c w rfl (by decide) l);generalize z5=i at*;generalize j0=r at*;go_in;go_wp2_with fail
 apply(g _).mono;rintro e b⟨rfl,d⟩;have m:∀x:Array Va,b9 (b.alloc (U x 216)) b 216 x:=fun x=>b9.new _ _ _
 go_wp2_with(refine c7 rfl 216 (Tm 3) (Tm 4) rfl b 216 _ i rfl rfl (m _) (by kernel_rfl) (by kernel_rfl) n ?_;intro t f o)
 have p:=(d.alloc (U _ 216)).grown o (fun k e=>by cases e;exact d.size);apply(h _ _ (h9.f f j)).mono;rintro e s⟨rfl,a⟩;replace a:=p.trans a;go_wp2_with fail
 go_ret;exact⟨rfl,a⟩
theorem iH:∀(k:Nat)(a:k<i7.length)(W:Wd),(Instr.index 222 (Ag H9) (I M k)).run prog W= .ok (Ag #[Y i7[k].1,I U6 i7[k].2]) W
 |0,_,_|1,_,_|2,_,_|3,_,_|4,_,_|5,_,_|6,_,_|7,_,_=>by kernel_rfl
 |n+8,h,_=>absurd h (by simp[i7])
def AM(l:List Nm)(x:Int):Int:=l.foldl (fun a y=>bits .or U6 a y.2) x
def C0:Int:=AM i7 0
theorem AT(W:Wd):Ca prog 76 #[] W fun e n=>e=X (I U6 C0)∧a9 W n:=by
 obtain⟨h,g,j⟩:=p7 iH gB (show i7.length=8 from rfl);obtain⟨R,b⟩:∃R,R=AM i7 0:=⟨_,rfl⟩;unfold C0;rw[←b];have l:=a6 (fun(k:Nat)(f:k<i7.length)(x:Int)=>show AM (i7.drop k) x=AM (i7.drop (k+1)) (bits .or U6 x i7[k].2) by rw[List.drop_eq_getElem_cons f];rfl);generalize H9=o at*;generalize i7=d at*;go_in;go_wp2_with fail
 apply(g _).mono;rintro e r⟨rfl,c⟩;go_wp2_with fail
 go_loopw [1,5] (fun a i wr=>∃(k:Nat)(x:Int),k≤8∧i=I M k∧a=I U6 x∧R=AM (d.drop k) x∧a9 W wr) (fun _ i _=>8-(intOf i).toNat)
 case atStart=>exact⟨0,0,by decide,rfl,rfl,b,c⟩
 case round=>
  clear b c;obtain⟨k,x,f,rfl,rfl,b,c⟩:=hrel;have p:=j.out;by_cases q:k<8
  ·have m:=h k (by omega)
   rw[l k (by omega)]at b;generalize d[k]'(by omega)=E at*;obtain⟨a,s⟩:=E;dsimp only at m b;go_wp2_with fail
   go_roundw
   case rel=>exact⟨k+1,_,by omega,by go_num,rfl,b,c.alloc _⟩
   case measure=>simp[intOf];omega
  ·obtain rfl:k=8:=by omega
   rw[List.drop_of_length_le (by omega)]at b;go_wp2;go_ret;exact⟨by rw[b];rfl,c⟩
def F1(l:List Nm)(all:Int):List Int:=(l.filter fun y=>bits .and U6 all y.2 !=0).map (·.2)
def yT:p6 Int:=⟨1,fun x=>[I U6 x],fun _=>rfl,fun x u a=>by simp at a;rw[a];rfl⟩
theorem a27:mU prog 362 27 (I U6 0) 1 8:=⟨underlying362,by kernel_rfl,rfl,by decide,by decide⟩
theorem a04(all:Int)(W:Wd):Ca prog 243 #[I U6 all] W fun e o=>∃v,e=X v∧e4 o W 27 yT v (F1 i7 all)∧a9 W o:=by
 obtain⟨r,p,s⟩:=p7 iH gB (show i7.length=8 from rfl);have q:=a6 (fun(k:Nat)(m:k<i7.length)=>show F1 (i7.take (k+1)) all=F1 (i7.take k) all++(if bits .and U6 all i7[k].2 !=0 then [i7[k].2]else []) by
  unfold F1;rw[a4a m,List.filter_append,a4F,List.filter_cons,List.filter_nil];split<;>rfl)
 have t:=a6 (fun k:Nat=>show(F1 (i7.take k) all).length≤8 by
  unfold F1;rw[a32];refine c8 (List.length_filter_le _ _) ?_;rw[a4C];exact Nat.min_le_right _ _)
 generalize H9=z at*;generalize i7=g at*;go_in;go_wp2_with fail
 apply(p _).mono;rintro e H⟨rfl,c⟩;go_wp2_with fail
 go_loopw [3,7] (fun y i wr=>∃k:Nat,k≤8∧i=I M k∧e4 wr W 27 yT y (F1 (g.take k) all)∧a9 W wr) (fun _ i _=>8-(intOf i).toNat)
 case atStart=>exact⟨0,by decide,rfl,e4.nil _ _ _ _,c⟩
 case round=>
  clear c;obtain⟨k,m,rfl,h,c⟩:=hrel;have C:=s.out;by_cases D:k<8
  ·have u:=r k (by omega)
   have b:=q k (by omega);have F:=t k;generalize g[k]'(by omega)=E at*;obtain⟨a,d⟩:=E;dsimp only at u b;have j:=c.alloc (U #[Y a,I U6 d] 221);have n:=h.h ((a9.refl wr).alloc (U #[Y a,I U6 d] 221));generalize F1 (g.take k) all=xs at*;rcases l:bits .and U6 all d !=0 with _|_
   ·rw[l]at b
    simp only[a4x,if_false,List.append_nil]at b;have f:=a6 b;clear b;go_wp2_with fail
    go_roundw
    case rel=>exact⟨k+1,by omega,by go_num,by rw[f.out];exact n,j⟩
    case measure=>simp[intOf];omega
   ·rw[l]at b
    simp only[if_true]at b;have f:=a6 b;clear b;go_wp2_with(at_builtin;refine j3 rfl (Tm 15) (Tm 18) 362 27 rfl a27 W _ xs rfl (n.h ((a9.refl _).alloc _)) _ 1 1 [d] rfl rfl (fF (by simp) rfl) (by omega) (j.alloc _).size ?_;intro G L w x B A)
    go_roundw
    case rel=>exact⟨k+1,by omega,by go_num,by rw[f.out];exact w,x W (j.alloc _) (a7 _)⟩
    case measure=>simp[intOf];omega
  ·obtain rfl:k=8:=by omega
   rw[List.take_of_length_le (by omega)]at h;go_wp2;go_ret;exact⟨_,rfl,h,c⟩
section
open Go.Shelf
def IC(c:Nat):Bool:=blk (c:Int)
theorem a2Y(c:Nat)(W:Wd):Ca prog 317 (#[I .i32 c]++ #[]) W fun e g=>e=X (O (IC c))∧∃q,g=W.drewN q:=by
 show Ca prog 317 #[I .i32 c] W _;unfold IC;generalize(c:Int)=x;have a:blk x=(x==32||x==9||x==13):=rfl;generalize blk x=R at*;go_in;cases b:x==32<;>cases d:x==9<;>cases f:x==13;all_goals
  rw[b,d,f]at a;go_wp2_with fail
  go_ret;exact⟨by rw[a];rfl,0,rfl⟩
def F9:p6 ByteArray:=⟨1,fun s=>[Y s],fun _=>rfl,fun x u a=>by simp at a;rw[a];rfl⟩
theorem a57:mU prog 343 9 (Y ⟨#[]⟩) 1 16:=⟨underlying343,by kernel_rfl,rfl,by decide,by decide⟩
theorem JF(xs:List ByteArray):F9.row xs=xs.map Y:=by
 induction xs with
 |nil=>rfl
 |cons x r ih=>rw[F9.row_cons,ih];rfl
def o6(s:ByteArray):List ByteArray:=Lib.goFieldsP IC s
theorem R9(s:ByteArray)(i:s.size≤1000000)(W:Wd):Ca prog 226 #[Y s] W fun e a=>∃v,e=X v∧e4 a W 9 F9 v (o6 s)∧a9 W a:=by
 have b:=a6 (show Ca prog 316 #[Y s,Fc (.func 317) #[] #[]] W _ from Any.strings_FieldsFunc a6p 317 #[] (Eo func317 (by kernel_rfl) rfl) IC s W (by omega) (fun W x _=>a2Y x W) (by kernel_rfl) (by kernel_rfl));unfold o6;generalize Lib.goFieldsP IC s=g at*;go_in;go_wp2_with fail
 apply b.mono;rintro e j⟨f,rfl,h,c,d⟩;go_wp2;go_ret;exact⟨_,rfl,⟨_,_,rfl,by rw[JF];exact c⟩,d⟩
def zA:ByteArray:=⟨#[126]⟩
def l6(s:ByteArray):ByteArray×Bool:=(⟨(Lib.trimPrefix s.data.toList zA.data.toList).toArray⟩,Lib.hasPrefix s.data.toList zA.data.toList)
theorem kB(s:ByteArray)(W:Wd):Ca prog 230 #[Y s] W fun e g=>e=X (Tp #[Y (l6 s).1,O (l6 s).2])∧a9 W g:=by
 have d:=a6 (iE s zA);unfold l6;generalize f:zA=c at*;have h:(⟨#[126]⟩:ByteArray)=c:=f;generalize(⟨(Lib.trimPrefix s.data.toList c.data.toList).toArray⟩:ByteArray)=a at*;generalize Lib.hasPrefix s.data.toList c.data.toList=b at*;go_in;go_wp2_with fail
 apply(d _).mono;rintro e i⟨rfl,rfl⟩;go_wp2
 go_ret2
 exact⟨rfl,a9.refl _⟩
def noW:List ByteArray:=[⟨#[110,111]⟩,⟨#[102,97,108,115,101]⟩,⟨#[111,102,102]⟩,⟨#[48]⟩]
def a4L:List ByteArray:=[⟨#[121,101,115]⟩,⟨#[116,114,117,101]⟩,⟨#[111,110]⟩,⟨#[49]⟩]
def a1z(l:List ByteArray)(s:ByteArray):Bool:=l.any fun y=>s.toList==y.toList
def aE:List (List ByteArray):=[noW,a4L]
def DO(s:ByteArray):List (List ByteArray)→Nat→Bool×Int
 |[],_=>(Bf,150)
 |l::r,k=>if a1z l s then((k:Int)==1,0)else DO s r (k+1)
def dZ(s:ByteArray):Bool×Int:=DO s aE 0
def TE:Array Va:=((noW++a4L).map Y).toArray
theorem TD(W:Wd):Ca prog 328 #[] W fun e a=>e=X (Ag TE)∧a9 W a:=by
 go_in;go_wp2;exact Bp (g0 rfl _ _ _ _ _ _ rfl (b9.new _ _ _) underlying439 rfl (by kernel_rfl)) rfl ⟨rfl,(a9.refl W).alloc _⟩
theorem FD:∀(k:Nat)(a:k<aE.length)(W:Wd),(Instr.index 439 (Ag TE) (I M k)).run prog W= .ok (Ag (aE[k].map Y).toArray) W
 |0,_,_|1,_,_=>by kernel_rfl
 |n+2,h,_=>absurd h (by simp[aE])
theorem TC:∀(k:Nat)(a:k<aE.length),aE[k].length=4
 |0,_|1,_=>rfl
 |n+2,h=>absurd h (by simp[aE])
theorem IZ(s:ByteArray)(W:Wd):Ca prog 233 #[Y s] W fun e d=>e=X (Tp #[O (dZ s).1,I M (dZ s).2])∧a9 W d:=by
 obtain⟨A,u,r⟩:=p7 TD FD (fun(l:List ByteArray)(m:l.length=4) w G(C:h9 w G (l.map Y))=>show Ca prog 329 #[Z G 4 4,Y s] w fun e d=>e=X (O (a1z l s))∧w=d from ctE a3O Y (fun x L=>x.toList==L.toList) (EqlAt.string _ _) G 4 4 l s w m (by decide) C);obtain⟨R,b⟩:∃R,R=dZ s:=⟨_,rfl⟩;rw[←b];unfold dZ at b;obtain⟨y,z,t⟩:=p7 (show aE.length=2 from rfl) TC (fun k(j:k<aE.length)=>show DO s (aE.drop k) k=if a1z aE[k] s then((k:Int)==1,0)else DO s (aE.drop (k+1)) (k+1) by rw[List.drop_eq_getElem_cons j];rfl);generalize TE=N at*;generalize aE=f at*;go_in;go_wp2_with fail
 apply(A _).mono;rintro e S⟨rfl,c⟩;go_wp2_with fail
 go_loopw [7] (fun i wr=>∃k:Nat,k≤2∧i=I M k∧R=DO s (f.drop k) k∧a9 W wr) (fun i _=>2-(intOf i).toNat)
 case atStart=>exact⟨0,by decide,rfl,b,c⟩
 case round=>
  clear b c;obtain⟨k,j,rfl,b,c⟩:=hrel;have m:=y.out;by_cases Q:k<2
  ·have P:=u k (by omega)
   have n:=z k (by omega);rw[t k (by omega)]at b;generalize f[k]'(by omega)=l at*;have B:=r l n;have F:∀v∈(l.map Y).toArray.toList,v.oneCell'=Bt:=fun v o=>by
    simp at o;obtain⟨a,_,rfl⟩:=o;rfl
   have h:(l.map Y).toArray.size=4:=by simp[n]
   have D:(l.map Y).toArray.toList=l.map Y:=rfl;generalize(l.map Y).toArray=cs at*;have E:∀x:Array Va,b9 (wr.alloc (U x 438)) wr 438 x:=fun x=>b9.new _ _ _
   go_wp2_with(refine c7 rfl 438 (Tm 5) (Tm 10) rfl wr 438 _ cs rfl rfl (E _) (by rw[h];rfl) (by rw[h];kernel_rfl) F ?_;intro aa q H)
   have p:=(c.alloc (U _ 438)).grown H (fun k e=>by cases e;exact c.size);apply(B _ _ (h9.f q D)).mono;rintro e T⟨rfl,rfl⟩;rcases g:a1z l s with _|_
   ·rw[g]at b
    go_wp2_with fail
    go_roundw
    case rel=>exact⟨k+1,by omega,by go_num,b,p⟩
    case measure=>simp[intOf];omega
   ·rw[g,if_pos rfl]at b
    subst b;go_wp2_with fail
    go_ret2
    exact⟨rfl,p⟩
  ·obtain rfl:k=2:=by omega
   rw[List.drop_of_length_le (by omega)]at b;subst b;go_wp2
   go_ret2
   exact⟨rfl,c⟩
def z7(s:ByteArray):List Int:=s.data.toList.map fun b=>(b.toNat:Int)
theorem oT(s:ByteArray)(w:Wd):∃G c a,(convert 9 22 (Y s)).run prog w= .ok (Z (So ⟨G,0,J⟩) s.size c) a∧a9 w a∧h9 a (So ⟨G,0,J⟩) (i3 U8 (z7 s)):=by
 refine⟨_,_,_,run_bytes_of_string (P:=prog) w 9 22 5 s underlying9 underlying22 underlying5,((a9.refl w).drew).alloc _,fun j u e=>⟨w,0,rfl,?_⟩⟩;rw[a4E];have b:j<s.data.toList.length:=by simpa[i3,z7]using(List.getElem?_eq_some_iff.1 e).1
 have d:j<s.data.size:=by simpa using b
 refine(cell_of_row _ w j _ 5 _ (heap_alloc_new _ _)).trans ?_;rw[←e];unfold bytesRow i3 z7;rw[Array.getElem?_append_left (by simpa using d),Array.getElem?_map,Array.getElem?_eq_getElem d,List.getElem?_map,List.getElem?_map,e9 b];rfl
def DB:List UInt8→Int→Option Int
 |[],n=>So n
 |c::r,n=>if c.toNat<48||57<c.toNat then J else DB r (min (10*n+(c.toNat-48)) 1048576)
def O4(s:ByteArray):Int×Int:=if(a03 Y1 s 160).2=0 then((a03 Y1 s 160).1,0)else match DB s.data.toList 0 with
 |none=>(0,160)
 |some n=>if s.size<1||4<s.size||4095<n then(0,160)else(n,0)
theorem JY(s:ByteArray)(bd:s.size≤1000000)(W:Wd):Ca prog 225 #[Y s] W fun e ax=>e=X (Tp #[I V (O4 s).1,I M (O4 s).2])∧a9 W ax:=by
 obtain⟨R,g⟩:∃R,R=O4 s:=⟨_,rfl⟩;rw[←g];unfold O4 at g;have ac:=a6 HG;have ap:∀v∈Y2.toList,v.oneCell'=Bt:=(wO V).row_oneCell Y1;have an:Y2.toList=(wO V).row Y1:=rfl;have ad:=a6 (fun w G(r:h9 w (So ⟨G,0,J⟩) ((wO V).row Y1))=>fN Y1 G 15 s 160 w rfl (by decide) r);generalize Y2=ak at*;generalize Y1=aj at*;go_in;go_wp2_with fail
 apply(ac _).mono;rintro e D⟨rfl,C⟩;have ao:∀x:Array Va,b9 (D.alloc (U x 426)) D 426 x:=fun x=>b9.new _ _ _
 go_wp2_with(refine c7 rfl 426 (Tm 4) (Tm 10) rfl D 426 _ ak rfl rfl (ao _) (by kernel_rfl) (by kernel_rfl) ap ?_;intro bg aa av)
 have aw:=(C.alloc (U _ 426)).grown av (fun k e=>by cases e;exact C.size);apply(ad _ _ (h9.f aa an)).mono;rintro e az⟨rfl,y⟩;replace y:=aw.trans y;generalize a03 aj s 160=ab at*;obtain⟨bb,am⟩:=ab;dsimp only at g;by_cases L:am=0
 ·subst L
  rw[if_pos rfl]at g;subst g;go_wp2_with fail
  go_ret2
  exact⟨rfl,y⟩
 ·rw[if_neg L]at g
  obtain⟨G,c,ay,au,Q,r⟩:=oT s az;obtain⟨ai,ag⟩:=i6 (y.trans Q) r;have N:(z7 s).length=s.size:=by simp[z7]
  obtain⟨E,ah,af⟩:=p7 N (show∀k(t:k<s.data.toList.length) n,DB (s.data.toList.drop k) n=if s.data.toList[k].toNat<48||57<s.data.toList[k].toNat then J else DB (s.data.toList.drop (k+1)) (min (10*n+(s.data.toList[k].toNat-48)) 1048576)from fun k t n=>by rw[List.drop_eq_getElem_cons t];rfl) (fun k(t:k<s.data.toList.length)(A:k<(z7 s).length)=>show(z7 s)[k]=(s.data.toList[k].toNat:Int) by simp[z7]);obtain⟨o,a⟩:∃o,o=DB s.data.toList 0:=⟨_,rfl⟩;rw[←a]at g;have l:=a6 g;clear g r Q N;have be:s.data.toList.length=s.size:=by simp
  generalize s.data.toList=z at*;generalize z7 s=B at*;go_wp2_with fail
  clear au;go_loopw [7,23] (fun n i wr=>∃(k:Nat)(x:Int),k≤s.size∧i=I M k∧n=I M x∧0≤x∧x≤1048576∧o=DB (z.drop k) x∧a9 W wr∧a9 ay wr) (fun _ i _=>s.size-(intOf i).toNat)
  case atStart=>exact⟨0,0,by omega,rfl,rfl,by omega,by omega,a,ai.out,a9.refl _⟩
  case round=>
   clear a;obtain⟨k,x,t,rfl,rfl,bf,C,a,m,S⟩:=hrel;by_cases P:k<s.size
   ·have ar:=(ag.h S).cell (k:=k) (u:=I U8 (B[k]'(by rw[E.out];exact P))) (M2 (by rw[E.out];exact P))
    rw[af k (by omega),a4E]at ar;rw[ah k (by omega)]at a;generalize aq:z[k]'(by omega)=b at*;have bc:b.toNat<256:=b.toNat_lt;generalize b.toNat=j at*;clear aq b;have k0:(0:Int)≤k:=by omega
    have k1:(k:Int)<s.size:=by omega
    by_cases p:j<48
    ·have h:o=J:=by rw[a];simp[p]
     have d:=l.out;rw[h]at d;have f:=a6 d;clear d a h l;have T:Dc ((j:Int)<48)=Bt:=by simp;omega
     go_wp2_with fail
     go_ret2
     exact⟨by rw[f.out];rfl,m⟩
    ·by_cases A:57<j
     ·have h:o=J:=by rw[a];simp[A]
      have d:=l.out;rw[h]at d;have f:=a6 d;clear d a h l;have T:Dc ((j:Int)<48)=Bf:=by simp;omega
      have ba:Dc ((57:Int)<j)=Bt:=by simp;omega
      go_wp2_with fail
      go_ret2
      exact⟨by rw[f.out];rfl,m⟩
     ·have T:Dc ((j:Int)<48)=Bf:=by simp;omega
      have ba:Dc ((57:Int)<j)=Bf:=by simp;omega
      have h:o=DB (z.drop (k+1)) (min (10*x+((j:Int)-48)) 1048576):=by
       rw[a];simp[p,A]
      have ae:=a6 h;clear a h;go_wp2_with fail
      go_roundw
      case rel=>exact⟨k+1,_,by omega,by go_num,rfl,by omega,by omega,ae.out,m,S⟩
      case measure=>simp[intOf];omega
   ·obtain rfl:k=s.size:=by omega
    rw[List.drop_of_length_le (by omega)]at a;have d:=l.out;rw[a]at d;dsimp only[DB]at d;by_cases p:s.size<1∨4<s.size∨4095<x
    ·have q:R=(0,160):=by rw[d];simp only[Bool.or_eq_true,decide_eq_true_eq,or_assoc,if_pos p]
     have f:=a6 q;clear d q l a;rcases F:Dc ((s.size:Int)<1)with _|_
     ·rcases H:Dc ((4:Int)<s.size)with _|_
      ·have al:Dc (4095<x)=Bt:=by simp at F H⊢;omega
       go_wp2_with fail
       go_ret2
       exact⟨by rw[f.out];rfl,m⟩
      ·go_wp2_with fail
       go_ret2
       exact⟨by rw[f.out];rfl,m⟩
     ·go_wp2_with fail
      go_ret2
      exact⟨by rw[f.out];rfl,m⟩
    ·have q:R=(x,0):=by rw[d];simp only[Bool.or_eq_true,decide_eq_true_eq,or_assoc,if_neg p]
     have f:=a6 q;clear d q l a;have F:Dc ((s.size:Int)<1)=Bf:=by simp;omega
     have H:Dc ((4:Int)<s.size)=Bf:=by simp;omega
     have al:Dc (4095<x)=Bf:=by simp;omega
     go_wp2_with fail
     go_ret2
     exact⟨by rw[f.out];rfl,m⟩
end
def wX:ByteArray:=⟨#[91]⟩
def TN:ByteArray:=⟨#[93]⟩
def r1:ByteArray:=⟨#[91,93]⟩
def V1:ByteArray:=⟨#[32,9,13]⟩
def nE(s p:ByteArray):ByteArray×Bool:=(⟨(Lib.trimPrefix s.data.toList p.data.toList).toArray⟩,Lib.hasPrefix s.data.toList p.data.toList)
def DG(s p:ByteArray):ByteArray×Bool:=(⟨(Lib.trimSuffix s.data.toList p.data.toList).toArray⟩,Lib.hasSuffix s.data.toList p.data.toList)
theorem JJ(l:List UInt8):(⟨l.toArray⟩:ByteArray).size=l.length:=by simp[ByteArray.size]
theorem QB(s p:ByteArray):(nE s p).1.size≤s.size:=by
 unfold nE Lib.trimPrefix;rw[JJ,Lib.size_eq];split
 ·simp
 ·exact a7 _
theorem QA(s p:ByteArray):(DG s p).1.size≤s.size:=by
 unfold DG Lib.trimSuffix;rw[JJ,Lib.size_eq];split
 ·simp
 ·exact a7 _
def QR(s cs:ByteArray):Bool:=Dc (0≤iaT s cs)
def S7(c:ByteArray):ByteArray×Bool:=
 let a:=nE c wX
 let b:=DG a.1 TN
 if a.2&&b.2&& !(b.1.toList==[])&& !QR b.1 r1 then(b.1,Bt)else(⟨#[]⟩,Bf)
theorem yS(s:ByteArray)(z:s.size≤1000000)(W:Wd):Ca prog 109 #[Y s] W fun e f=>e=X (Tp #[Y (S7 s).1,O (S7 s).2])∧a9 W f:=by
 have m:=QB s wX;have n:=QA (nE s wX).1 TN;obtain⟨i,j,l⟩:=p7 (fun W=>show Ca prog 155 #[Y s,Y wX] W fun e f=>e=X (Tp #[Y (nE s wX).1,O (nE s wX).2])∧W=f from iE s wX W) (fun W=>show Ca prog 108 #[Y (nE s wX).1,Y TN] W fun e f=>e=X (Tp #[Y (DG (nE s wX).1 TN).1,O (DG (nE s wX).1 TN).2])∧W=f from iD _ TN (by omega) W) (fun W=>show Ca prog 156 #[Y (DG (nE s wX).1 TN).1,Y r1] W fun e f=>e=X (O (QR (DG (nE s wX).1 TN).1 r1))∧a9 W f from cY _ r1 (by omega) (by decide) (by decide) (by unfold p3 r1;decide) W);obtain⟨R,h⟩:∃R,R=S7 s:=⟨_,rfl⟩;rw[←h];unfold S7 at h;dsimp only at h;clear m n;generalize nE s wX=a at*;obtain⟨a,p⟩:=a;dsimp only at*;generalize DG a TN=b at*;obtain⟨b,q⟩:=b;dsimp only at*;generalize QR b r1=r at*;have c:=a6 h;clear h;have w:(⟨#[91]⟩:ByteArray)=wX:=rfl;have x:(⟨#[93]⟩:ByteArray)=TN:=rfl;have y:(⟨#[91,93]⟩:ByteArray)=r1:=rfl;generalize wX=t at*;generalize TN=u at*;generalize r1=v at*;rcases p with _|_
 ·go_in
  go_wp2_with fail
  apply(i _).mono;rintro e g⟨rfl,rfl⟩;go_wp2_with fail
  apply(j _).mono;rintro e g⟨rfl,rfl⟩;go_wp2_with fail
  go_ret2
  exact⟨by rw[c.out];rfl,a9.refl _⟩
 rcases q with _|_
 ·go_in
  go_wp2_with fail
  apply(i _).mono;rintro e g⟨rfl,rfl⟩;go_wp2_with fail
  apply(j _).mono;rintro e g⟨rfl,rfl⟩;go_wp2_with fail
  go_ret2
  exact⟨by rw[c.out];rfl,a9.refl _⟩
 rcases k:b.toList==[]with _|_
 ·rcases r with _|_
  all_goals
   have d:=c.out;rw[k]at d;replace c:=a6 d;clear d;go_in;go_wp2_with fail
   apply(i _).mono;rintro e g⟨rfl,rfl⟩;go_wp2_with fail
   apply(j _).mono;rintro e g⟨rfl,rfl⟩;go_wp2_with fail
   apply(l _).mono;rintro e A⟨rfl,o⟩;go_wp2_with fail
   go_ret2
   exact⟨by rw[c.out];rfl,o⟩
 ·have d:=c.out
  rw[k]at d;replace c:=a6 d;clear d;go_in;go_wp2_with fail
  apply(i _).mono;rintro e g⟨rfl,rfl⟩;go_wp2_with fail
  apply(j _).mono;rintro e g⟨rfl,rfl⟩;go_wp2_with fail
  go_ret2
  exact⟨by rw[c.out];rfl,a9.refl _⟩
section
open Go.Shelf
structure ZT where
 name:ByteArray
 act:Int
 has:Bool
def ZT.val(e:ZT):Va:=Ag #[Y e.name,I V e.act,O e.has]
def RG:ZT:=⟨⟨#[]⟩,0,Bf⟩
def a2u:ByteArray:=⟨#[107,105,108,108]⟩
def J6(w:ByteArray):ZT×Int:=
 let c:=I6 w 58
 if c.1.toList==[]then(RG,161)
 else if c.2.2 then(if c.2.1.toList==a2u.toList then(⟨c.1,2147483648,Bt⟩,0)
  else if(O4 c.2.1).2=0 then(⟨c.1,bits .or V 327680 (O4 c.2.1).1,Bt⟩,0)else(RG,(O4 c.2.1).2))
 else(⟨c.1,0,Bf⟩,0)
theorem eZ(w:ByteArray)(c:UInt8):(I6 w c).1.size≤w.size∧(I6 w c).2.1.size≤w.size:=by
 rcases nY w c with⟨_,a⟩|⟨k,b,_,a⟩
 ·rw[a];exact⟨a7 _,i5 _⟩
 ·rw[a]
  simp only[ByteArray.size_extract];omega
theorem a0k(w:ByteArray)(D:w.size≤1000000)(W:Wd):Ca prog 309 #[Y w] W fun e S=>e=X (Tp #[(J6 w).1.val,I M (J6 w).2])∧a9 W S:=by
 obtain⟨L,o⟩:=i6 (ET w 58 D) (JY (I6 w 58).2.1 (c8 (eZ w 58).2 D));obtain⟨R,i⟩:∃R,R=J6 w:=⟨_,rfl⟩;rw[←i];unfold J6 at i;dsimp only at i;generalize I6 w 58=C at*;obtain⟨a,b,q⟩:=C;dsimp only at o i;generalize O4 b=H at*;obtain⟨z,N⟩:=H;have A:a2u.toList=[107,105,108,108]:=by kernel_rfl
 rw[A]at i;dsimp only at o i;have d:=a6 i;clear i A;have Q:=(a9.refl W).alloc (U #[Y ⟨#[]⟩,I V 0,O Bf] 416);have G:=b9.new W 416 #[Y ⟨#[]⟩,I V 0,O Bf];go_in;go_wp2_with fail
 apply(L _).mono;rintro e m⟨rfl,s⟩;have l:=Q.trans s;have j:=G.h s;rcases x:a.toList==[]with _|_
 ·have c:=d.out
  rw[x]at c;rcases q with _|_
  ·have g:=a6 c
   clear c d;go_wp2_with(refine c7 rfl 416 (Tm 2) (Tm 41) rfl W _ _ _ rfl rfl (j.h ((a9.refl _).alloc _)) rfl (by kernel_rfl) (by simp[Value.oneCell']) ?_;intro n f h)
   exact Bp (h7 rfl _ _ _ _ _ _ rfl f underlying416 rfl (by kernel_rfl)) rfl ⟨by rw[g.out];rfl,(l.alloc _).grown h (fun k e=>by cases e;exact a7 _)⟩
  ·rcases y:b.toList==[107,105,108,108]with _|_
   ·rw[y]at c
    simp only[a4x,if_false,if_true]at c;replace d:=a6 c;clear c;go_wp2_with fail
    apply(o _).mono;rintro e ad⟨rfl,t⟩;have E:=(l.alloc (U #[Y a,I V 0,O Bt] 416)).trans t;have u:=(j.h ((a9.refl _).alloc (U #[Y a,I V 0,O Bt] 416))).h t;have v:=(b9.new m 416 #[Y a,I V 0,O Bt]).h t;by_cases r:N=0
    ·have c:=d.out
     rw[if_pos r]at c;have g:=a6 c;clear c d;subst r;obtain⟨T,aa,ab⟩:=v.c3;have ac:=v.frozen 1;have B:W<m.heap.size:=Nat.lt_of_lt_of_le (by simp) s.size;have F:=u.far (p:=⟨m,1,J⟩) (Nat.ne_of_lt B) (I V (bits .or V 327680 z));have P:=E.set (p:=⟨m,1,J⟩) (Nat.le_of_lt B) (I V (bits .or V 327680 z));go_wp2_with(refine c7 rfl 416 (Tm 2) (Tm 41) rfl W _ _ _ rfl rfl (F) rfl (by kernel_rfl) (by simp[Value.oneCell']) ?_;intro n f h)
     exact Bp (h7 rfl _ _ _ _ _ _ rfl f underlying416 rfl (by kernel_rfl)) rfl ⟨by rw[g.out];rfl,(P).grown h (fun k e=>by cases e;exact a7 _)⟩
    ·have c:=d.out
     rw[if_neg r]at c;have g:=a6 c;clear c d;go_wp2_with(refine c7 rfl 416 (Tm 2) (Tm 29) rfl W _ _ _ rfl rfl (u) rfl (by kernel_rfl) (by simp[Value.oneCell']) ?_;intro n f h)
     exact Bp (h7 rfl _ _ _ _ _ _ rfl f underlying416 rfl (by kernel_rfl)) rfl ⟨by rw[g.out];rfl,(E).grown h (fun k e=>by cases e;exact a7 _)⟩
   ·rw[y]at c
    have g:=a6 c;clear c d;go_wp2_with(refine c7 rfl 416 (Tm 2) (Tm 41) rfl W _ _ _ rfl rfl (j.h ((a9.refl _).alloc _)) rfl (by kernel_rfl) (by simp[Value.oneCell']) ?_;intro n f h)
    exact Bp (h7 rfl _ _ _ _ _ _ rfl f underlying416 rfl (by kernel_rfl)) rfl ⟨by rw[g.out];rfl,(l.alloc _).grown h (fun k e=>by cases e;exact a7 _)⟩
 ·have c:=d.out
  rw[x]at c;have g:=a6 c;clear c d;go_wp2_with(refine c7 rfl 416 (Tm 2) (Tm 18) rfl W _ _ _ rfl rfl (j) rfl (by kernel_rfl) (by simp[Value.oneCell']) ?_;intro n f h)
  exact Bp (h7 rfl _ _ _ _ _ _ rfl f underlying416 rfl (by kernel_rfl)) rfl ⟨by rw[g.out];rfl,(l).grown h (fun k e=>by cases e;exact a7 _)⟩
end
theorem wr8(b:UInt8):wrap32 (b.toNat:Int)=(b.toNat:Int):=by have:=b.toNat_lt;unfold wrap32;omega
def blq(c:Int):Bool:=Dc (0≤irT V1 c)
def wY:Nat→ByteArray→ByteArray
 |0,s=>s
 |n+1,s=>if blq (at0 s n)then wY n (s.extract 0 n)else s
theorem GP(t:ByteArray):(∃m,∃g:m<t.size,t.size=m+1∧blq (t[m].toNat:Int)=Bt∧(t.extract 0 m).size=m∧wY t.size t=wY (t.extract 0 m).size (t.extract 0 m))∨
  wY t.size t=t∧(t.size=0∨∃m,∃g:m<t.size,t.size=m+1∧blq (t[m].toNat:Int)=Bf):=by
 by_cases c:t.size=0
 ·exact .inr ⟨by rw[c];rfl,.inl c⟩
 ·obtain⟨m,a⟩:∃m,t.size=m+1:=⟨t.size-1,by omega⟩
  have f:m<t.size:=by omega
  have e:wY t.size t=if blq (t[m].toNat:Int)then wY m (t.extract 0 m)else t:=by rw[←xY t m (by omega),a];rfl
  rw[e];rcases d:blq (t[m].toNat:Int)with _|_
  ·exact .inr ⟨rfl,.inr ⟨m,f,a,d⟩⟩
  ·have b:(t.extract 0 m).size=m:=by rw[bW _ _ _ (by omega) (by omega)];omega
   exact .inl ⟨m,f,a,d,b,by rw[b];rfl⟩
def J0(s:ByteArray):ByteArray×ByteArray×Bool:=
 let c:=I6 s 61
 let k:=wY c.1.size c.1
 if c.2.2&& !Lib.hasPrefix s.data.toList [91]&& !k.toList.isEmpty&& !QR k V1 then(k,W8 c.2.1,Bt)else(⟨#[]⟩,⟨#[]⟩,Bf)
theorem oF(s:ByteArray)(E:s.size≤1000000)(W:Wd):Ca prog 110 #[Y s] W fun e l=>e=X (Tp #[Y (J0 s).1,Y (J0 s).2.1,O (J0 s).2.2])∧a9 W l:=by
 have Q:=eZ s 61;obtain⟨H,g,L,G,D⟩:=gP (ET s 61 E) (fun W=>show Ca prog 158 #[Y s,Y wX] W fun e l=>e=X (O (Lib.hasPrefix s.data.toList [91]))∧W=l from bC s wX W) (kR (I6 s 61).2.1 (c8 Q.2 (c8 E (by decide)))) (fun k(S:k.size≤1000000) W=>show Ca prog 156 #[Y k,Y V1] W fun e l=>e=X (O (QR k V1))∧a9 W l from cY k V1 S (by decide) (by decide) (by unfold p3 V1;decide) W) (fun c(P:0≤c) W=>show Ca prog 157 #[Y V1,I .i32 c] W fun e l=>e=X (O (blq c))∧a9 W l from mW V1 c (by decide) (by unfold p3 V1;decide) P W);obtain⟨R,m⟩:∃R,R=J0 s:=⟨_,rfl⟩;rw[←m];unfold J0 at m;dsimp only at m;have af:(⟨#[91]⟩:ByteArray)=wX:=rfl;have ag:(⟨#[32,9,13]⟩:ByteArray)=V1:=rfl;generalize I6 s 61=c at*;obtain⟨k0,ai,q⟩:=c;dsimp only at*;obtain⟨h,f⟩:∃h,h=wY k0.size k0:=⟨_,rfl⟩;rw[←f]at m;generalize wX=ae at*;generalize ah:V1=N at*;have a:=a6 m;clear m;go_in;go_wp2_with fail
 apply(H _).mono;rintro e F⟨rfl,d⟩;go_wp2_with fail
 go_loopw [2] (fun i wr=>∃u:ByteArray,u.size≤1000000∧i=Y u∧h=wY u.size u∧a9 W wr) (fun i _=>match i with|Y t=>t.size|_=>0)
 case atStart=>exact⟨_,by omega,rfl,f,d⟩
 case round=>
  clear f d;obtain⟨u,ab,rfl,f,d⟩:=hrel;rcases GP u with⟨n,aa,p,z,j,x⟩|⟨x,p|⟨n,aa,p,z⟩⟩
  ·have o:=D (u[n].toNat:Int) (by omega)
   rw[z]at o;rw[x]at f;have j:=a2m u;rw[p,decide_eq_false (by omega)]at j;have C:=wr8 (u[n]);have F:IntKind.i64.wrap ((n:Int)+1-1)=n:=by rw[show(n:Int)+1-1=n by omega];exact a37 _ (by omega)
   go_wp2_with fail
   apply(o _).mono;rintro e C⟨rfl,A⟩;go_wp2_with fail
   go_roundw
   case rel=>exact⟨_,by omega,rfl,f,d.trans A⟩
   case measure=>show(u.extract 0 n).size<u.size;omega
  ·rw[x]at f
   subst f;have j:=a2m h;rw[p,decide_eq_true rfl]at j;rcases q with _|_
   ·have b:=a.out
    replace a:=a6 b;clear b;go_wp2_with fail
    go_ret3
    exact⟨by rw[a.out];rfl,d⟩
   rcases r:Lib.hasPrefix s.data.toList [91]with _|_
   rotate_left
   ·rw[r]at g a
    go_wp2_with fail
    apply(g _).mono;rintro e y⟨rfl,rfl⟩;go_wp2_with fail
    go_ret3
    exact⟨by rw[a.out];rfl,d⟩
   rw[r]at g a;have b:=a.out;rw[j]at b;replace a:=a6 b;clear b;go_wp2_with fail
   apply(g _).mono;rintro e y⟨rfl,rfl⟩;go_wp2_with fail
   go_ret3
   exact⟨by rw[a.out];rfl,d⟩
  ·rw[x]at f
   subst f;have T:=ab;have j:=a2m h;rw[p,decide_eq_false (by omega)]at j;have o:=D (h[n].toNat:Int) (by omega);rw[z]at o;have C:=wr8 (h[n]);have F:IntKind.i64.wrap ((n:Int)+1-1)=n:=by rw[show(n:Int)+1-1=n by omega];exact a37 _ (by omega)
   go_wp2_with fail
   apply(o _).mono;rintro e C⟨rfl,A⟩;replace d:=d.trans A;clear o;have v:=G h T;rcases q with _|_
   ·have b:=a.out
    replace a:=a6 b;clear b;go_wp2_with fail
    go_ret3
    exact⟨by rw[a.out];rfl,d⟩
   rcases r:Lib.hasPrefix s.data.toList [91]with _|_
   rotate_left
   ·rw[r]at g a
    go_wp2_with fail
    apply(g _).mono;rintro e y⟨rfl,rfl⟩;go_wp2_with fail
    go_ret3
    exact⟨by rw[a.out];rfl,d⟩
   rw[r]at g a;rcases w:QR h N with _|_
   ·rw[w]at v
    have b:=a.out;rw[j,w]at b;replace a:=a6 b;clear b;go_wp2_with fail
    apply(g _).mono;rintro e y⟨rfl,rfl⟩;go_wp2_with fail
    apply(v _).mono;rintro e ad⟨rfl,B⟩;go_wp2_with fail
    apply(L _).mono;rintro e aj⟨rfl,ac⟩;go_wp2_with fail
    go_ret3
    exact⟨by rw[a.out];rfl,(d.trans B).trans ac⟩
   ·rw[w]at v
    have b:=a.out;rw[j,w]at b;replace a:=a6 b;clear b;go_wp2_with fail
    apply(g _).mono;rintro e y⟨rfl,rfl⟩;go_wp2_with fail
    apply(v _).mono;rintro e ad⟨rfl,B⟩;go_wp2_with fail
    go_ret3
    exact⟨by rw[a.out];rfl,d.trans B⟩
section
attribute [local go_sem] Oper.semAt_some
def G2:Nat→ByteArray→List ByteArray
 |0,_=>[]
 |f+1,r=>if r.size=0 then []else(I6 r 10).1::G2 f (I6 r 10).2.1
def AR:Nat→List ByteArray→List (Nat×ByteArray)
 |_,[]=>[]
 |k,x::r=>(k,x)::AR (k+1) r
theorem AQ:∀(k:Nat)(l:List ByteArray),(AR k l).length=l.length
 |_,[]=>rfl
 |k,x::r=>by simp[AR,AQ (k+1) r]
theorem lF(r:ByteArray)(a:0<r.size):(I6 r 10).2.1.size<r.size:=by
 rcases nY r 10 with⟨_,e⟩|⟨k,b,_,e⟩
 ·rw[e];exact a
 ·rw[e]
  simp only[ByteArray.size_extract];omega
theorem dN:∀(f:Nat)(r:ByteArray),r.size≤f→G2 f r=G2 r.size r
 |0,r,h=>by rw[show r.size=0 by omega]
 |f+1,r,h=>by
  by_cases a:r.size=0
  ·unfold G2;rw[if_pos a,a]
  ·have c:=lF r (by omega)
   obtain⟨m,b⟩:∃m,r.size=m+1:=⟨r.size-1,by omega⟩;rw[b];unfold G2;rw[if_neg a,if_neg (by omega),dN f _ (by omega),dN m _ (by omega)]
theorem BH(r:ByteArray)(a:0<r.size):G2 r.size r=(I6 r 10).1::G2 (I6 r 10).2.1.size (I6 r 10).2.1:=by
 have c:=lF r a;obtain⟨m,b⟩:∃m,r.size=m+1:=⟨r.size-1,by omega⟩;rw[b];show(if r.size=0 then []else _)=_;rw[if_neg (by omega),dN m _ (by omega)]
def n0(s:ByteArray):List (Nat×ByteArray):=AR 1 (G2 s.size s)
theorem OL(l s n c B:Nat)(o:Option Ad)(xs:List Int)(ae:xs.length=n)(ak:n≤900000)(Jq:List (Nat×ByteArray)→Wd→Prop)(D:AbidesFrom B Jq)
  (u:∀d x W,Jq d W→x.2.size≤n→d.length<(n0 (Sn xs)).length→YieldAt .wide 1 prog l #[I M (x:Nat×ByteArray).1,Y x.2] W fun e W'=>e=X (O Bt)∧Jq (d++[x]) W'∧True)
  (W:Wd) (Q:W.cell? ⟨s,0,J⟩=So (Z o n c)) (E:h9 W o (i3 U8 xs)) (g:Jq [] W):
  Ci .wide 2 prog 152 #[Fc (.yield l) #[] #[],K s] W fun e W'=>(∃v,e=X v)∧∃ys,ys=n0 (Sn xs)∧Jq ys W':=by
 have ab:=YI o n c xs W ae E;have y:(Sn xs).size≤n:=by
  have:(Sn xs).size=xs.length:=by simp[Sn,ByteArray.size]
  omega
 generalize Sn xs=S at*;obtain⟨k,m⟩:∃k,k=n0 S:=⟨_,rfl⟩;rw[←m]at u;refine Co func152 rfl trivial ?_ rfl;simp only[ntmps152,uE,l9,a4D]
 gi_wp2
 gi_loopw [3,4] (fun r i wr=>∃(d:List (Nat×ByteArray))(t:ByteArray),r=Y t∧t.size≤n∧d.length+t.size≤n∧i=I M (d.length+1:Nat)∧k=d++AR (d.length+1) (G2 t.size t)∧Jq d wr) (fun r _ _=>match r with|Y t=>t.size|_=>0)
 case atStart=>exact⟨[],S,rfl,y,by simpa using y,rfl,m,g⟩
 case round=>
  clear Q E g ab;obtain⟨d,t,rfl,an,am,rfl,h,p⟩:=hrel;by_cases g:t.size=0
  ·have w:=a2m t
   rw[decide_eq_true g]at w;have R:k=d:=by rw[h,g];simp[G2,AR]
   subst R
   gi_wp2
   go_end0
   exact⟨⟨_,rfl⟩,_,m,p⟩
  ·have w:=a2m t
   rw[decide_eq_false g]at w;rw[BH t (by omega)]at h;have ad:=lF t (by omega);have A:=a6 (ET t 10 (by omega));have G:d.length<k.length:=by rw[h,a2e];simp[AR]
   obtain⟨kk,f⟩:∃kk:Nat,d.length+1=kk:=⟨_,rfl⟩;have P:=a6 G;have al:=eZ t 10;have j:=fun x(W:Wd)(ac:Jq d W)=>u d (d.length+1,x) W ac
   rw[f]at j h;dsimp only at j;replace j:=a6 j;generalize I6 t 10=C at*;obtain⟨a,b,q⟩:=C;dsimp only at*;have L:=a6 h;have z:IntKind.i64.wrap ((kk:Int)+1)=((kk+1:Nat):Int):=by rw[a37 _ (by omega)];simp
   rw[f];have N:=a6 f;clear f;clear h m G u y;gi_wp2_with(refine⟨trivial,?_⟩;gi_at_call 153;apply((Cw (n:=1)).2 (A _)).mono;rintro e z⟨rfl,H⟩)
   have af:=H;have F:Jq d z:=D _ _ _ J p (h8 af J) (fun r e=>by cases e);obtain⟨aj,tmps,ah,ai,ag,aa⟩:=j a z F (by omega) P.out;clear j p D H F A;rw[ag]
   gi_wp2
   apply aa.mono;rintro e W3⟨rfl,T,_⟩
   gi_wp2
   go_roundw
   case rel=>
    have f:=N.out;exact⟨d++[(kk,a)],b,rfl,by omega,by rw[a2e];simp;omega,by rw[a2e,←f];simp,by rw[L.out,a2e,a4s,←f];rfl,T⟩
   case measure=>show b.size<t.size;exact ad
theorem BG(a:Option Ad)(n c:Nat)(w:Wd):
  Ci .wide 2 prog 106 #[Z a n c] w fun e b=>e=X (Fc (.func 152) #[] #[K w])∧b=w.alloc (U #[Z a n c] 22):=by
 refine Co func106 rfl trivial ?_ rfl;simp only[ntmps106,uE,l9,a4D]
 gi_wp2
 go_ret;exact⟨rfl,rfl⟩
theorem mD(s n c:Nat)(a:Option Ad)(xs:List Int)(m:xs.length=n)(k:n≤900000)(w:Wd)(o:s<w)(e:w.cell? ⟨s,0,J⟩=So (Z a n c))(h:h9 w a (i3 U8 xs)):
  jU .wide 2 prog 152 #[K s] (fun x:Nat×ByteArray=> #[I M x.1,Y x.2]) (fun x _=>x.2.size≤n) (fun _ _=>True) (fun ys=>ys=n0 (Sn xs)) (n0 (Sn xs)).length w:=fun l Jq W b g j d=>by
 have f:=(b.cell (p:=⟨s,0,J⟩) o).trans e;have i:h9 W a (i3 U8 xs):=h.h b;exact OL l s n c W a xs m k Jq g j W f i d
end
section
structure MV(Xa:Nat→Prop)(w:Wd)(O':Nat→Prop)(w':Wd):Prop where
 os:w'.os=w.os
 tape:w'.tape=w.tape
 output:w'.output=w.output
 size:w.heap.size≤w'.heap.size
 keep:∀b,b<w.heap.size→¬Xa b→w'.heap[b]? =w.heap[b]?
 own:∀b,O' b→Xa b∨w.heap.size≤b
section
variable {Xa O1 O2:Nat→Prop} {w w1 w2 W:Wd}
theorem MV.refl(Xa:Nat→Prop)(w:Wd):MV Xa w Xa w:=⟨rfl,rfl,rfl,a7 _,fun _ _ _=>rfl,fun _ h=> .inl h⟩
theorem MV.trans(a:MV Xa w O1 w1)(k:MV O1 w1 O2 w2):MV Xa w O2 w2:=
 ⟨k.os.trans a.os,k.tape.trans a.tape,k.output.trans a.output,c8 a.size k.size,fun b d f=>(k.keep b (Nat.lt_of_lt_of_le d a.size) fun c=>by
  rcases a.own b c with e|e
  ·exact f e
  ·omega).trans (a.keep b d f),fun b d=>by
  rcases k.own b d with c|c
  ·exact a.own b c
  ·exact .inr (c8 a.size c)⟩
theorem MV.f(a:a9 w w1):MV Xa w Xa w1:=⟨a.os,a.tape,a.output,a.size,fun b c _=>a.block c,fun _ a=> .inl a⟩
theorem MV.h(h:MV Xa w O1 w1)(x:a9 w1 w2):MV Xa w O1 w2:=h.trans (.f x)
theorem MV.b(a:MV Xa w O1 w1)(x:a9 W w)(e:∀b,Xa b→W.heap.size≤b):a9 W w1:=
 ⟨a.os.trans x.os,a.tape.trans x.tape,a.output.trans x.output,c8 x.size a.size,fun b c=>(a.keep b (Nat.lt_of_lt_of_le c x.size) fun d=>by have:=e b d;omega).trans (x.block c)⟩
theorem MV.l{row:Option Nat}(g:w.grownBy w1 row)(f:∀k,row=So k→Xa k)(d:∀b,O1 b→Xa b∨w.heap.size≤b):MV Xa w O1 w1:=
 ⟨g.os,g.tape,g.output,g.size,fun b c a=>g.block b c fun e=>a (f b e.symm),d⟩
theorem MV.blk{g:Nat}{t:Ti}{cs:Array Va}(a:MV Xa w O1 w1)(k:b9 w g t cs)(b:¬Xa g):b9 w1 g t cs:=(a.keep g k.lt b).trans k
theorem MV.inM{c:Option Ad}{xs:List Va}(g:MV Xa w O1 w1)(k:h9 w c xs)(h:∀a,c=So a→¬Xa a.block):h9 w1 c xs:=fun j u i=>by
 obtain⟨b,f,d,e⟩:=k j u i;refine⟨b,f,d,?_⟩;rw[←e];exact World.cell?_of_block (w:=w) (a:=⟨b,f+j,J⟩) (g.keep b (block_lt_of_cell e) (h _ d))
theorem MV.mono{P f:Nat→Prop}(a:MV Xa w O1 w1)(g:∀b,Xa b→P b)(h:∀b,f b→O1 b∨P b∨w.heap.size≤b):MV P w f w1:=
 ⟨a.os,a.tape,a.output,a.size,fun b e j=>a.keep b e fun i=>j (g b i),fun b e=>by
  rcases h b e with c|c
  ·rcases a.own b c with d|d
   ·exact .inl (g b d)
   ·exact .inr d
  ·exact c⟩
end
theorem e4.ne{d:Type}{w:Wd}{base:Nat}{e:Ti}{E:p6 d}{v:Va}{xs:List d}(h:e4 w base e E v xs){g:Nat}{t:Ti}{cs:Array Va}(k:b9 w g t cs)(j:e≠t):v.ownBlock≠So g:=fun a=>by
 obtain⟨m,c,rfl,l⟩:=h;rcases l.2 with⟨b,_⟩|⟨f,cap,cur,b,_,i,_⟩
 ·rw[b]at a;cases a
 ·rw[b]at a
  injection a with a
  have a:f=g:=a;subst a;unfold b9 at k;rw[i]at k;injection k with k
  injection k with _ k2
  exact j k2
theorem e4.new{c:Type}{w:Wd}{base n:Nat}{e:Ti}{E:p6 c}{xs:List c}{cs:Array Va}(d:base≤w)(a:cs.toList=E.row xs)(f:xs.length=n)(g:n≤1000000):e4 (w.alloc (U cs e)) base e E (Z w n n) xs:=by
 subst f;have b:=E.row_length xs;refine⟨_,_,rfl,b,.inr ⟨w,xs.length,cs,rfl,d,heap_alloc_new _ _,a7 _,by unfold maxLen;omega,by rw[←b,←a];simp,?_⟩⟩;rw[List.take_of_length_le (by rw[a,b];exact a7 _),a]
theorem e4.f{b:Type}{w:Wd}{base:Nat}{e:Ti}{E:p6 b}{v:Va}{xs:List b}(d:e4 w base e E v xs):∃a n c,v=Z a n c:=let⟨a,c,hv,_⟩:=d;⟨a,_,c,hv⟩
theorem b9.ne{w:Wd}{g a:Nat}{t c:Ti}{cs d:Array Va}(b:b9 w g t cs)(k:b9 w a c d)(f:t≠c):g≠a:=fun e=>by
 subst e;unfold b9 at b k;rw[b]at k;injection k with k
 injection k with _ k2
 exact f k2
def jY(bo:Nat)(v:Va)(b:Nat):Prop:=b=bo∨v.ownBlock=So b
theorem jY.ge{W:Wd}{c:Type}{w:Wd}{base:Nat}{e:Ti}{E:p6 c}{v:Va}{xs:List c}{bo:Nat}(d:e4 w base e E v xs)(g:W≤bo)(f:W≤base):∀b,jY bo v b→W.heap.size≤b:=fun b a=>by
 rcases a with rfl|a
 ·exact g
 ·exact c8 f (d.lt a).1
theorem xW{m:Type}{l w1 w2:Wd}{base:Nat}{e:Ti}{E:p6 m}{v v':Va}{xs ys:List m}{bo:Nat}{c:Ti}(i:e≠c)(a:b9 w1 bo c #[v])(q:e4 w1 base e E v xs)(o:MV (jY bo v) l (jY bo v) w1)
  (j:e4 w2 base e E v' ys) (h:w1.grownBy w2 v.ownBlock) (n:v'.ownBlock=v.ownBlock∨v'.ownBlock=So w1.heap.size):
  b9 w2 bo c #[v]∧b9 (w2.setCell ⟨bo,0,J⟩ v') bo c #[v']∧e4 (w2.setCell ⟨bo,0,J⟩ v') base e E v' ys∧MV (jY bo v) l (jY bo v') (w2.setCell ⟨bo,0,J⟩ v'):=by
 have f:b9 w2 bo c #[v]:=a.grown h (fun d=>q.ne a i d.symm);have p:=j.ne f i;refine⟨f,f.f 0 v',j.kept (x4 _ _ _ v') (.inr p),o.trans ((MV.l (O1:=jY bo v') h (fun k g=> .inr g) ?_).trans (.l (x4 _ _ _ v') (fun k g=>by cases g;exact .inl rfl) fun b a=> .inl a))⟩;intro b a;rcases a with rfl|a
 ·exact .inl (.inl rfl)
 ·rcases n with d|d
  ·exact .inl (.inr (by rw[←d];exact a))
  ·rw[d]at a;injection a with a;exact .inr (Nat.le_of_eq a)
end
section
attribute [local go_sem] Oper.semAt_some
def CtI(w:Wd)(z:Nat)(a:List (Nat×ByteArray))(W:Wd):Prop:=b9 W w 3 #[I M a.length]∧Below w w W∧z≤W
theorem a19(w:Wd)(z:Nat)(g:w<z):OwnFrom z (CtI w z):=fun h W W' row⟨d,b,f⟩ a c=>
 ⟨e8 d a fun r e=>(c r e).2,b.grown a b.size (fun r e=>c8 (Nat.le_of_lt g) (c r e).1),c8 f a.size⟩
theorem qC:∀(f:Nat)(r:ByteArray),(G2 f r).length≤f
 |0,_=>a7 _
 |f+1,r=>by
  unfold G2;split
  ·exact i5 _
  ·have:=qC f (I6 r 10).2.1
   simp;omega
theorem GH(s:ByteArray):(n0 s).length≤s.size:=by
 unfold n0;rw[AQ];exact qC _ _
theorem DH(a:Option Ad)(n c:Nat)(xs:List Int)(w:Wd)(y:xs.length=n)(u:n≤900000)(o:h9 w a (i3 U8 xs)):
  Ci .wide 3 prog 103 #[Z a n c] w fun e r=>e=X (I M (n0 (Sn xs)).length)∧a9 w r:=by
 have E:(n0 (Sn xs)).length≤900000:=c8 (GH _) (by simp only[Sn,ByteArray.size];simp;omega);refine Cm func103 rfl trivial ?_ rfl;simp only[ntmps103,uE,l9,a4D];gi_wp2_with(refine⟨trivial,?_⟩;gi_at_call 106;apply(BG a n c _).mono;rintro e r⟨rfl,rfl⟩)
 have i:b9 ((w.alloc (U #[I M 0] 3)).alloc (U #[Z a n c] 22)) w 3 #[I M 0]:=(b9.new w _ _).alloc _;have f:b9 ((w.alloc (U #[I M 0] 3)).alloc (U #[Z a n c] 22)) (w+1) 22 #[Z a n c]:=b9.b (by simp);have j:Below w w ((w.alloc (U #[I M 0] 3)).alloc (U #[Z a n c] 22)):=((a9.refl w).alloc _).alloc _;have N:((w.alloc (U #[I M 0] 3)).alloc (U #[Z a n c] 22)).heap.size=w.heap.size+2:=by simp
 generalize(w.alloc (U #[I M 0] 3)).alloc (U #[Z a n c] 22)=w0 at*;have p:h9 w0 a (i3 U8 xs):=o.h j;refine kK rfl (by decide) (gf:=152) (lb:= #[K (w+1:Nat)]) rfl trivial (Eo func152 (by kernel_rfl) rfl)
  (jU.toB (mD (w+1) n c a xs y u w0 f.lt (by rw[f.cell];rfl) p)) (fun t k=>trivial)
  (fun W l A B v t h L=>trivial) (Below.refl _ _) (fun _=>rfl)
  (fun x W l A B m v h=>m)
  (CtI w w0) (fun _ _ _=>trivial) (a19 w w0 (by omega))
  ⟨i,j,a7 _⟩
  (fun x:Nat×ByteArray=> {tmps:= #[Z a n c,Un,I M 0,K w,Z a n c,Fc (.func 152) #[] #[K (w+1:Nat)],I M x.1,Y x.2,Un,Un,Un],defers:=[]}) ?Aa ?Ab ?Ac
 case Aa=>
  intro l S W C d
  gi_wp2
  simpa using d
 case Ab=>
  rintro l q⟨Q,R⟩ W⟨b,g,F⟩ m H;have h:=b.cell 0;have G:=b.frozen 0;have P:IntKind.i64.wrap ((q.length:Int)+1)=((q.length+1:Nat):Int):=by rw[a37 _ (by omega)];simp
  clear i f p o;dsimp only
  gi_wp2
  refine⟨(KeepsOthers.setCell _ _ _).from _,trivial,?_,a9.set g (a7 _) _,c8 (by omega) (x4 _ _ _ _).size⟩;rw[a2e];exact b.f 0 _
 case Ac=>
  rintro s xs W D z⟨b,g,_⟩ d;subst z;have h:=b.cell 0
  gi_wp2
  refine⟨by simp,.inl ⟨_,_,rfl,run_takeDeferred d,?_⟩⟩;exact⟨_,results_tmp rfl _ _ _,rfl,Below.trans (show Below w w W from g) (belowK_b (w:=w) (a7 _) W s _ _ (by omega) d rfl rfl)⟩
def v9:p6 (Nat×ByteArray):=⟨2,fun x=>[I M x.1,Y x.2],fun _=>rfl,by simp[Value.oneCell']⟩
theorem a5c:mU prog 134 185 (Ag #[I M 0,Y ⟨#[]⟩]) 2 24:=⟨underlying134,by kernel_rfl,rfl,by decide,by decide⟩
def aQ(n:Nat)(t:ByteArray):List (Nat×ByteArray):=if(W8 t).size=0 then []else [(n,W8 t)]
def aS(a bo:Nat)(v:Va)(b:Nat):Prop:=b=a∨jY bo v b
theorem oV(n:Nat)(t:ByteArray)(am:t.size≤100000000)(a bo base:Nat)(v:Va)(xs:List (Nat×ByteArray))(an:xs.length+1≤1000000)(w:Wd)(B:b9 w a 185 #[I M n,Y t])(P:b9 w bo 134 #[v])(T:e4 w base 185 v9 v xs)(bd:a<base)(ak:base≤w):
  Ca prog 104 #[K a,K bo] w fun e x=>e=X (Tp #[])∧∃v',b9 x a 185 #[I M 0,Y ⟨#[]⟩]∧b9 x bo 134 #[v']∧e4 x base 185 v9 v' (xs++aQ n t)∧MV (aS a bo v) w (aS a bo v') x:=by
 have aa:=a6 (kR t am);have Q:aQ n t=if(W8 t).size=0 then []else [(n,W8 t)]:=rfl
 generalize aQ n t=l at*;generalize W8 t=c at*;have H:=a6 Q;clear Q;have R:=a2m c;have ap:=B.cell 1;go_in;go_wp2_with fail
 apply(aa _).mono;rintro e h⟨rfl,r⟩;have b1:=B.h r;have ax:=b1.frozen 1;have ar:=b1.cell 1;have b2:=b1.f 1 (Y c);have C:a≠bo:=B.ne P (by decide);have y:b9 (h.setCell ⟨a,1,J⟩ (Y c)) bo 134 #[v]:=(P.h r).grown (x4 _ _ _ (Y c)) (fun e=>by injection e with e;exact C e.symm);have m:e4 (h.setCell ⟨a,1,J⟩ (Y c)) base 185 v9 v xs:=(T.h r).kept (x4 _ _ _ (Y c)) (.inr (fun e=>by have:=(T.lt e).1;omega));have D:∀(v:Va)(i:Nat)(u:Va)(W:Wd),MV (aS a bo v) W (aS a bo v) (W.setCell ⟨a,i,J⟩ u):=fun v i u W=> .l (x4 _ _ _ u) (fun k al=>by cases al;exact .inl rfl) fun b ai=> .inl ai
 have z:=(MV.f (Xa:=aS a bo v) r).trans (D v 1 (Y c) h);have aj:=c8 ak z.size;obtain⟨aq,ac⟩:=b2.d2 1 0;have ay:=b2.frozen 0;have bc:=y.cell 0;have N:=a6 D;clear D;have S:∀(v':Va)(ys:List (Nat×ByteArray))(W:Wd),b9 W a 185 (#[I M n,Y t].setIfInBounds 1 (Y c))→b9 W bo 134 #[v']→e4 W base 185 v9 v' ys→MV (aS a bo v) w (aS a bo v') W→ys=xs++l→
   ∃v',b9 ((W.setCell ⟨a,0,J⟩ (I M 0)).setCell ⟨a,1,J⟩ (Y ⟨#[]⟩)) a 185 #[I M 0,Y ⟨#[]⟩]∧b9 ((W.setCell ⟨a,0,J⟩ (I M 0)).setCell ⟨a,1,J⟩ (Y ⟨#[]⟩)) bo 134 #[v']∧e4 ((W.setCell ⟨a,0,J⟩ (I M 0)).setCell ⟨a,1,J⟩ (Y ⟨#[]⟩)) base 185 v9 v' (xs++l)∧MV (aS a bo v) w (aS a bo v') ((W.setCell ⟨a,0,J⟩ (I M 0)).setCell ⟨a,1,J⟩ (Y ⟨#[]⟩)):=fun v' ys W ad ae af ag ah=>by
  subst ah;have k:∀{W:Wd}(u:Va)(i:Nat),e4 W base 185 v9 v' (xs++l)→e4 (W.setCell ⟨a,i,J⟩ u) base 185 v9 v' (xs++l):=fun u i f=>f.kept (x4 _ _ _ u) (.inr (fun e=>by have:=(f.lt e).1;omega))
  have k2:∀{W:Wd}(u:Va)(i:Nat),b9 W bo 134 #[v']→b9 (W.setCell ⟨a,i,J⟩ u) bo 134 #[v']:=fun u i f=>f.grown (x4 _ _ _ u) (fun e=>by injection e with e;exact C e.symm)
  exact⟨v',(ad.f 0 _).f 1 _,k2 _ _ (k2 _ _ ae),k _ _ (k _ _ af),(ag.trans (N _ _ _ _)).trans (N _ _ _ _)⟩
 have L:=a6 S;clear S;by_cases o:c.size=0
 ·rw[decide_eq_true o]at R
  go_wp2_with fail
  go_end0
  exact⟨rfl,L v xs _ b2 y m z (by rw[H.out,if_pos o];simp)⟩
 ·rw[decide_eq_false o]at R
  have key:∀(g:Wd)(d:Va),e4 g base 185 v9 d (xs++[(n,c)])→((h.setCell ⟨a,1,J⟩ (Y c)).alloc (U #[I M n,Y c] 185)).grownBy g v.ownBlock→(d.ownBlock=v.ownBlock∨d.ownBlock=So ((h.setCell ⟨a,1,J⟩ (Y c)).alloc (U #[I M n,Y c] 185)).heap.size)→
    b9 g bo 134 #[v]∧b9 (g.setCell ⟨bo,0,J⟩ d) bo 134 #[d]∧e4 (g.setCell ⟨bo,0,J⟩ d) base 185 v9 d (xs++[(n,c)])∧MV (jY bo v) (h.setCell ⟨a,1,J⟩ (Y c)) (jY bo d) (g.setCell ⟨bo,0,J⟩ d)∧b9 (g.setCell ⟨bo,0,J⟩ d) a 185 (#[I M n,Y t].setIfInBounds 1 (Y c)):=fun g d q p A=>by
   obtain⟨s,E,F,G⟩:=xW (by decide) (y.h ((a9.refl _).alloc _)) (m.h ((a9.refl _).alloc _)) (MV.f ((a9.refl _).alloc _)) q p A;exact⟨s,E,F,G,((b2.h ((a9.refl _).alloc _)).grown p (fun e=>by have:=(m.lt e.symm).1;omega)).grown (x4 _ _ _ d) (fun e=>by injection e with e;exact C e)⟩
  have ab:=a6 key;clear key;go_wp2_with(at_builtin;refine j3 rfl (Tm 9) (Tm 11) 134 185 rfl a5c base _ xs rfl (m.h ((a9.refl _).alloc _)) _ 1 1 [(n,c)] rfl rfl (fF (by simp) rfl) an (c8 aj (by simp)) ?_;intro d g q be p A;obtain⟨s,E,F,G,j⟩:=ab _ _ q p A;have au:=s.cell 0;have az:=s.frozen 0;have ba:=j.frozen 0;have bb:=j.frozen 1;have av:=j.cell 0;have aw:=j.cell 1;obtain⟨ao,bf,ac,rfl⟩:=q.f)
  go_end0
  refine⟨rfl,L _ _ _ j E F (z.trans (G.mono (fun b f=> .inr f) fun b f=> ?_)) (by rw[H.out,if_neg o])⟩;rcases f with f|f
  ·exact .inr (.inl (.inl f))
  ·exact .inl f
end
section
attribute [local go_sem] Oper.semAt_some
theorem MV.from{Oq O1:Nat→Prop}{W W':Wd}(d:MV Oq W O1 W')(B:Nat)(f:∀b a,Oq b→W.heap[b]? =So a→a.isCells=Bt):KeepsFrom B W W':=
 ⟨d.size,fun k a _ c e=>(d.keep k (Array.getElem?_eq_some_iff.1 c).1 (fun g=>by rw[f k a g c]at e;cases e)).trans c⟩
theorem b9.isC{W:Wd}{g:Nat}{t:Ti}{cs:Array Va}(b:b9 W g t cs){c:Obj}(a:W.heap[g]? =So c):c.isCells=Bt:=by
 unfold b9 at b;rw[b]at a;injection a with a
 subst a;rfl
theorem e4.isC{j:Type}{W:Wd}{base:Nat}{e:Ti}{E:p6 j}{v:Va}{xs:List j}(f:e4 W base e E v xs){b:Nat}(a:v.ownBlock=So b){i:Obj}(d:W.heap[b]? =So i):i.isCells=Bt:=by
 obtain⟨l,c,rfl,f⟩:=f;rcases f.2 with⟨h,_⟩|⟨g,cap,cur,h,_,k,_⟩
 ·rw[h]at a;cases a
 ·rw[h]at a
  injection a with a
  have a:g=b:=a;subst a;rw[k]at d;injection d with d
  subst d;rfl
theorem e4.l{b:Type}{W W':Wd}{base:Nat}{e:Ti}{E:p6 b}{v:Va}{xs:List b}{row:Option Nat}(d:e4 W base e E v xs)(f:W.grownBy W' row)(g:∀r,row=So r→∃a:Obj,W.heap[r]? =So a∧a.isCells=Bf):e4 W' base e E v xs:=
 let⟨A,c,hv,ho⟩:=d;⟨A,c,hv,P9 ho f g⟩
theorem e4.putObj{d:Type}{W:Wd}{base:Nat}{e:Ti}{E:p6 d}{v:Va}{xs:List d}(f:e4 W base e E v xs){l:Nat}{a:Obj}(b:Obj)(h:W.heap[l]? =So a)(g:a.isCells=Bf):e4 (W.putObj l b) base e E v xs:=
 let⟨A,c,hv,ho⟩:=f;⟨A,c,hv,ownsRow_putObj ho b h g⟩
def a0t(s:ByteArray):Bool:=Lib.hasSuffix s.data.toList [92]
def bB(s:ByteArray):ByteArray:=⟨(Lib.trimSuffix s.data.toList [92]).toArray⟩
abbrev QU:=List (Nat×ByteArray)×Nat×ByteArray
def AP(σ:QU)(x:Nat×ByteArray):Nat:=if σ.2.1=0 then x.1 else σ.2.1
def H8(σ:QU)(x:Nat×ByteArray):QU:=
 if dV x.2=Bt then σ
 else if a0t x.2=Bt then(σ.1,AP σ x,σ.2.2++(bB x.2++⟨#[32]⟩))
 else(σ.1++aQ (AP σ x) (σ.2.2++x.2),0,⟨#[]⟩)
def p9(l:List (Nat×ByteArray)):QU:=l.foldl H8 ([],0,⟨#[]⟩)
def cZ(s:ByteArray):List (Nat×ByteArray):=(p9 (n0 s)).1++aQ (p9 (n0 s)).2.1 (p9 (n0 s)).2.2
def G0(s:ByteArray):List (Nat×ByteArray)×Int:=if 65536<s.size then([],3)else if 1000<(n0 s).length then([],4)else(cZ s,0)
theorem bV(l:List (Nat×ByteArray))(x):p9 (l++[x])=H8 (p9 l) x:=by simp[p9]
structure SpI(w:Wd)(n z:Nat)(pre:List (Nat×ByteArray))(W:Wd):Prop where
 ou:∃v,b9 W w 134 #[v]∧e4 W (w+4) 185 v9 v (p9 pre).1
 now:b9 W (w+1) 185 #[I M (p9 pre).2.1,Y (p9 pre).2.2]
 done:b9 W (w+2) 1 #[Fc (.func 104) #[] #[K (w+1:Nat),K w]]
 len:(p9 pre).1.length≤pre.length
 sz:(p9 pre).2.2.size≤pre.length*(n+1)
 h:a9 w W
 z:z≤W
theorem a16(w:Wd)(n z:Nat)(l:w≤z):OwnFrom z (SpI w n z):=fun m W W' row⟨⟨v,d,f⟩,g,h,i,j,c,k⟩ a b=>
 ⟨⟨v,e8 d a fun r e=>(b r e).2,f.l a fun r e=>(b r e).2⟩,e8 g a fun r e=>(b r e).2,e8 h a fun r e=>(b r e).2,i,j,
  Below.grown c a c.size (fun r e=>c8 l (b r e).1),c8 k a.size⟩
theorem eK(s:ByteArray):(bB s).size≤s.size:=by
 unfold bB Lib.trimSuffix;simp only[ByteArray.size];split<;>simp
theorem lD(n:Nat)(t:ByteArray):(aQ n t).length≤1:=by unfold aQ;split<;>simp
theorem MN(a bo:Nat)(v:Va)(i:Nat)(u:Va)(W:Wd):MV (aS a bo v) W (aS a bo v) (W.setCell ⟨a,i,J⟩ u):= .l (x4 _ _ _ u) (fun k d=>by cases d;exact .inl rfl) fun b c=> .inl c
theorem SpI.bd{w:Wd}{n z:Nat}{b:List (Nat×ByteArray)}{W:Wd}(c:SpI w n z b W){v v':Va}{W':Wd}(e:e4 W (w+4) 185 v9 v (p9 b).1)(d:MV (aS (w+1) w v) W (aS (w+1) w v') W'):b9 W' (w+2) 1 #[Fc (.func 104) #[] #[K (w+1:Nat),K w]]:=
 d.blk c.done fun a=>by
  rcases a with a|a|a
  ·omega
  ·omega
  ·have:=(e.lt a).1;omega
theorem SpI.step{w:Wd}{n z:Nat}{a:List (Nat×ByteArray)}{W:Wd}(B:Nat)(d:SpI w n z a W){v v':Va}{W':Wd}{x:Nat×ByteArray}(l:b9 W w 134 #[v])(h:e4 W (w+4) 185 v9 v (p9 a).1)(f:MV (aS (w+1) w v) W (aS (w+1) w v') W')
  {σ:QU} (e:H8 (p9 a) x=σ) (i:b9 W' w 134 #[v']) (j:e4 W' (w+4) 185 v9 v' σ.1) (k:b9 W' (w+1) 185 #[I M σ.2.1,Y σ.2.2]) (q:x.2.size≤n):
  KeepsFrom B W W'∧True∧SpI w n z (a++[x]) W':=by
 have o:σ.1.length≤(a++[x]).length:=by
  have:=d.len;rw[←e,a2e];unfold H8;split
  ·simp;omega
  ·split
   ·simp;omega
   ·have:=lD (AP (p9 a) x) ((p9 a).2.2++x.2)
    simp;omega
 have p:σ.2.2.size≤(a++[x]).length*(n+1):=by
  have:=d.sz;rw[←e,a2e,List.length_singleton,Nat.succ_mul];unfold H8;split
  ·omega
  ·split
   ·have:=eK x.2
    simp only[ByteArray.size_append];have:(⟨#[32]⟩:ByteArray).size=1:=rfl;omega
   ·show(0:Nat)≤_;omega
 have m:=d.bd h f;refine⟨f.from B fun b r c g=> ?_,trivial,⟨⟨v',i,?_⟩,?_,m,?_,?_,f.b d.h fun b c=> ?_,c8 d.z f.size⟩⟩
 ·rcases c with rfl|rfl|c
  ·exact d.now.isC g
  ·exact l.isC g
  ·exact h.isC c g
 ·rw[bV,e];exact j
 ·rw[bV,e];exact k
 ·rw[bV,e];exact o
 ·rw[bV,e];exact p
 ·rcases c with rfl|rfl|c
  ·omega
  ·omega
  ·have:=(h.lt c).1;omega
theorem QY{W:Wd}{a bo base i:Nat}{u v:Va}{xs:List (Nat×ByteArray)}(c:b9 W bo 134 #[v])(b:e4 W base 185 v9 v xs)(d:a≠bo)(f:a<base):b9 (W.setCell ⟨a,i,J⟩ u) bo 134 #[v]∧e4 (W.setCell ⟨a,i,J⟩ u) base 185 v9 v xs:=
 ⟨c.grown (x4 _ _ _ u) (fun e=>by injection e with e;exact d e.symm),b.kept (x4 _ _ _ u) (.inr (fun e=>by have:=(b.lt e).1;omega))⟩
structure o5(w1:Wd)(v:Va)(out:List (Nat×ByteArray))(W W':Wd)(num:Int)(text:ByteArray):Prop where
 n:b9 W' (w1+1) 185 #[I M num,Y text]
 b:b9 W' w1 134 #[v]
 oo:e4 W' (w1+4) 185 v9 v out
 m:MV (aS (w1+1) w1 v) W (aS (w1+1) w1 v) W'
section
variable {w1 W W':Wd} {v:Va} {out:List (Nat×ByteArray)} {num:Int} {text:ByteArray}
theorem o5.sn(h:o5 w1 v out W W' num text)(x:Int):o5 w1 v out W (W'.setCell ⟨w1+1,0,J⟩ (I M x)) x text:=
 ⟨h.n.f 0 _,(QY h.b h.oo (by omega) (by omega)).1,(QY h.b h.oo (by omega) (by omega)).2,h.m.trans (MN _ _ _ _ _ _)⟩
theorem o5.txt(h:o5 w1 v out W W' num text)(t:ByteArray):o5 w1 v out W (W'.setCell ⟨w1+1,1,J⟩ (Y t)) num t:=
 ⟨h.n.f 1 _,(QY h.b h.oo (by omega) (by omega)).1,(QY h.b h.oo (by omega) (by omega)).2,h.m.trans (MN _ _ _ _ _ _)⟩
end
theorem SX(m:Option Ad)(n c:Nat)(xs:List Int)(w:Wd)(br:xs.length=n)(bl:h9 w m (i3 U8 xs))(bj:n≤65536)(ag:(n0 (Sn xs)).length≤1000):
  Ci .wide 3 prog 60 #[Z m n c] w fun e aa=>∃v,e=X (Tp #[v,I M 0])∧e4 aa w 185 v9 v (cZ (Sn xs))∧a9 w aa:=by
 obtain⟨bh,bi⟩:=i6 bl br;clear bl br;have cm:Dc (65536<(n:Int))=Bf:=by simp;omega
 have bg:=a6 (callsIn_wide.1 (DH m n c xs w bi (by omega) bh.out));have bw:Dc (1000<((n0 (Sn xs)).length:Int))=Bf:=by simp;omega
 obtain⟨R,ar⟩:∃R,R=cZ (Sn xs):=⟨_,rfl⟩;rw[←ar];have bu:=a6 ar;obtain⟨ak,ao⟩:∃ak,ak=n0 (Sn xs):=⟨_,rfl⟩;rw[←ao]at bg bw ag;have bf:=a6 ao;clear ao ar;refine Cm func60 rfl trivial ?_ rfl;simp only[ntmps60,uE,l9,a4D];gi_wp2_with(first
  |(refine⟨trivial,?_⟩;gi_at_call 103;apply((Cw (n:=2)).2 bg.out).mono;rintro e w1⟨rfl,aj⟩)
  |(refine⟨trivial,?_⟩;gi_at_call 106;apply(BG m n c _).mono;rintro e aa⟨rfl,rfl⟩))
 generalize F:(((w1.alloc (U #[Z J 0 0] 134)).alloc (U #[I M 0,Y ⟨#[]⟩] 185)).alloc (U #[Fc (.func 104) #[] #[K (w1+1:Nat),K w1]] 1)).alloc (U #[Z m n c] 22)=p at*;have am:b9 p w1 134 #[Z J 0 0]:=by rw[←F];exact(((b9.new w1 _ _).alloc _).alloc _).alloc _
 have b1:b9 p (w1+1) 185 #[I M 0,Y ⟨#[]⟩]:=by rw[←F];exact((b9.b (by simp)).alloc _).alloc _
 have b2:b9 p (w1+2) 1 #[Fc (.func 104) #[] #[K (w1+1:Nat),K w1]]:=by rw[←F];exact(b9.b (by simp)).alloc _
 have b3:b9 p (w1+3) 22 #[Z m n c]:=by rw[←F];exact b9.b (by simp)
 have bk:a9 w1 p:=by rw[←F];exact((((a9.refl w1).alloc _).alloc _).alloc _).alloc _
 have ay:p=w1.heap.size+4:=by rw[←F];simp
 clear F;have t:=a6 ay;have aq:h9 p m (i3 U8 xs):=(bh.h aj).h bk;simp only[Nat.add_assoc,l9];clear ay;refine kK rfl (by decide) (gf:=152) (lb:= #[K (w1+3:Nat)]) rfl trivial (Eo func152 (by kernel_rfl) rfl)
  (jU.toB (mD (w1+3) n c m xs bi (by omega) p b3.lt (by rw[b3.cell];rfl) aq)) (fun D k=>trivial)
  (fun W l cg ch cc D ah cq=>trivial) (Below.refl _ _) (fun _=>rfl)
  (fun x W l cg ch E cc ah=>E)
  (SpI w1 n p) (fun _ _ _=>trivial) (a16 w1 n p (by have:=t.out;omega))
  ⟨⟨_,am,e4.nil _ _ _ _⟩,b1,b2,a7 _,i5 _,bk,a7 _⟩
  (fun x:Nat×ByteArray=> {tmps:= #[Z m n c,Un,Z J 0 0,I M 0,K w1,K (w1+1:Nat),K (w1+2:Nat),I M x.1,Y x.2,Un,Un,O Bf,Z m n c,I M n,O Bf,O Bf,Z m n c,I M ak.length,O Bf,
   Fc (.func 104) #[] #[K (w1+1:Nat),K w1],Z m n c,Fc (.func 152) #[] #[K (w1+3:Nat)],I M x.1,Y x.2,Un,Un,Un,Un,Un,Un,Un,Un,Un,Un,Un,Un,Un,Un,Un,Un,Un,Un,Un,Un,Un,Un,Un,Un,Un,Un,Un,Un,Un],defers:=[]}) ?Aa ?Ab ?Ac
 case Aa=>
  intro l cr W ci S
  gi_wp2
  simpa using S
 case Ab=>
  rintro l o⟨q,d⟩ W u E bp;obtain⟨v,j,y⟩:=u.ou;have T:=u.now;have ai:=u.sz;rw[←bf.out]at bp;have bq:o.length*(n+1)≤999*65537:=Nat.mul_le_mul (by omega) (by omega);obtain⟨g,ab,ac⟩:=p7 (fun(v':Va)(W':Wd)(au)(σ:QU) cf bj ag bx bz=>u.step (x:=(q,d)) (v':=v') (W':=W') p j y au (σ:=σ) cf bj ag bx bz) (fun(W':Wd) au=>u.bd (v':=v) (W':=W') y au) u.len;have aw:H8 (p9 o) (q,d)=if dV d=Bt then p9 o else if a0t d=Bt then((p9 o).1,AP (p9 o) (q,d),(p9 o).2.2++(bB d++⟨#[32]⟩))else((p9 o).1++aQ (AP (p9 o) (q,d)) ((p9 o).2.2++d),0,⟨#[]⟩):=rfl
  unfold AP at aw;rw[aw]at g;generalize p9 o=σ at*;obtain⟨out,num,text⟩:=σ;dsimp only at*;obtain⟨B,N,af⟩:=p7 (wU d (by omega)) (fun W=>show Ca prog 108 #[Y d,Y ⟨#[92]⟩] W fun e aa=>e=X (Tp #[Y (bB d),O (a0t d)])∧W=aa from iD d ⟨#[92]⟩ (by omega) W) u.z;obtain⟨nm,av⟩:∃nm,nm=(if num=0 then q else num):=⟨_,rfl⟩;rw[←av]at g;have ad:=a6 av;have cp:=eK d;have cs:¬9223372036854775807<text.size+d.size:=by omega
  have ct:¬9223372036854775807<(bB d).size+1:=by omega
  have cu:¬9223372036854775807<text.size+((bB d).size+1):=by omega
  obtain⟨ae,Q,s⟩:=p7 ai T y;clear u aw av am b1 b2 aq ai T y;cases ah:dV d
  ·rw[ah]at B g
   simp only[a4x,if_false]at g;have co:o.length≤999:=by omega
   clear bp;cases bs:a0t d
   ·rw[bs]at N g
    simp only[a4x,if_false]at g;by_cases r:num=0
    ·have an:((num:Int)==0)=Bt:=by simp[r]
     obtain rfl:q=nm:=(ad.trans (by simp[r])).symm;gi_wp2_with(first
      |(refine⟨trivial,?_⟩
        gi_at_call 107
        refine(CallsIn.inRound l ((Cw (n:=0)).2 (B _))).mono ?_;rintro e A⟨rfl,f⟩;have h:o5 w1 v out W A num text:=⟨Q.h f,j.h f,s.h f,.f f⟩;have az:=h.n.cell 0;have ba:=h.n.frozen 0;have i:=h.sn q;have bb:=i.n.cell 1;have bc:=i.n.frozen 1;have a:=i.txt ((text++d));have bd:=(ab _ a.m).cell 0)
      |(refine⟨trivial,?_⟩
        gi_at_call 108
        refine(CallsIn.inRound l ((Cw (n:=0)).2 (N _))).mono ?_;rintro e be⟨rfl,rfl⟩)
      |(refine⟨trivial,?_⟩
        gi_at_call 104
        refine(CallsIn.inRound l ((Cw (n:=0)).2 (oV q (text++d) (by have:=ae.out;rw[ByteArray.size_append];omega) (w1+1) w1 (w1+4) v out (by have:=ac.out;omega) _ a.n a.b a.oo (by omega) (c8 (by have:=t.out;have:=af.out;omega) a.m.size)))).mono ?_;rintro e L⟨rfl,H,P,C,G,z⟩))
     exact g H _ (a.m.trans z) _ rfl C G P E
    ·have an:((num:Int)==0)=Bf:=by simp[r]
     obtain rfl:num=nm:=(ad.trans (by simp[r])).symm;gi_wp2_with(first
      |(refine⟨trivial,?_⟩
        gi_at_call 107
        refine(CallsIn.inRound l ((Cw (n:=0)).2 (B _))).mono ?_;rintro e A⟨rfl,f⟩;have h:o5 w1 v out W A num text:=⟨Q.h f,j.h f,s.h f,.f f⟩;have az:=h.n.cell 0;have ba:=h.n.frozen 0;have i:=h;have bb:=i.n.cell 1;have bc:=i.n.frozen 1;have a:=i.txt ((text++d));have bd:=(ab _ a.m).cell 0)
      |(refine⟨trivial,?_⟩
        gi_at_call 108
        refine(CallsIn.inRound l ((Cw (n:=0)).2 (N _))).mono ?_;rintro e be⟨rfl,rfl⟩)
      |(refine⟨trivial,?_⟩
        gi_at_call 104
        refine(CallsIn.inRound l ((Cw (n:=0)).2 (oV num (text++d) (by have:=ae.out;rw[ByteArray.size_append];omega) (w1+1) w1 (w1+4) v out (by have:=ac.out;omega) _ a.n a.b a.oo (by omega) (c8 (by have:=t.out;have:=af.out;omega) a.m.size)))).mono ?_;rintro e L⟨rfl,H,P,C,G,z⟩))
     exact g H _ (a.m.trans z) _ rfl C G P E
   ·rw[bs]at N g
    simp only[if_true]at g;by_cases r:num=0
    ·have an:((num:Int)==0)=Bt:=by simp[r]
     obtain rfl:q=nm:=(ad.trans (by simp[r])).symm;gi_wp2_with(first
      |(refine⟨trivial,?_⟩
        gi_at_call 107
        refine(CallsIn.inRound l ((Cw (n:=0)).2 (B _))).mono ?_;rintro e A⟨rfl,f⟩;have h:o5 w1 v out W A num text:=⟨Q.h f,j.h f,s.h f,.f f⟩;have az:=h.n.cell 0;have ba:=h.n.frozen 0;have i:=h.sn q;have bb:=i.n.cell 1;have bc:=i.n.frozen 1;have a:=i.txt ((text++(bB d++⟨#[32]⟩)));have bd:=(ab _ a.m).cell 0)
      |(refine⟨trivial,?_⟩
        gi_at_call 108
        refine(CallsIn.inRound l ((Cw (n:=0)).2 (N _))).mono ?_;rintro e be⟨rfl,rfl⟩)
      |(refine⟨trivial,?_⟩
        gi_at_call 104
        refine(CallsIn.inRound l ((Cw (n:=0)).2 (oV q (text++(bB d++⟨#[32]⟩)) (by have:=ae.out;rw[ByteArray.size_append];omega) (w1+1) w1 (w1+4) v out (by have:=ac.out;omega) _ a.n a.b a.oo (by omega) (c8 (by have:=t.out;have:=af.out;omega) a.m.size)))).mono ?_;rintro e L⟨rfl,H,P,C,G,z⟩))
     exact g v _ a.m _ rfl a.b a.oo a.n E
    ·have an:((num:Int)==0)=Bf:=by simp[r]
     obtain rfl:num=nm:=(ad.trans (by simp[r])).symm;gi_wp2_with(first
      |(refine⟨trivial,?_⟩
        gi_at_call 107
        refine(CallsIn.inRound l ((Cw (n:=0)).2 (B _))).mono ?_;rintro e A⟨rfl,f⟩;have h:o5 w1 v out W A num text:=⟨Q.h f,j.h f,s.h f,.f f⟩;have az:=h.n.cell 0;have ba:=h.n.frozen 0;have i:=h;have bb:=i.n.cell 1;have bc:=i.n.frozen 1;have a:=i.txt ((text++(bB d++⟨#[32]⟩)));have bd:=(ab _ a.m).cell 0)
      |(refine⟨trivial,?_⟩
        gi_at_call 108
        refine(CallsIn.inRound l ((Cw (n:=0)).2 (N _))).mono ?_;rintro e be⟨rfl,rfl⟩)
      |(refine⟨trivial,?_⟩
        gi_at_call 104
        refine(CallsIn.inRound l ((Cw (n:=0)).2 (oV num (text++(bB d++⟨#[32]⟩)) (by have:=ae.out;rw[ByteArray.size_append];omega) (w1+1) w1 (w1+4) v out (by have:=ac.out;omega) _ a.n a.b a.oo (by omega) (c8 (by have:=t.out;have:=af.out;omega) a.m.size)))).mono ?_;rintro e L⟨rfl,H,P,C,G,z⟩))
     exact g v _ a.m _ rfl a.b a.oo a.n E
  ·rw[ah]at B g
   simp only[if_true]at g;gi_wp2_with(refine⟨trivial,?_⟩;gi_at_call 107;refine(CallsIn.inRound l ((Cw (n:=0)).2 (B _))).mono ?_;rintro e A⟨rfl,f⟩)
   exact g v _ (.f f) _ rfl (j.h f) (s.h f) (Q.h f) E
 case Ac=>
  rintro al ys W cn ax⟨⟨v,j,y⟩,T,bn,cd,ai,cb,ay⟩ S;have bo:ys.length≤1000:=by rw[ax,←bf.out];exact ag
  have bq:ys.length*(n+1)≤1000*65537:=Nat.mul_le_mul bo (by omega);have bm:R=(p9 ys).1++aQ (p9 ys).2.1 (p9 ys).2.2:=by rw[bu.out,ax];rfl
  have bv:=a6 bm;clear bm ax;generalize p9 ys=σ at*;obtain⟨out,num,text⟩:=σ;dsimp only at*;have bt:=a6 (oV num text (by omega) (w1+1) w1 (w1+4) v out (by omega) W T j y (by omega) (by have:=t.out;omega));have cj:=bn.cell 0;have s:=a6 y;clear y T bn am b1 b2 aq j bq bo cd ai;gi_wp2_with(refine⟨trivial,?_⟩;gi_at_call 104;apply((Cw (n:=2)).2 bt.out).mono;rintro e L⟨rfl,H,P,C,G,z⟩;have ck:=C.cell 0)
  have ca:¬aS (w1+1) w1 v al:=fun D=>by
   have:=t.out;rcases D with D|D|D
   ·omega
   ·omega
   ·have:=s.isC D S;cases this
  have ap:=(z.keep al (Array.getElem?_eq_some_iff.1 S).1 ca).trans S;refine⟨by simp,.inl ⟨_,_,rfl,run_takeDeferred ap,?_⟩⟩;have ce:a9 w L:=aj.trans (z.b cb fun b j=>by
   rcases j with rfl|rfl|j
   ·omega
   ·omega
   ·have:=(s.lt j).1;omega)
  exact⟨_,results_tmp2 rfl _ _ _,H,rfl,by rw[bv.out];exact(G.mono (by have:=aj.size;omega)).putObj _ ap rfl,Below.trans (show Below w w L from ce) (belowK_b (w:=w) (a7 _) L al _ _ (by have:=t.out;have:=aj.size;omega) ap rfl rfl)⟩
theorem GG(b:Option Ad)(n c:Nat)(xs:List Int)(w:Wd)(a:xs.length=n)(f:h9 w b (i3 U8 xs)):
  Ca prog 60 #[Z b n c] w fun e i=>∃v,e=X (Tp #[v,I M (G0 (Sn xs)).2])∧e4 i w 185 v9 v (G0 (Sn xs)).1∧a9 w i:=by
 have h:(Sn xs).size=n:=by simp only[Sn,ByteArray.size];simp[a]
 unfold G0;rw[h];by_cases d:65536<n
 ·have k:Dc (65536<(n:Int))=Bt:=by simp;omega
  rw[if_pos d];clear d f a h;go_in;go_wp2
  go_ret2
  exact⟨_,rfl,e4.nil _ _ _ _,a9.refl _⟩
 ·have k:Dc (65536<(n:Int))=Bf:=by simp;omega
  rw[if_neg d];by_cases g:1000<(n0 (Sn xs)).length
  ·have j:=a6 (callsIn_wide.1 (DH b n c xs w a (by omega) f))
   have m:Dc (1000<((n0 (Sn xs)).length:Int))=Bt:=by simp;omega
   rw[if_pos g];clear d g f a h;generalize(n0 (Sn xs)).length=L at*;go_in;go_wp2_with fail
   apply j.mono;rintro e w1⟨rfl,l⟩;go_wp2
   go_ret2
   exact⟨_,rfl,e4.nil _ _ _ _,l⟩
  ·rw[if_neg g]
   exact callsIn_wide.1 (SX b n c xs w a f (by omega) (by omega))
end
end Go.Proofs.YtiomenjfmagknaaGreat
