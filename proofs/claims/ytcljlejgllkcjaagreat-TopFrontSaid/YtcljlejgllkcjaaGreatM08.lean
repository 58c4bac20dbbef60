/- A part of the proof of TopFront: lemmas on the walks of its calls. -/
import Derived.Test.YtcljlejgllkcjaaGreatM07
set_option maxHeartbeats 12000000
set_option linter.all false
set_option maxRecDepth 100000
namespace Go.Proofs.YtcljlejgllkcjaaGreat
open Go.RowKit Go.ChangeShapes Go.WideShapes Tryz
open Bool renaming true→Bt,false→Bf
open Decidable renaming decide→Dc
open Ending renaming returned→X
open Go renaming World→Wd,Value→Va,Calls→Ca
open IntKind renaming i64→M,u32→V,u64→U6,u8→U8
open List renaming getD_eq_getElem?_getD→b9,getElem?_eq_getElem→e9,length_append→g1,getElem_mem→g3,take_succ_eq_append_getElem→g2,length_map→i1,length_cons→i4,range→m9,length_take→m4,append_assoc→p6,length→D
open Nat renaming le_refl→a7,le_trans→b6,zero_le→c6
open Operand renaming tmp→Tm
open Option renaming none→J,some→So
open Value renaming int→I,slice→Z,string→Y,bool→O,tuple→Tp,agg→Ag
inductive It where
 |put (s:Sy)
 |jmp (c k:Int) (t e:Nat)
 |here (x:Nat)
def It.n:It->Nat
 | .here _=>0
 |_=>1
def r0:List It->Nat
 |[]=>0
 |i::r=>i.n+r0 r
def P5:List It->R8
 |[]=>[]
 | .here x::r=>x::P5 r
 |_::r=>P5 r
def a1p(a:Nat->Nat):It->List Sy
 | .put s=>[s]
 | .jmp c k t e=>[⟨c,k,(a t:Int),if c=5 then 0 else(a e:Int)⟩]
 | .here _=>[]
def Z3:List It->Nat->Nat->Nat->Nat
 |[],_,_,v=>v
 | .here y::r,n,x,v=>Z3 r n x (if y=x then n else v)
 | .put _::r,n,x,v=>Z3 r (n+1) x v
 | .jmp _ _ _ _::r,n,x,v=>Z3 r (n+1) x v
def O5(T:List It):List Sy:=T.flatMap (a1p λx=>Z3 T 0 x 0)
theorem l7:∀A B:List It,r0 (A++B)=r0 A+r0 B
 |[],B=>by simp[r0]
 |i::A,B=>by show i.n+r0 (A++B)=i.n+r0 A+r0 B;rw[l7 A B];omega
theorem r4:∀A B:List It,P5 (A++B)=P5 A++P5 B
 |[],B=>rfl
 | .here x::A,B=>congrArg (x::·) (r4 A B)
 | .put _::A,B=>r4 A B
 | .jmp _ _ _ _::A,B=>r4 A B
theorem aX:∀(A B:List It)(n x v:Nat),Z3 (A++B) n x v=Z3 B (n+r0 A) x (Z3 A n x v)
 |[],B,n,x,v=>rfl
 | .here y::A,B,n,x,v=>by show Z3 (A++B) n x _=Z3 B (n+(0+r0 A)) x (Z3 A n x _);rw[aX A B,Nat.zero_add]
 | .put _::A,B,n,x,v=>by show Z3 (A++B) (n+1) x v=Z3 B (n+(1+r0 A)) x (Z3 A (n+1) x v);rw[aX A B,Nat.add_assoc]
 | .jmp _ _ _ _::A,B,n,x,v=>by show Z3 (A++B) (n+1) x v=Z3 B (n+(1+r0 A)) x (Z3 A (n+1) x v);rw[aX A B,Nat.add_assoc]
theorem iC:∀(a:List It)(n x v:Nat),x∉P5 a->Z3 a n x v=v
 |[],n,x,v,_=>rfl
 | .here y::a,n,x,v,h=>by
  have b:¬y=x:=λe=>h (by rw[e];exact List.mem_cons_self)
  show Z3 a n x _=v;rw[if_neg b];exact iC a n x v λc=>h (List.mem_cons_of_mem _ c)
 | .put _::a,n,x,v,h=>iC a (n+1) x v h
 | .jmp _ _ _ _::a,n,x,v,h=>iC a (n+1) x v h
theorem a3B(P Q:List It)(x:Nat)(h:x∉P5 Q):Z3 (P++ .here x::Q) 0 x 0=r0 P:=by rw[aX];show Z3 Q _ x (if x=x then _ else _)=_;rw[if_pos rfl,iC Q _ x _ h,Nat.zero_add]
theorem iN(b:Nat->Nat):∀a:List It,D (a.flatMap (a1p b))=r0 a
 |[]=>rfl
 |i::r=>by rw[List.flatMap_cons,g1,iN b r];cases i<;>rfl
theorem bP(T:List It):D (O5 T)=r0 T:=iN _ T
theorem xW(P S:List It)(i:It)(s:Sy)(h:a1p (λx=>Z3 (P++i::S) 0 x 0) i=[s]):(O5 (P++i::S)).getD (r0 P) i0=s:=by unfold O5;generalize(λx=>Z3 (P++i::S) 0 x 0)=ρ at*;rw[List.flatMap_append,List.flatMap_cons,h,b9,List.getElem?_append_right (by rw[iN];exact a7 _),iN,Nat.sub_self];rfl
def after(x:Nat):List It->List It
 |[]=>[]
 | .here y::r=>if y=x then r else after x r
 | .put _::r=>after x r
 | .jmp _ _ _ _::r=>after x r
theorem aG(x:Nat):∀r:List It,D (after x r)<=D r
 |[]=>a7 _
 | .here y::r=>by unfold after;split;simp;exact Nat.le_succ_of_le (aG x r)
 | .put _::r=>Nat.le_succ_of_le (aG x r)
 | .jmp _ _ _ _::r=>Nat.le_succ_of_le (aG x r)
theorem X8(x:Nat):∀r:List It,x∈P5 r->∃P,r=P++ .here x::after x r
 |[],a=>by cases a
 | .here y::r,a=>by
  unfold after;split;rename_i e;exact⟨[],by rw[e];rfl⟩;rename_i e;rcases List.mem_cons.1 a with a|a
  exact absurd a.symm e;obtain⟨P,b⟩:=X8 x r a;exact⟨.here y::P,congrArg (.here y::·) b⟩
 | .put s::r,a=>let⟨P,b⟩:=X8 x r a;⟨.put s::P,congrArg (.put s::·) b⟩
 | .jmp c k t e::r,a=>let⟨P,b⟩:=X8 x r a;⟨.jmp c k t e::P,congrArg (.jmp c k t e::·) b⟩
def IL(s:Sy):Prop:=s.th=0/\s.el=0/\(0<=s.k/\s.k<4294967296)/\(s.code=32/\s.k % 4=0/\s.k<64\/s.code=84\/s.code=6)
def a2u(c k:Int):Prop:=(0<=k/\k<4294967296)/\(c=5/\k=0\/c=21\/c=37\/c=53\/c=69)
def wf:List It->Prop
 |[]=>False
 | .here x::r=>x∉P5 r/\wf r
 | .put s::r=>IL s/\((r=[]/\s.code=6)\/wf r)
 | .jmp c k t e::r=>a2u c k/\t∈P5 r/\(c=5\/e∈P5 r)/\wf r
theorem DJ:∀T,wf T->1<=r0 T
 |[],h=>h.elim
 | .here x::r,h=>by have:=DJ r h.2;show 1<=0+r0 r;omega
 | .put s::r,h=>by show 1<=1+r0 r;omega
 | .jmp _ _ _ _::r,h=>by show 1<=1+r0 r;omega
theorem gU:∀(P:List It)(i:It)(S:List It),wf (P++i::S)->wf (i::S)
 |[],i,S,h=>h
 | .here x::r,i,S,h=>gU r i S h.2
 | .put s::r,i,S,h=>by
  rcases h.2 with h|h
  simp at h;exact gU r i S h
 | .jmp _ _ _ _::r,i,S,h=>gU r i S h.2.2.2
theorem a2X(P Q:List It)(x:Nat)(b:wf (P++ .here x::Q)):Z3 (P++ .here x::Q) 0 x 0=r0 P/\wf Q:=
 have a:=gU P _ Q b
 ⟨a3B P Q x a.1,a.2⟩
theorem a2d{P r:List It}{i:It}{x:Nat}(b:wf (P++i::r))(g:x∈P5 r)(hi:i.n=1):∃a,P++i::r=a++ .here x::after x r/\Z3 (P++i::r) 0 x 0=r0 a/\wf (after x r)/\r0 P<r0 a/\r0 a<r0 (P++i::r):=by
 obtain⟨R,f⟩:=X8 x r g;have e:P++i::r=(P++i::R)++ .here x::after x r:=by
  conv=>lhs;rw[f]
  simp
 rw[e]at b⊢;obtain⟨d,c⟩:=a2X _ _ x b;have:=DJ _ c;refine⟨_,rfl,d,c,?_,?_⟩;rw[l7];show _<_+(i.n+_);omega;rw[l7 (P++i::R)];show _<_+(0+_);omega
theorem CW{b P S:List It}{i:It}(z:b=P++i::S)(m:wf b)(hi:i.n=1):N9 ((O5 b).getD (r0 P) i0) (r0 P) (r0 b)/\((O5 b).getD (r0 P) i0).ok\/131072<r0 b:=by
 by_cases C:r0 b<=131072;left;subst z;have u:=gU P i S m;rcases i with s|⟨c,k,t,e⟩|x
 rw[xW P S _ s rfl];obtain⟨⟨g,d,n,a⟩,_⟩:=u;refine⟨?_,?_⟩;rcases a with⟨a,f,y⟩|a|a
 exact .ld a g d ⟨f,y⟩;exact .an a g d;exact .re a g d;refine⟨a8,n,?_,?_⟩;rw[g];constructor<;>omega;rw[d];constructor<;>omega;obtain⟨⟨r,E⟩,d,n,a⟩:=u;rw[xW P S _ _ rfl];dsimp only;obtain⟨_,_,h,_,F,G⟩:=a2d m d rfl;by_cases f:c=5;subst f;rw[if_pos rfl];have B:k=0:=a8;have j:((r0 P:Nat):Int)<((Z3 (P++ .jmp 5 k t e::S) 0 t 0:Nat):Int):=by rw[h];omega
 have l:((Z3 (P++ .jmp 5 k t e::S) 0 t 0:Nat):Int)<((r0 (P++ .jmp 5 k t e::S):Nat):Int):=by rw[h];omega
 generalize Z3 (P++ .jmp 5 k t e::S) 0 t 0=p at*;refine⟨.ja rfl B rfl ⟨j,l⟩,⟨⟨by show(0:Int)<=5;decide,by show(5:Int)<65536;decide⟩,r,?_,?_⟩⟩;show KK (p:Int);unfold KK;omega;show KK (0:Int);unfold KK;decide;rw[if_neg f];obtain⟨_,_,o,_,H,L⟩:=a2d m (n.resolve_left f) rfl;have j:((r0 P:Nat):Int)<((Z3 (P++ .jmp c k t e::S) 0 t 0:Nat):Int):=by rw[h];omega
 have l:((Z3 (P++ .jmp c k t e::S) 0 t 0:Nat):Int)<((r0 (P++ .jmp c k t e::S):Nat):Int):=by rw[h];omega
 have v:((r0 P:Nat):Int)<((Z3 (P++ .jmp c k t e::S) 0 e 0:Nat):Int):=by rw[o];omega
 have w:((Z3 (P++ .jmp c k t e::S) 0 e 0:Nat):Int)<((r0 (P++ .jmp c k t e::S):Nat):Int):=by rw[o];omega
 generalize Z3 (P++ .jmp c k t e::S) 0 t 0=p at*;generalize Z3 (P++ .jmp c k t e::S) 0 e 0=q at*;have A:c=21\/c=37\/c=53\/c=69:=a8;refine⟨.as A ⟨j,l⟩ ⟨v,w⟩,⟨⟨by show 0<=c;omega,by show c<65536;omega⟩,r,?_,?_⟩⟩;show KK (p:Int);unfold KK;omega;show KK (q:Int);unfold KK;omega;cases hi;exact .inr a8
theorem a4I:∀(a:List It)(k:Nat),k<r0 a->∃P i S,a=P++i::S/\r0 P=k/\i.n=1
 |[],k,h=>absurd h (Nat.not_lt_zero _)
 |i::r,k,h=>by
  change k<i.n+r0 r at h;by_cases b:i.n=1/\k=0;exact⟨[],i,r,rfl,b.2.symm,b.1⟩;have f:i.n=0\/i.n=1:=by cases i<;>simp[It.n]
  obtain⟨P,j,S,c,e,d⟩:=a4I r (k-i.n) a8;exact⟨i::P,j,S,congrArg (i::·) c,by show i.n+r0 P=k;omega,d⟩
theorem nB:∀f,wf f->∃P s,f=P++[.put s]/\s.code=6
 |[],a=>a.elim
 | .here x::r,a=>let⟨P,s,b,d⟩:=nB r a.2;⟨.here x::P,s,congrArg (_::·) b,d⟩
 | .put s::r,a=>by
  rcases a.2 with a|a
  exact⟨[],s,by rw[a.1];rfl,a.2⟩;obtain⟨P,s',b,d⟩:=nB r a;exact⟨.put s::P,s',congrArg (_::·) b,d⟩
 | .jmp c k t e::r,a=>let⟨P,s,b,d⟩:=nB r a.2.2.2;⟨.jmp c k t e::P,s,congrArg (_::·) b,d⟩
theorem KG{a:List It}(b:wf a)(h:r0 a<=131072):C5 (O5 a):=by
 refine⟨by rw[bP];exact DJ a b,by rw[bP];exact h,?_,λk f=> ?_⟩;obtain⟨P,s,c,d⟩:=nB a b;have:=xW P [] (.put s) s rfl;rw[bP,c,l7];rw[show r0 P+r0 [It.put s]-1=r0 P from by show r0 P+(1+0)-1=_;omega,this];exact d;rw[bP]at f⊢;obtain⟨P,i,S,c,d,g⟩:=a4I a k f;rw[<-d];rcases CW c b g with e|e
 exact nO e.1;omega
theorem YI{a:List It}(d:wf a)(l:r0 a<=131072):∀s∈O5 a,s.ok:=λs j=>by
 obtain⟨k,b,rfl⟩:=List.getElem_of_mem j;have h:=b;rw[bP]at b;obtain⟨P,i,S,e,f,g⟩:=a4I a k b;rcases CW e d g with c|c
 have:=c.2;rw[f,b9,e9 h]at this;exact this;omega
def ev(b:Int->Int):List It->Int->Int
 |[],_=>0
 | .here _::r,a=>ev b r a
 | .put s::r,a=>if s.code=6 then s.k else ev b r (if s.code=32 then b s.k else bits .and V a s.k)
 | .jmp c k t e::r,a=>if uA ⟨c,k,0,0⟩ a then ev b (after t r) a else ev b (after e r) a
termination_by T=>D T
decreasing_by
 all_goals simp
 all_goals have:=aG t r;have:=aG e r;omega
structure p3 where
 arg:Int
 mask:Int
 value:Int
 act:Int
 deriving DecidableEq
def y4:s7 p3:=⟨4,λt=>[I M t.arg,I U6 t.mask,I U6 t.value,I V t.act],λ_=>rfl,λx u a=>by simp at a;rcases a with rfl|rfl|rfl|rfl<;>rfl⟩
theorem yR:kZ prog 252 435 (Ag #[I M 0,I U6 0,I U6 0,I V 0]) 4 32:=⟨underlying252,g6,rfl,e6,e6⟩
theorem fF{a c:Type}(f:a->c)(l:List a)(k:Nat)(b:k<D l):(l.take (k+1)).map f=(l.take k).map f++[f l[k]]:=by rw[g2 b,List.map_append];rfl
theorem dC(arg d a:Int)(h:p1)(n c:Nat)(l:o5)(W:Wd)(p:D l=n)(L:n<=1000)(j:i5 W h (l8 U6 l)):
 Ca prog 302 #[I M arg,I U6 d,I V a,Z h n c] W λe q=>∃v,e=X v/\c7 q W 435 y4 v (l.map λx=>⟨arg,d,x,a⟩)/\a9 W q:=by
 obtain⟨r,s,t⟩:=r6 j p (λk(o:k<D l)=>fF (λx=>p3.mk arg d x a) l k o);clear j p;go_wp2;go_loopw [9,14] (λA i wr=>∃k:Nat,k<=n/\i=I M k/\c7 wr W 435 y4 A ((l.take k).map (λx=>p3.mk arg d x a))/\a9 W wr) (λ_ i _=>n-(intOf i).toNat);exact⟨0,a8,rfl,c7.nil _ _ _ _,a9.refl W⟩;obtain⟨k,o,rfl,g,f⟩:=hrel;have G:=s.O;by_cases H:k<n
 ·obtain⟨b,N,rfl,C,w⟩:=(r.h f).at_ (k:=k) G6;rw[List.getElem_map]at w;have m:=t k a8;generalize l[k]' a8=x at*;have F:D ((l.take k).map (λx=>p3.mk arg d x a))<=k:=by simp;omega
  generalize(l.take k).map (λx=>p3.mk arg d x a)=xs at*;have u:=a6 m;clear m;go_wp2_with(at_builtin;refine h8 rfl (Tm 18) (Tm 24) 252 435 rfl yR W _ xs rfl (g.h ((a9.refl wr).alloc _)) _ 1 1 [⟨arg,d,x,a⟩] rfl rfl (i5.f (e7.new _ _ _) rfl) a8 (f.alloc _).size ?_;intro P Q y z E B);go_roundw;exact⟨k+1,a8,o3,by rw[u.O];exact y,z W (f.alloc _) (a7 _)⟩;simp[intOf];omega
 obtain rfl:k=n:=a8;rw[List.take_of_length_le a8]at g;go_wp2;go_ret;exact⟨_,rfl,g,f⟩
theorem nQ(arg a:Int)(g:p1)(n c:Nat)(l:o5)(W:Wd)(o:D l=n)(H:n<=1000)(h:i5 W g (l8 U6 l)):
 Ca prog 304 #[I M arg,I V a,Z g n c] W λe p=>∃v,e=X v/\c7 p W 435 y4 v (l.map λx=>⟨arg,x,x,a⟩)/\a9 W p:=by
 obtain⟨q,r,s⟩:=r6 h o (λk(m:k<D l)=>fF (λx=>p3.mk arg x x a) l k m);clear h o;go_wp2;go_loopw [7,12] (λz i wr=>∃k:Nat,k<=n/\i=I M k/\c7 wr W 435 y4 z ((l.take k).map (λx=>p3.mk arg x x a))/\a9 W wr) (λ_ i _=>n-(intOf i).toNat);exact⟨0,a8,rfl,c7.nil _ _ _ _,a9.refl W⟩;obtain⟨k,m,rfl,f,d⟩:=hrel;have F:=r.O;by_cases G:k<n
 ·obtain⟨b,L,rfl,B,u⟩:=(q.h d).at_ (k:=k) G6;rw[List.getElem_map]at u;have j:=s k a8;generalize l[k]' a8=x at*;have E:D ((l.take k).map (λx=>p3.mk arg x x a))<=k:=by simp;omega
  generalize(l.take k).map (λx=>p3.mk arg x x a)=xs at*;have t:=a6 j;clear j;go_wp2_with(at_builtin;refine h8 rfl (Tm 16) (Tm 22) 252 435 rfl yR W _ xs rfl (f.h ((a9.refl wr).alloc _)) _ 1 1 [⟨arg,x,x,a⟩] rfl rfl (i5.f (e7.new _ _ _) rfl) a8 (d.alloc _).size ?_;intro N P w y C A);go_roundw;exact⟨k+1,a8,o3,by rw[t.O];exact w,y W (d.alloc _) (a7 _)⟩;simp[intOf];omega
 obtain rfl:k=n:=a8;rw[List.take_of_length_le a8]at f;go_wp2;go_ret;exact⟨_,rfl,f,d⟩
def yC(a b:Int):Int:=if a !=0 then a else b
theorem a2D(a b:Int)(g:Nat)(W:Wd)(l:W.cell? ⟨g,0,J⟩=So (I V a))(m:W.cell? ⟨g,1,J⟩=So (I V b)):
 Ca prog 300 #[Z g 2 2] W λe j=>e=X (I V (yC a b))/\W=j:=by
 obtain⟨R,f⟩:∃R,yC a b=R:=⟨_,rfl⟩;rw[f];have d:=a6 f;clear f;go_wp2;go_loopw [8] (λi wr=>W=wr/\(i=I M 0\/i=I M 1/\(a !=0)=Bf\/i=I M 2/\(a !=0)=Bf/\(b !=0)=Bf)) (λi _=>2-(intOf i).toNat);exact⟨rfl,.inl rfl⟩;obtain⟨rfl,rfl|⟨rfl,q⟩|⟨rfl,q,r⟩⟩:=hrel
 ·have k:(yC a b=if a !=0 then a else b):=rfl;cases c:a !=0;all_goals
   go_wp2_with fail;first
    |(go_ret;exact⟨by rw[<-d.O,yC,c];rfl,rfl⟩)
    |(go_roundw
      case rel=>first|exact⟨rfl,.inr (.inl ⟨rfl,c⟩)⟩|exact⟨trivial,.inr (.inl ⟨rfl,c⟩)⟩|exact⟨trivial,.inr (.inl ⟨rfl,trivial⟩)⟩|simp_all
      case measure=>simp[intOf])
 ·cases c:b !=0;all_goals
   go_wp2_with fail;first
    |(go_ret;exact⟨by rw[<-d.O,yC,q];rfl,rfl⟩)
    |(go_roundw
      case rel=>first|exact⟨rfl,.inr (.inr ⟨rfl,q,c⟩)⟩|exact⟨trivial,.inr (.inr ⟨rfl,q,c⟩)⟩|exact⟨trivial,.inr (.inr ⟨rfl,q,trivial⟩)⟩|simp_all
      case measure=>simp[intOf])
 have h:b=0:=by simpa using r
 go_wp2;go_ret;exact⟨by rw[<-d.O,yC,q,h];rfl,rfl⟩
def U3(a:Int)(n:Nat)(b c:Bool):Bool:=if a==1 then b||decide (0<n)else if a==2 then c||decide (0<n)else Bf
theorem pS(a:Int)(n:Nat)(b c:Bool)(W:Wd):
 Ca prog 301 #[I U8 a,I M n,O b,O c] W λe f=>e=X (O (U3 a n b c))/\W=f:=by
 have d:U3 a n b c=if a==1 then b||decide (0<n)else if a==2 then c||decide (0<n)else Bf:=rfl
 rw[d];clear d;go_in;cases g:a==1<;>cases h:a==2<;>cases b<;>cases c;all_goals go_wp2;go_ret;exact⟨i3,rfl⟩
def r2:List (g4×Int):=[(⟨#[120,56,54,45,54,52]⟩,3221225534),(⟨#[120,56,54]⟩,1073741827),(⟨#[120,51,50]⟩,3221225534),(⟨#[97,114,109]⟩,1073741864),(⟨#[97,114,109,54,52]⟩,3221225655),(⟨#[114,105,115,99,118,54,52]⟩,3221225715)]
def rI:Array Va:=(r2.flatMap λa=>[Y a.1,I V a.2]).toArray
theorem mE:∀(k:Nat)(a:k<D r2)(W:Wd),(Instr.index 232 (Ag rI) (I M k)).run prog W= .ok (Ag #[Y r2[k].1,I V r2[k].2]) W
 |0,_,_|1,_,_|2,_,_|3,_,_|4,_,_|5,_,_=>g6
 |n+6,h,_=>absurd h (by simp[r2])
theorem kW(W:Wd):Ca prog 150 #[] W λe a=>e=X (Ag rI)/\a9 W a:=by go_in;go_wp2;exact F9 (e7.new _ _ _) underlying232 ⟨rfl,(a9.refl W).alloc _⟩
theorem YM(s:g4)(c:Int)(W:Wd):(Instr.field 231 (Ag #[Y s,I V c]) 0).run prog W= .ok (Y s) W/\(Instr.field 231 (Ag #[Y s,I V c]) 1).run prog W= .ok (I V c) W:=⟨g6,g6⟩
def rH(a:Int):g4:=if 0<=a then(r2.getD a.toNat (⟨#[]⟩,0)).1 else⟨#[]⟩
def J5(a:Int):Int:=(r2.getD a.toNat (⟨#[]⟩,0)).2
theorem HF(a:Int)(b:a<0\/6<=a)(W:Wd):Ca prog 95 #[I M a] W λe c=>e=X (Y ⟨#[]⟩)/\a9 W c:=by
 go_in;rcases b with b|b
 all_goals go_wp2;go_ret;exact⟨rfl,a9.refl W⟩
theorem mG(k:Nat)(a:k<D r2)(W:Wd):Ca prog 95 #[I M k] W λe f=>e=X (Y r2[k].1)/\a9 W f:=by
 obtain⟨c,b⟩:=j0 (mE k a) kW;have h:k<6:=a;generalize r2[k]=E at*;generalize rI=g at*;go_in;go_wp2_with fail;refine l4 (b _) λl d=>?_;have j:=c.O;have i:=λW=>(YM E.1 E.2 W).1
 go_wp2;go_ret;exact⟨rfl,d⟩
theorem jD(k:Nat)(a:k<D r2)(W:Wd):Ca prog 242 #[I M k] W λe f=>e=X (Tp #[I V r2[k].2,I M 0])/\a9 W f:=by
 obtain⟨c,b⟩:=j0 (mE k a) kW;have h:k<6:=a;generalize r2[k]=E at*;generalize rI=g at*;go_in;go_wp2_with fail;refine l4 (b _) λl d=>?_;have j:=c.O;have i:=λW=>(YM E.1 E.2 W).2
 go_wp2;go_ret2;exact⟨rfl,d⟩
structure r9 where
 nr:Int
 tests:List p3
 act:Int
structure J7 where
 arch:Int
 dflt:Int
 rules:List r9
def mT(T:List It)(n m:Nat):Prop:=∀x∈P5 T,n<=x/\x<m
theorem mT.app{a B:List It}{n m:Nat}(c:mT a n m)(k:mT B n m):mT (a++B) n m:=λx b=>by rw[r4]at b;exact(List.mem_append.1 b).elim (c x) (k x)
theorem mT.mono{a:List It}{n m c b:Nat}(d:mT a n m)(f:c<=n)(g:m<=b):mT a c b:=λx e=>by have:=d x e;omega
def xA(n:Nat)(b a d:Int)(c:Nat):List It:=
 if a=0 then []else .put ⟨32,b,0,0⟩::((if a=4294967295 then []else [.put ⟨84,a,0,0⟩])++[.jmp 21 d n c,.here n])
def jH(n:Nat)(a:Int):Nat:=if a=0 then n else n+1
theorem WQ(n:Nat)(c b e:Int)(d:Nat):mT (xA n c b e d) n (jH n b):=by unfold xA jH;split;intro x a;cases a;split;intro x a;rw[List.mem_singleton.1 a];omega;intro x a;rw[List.mem_singleton.1 a];omega
theorem dJ(n:Nat)(a:Int):n<=jH n a:=by unfold jH;split<;>omega
def RE(n:Nat)(t:p3):List It:=xA (n+1) (gQ t.arg 0) (lo t.mask) (lo t.value) n++(xA (jH (n+1) (lo t.mask)) (gQ t.arg 4) (hi t.mask) (hi t.value) n++[.put ⟨6,t.act,0,0⟩,.here n])
def vH(n:Nat)(t:p3):Nat:=jH (jH (n+1) (lo t.mask)) (hi t.mask)
theorem oH(n:Nat)(t:p3):n<vH n t:=by have a:=dJ (n+1) (lo t.mask);have b:=dJ (jH (n+1) (lo t.mask)) (hi t.mask);unfold vH;omega
theorem a2i(n:Nat)(t:p3):mT (RE n t) n (vH n t):=by have c:=dJ (n+1) (lo t.mask);have a:=dJ (jH (n+1) (lo t.mask)) (hi t.mask);refine((WQ _ _ _ _ _).mono a8 a).app (((WQ _ _ _ _ _).mono a8 (a7 _)).app λx b=> ?_);rw[List.mem_singleton.1 b];exact⟨a7 _,oH n t⟩
def zH:Nat->List p3->Int->List It
 |_,[],act=>[.put ⟨6,act,0,0⟩]
 |n,t::r,act=>RE n t++(if t.mask=0 then []else zH (vH n t) r act)
def lI:Nat->List p3->Nat
 |n,[]=>n
 |n,t::r=>if t.mask=0 then vH n t else lI (vH n t) r
theorem jR:∀(l:List p3)(n:Nat),n<=lI n l
 |[],n=>a7 _
 |t::r,n=>by have a:=oH n t;have b:=jR r (vH n t);unfold lI;split<;>omega
theorem a5v:∀(l:List p3)(n:Nat)(a:Int),mT (zH n l a) n (lI n l)
 |[],n,a=>λx c=>by cases c
 |t::r,n,a=>by have d:=oH n t;have b:=jR r (vH n t);unfold zH lI;split;rw[List.append_nil];exact a2i n t;exact((a2i n t).mono (a7 _) b).app ((a5v r _ a).mono a8 (a7 _))
def vV:Nat->Nat->List r9->List It
 |_,_,[]=>[]
 |n,l,r::rs=> .here l::(zH n r.tests r.act++vV (lI n r.tests) (l+1) rs)
def HX:Nat->List r9->Nat
 |n,[]=>n
 |n,r::rs=>HX (lI n r.tests) rs
theorem EH:∀(rs:List r9)(n:Nat),n<=HX n rs
 |[],n=>a7 _
 |r::rs,n=>b6 (jR r.tests n) (EH rs _)
theorem vU:∀(rs:List r9)(n l:Nat)(x:Nat),x∈P5 (vV n l rs)->(l<=x/\x<l+D rs)\/(n<=x/\x<HX n rs)
 |[],n,l,x,a=>by cases a
 |r::rs,n,l,x,a=>by
  have b:=jR r.tests n;have c:=EH rs (lI n r.tests);rcases List.mem_cons.1 a with rfl|a
  exact .inl ⟨a7 _,i3⟩;rw[r4]at a;rcases List.mem_append.1 a with a|a
  have:=a5v r.tests n r.act x a;refine .inr ⟨this.1,?_⟩;show x<HX (lI n r.tests) rs;omega;rcases vU rs _ _ x a with a|a
  exact .inl ⟨a8,by simp;omega⟩;exact .inr ⟨a8,a.2⟩
structure v8 where
 fr:Int
 tp:Int
 way:Int
structure v9 where
 leaf:Bool
 way:Int
 at_:Int
 less:Int
 more:Int
def KL:v8:=⟨0,0,0⟩
def QF:v9:=⟨Bf,0,0,0,0⟩
def gr:Nat->List v8->Nat->List v9
 |0,_,_=>[]
 |f+1,l,i=>if D l/2=0 then [⟨Bt,(l.getD 0 KL).way,0,0,0⟩]else
   ⟨Bf,0,(l.getD (D l/2) KL).fr,((i+1:Nat):Int),((i+1+D (gr f (l.take (D l/2)) (i+1)):Nat):Int)⟩::
    (gr f (l.take (D l/2)) (i+1)++gr f (l.drop (D l/2)) (i+1+D (gr f (l.take (D l/2)) (i+1))))
def MX(a:Nat)(p:Nat->Nat)(i:Nat)(x:v9):List It:=if x.leaf then []else [.here (a+i),.jmp 53 x.at_ (p x.more.toNat) (p x.less.toNat)]
def bW(a:Nat)(p:Nat->Nat):Nat->List v9->List It
 |_,[]=>[]
 |i,x::r=>MX a p i x++bW a p (i+1) r
theorem wO(b:Nat)(p:Nat->Nat):∀(a B:List v9)(i:Nat),bW b p i (a++B)=bW b p i a++bW b p (i+D a) B
 |[],B,i=>rfl
 |x::a,B,i=>by show MX b p i x++bW b p (i+1) (a++B)=MX b p i x++bW b p (i+1) a++_;rw[wO b p a B,p6,i4,(a8:i+1+D a=i+(D a+1))]
theorem IX(b:Nat)(p:Nat->Nat):∀(a:List v9)(i:Nat),mT (bW b p i a) (b+i) (b+(i+D a))
 |[],i=>λx d=>by cases d
 |x::a,i=>by refine mT.app ?_ ((IX b p a (i+1)).mono a8 G6);unfold MX;split;intro e c;cases c;intro e c;rw[List.mem_singleton.1 c];simp
theorem GB:∀(f:Nat)(l:List v8)(i:Nat),0<f->1<=D (gr f l i)
 |f+1,l,i,_=>by unfold gr;split<;>simp
def AN(a i:Nat)(x:v9):Nat:=if x.leaf then 3+x.way.toNat else a+i
def uk(x:Int):Prop:=0<=x/\x<4294967296
def vK(t:p3):Prop:=(0<=t.arg/\t.arg<6)/\kY t.mask/\kY t.value/\uk t.act
structure vT(r:r9):Prop where
 nr:uk r.nr
 act:uk r.act
 ts:∀t∈r.tests,vK t
theorem JF{x:Int}(h:kY x):uk (lo x):=by unfold uk lo;omega
theorem a2x{x:Int}(h:kY x):uk (hi x):=by have e:(256:Int)^8=18446744073709551616:=e6;unfold kY at h;unfold uk hi;omega
theorem WP{n:Nat}{a g c:Int}{b:Nat}{R:List It}(f:0<=a/\a % 4=0/\a<64)(i:uk g)(k:uk c)(e:wf R)(h:b∈P5 R)(j:n∉P5 R):wf (xA n a g c b++R):=by have d:wf (.jmp 21 c n b:: .here n::R):=⟨⟨k,.inr (.inl rfl)⟩,List.mem_cons_self,.inr (List.mem_cons_of_mem _ h),j,e⟩;have k1:IL ⟨32,a,0,0⟩:=⟨rfl,rfl,⟨f.1,by show a<_;omega⟩,.inl ⟨rfl,f.2⟩⟩;unfold xA;split;exact e;split;exact⟨k1,.inr d⟩;exact⟨k1,.inr ⟨⟨rfl,rfl,i,.inr (.inl rfl)⟩,.inr d⟩⟩
theorem wZ(n:Nat)(a c d:Int)(b:Nat):r0 (xA n a c d b)<=3:=by unfold xA;split;decide;split;show 1+(1+(0+0))<=3;decide;show 1+(1+(1+(0+0)))<=3;decide
theorem EV{a z:Int}(b:0<=a/\a<6)(c:z=0\/z=4):0<=gQ a z/\gQ a z % 4=0/\gQ a z<64:=by unfold gQ;rw[if_pos a8];omega
theorem a2h{n:Nat}{t:p3}{R:List It}(r:vK t)(q:wf R)(l:∀x,n<=x->x<vH n t->x∉P5 R):wf (RE n t++R):=by
 obtain⟨d,f,g,p⟩:=r;have u:=dJ (n+1) (lo t.mask);have v:=dJ (jH (n+1) (lo t.mask)) (hi t.mask);have h:wf (.put ⟨6,t.act,0,0⟩:: .here n::R):=⟨⟨rfl,rfl,p,.inr (.inr rfl)⟩,.inr ⟨l n (a7 _) (oH n t),q⟩⟩;have i:n∈P5 (.put ⟨6,t.act,0,0⟩:: .here n::R):=List.mem_cons_self;have j:∀x,n<x->x<vH n t->x∉P5 (.put ⟨6,t.act,0,0⟩:: .here n::R):=λx k1 k2 a=>by
  rcases List.mem_cons.1 a with e|a
  omega;exact l x a8 k2 a
 have e:RE n t++R=xA (n+1) (gQ t.arg 0) (lo t.mask) (lo t.value) n++(xA (jH (n+1) (lo t.mask)) (gQ t.arg 4) (hi t.mask) (hi t.value) n++(.put ⟨6,t.act,0,0⟩:: .here n::R)):=by simp[RE]
 rw[e];by_cases k:hi t.mask=0;have o:xA (jH (n+1) (lo t.mask)) (gQ t.arg 4) (hi t.mask) (hi t.value) n=[]:=if_pos k;rw[o];by_cases b:lo t.mask=0;have c:xA (n+1) (gQ t.arg 0) (lo t.mask) (lo t.value) n=[]:=if_pos b;rw[c];exact h;refine WP (EV d (.inl rfl)) (JF f) (JF g) h i (j _ a8 ?_);unfold vH jH;rw[if_neg b];split<;>omega;have k2:jH (n+1) (lo t.mask)<vH n t:=by unfold vH;rw[show jH (jH (n+1) (lo t.mask)) (hi t.mask)=jH (n+1) (lo t.mask)+1 from if_neg k];omega
 have m:=WP (EV d (.inr rfl)) (a2x f) (a2x g) h i (j (jH (n+1) (lo t.mask)) a8 k2);by_cases b:lo t.mask=0;have c:xA (n+1) (gQ t.arg 0) (lo t.mask) (lo t.value) n=[]:=if_pos b;rw[c];exact m;have s:jH (n+1) (lo t.mask)=n+2:=if_neg b;refine WP (EV d (.inl rfl)) (JF f) (JF g) m ?_ λa=> ?_
 rw[r4];exact List.mem_append_right _ i;rw[r4]at a;rcases List.mem_append.1 a with a|a
 have:=WQ _ _ _ _ _ _ a;omega;exact j (n+1) a8 a8 a
theorem RD(n:Nat)(t:p3):r0 (RE n t)<=7:=by unfold RE;rw[l7,l7];have a:=wZ (n+1) (gQ t.arg 0) (lo t.mask) (lo t.value) n;have b:=wZ (jH (n+1) (lo t.mask)) (gQ t.arg 4) (hi t.mask) (hi t.value) n;have c:r0 [It.put ⟨6,t.act,0,0⟩,.here n]=1:=rfl;omega
theorem a2n:∀(l:List p3)(n:Nat)(b:Int)(R:List It),(∀t∈l,vK t)->uk b->wf R->(∀x,n<=x->x<lI n l->x∉P5 R)->wf (zH n l b++R)
 |[],n,b,R,_,ha,hR,_=>⟨⟨rfl,rfl,ha,.inr (.inr rfl)⟩,.inr hR⟩
 |t::r,n,b,R,ht,ha,hR,hn=>by
  have d:=oH n t;have e:=jR r (vH n t);unfold lI at hn;unfold zH;by_cases c:t.mask=0;rw[if_pos c]at hn⊢;rw[List.append_nil];exact a2h (ht t List.mem_cons_self) hR hn;rw[if_neg c]at hn⊢;rw[p6];refine a2h (ht t List.mem_cons_self) (a2n r _ b R (λx a=>ht x (List.mem_cons_of_mem _ a)) ha hR λx k1 k2=>hn x a8 k2) λx k1 k2 a=> ?_
  rw[r4]at a;rcases List.mem_append.1 a with a|a
  have:=a5v r _ b x a;omega;exact hn x k1 a8 a
theorem EI:∀(l:List p3)(n:Nat)(a:Int),r0 (zH n l a)<=1+7*D l
 |[],n,a=>a7 _
 |t::r,n,a=>by have b:=RD n t;have c:=EI r (vH n t) a;unfold zH;rw[l7,i4];split;show _+0<=_;omega;omega
theorem a2m:∀(rs:List r9)(n l:Nat)(R:List It),(∀r∈rs,vT r)->l+D rs<=n->wf R->(∀x,l<=x->x<l+D rs->x∉P5 R)->(∀x,n<=x->x<HX n rs->x∉P5 R)->wf (vV n l rs++R)
 |[],n,l,R,_,_,hR,_,_=>hR
 |r::rs,n,l,R,hr,hl,hR,h1,h2=>by
  simp only[i4]at hl h1;have d:=jR r.tests n;have e:=EH rs (lI n r.tests);have c:=a2m rs (lI n r.tests) (l+1) R (λx a=>hr x (List.mem_cons_of_mem _ a)) a8 hR (λx k1 k2=>h1 x a8 a8) λx k1 k2=>h2 x a8 k2
  have b:=hr r List.mem_cons_self;show l∉P5 (zH n r.tests r.act++vV (lI n r.tests) (l+1) rs++R)/\wf (zH n r.tests r.act++vV (lI n r.tests) (l+1) rs++R);rw[p6];refine⟨λa=> ?_,a2n r.tests n r.act _ b.ts b.act c λx k1 k2 a=> ?_⟩;rw[r4,r4]at a;rcases List.mem_append.1 a with a|a
  have:=a5v r.tests n r.act l a;omega;rcases List.mem_append.1 a with a|a
  rcases vU rs _ _ l a with a|a<;>omega
  exact h1 l (a7 _) a8 a;rw[r4]at a;rcases List.mem_append.1 a with a|a
  rcases vU rs _ _ x a with a|a<;>omega
  exact h2 x k1 (by show x<HX (lI n r.tests) rs;omega) a
def rR(rs:List r9):Nat:=(rs.map λr=>D r.tests).sum
theorem SK:∀(rs:List r9)(n l:Nat),r0 (vV n l rs)<=D rs+7*rR rs
 |[],n,l=>a7 _
 |r::rs,n,l=>by
  have a:=EI r.tests n r.act;have b:=SK rs (lI n r.tests) (l+1);have e:rR (r::rs)=D r.tests+rR rs:=by simp[rR]
  show 0+r0 (zH n r.tests r.act++vV (lI n r.tests) (l+1) rs)<=_;rw[l7,e,i4];omega
def mN(a:Int):List It:= .put ⟨32,4,0,0⟩:: .jmp 21 (J5 a) 1 0:: .here 1:: .put ⟨32,0,0,0⟩::((if a=0 then [.jmp 69 1073741824 0 2]else if a=2 then [.jmp 69 1073741824 2 0]else [])++[.here 2])
def DD(a:Nat)(N:List v9):List It:=(if(N.getD 0 QF).leaf then [.jmp 5 0 (AN a 0 (N.getD 0 QF)) 0]else [])++bW a (λj=>AN a j (N.getD j QF)) 0 N
def cJ:Int->o5->Int->List v8
 |next,[],_=>if next<4294967296 then [⟨next,4294967295,0⟩]else []
 |next,n::r,i=>(if next<n then [⟨next,n-1,0⟩]else [])++⟨n,n,i⟩::cJ (n+1) r (i+1)
def Y8:Int->o5->Prop
 |_,[]=>True
 |lo,n::r=>lo<=n/\n<4294967296/\Y8 (n+1) r
def CH:Int->Int->List v8->Prop
 |lo,hi,[]=>lo=hi
 |lo,hi,s::r=>s.fr=lo/\lo<=s.tp/\CH (s.tp+1) hi r
theorem IQ:∀(l:o5)(lo i:Int),Y8 lo l->lo<=4294967296->CH lo 4294967296 (cJ lo l i)
 |[],lo,i,h,hl=>by unfold cJ;split;exact⟨rfl,by show lo<=4294967295;omega,rfl⟩;show lo=4294967296;omega
 |n::r,lo,i,h,hl=>by have ih:=IQ r (n+1) (i+1) h.2.2 (by have:=h.2.1;omega);unfold cJ;split;exact⟨rfl,by show lo<=n-1;omega,by show n=n-1+1;omega,by show n-1+1<=n;omega,ih⟩;exact⟨by show n=lo;have:=h.1;omega,by show lo<=n;exact h.1,ih⟩
theorem a2I:∀(l:List v8)(lo hi:Int),CH lo hi l->∀s∈l,lo<=s.fr
 |[],lo,hi,h,s,a=>by cases a
 |t::r,lo,hi,h,s,a=>by
  rcases List.mem_cons.1 a with rfl|a
  have:=h.1;omega;have:=a2I r _ hi h.2.2 s a;have:=h.2.1;omega
def DZ(f:J7):List v8:=cJ 0 (f.rules.map (·.nr)) 1
def jG(f:J7):List v9:=gr (D (DZ f)) (DZ f) 0
def eZ(f:J7):List It:=mN f.arch++(DD (4+D f.rules) (jG f)++(.here 3:: .put ⟨6,f.dflt,0,0⟩::(vV (4+D f.rules+D (jG f)) 4 f.rules++[.here 0,.put ⟨6,2147418112,0,0⟩])))
theorem wG:∀(l:o5)(lo i:Int),0<=i->∀s∈cJ lo l i,0<=s.way/\s.way<i+D l\/s.way=0
 |[],lo,i,hi,s,a=>by unfold cJ at a;split at a;rw[List.mem_singleton.1 a];exact .inr rfl;cases a
 |n::r,lo,i,hi,s,a=>by
  have base:s=⟨n,n,i⟩\/s∈cJ (n+1) r (i+1)->0<=s.way/\s.way<i+D (n::r)\/s.way=0:=λq=>by
   rw[i4];rcases q with rfl|q
   exact .inl ⟨hi,by show i<_;omega⟩;rcases wG r _ _ a8 s q with q|q
   exact .inl ⟨q.1,by have:=q.2;omega⟩;exact .inr q
  unfold cJ at a;split at a;rcases List.mem_cons.1 a with rfl|a
  exact .inr rfl;exact base (List.mem_cons.1 a);exact base (List.mem_cons.1 a)
theorem DY(f:J7)(c:Y8 0 (f.rules.map (·.nr))):0<D (DZ f):=by
 have a:=IQ _ 0 1 c e6;show 0<D (cJ 0 _ 1);rcases b:cJ 0 (f.rules.map (·.nr)) 1 with _|⟨x,r⟩
 rw[b]at a;cases a;first|exact Nat.succ_pos _|(rw[b];exact Nat.succ_pos _)
theorem UP(a:Nat)(p:Nat->Nat):∀(f:Nat)(l:List v8)(i:Nat)(R:List It),0<D l->D l<=f->wf R->(∀s∈l,uk s.fr/\3+s.way.toNat∈P5 R)->
 (∀x,a+i<=x->x<a+(i+D (gr f l i))->x∉P5 R)->(∀j(g:j<D (gr f l i)),p (i+j)=AN a (i+j) ((gr f l i)[j]))->
 wf (bW a p i (gr f l i)++R)/\p i∈P5 (bW a p i (gr f l i)++R)/\r0 (bW a p i (gr f l i))+1<=D l
 |0,l,i,R,h0,hf,_,_,_,_=>a8
 |f+1,l,i,R,h0,hf,hR,hw,hn,hp=>by
  generalize d:gr (f+1) l i=N at hp hn⊢;unfold gr at d;by_cases m:D l/2=0;rw[if_pos m]at d;subst d;refine⟨hR,?_,h0⟩;have:=hp 0 i3;rw[show p i=3+(l.getD 0 KL).way.toNat from this];refine(hw _ ?_).2;rw[b9,e9 h0];exact g3 h0;rw[if_neg m]at d;subst d;have F:D (l.take (D l/2))=D l/2:=by rw[m4];omega
  have G:D (l.drop (D l/2))=D l-D l/2:=List.length_drop;have r:uk (l.getD (D l/2) KL).fr:=by have n:D l/2<D l:=a8;rw[b9,e9 n];exact(hw _ (g3 n)).1
  have u:=UP a p f (l.take (D l/2)) (i+1);have v:=UP a p f (l.drop (D l/2)) (i+1+D (gr f (l.take (D l/2)) (i+1)));generalize C:gr f (l.take (D l/2)) (i+1)=b at*;generalize E:gr f (l.drop (D l/2)) (i+1+D b)=B at*;simp only[i4,g1]at hn;have y:∀j(g:j<D b),p (i+1+j)=AN a (i+1+j) b[j]:=λj g=>by have:=hp (j+1) G6;rw[(a8:i+(j+1)=i+1+j)]at this;simpa[List.getElem_append_left g]using this
  have z:∀j(g:j<D B),p (i+1+D b+j)=AN a (i+1+D b+j) B[j]:=λj g=>by have:=hp (D b+j+1) G6;rw[(a8:i+(D b+j+1)=i+1+D b+j)]at this;simpa[List.getElem_append_right]using this
  have w:p i=a+i:=hp 0 i3;have t:=IX a p b (i+1);have k:=IX a p B (i+1+D b);obtain⟨b1,b2,b3⟩:=v R a8 a8 hR (λs h=>hw s (List.mem_of_mem_drop h)) (λx k1 k2=>hn x a8 a8) z;obtain⟨o,q,A⟩:=u (bW a p (i+1+D b) B++R) a8 a8 b1 (λs h=>⟨(hw s (List.mem_of_mem_take h)).1,by rw[r4];exact List.mem_append_right _ (hw s (List.mem_of_mem_take h)).2⟩) (λx k1 k2 c=>by
   rw[r4]at c;rcases List.mem_append.1 c with c|c
   have:=k x c;omega;exact hn x a8 a8 c) y
  have e:bW a p i (⟨Bf,0,(l.getD (D l/2) KL).fr,((i+1:Nat):Int),((i+1+D b:Nat):Int)⟩::(b++B))= .here (a+i):: .jmp 53 (l.getD (D l/2) KL).fr (p (i+1+D b)) (p (i+1))::(bW a p (i+1) b++bW a p (i+1+D b) B):=by show MX a p i _++bW a p (i+1) (b++B)=_;rw[wO];rfl
  rw[e,w];refine⟨?_,List.mem_cons_self,?_⟩;show _∉P5 (bW a p (i+1) b++bW a p (i+1+D b) B++R)/\a2u 53 _/\p (i+1+D b)∈P5 (bW a p (i+1) b++bW a p (i+1+D b) B++R)/\(_\/p (i+1)∈P5 (bW a p (i+1) b++bW a p (i+1+D b) B++R))/\wf (bW a p (i+1) b++bW a p (i+1+D b) B++R);rw[p6];refine⟨λc=> ?_,⟨r,a8⟩,by rw[r4];exact List.mem_append_right _ b2,.inr q,o⟩;rw[r4,r4]at c;rcases List.mem_append.1 c with c|c
  have:=t _ c;omega;rcases List.mem_append.1 c with c|c
  have:=k _ c;omega;exact hn _ a8 a8 c;show 0+(1+r0 (bW a p (i+1) b++bW a p (i+1+D b) B))+1<=_;rw[l7];omega
theorem a52(a:Nat)(f:Nat)(l:List v8)(R:List It)(c:0<D l)(g:D l<=f)(e:wf R)(k:∀s∈l,uk s.fr/\3+s.way.toNat∈P5 R)(i:∀x,a<=x->x<a+D (gr f l 0)->x∉P5 R):
 wf (DD a (gr f l 0)++R)/\r0 (DD a (gr f l 0))<=D l:=by
 obtain⟨b,d,m⟩:=UP a (λj=>AN a j ((gr f l 0).getD j QF)) f l 0 R c g e k (λx k1 k2=>i x a8 a8) (λj h=>by show AN a (0+j) ((gr f l 0).getD (0+j) QF)=_;rw[Nat.zero_add,b9,e9 h];rfl)
 unfold DD;split;exact⟨⟨⟨⟨e6,e6⟩,.inl ⟨rfl,rfl⟩⟩,d,.inl rfl,b⟩,by rw[l7,show∀q,r0 [It.jmp 5 0 q 0]=1 from λ_=>rfl];omega⟩;exact⟨b,by rw[List.nil_append];omega⟩
theorem SJ:∀(rs:List r9)(n l j:Nat),j<D rs->l+j∈P5 (vV n l rs)
 |r::rs,n,l,0,h=>List.mem_cons_self
 |r::rs,n,l,j+1,h=>by have:=SJ rs (lI n r.tests) (l+1) j (by simpa using h);refine List.mem_cons_of_mem _ ?_;rw[r4,(a8:l+(j+1)=l+1+j)];exact List.mem_append_right _ this
theorem a3E{a:Int}{R:List It}(m:wf R)(i:0∈P5 R)(k:1∉P5 R)(l:2∉P5 R)(n:uk (J5 a)):wf (mN a++R)/\r0 (mN a)<=4:=by
 have k1:IL ⟨32,4,0,0⟩:=⟨rfl,rfl,⟨e6,e6⟩,.inl ⟨rfl,e6,e6⟩⟩;have k2:IL ⟨32,0,0,0⟩:=⟨rfl,rfl,⟨e6,e6⟩,.inl ⟨rfl,e6,e6⟩⟩;have b:wf (.here 2::R):=⟨l,m⟩;have d:0∈P5 (.here 2::R):=List.mem_cons_of_mem _ i;have f:1∉P5 (.here 2::R):=λh=>(List.mem_cons.1 h).elim e6 k
 have j:∀t e,(t=0\/t=2)->(e=0\/e=2)->wf (.jmp 69 1073741824 t e:: .here 2::R):=λt e p o=>by
  refine⟨⟨⟨e6,e6⟩,e6⟩,?_,.inr ?_,b⟩;rcases p with rfl|rfl;exact d;exact List.mem_cons_self
  rcases o with rfl|rfl;exact d;exact List.mem_cons_self
 have g:∀c:List It,wf c->0∈P5 c->1∉P5 c->wf (.put ⟨32,4,0,0⟩:: .jmp 21 (J5 a) 1 0:: .here 1:: .put ⟨32,0,0,0⟩::c):=λc q r s=>
  ⟨k1,.inr ⟨⟨n,.inr (.inl rfl)⟩,List.mem_cons_self,.inr (List.mem_cons_of_mem _ r),s,k2,.inr q⟩⟩
 unfold mN;split;exact⟨g _ (j 0 2 (.inl rfl) (.inr rfl)) d f,by show 1+(1+(0+(1+(1+(0+0)))))<=4;decide⟩;split;exact⟨g _ (j 2 0 (.inr rfl) (.inl rfl)) d f,by show 1+(1+(0+(1+(1+(0+0)))))<=4;decide⟩;exact⟨g _ b d f,by show 1+(1+(0+(1+(0+0))))<=4;decide⟩
theorem TN:∀(l:o5)(lo i:Int),D (cJ lo l i)<=2*D l+1
 |[],lo,i=>by unfold cJ;split<;>simp
 |n::r,lo,i=>by have:=TN r (n+1) (i+1);unfold cJ;split;simp only[g1,i4,List.length_nil];omega;simp only[g1,i4,List.length_nil];omega
theorem a2G:∀(l:List v8)(lo hi:Int),CH lo hi l->∀s∈l,s.fr<hi
 |t::r,lo,hi,a,s,b=>by
  have c:∀(r:List v8)(lo:Int),CH lo hi r->lo<=hi:=λr=>by
   induction r with
   |nil=>intro lo a;exact Int.le_of_eq a
   |cons y r ih=>intro lo a;have:=ih _ a.2.2;have:=a.2.1;omega
  rcases List.mem_cons.1 b with rfl|b
  have:=c r _ a.2.2;have:=a.1;have:=a.2.1;omega;exact a2G r _ hi a.2.2 s b
structure kO(f:J7):Prop where
 d:uk f.dflt
 rs:∀r∈f.rules,vT r
 ri:Y8 0 (f.rules.map (·.nr))
 ar:uk (J5 f.arch)
theorem a2g{f:J7}(b:kO f):wf (eZ f)/\r0 (eZ f)<=3*D f.rules+7*rR f.rules+7:=by
 have o:=DY f b.ri;have k:=IQ _ 0 1 b.ri e6;have n:wf [.here 0,.put ⟨6,2147418112,0,0⟩]:=⟨(by intro b;cases b),⟨rfl,rfl,⟨e6,e6⟩,.inr (.inr rfl)⟩,.inl ⟨rfl,rfl⟩⟩;have d:∀x,x∈P5 [It.here 0,.put ⟨6,2147418112,0,0⟩]->x=0:=λx a=>List.mem_singleton.1 a
 have u:=a2m f.rules (4+D f.rules+D (jG f)) 4 [.here 0,.put ⟨6,2147418112,0,0⟩] b.rs a8 n (λx k1 k2 a=>by have:=d x a;omega) (λx k1 k2 a=>by have:=d x a;omega);have m:∀x,x∈P5 (vV (4+D f.rules+D (jG f)) 4 f.rules++[.here 0,.put ⟨6,2147418112,0,0⟩])->x=0\/4<=x/\(x<4+D f.rules\/4+D f.rules+D (jG f)<=x):=λx a=>by
  rw[r4]at a;rcases List.mem_append.1 a with a|a
  rcases vU _ _ _ _ a with q|q<;>omega
  exact .inl (d x a)
 have r:wf (.here 3:: .put ⟨6,f.dflt,0,0⟩::(vV (4+D f.rules+D (jG f)) 4 f.rules++[.here 0,.put ⟨6,2147418112,0,0⟩])):=
  ⟨λa=>by have:=m 3 a;omega,⟨rfl,rfl,b.d,.inr (.inr rfl)⟩,.inr u⟩
 have l:∀x,x∈P5 (.here 3:: .put ⟨6,f.dflt,0,0⟩::(vV (4+D f.rules+D (jG f)) 4 f.rules++[.here 0,.put ⟨6,2147418112,0,0⟩]))->x=0\/3<=x/\(x<4+D f.rules\/4+D f.rules+D (jG f)<=x):=λx a=>by
  rcases List.mem_cons.1 a with rfl|a
  right;omega;have:=m x a;omega
 have v:∀h:List It,0∈P5 (h++[.here 0,.put ⟨6,2147418112,0,0⟩]):=λh=>by rw[r4];exact List.mem_append_right _ List.mem_cons_self
 obtain⟨b1,b2⟩:=a52 (4+D f.rules) (D (DZ f)) (DZ f) _ o (a7 _) r (λs g=>⟨⟨a2I _ _ _ k s g,a2G _ _ _ k s g⟩,by
  rcases wG _ _ _ e6 s g with q|q
  rw[i1]at q;by_cases e:s.way=0;rw[e];exact List.mem_cons_self;refine List.mem_cons_of_mem _ ?_;rw[(a8:3+s.way.toNat=4+(s.way.toNat-1))];show _∈P5 (vV _ 4 f.rules++_);rw[r4];exact List.mem_append_left _ (SJ f.rules _ 4 _ a8);rw[q];exact List.mem_cons_self⟩) (λx k1 k2 a=>by
  have:=l x a;have e:D (jG f)=D (gr (D (DZ f)) (DZ f) 0):=rfl;omega)
 have p:∀x,x∈P5 (DD (4+D f.rules) (jG f))->4<=x:=λx a=>by
  unfold DD at a;rw[r4]at a;rcases List.mem_append.1 a with a|a
  split at a<;>cases a;have:=IX _ _ _ _ _ a;omega
 have j:∀x,(x=1\/x=2)->x∉P5 (DD (4+D f.rules) (jG f)++(.here 3:: .put ⟨6,f.dflt,0,0⟩::(vV (4+D f.rules+D (jG f)) 4 f.rules++[.here 0,.put ⟨6,2147418112,0,0⟩]))):=λx a c=>by
  rw[r4]at c;rcases List.mem_append.1 c with c|c
  have:=p x c;omega;have:=l x c;omega
 obtain⟨t,B⟩:=a3E b1 (by rw[r4];refine List.mem_append_right _ (List.mem_cons_of_mem _ ?_);exact v _) (j 1 (.inl rfl)) (j 2 (.inr rfl)) b.ar;refine⟨t,?_⟩;have w:=SK f.rules (4+D f.rules+D (jG f)) 4;have i:=TN (f.rules.map (·.nr)) 0 1;rw[i1]at i;have y:D (DZ f)<=2*D f.rules+1:=i;have z:r0 (DD (4+D f.rules) (jG f))<=D (DZ f):=b2;unfold eZ;rw[l7,l7];show _+(_+(0+(1+r0 (vV _ 4 f.rules++_))))<=_;rw[l7];have A:r0 [It.here 0,.put ⟨6,2147418112,0,0⟩]=1:=rfl;omega
def N6:List p3->Int->List p3×Int
 |[],act=>([],act)
 |t::r,act=>if t.mask=0 then([],t.act)else(t::(N6 r act).1,(N6 r act).2)
def M3(l:List p3)(a:Int):Nat->Nat
 |0=>0
 |n+1=>if(l.getD n ⟨0,0,0,0⟩).act=a then M3 l a n else n+1
theorem sX(l:List p3)(a:Int):∀n,M3 l a n<=n
 |0=>a7 _
 |n+1=>by unfold M3;split;exact Nat.le_succ_of_le (sX l a n);exact a7 _
def J1(r:r9):r9:=⟨r.nr,(N6 r.tests r.act).1.take (M3 (N6 r.tests r.act).1 (N6 r.tests r.act).2 (D (N6 r.tests r.act).1)),(N6 r.tests r.act).2⟩
def P2(d:Int)(r:r9):Bool:=Dc (0<D r.tests)||r.act !=d
def W9(f:J7):J7:=⟨f.arch,f.dflt,(f.rules.map J1).filter (P2 f.dflt)⟩
theorem LZ:∀(l:o5)(lo a:Int),Y8 lo l->a<=lo->Y8 a l
 |[],_,_,_,_=>trivial
 |n::r,lo,a,h,hl=>⟨by have:=h.1;omega,h.2⟩
theorem jT(d:Int):∀(rs:List r9)(lo:Int),Y8 lo (rs.map (·.nr))->Y8 lo (((rs.map J1).filter (P2 d)).map (·.nr))
 |[],_,_=>trivial
 |r::rs,lo,h=>by have ih:=jT d rs _ h.2.2;rw[List.map_cons,List.filter_cons];split;exact⟨h.1,h.2.1,ih⟩;exact LZ _ _ _ ih (by have:=h.1;omega)
theorem xL:∀(l:List p3)(a:Int),(∀t∈(N6 l a).1,t∈l)/\((N6 l a).2=a\/∃t∈l,(N6 l a).2=t.act)
 |[],a=>⟨λt c=>c,.inl rfl⟩
 |t::r,a=>by
  unfold N6;split;exact⟨λx c=>(by cases c),.inr ⟨t,List.mem_cons_self,rfl⟩⟩;obtain⟨f,d⟩:=xL r a;refine⟨λx b=> ?_,?_⟩;rcases List.mem_cons.1 b with rfl|b
  exact List.mem_cons_self;exact List.mem_cons_of_mem _ (f x b);rcases d with d|⟨x,b,e⟩
  exact .inl d;exact .inr ⟨x,List.mem_cons_of_mem _ b,e⟩
theorem xM:∀(l:List p3)(a:Int),D (N6 l a).1<=D l
 |[],a=>a7 _
 |t::r,a=>by have:=xM r a;unfold N6;split;exact c6 _;simp;omega
theorem AK(r:r9):D (J1 r).tests<=D r.tests:=b6 (List.length_take_le _ _) (by have a:=xM r.tests r.act;have b:=sX (N6 r.tests r.act).1 (N6 r.tests r.act).2 (D (N6 r.tests r.act).1);omega)
theorem a0J{r:r9}(a:vT r):vT (J1 r):=by
 obtain⟨c,d⟩:=xL r.tests r.act;refine⟨a.nr,?_,λt b=>a.ts t (c t (List.mem_of_mem_take b))⟩;show uk (N6 r.tests r.act).2;rcases d with e|⟨t,b,e⟩
 rw[e];exact a.act;rw[e];exact(a.ts t b).2.2.2
theorem oG(a:Int):∀rs:List r9,rR ((rs.map J1).filter (P2 a))<=rR rs/\D ((rs.map J1).filter (P2 a))<=D rs
 |[]=>⟨a7 _,a7 _⟩
 |r::rs=>by
  obtain⟨b,c⟩:=oG a rs;have d:=AK r;have e:∀(r:r9)(rs:List r9),rR (r::rs)=D r.tests+rR rs:=λr rs=>by simp[rR]
  rw[List.map_cons,List.filter_cons];split;rw[e,e,i4,i4];omega;rw[e,i4];omega
theorem UM{f:J7}(a:kO f):kO (W9 f):=⟨a.d,λr b=>by obtain⟨x,c,rfl⟩:=List.mem_map.1 (List.mem_filter.1 b).1;exact a0J (a.rs x c),jT _ _ _ a.ri,a.ar⟩
theorem a1B{f:J7}(a:kO f)(h:3*D f.rules+7*rR f.rules+7<=1365):
 (C5 (O5 (eZ f))/\(∀s∈O5 (eZ f),s.ok)/\D (O5 (eZ f))<=1365)/\(C5 (O5 (eZ (W9 f)))/\(∀s∈O5 (eZ (W9 f)),s.ok)/\D (O5 (eZ (W9 f)))<=1365):=by
 have d:=UM a;obtain⟨b,e⟩:=a2g a;obtain⟨c,g⟩:=a2g d;have i:3*D (W9 f).rules+7*rR (W9 f).rules<=3*D f.rules+7*rR f.rules:=by have:=oG f.dflt f.rules;show 3*D ((f.rules.map J1).filter (P2 f.dflt))+7*rR ((f.rules.map J1).filter (P2 f.dflt))<=_;omega
 exact⟨⟨KG b a8,YI b a8,by rw[bP];omega⟩,⟨KG c a8,YI c a8,by rw[bP];omega⟩⟩
def F5(a:List Sy)(t:Int):Int:=if(a.getD t.toNat i0).code=5 then(a.getD t.toNat i0).th else t
def aQ(f:Int->Int)(s:Sy):Sy:=
 if a2L s.code then(if f s.th=f s.el then⟨5,0,f s.th,0⟩else{s with th:=f s.th,el:=f s.el})
 else if s.code=5 then{s with th:=f s.th}else s
def eE(b:List Sy)(a:List Sy)(i:Nat):List Sy:=a.set i (aQ (F5 a) (b.getD i i0))
def x3(a:List Sy)(pre:R8):List Sy:=pre.foldl (eE a) a
def K2(a:List Sy):List Sy:=x3 a (m9 (D a)).reverse
theorem fA(a:List Sy)(pre:R8)(i:Nat):x3 a (pre++[i])=eE a (x3 a pre) i:=by simp[x3,List.foldl_append]
theorem vJ(f:Int->Int)(s:Sy):aQ f s=if a2L s.code=Bt/\f s.th=f s.el then⟨5,0,f s.th,0⟩else mv f s:=by
 unfold aQ mv;by_cases a:a2L s.code=Bt;by_cases e:f s.th=f s.el;rw[if_pos a,if_pos e,if_pos ⟨a,e⟩];rw[if_pos a,if_neg e,if_neg (λx=>e x.2),if_pos a];have b:¬(a2L s.code=Bt/\f s.th=f s.el):=λx=>a x.1
 rw[if_neg a,if_neg b,if_neg a]
theorem DN{f g:Int->Int}{s:Sy}{a n:Int}(i:N9 s a n)(d:∀t:Int,a<t->t<n->f t=g t):aQ f s=aQ g s:=by
 rw[vJ,vJ,UR i d];by_cases b:a2L s.code=Bt;rcases i with⟨c,_,_,_⟩|⟨c,_,_⟩|⟨c,_,_⟩|⟨c,_,_,e⟩|⟨c,e,h⟩
 rw[c]at b;cases b;rw[c]at b;cases b;rw[c]at b;cases b;rw[c]at b;cases b;rw[d _ e.1 e.2,d _ h.1 h.2];rw[if_neg (λx=>b x.1),if_neg (λx=>b x.1)]
theorem X3(l:List Sy)(i j:Nat)(v:Sy):(l.set i v).getD j i0=if i=j/\j<D l then v else l.getD j i0:=by simp only[b9,List.getElem?_set];by_cases a:i=j;subst a;by_cases b:i<D l;simp[b];simp[b];simp[a]
structure Thr(ps out:List Sy):Prop where
 len:D out=D ps
 get:∀i,i<D ps->out.getD i i0=aQ (F5 out) (ps.getD i i0)
theorem GZ(n j:Nat)(h:j<n):(m9 n).reverse.take (n-j)=(m9 n).reverse.take (n-(j+1))++[j]:=by have e:n-j=n-(j+1)+1:=a8;rw[e,g2 G6];congr 2;rw[List.getElem_reverse];simp;omega
theorem lC{c:List Sy}(h:C5 c):∀k,k<=D c->D (x3 c ((m9 (D c)).reverse.take k))=D c/\
 (∀i,i<D c-k->(x3 c ((m9 (D c)).reverse.take k)).getD i i0=c.getD i i0)/\
 (∀i,D c-k<=i->i<D c->(x3 c ((m9 (D c)).reverse.take k)).getD i i0=aQ (F5 (x3 c ((m9 (D c)).reverse.take k))) (c.getD i i0))
 |0,_=>⟨by simp[x3],λi n=>by simp[x3],λi n f=>a8⟩
 |k+1,hk=>by
  obtain⟨o,f,p⟩:=lC h k a8;have l:=GZ (D c) (D c-(k+1)) a8;rw[(a8:D c-(D c-(k+1))=k+1),(a8:D c-(D c-(k+1)+1)=k)]at l;rw[l,fA];generalize x3 c ((m9 (D c)).reverse.take k)=d at*;generalize s:D c-(k+1)=j at*;unfold eE;generalize r:aQ (F5 d) (c.getD j i0)=v;have q:∀t:Int,(j:Int)<t->F5 (d.set j v) t=F5 d t:=λt u=>by
   have e:(d.set j v).getD t.toNat i0=d.getD t.toNat i0:=by rw[X3,if_neg a8]
   unfold F5;rw[e]
  refine⟨by rw[List.length_set,o],λi hi=> ?_,λi hi g=> ?_⟩;rw[X3,if_neg a8];exact f i a8;have m:aQ (F5 (d.set j v)) (c.getD i i0)=aQ (F5 d) (c.getD i i0):=DN (E3 (h.one i g)) λt a b=>q t a8
  rw[m,X3];by_cases e:j=i;subst e;rw[if_pos ⟨rfl,a8⟩,r];rw[if_neg (λx=>e x.1)];exact p i a8 g
theorem fQ{a:List Sy}(e:C5 a):Thr a (K2 a):=by obtain⟨b,d,c⟩:=lC e (D a) (a7 _);rw[List.take_of_length_le i3]at b d c;exact⟨b,λi hi=>c i a8 hi⟩
structure Tg(out:List Sy)(n i:Nat):Prop where
 kind:N9 (out.getD i i0) i n
 ja:∀t:Nat,bX (out.getD i i0)=Bt->(out.getD i i0).th=t->(out.getD t i0).code≠5
 es:∀t:Nat,a2L (out.getD i i0).code=Bt->(out.getD i i0).el=t->(out.getD t i0).code≠5
 ne:a2L (out.getD i i0).code=Bt->(out.getD i i0).th≠(out.getD i i0).el
theorem a0a{a:List Sy}{n t:Nat}(d:Tg a n t)(g:t<n):∃u:Nat,F5 a t=u/\t<=u/\u<n/\(a.getD u i0).code≠5/\(u=t\/((a.getD t i0).code=5/\(a.getD t i0).th=u)):=by
 unfold F5;rw[Int.toNat_natCast];by_cases e:(a.getD t i0).code=5;rw[if_pos e];obtain⟨u,c⟩:∃u:Nat,(a.getD t i0).th=u/\t<u/\u<n:=by
  rcases d.kind with⟨b,_,_,_⟩|⟨b,_,_⟩|⟨b,_,_⟩|⟨b,_,_,f⟩|⟨b,f,h⟩
  omega;omega;omega;exact⟨(a.getD t i0).th.toNat,a8,a8,a8⟩;omega
 exact⟨u,c.1,a8,c.2.2,d.ja u (by unfold bX;rw[e];rfl) c.1,.inr ⟨e,c.1⟩⟩;rw[if_neg e];exact⟨t,rfl,a7 _,g,e,.inl rfl⟩
theorem RH{j g:List Sy}(A:C5 j)(z:Thr j g):∀m i,D j-i<=m->i<D j->Tg g (D j) i
 |0,i,h,hi=>a8
 |m+1,i,h,hi=>by
  have y:=E3 (A.one i hi);have o:=z.get i hi;have x:∀t:Int,(i:Int)<t->t<D j->∃u:Nat,F5 g t=u/\i<u/\u<D j/\(g.getD u i0).code≠5:=λt R S=>by obtain⟨n,rfl⟩:∃n:Nat,t=n:=⟨t.toNat,a8⟩;obtain⟨u,a,b,c,G,_⟩:=a0a (RH A z m n a8 a8) a8;exact⟨u,a,a8,c,G⟩
  generalize j.getD i i0=s at*;have w:s.code=32\/s.code=84\/s.code=6->Tg g (D j) i:=λT=>by
   have k:a2L s.code≠Bt:=λe=>by rw[A7]at e;omega
   have e:g.getD i i0=s:=by rw[o];unfold aQ;rw[if_neg k,if_neg a8]
   refine⟨by rw[e];exact y,λt d=> ?_,λt d=> ?_,λd=> ?_⟩;rw[e]at d;unfold bX at d;simp at d;rcases d with d|d
   omega;exact absurd d k;rw[e]at d;exact absurd d k;rw[e]at d;exact absurd d k
  rcases y with⟨q,_,_,_⟩|⟨q,_,_⟩|⟨q,_,_⟩|⟨q,H,L,l⟩|⟨q,l,E⟩
  exact w a8;exact w a8;exact w a8;obtain⟨u,p,N,P,r⟩:=x s.th l.1 l.2;have k:a2L s.code≠Bt:=λe=>by rw[A7]at e;omega
  have e:g.getD i i0= {s with th:=(u:Int)}:=by rw[o];unfold aQ;rw[if_neg k,if_pos q,p]
  refine⟨by rw[e];exact .ja q H L ⟨by show(i:Int)<(u:Int);omega,by show(u:Int)<_;omega⟩,λt d f=> ?_,λt d=> ?_,λd=> ?_⟩;rw[e]at f;have:u=t:=Int.ofNat.inj f;subst this;exact r;rw[e]at d;exact absurd d k;rw[e]at d;exact absurd d k;have F:=A7.2 q;obtain⟨u,p,N,P,r⟩:=x s.th l.1 l.2;obtain⟨v,C,W,aa,Q⟩:=x s.el E.1 E.2;by_cases B:u=v;have e:g.getD i i0=⟨5,0,(u:Int),0⟩:=by rw[o];unfold aQ;rw[if_pos F,p,C,B,if_pos rfl]
  refine⟨by rw[e];exact .ja rfl rfl rfl ⟨by show(i:Int)<(u:Int);omega,by show(u:Int)<_;omega⟩,λt d f=> ?_,λt d=> ?_,λd=> ?_⟩;rw[e]at f;have:u=t:=Int.ofNat.inj f;subst this;exact r;rw[e]at d;exact absurd (show a2L 5=Bt from d) e6;rw[e]at d;exact absurd (show a2L 5=Bt from d) e6;have e:g.getD i i0= {s with th:=(u:Int),el:=(v:Int)}:=by rw[o];unfold aQ;rw[if_pos F,p,C,if_neg a8]
  refine⟨by rw[e];exact .as q ⟨by show(i:Int)<(u:Int);omega,by show(u:Int)<_;omega⟩ ⟨by show(i:Int)<(v:Int);omega,by show(v:Int)<_;omega⟩,λt d f=> ?_,λt d f=> ?_,λd f=> ?_⟩;rw[e]at f;have:u=t:=Int.ofNat.inj f;subst this;exact r;rw[e]at f;have:v=t:=Int.ofNat.inj f;subst this;exact Q;rw[e]at f;exact B (Int.ofNat.inj f)
theorem RG{a b:List Sy}(d:C5 a)(c:Thr a b)(i:Nat)(hi:i<D a):Tg b (D a) i:=RH d c _ i (a7 _) hi
theorem RI{f:Int->Int}{s:Sy}(b:s.code=6\/s.code=32\/s.code=84):aQ f s=s:=by
 unfold aQ;have a:a2L s.code≠Bt:=λe=>by rw[A7]at e;omega
 rw[if_neg a,if_neg a8]
theorem ZZ{e d:List Sy}(b:C5 e)(a:Thr e d):C5 d:=by refine⟨by rw[a.len];exact b.l1,by rw[a.len];exact b.l2,?_,λi hi=> ?_⟩;have:=b.l1;have c:=b.last;rw[a.len,a.get _ a8,RI (.inl c)];exact c;rw[a.len]at hi⊢;exact nO (RG b a i hi).kind
theorem a23{b a:List Sy}(m:C5 b)(f:Thr b a)(q:∀i∈b,i.ok):∀i∈a,i.ok:=λi hi=>by
 have v:=m.l2;obtain⟨j,l,rfl⟩:=List.getElem_of_mem hi;have e:j<D b:=by rw[<-f.len];exact l
 have k:=f.get j e;have o:a.getD j i0=a[j]:=by simp[b9,l]
 have p:b.getD j i0=b[j]:=by simp[b9,e]
 have g:=(RG m f j e).kind;rw[o]at g k;have n:=q _ (g3 e);rw[<-p]at n;obtain⟨⟨r,s⟩,⟨t,u⟩,_,_⟩:=n;have h:(0<=a[j].code/\a[j].code<65536)/\(0<=a[j].k/\a[j].k<4294967296):=by rw[k];unfold aQ;(repeat' split)<;>exact⟨by first|exact⟨r,s⟩|exact(⟨e6,e6⟩:(0:Int)<=5/\(5:Int)<65536),by first|exact⟨t,u⟩|exact(⟨e6,e6⟩:(0:Int)<=0/\(0:Int)<4294967296)⟩
 refine⟨h.1,h.2,?_⟩;unfold KK;rcases g with⟨_,c,d,_⟩|⟨_,c,d⟩|⟨_,c,d⟩|⟨_,_,d,c⟩|⟨_,c,d⟩<;>omega
theorem oM{a:List Sy}(b:C5 a):D (K2 a)=D a:=(fQ b).len
theorem fR{b:List Sy}(a:C5 b):C5 (K2 b):=ZZ a (fQ a)
def X4(s:Sy)(t:Int):Prop:=(bX s=Bt/\s.th=t)\/(a2L s.code=Bt/\s.el=t)
theorem RJ{s:Sy}{k i:Nat}(h:X4 s i):dF s k i=Bt:=by
 unfold dF;rcases h with⟨a,b⟩|⟨a,b⟩
 rw[a,b];simp;rw[a,b];simp
theorem WB{s:Sy}(h:s.code=5):X4 s s.th:= .inl ⟨by unfold bX;rw[h];rfl,rfl⟩
theorem xX{s:Sy}(h:a2L s.code=Bt):X4 s s.th/\X4 s s.el:=⟨.inl ⟨by unfold bX;rw[h];simp,rfl⟩,.inr ⟨h,rfl⟩⟩
theorem DQ{s:Sy}{a n t:Int}(c:N9 s a n)(b:X4 s t):a<t/\t<n:=by
 unfold X4 bX at b;rcases c with⟨q,_,_,_⟩|⟨q,_,_⟩|⟨q,_,_⟩|⟨q,_,_,d⟩|⟨q,d,e⟩
 rw[q]at b;exact absurd b (by simp[a2L]);rw[q]at b;exact absurd b (by simp[a2L]);rw[q]at b;exact absurd b (by simp[a2L]);rcases b with⟨_,b⟩|⟨b,_⟩
 omega;rw[q]at b;exact absurd b e6;rcases b with⟨_,b⟩|⟨_,b⟩<;>omega
theorem UQ{f:Int->Int}{s:Sy}{a n b m:Int}(j:N9 s a n)(g:∀t:Int,a<t->t<n->X4 s t->b<f t/\f t<m):N9 (mv f s) b m:=by
 rcases j with⟨c,d,e,h⟩|⟨c,d,e⟩|⟨c,d,e⟩|⟨c,h,e,d⟩|⟨c,d,e⟩
 rw[C9 f (.inl c)];exact .ld c d e h;rw[C9 f (.inr (.inl c))];exact .an c d e;rw[C9 f (.inr (.inr c))];exact .re c d e;rw[tP f c];exact .ja c h e (g _ d.1 d.2 (WB c));have i:=A7.2 c;rw[bD f i];exact .as c (g _ d.1 d.2 (xX i).1) (g _ e.1 e.2 (xX i).2)
theorem HG{b:List Sy}(a:C5 b):r5 b 0=Bt:=by have:=a.l1;have c:=kV a 0 a8 0 a8;unfold r5;rw[c];simp
theorem rL{a:List Sy}(c:C5 a){k i:Nat}(f:k<D a)(hi:i<D a)(e:r5 a k=Bt)(b:dF (a.getD k i0) k i=Bt):r5 a i=Bt:=by have g:=pU c k i f b;have d:=kV c i hi i a8;show(F1 a i).getD i Bf=Bt;rw[d];simp only[Bool.or_eq_true,List.any_eq_true,List.mem_range];right;exact⟨k,g,by rw[e,b];rfl⟩
def o6(a:List Sy)(i:Nat):Nat:=D ((m9 i).filter (r5 a))
def I7(a:List Sy)(t:Int):Int:=(o6 a t.toNat:Nat)
def X6(a:List Sy):List Sy:=((m9 (D a)).filter (r5 a)).map λi=>mv (I7 a) (a.getD i i0)
theorem O9(a:List Sy)(i:Nat):o6 a (i+1)=o6 a i+if r5 a i=Bt then 1 else 0:=by unfold o6;rw[List.range_succ,List.filter_append,g1];congr 1;by_cases b:r5 a i=Bt;simp[b];simp[b]
theorem lK(b:List Sy)(i:Nat):∀a,o6 b i<=o6 b (i+a)
 |0=>a7 _
 |a+1=>by have:=lK b i a;rw[<-Nat.add_assoc,O9];omega
theorem S2{a:List Sy}{k i:Nat}(d:r5 a k=Bt)(e:k<i):o6 a k<o6 a i:=by have b:=O9 a k;rw[if_pos d]at b;have c:=lK a (k+1) (i-(k+1));rw[(a8:k+1+(i-(k+1))=i)]at c;omega
theorem Z0(a:List Sy)(i:Nat):o6 a i<=i:=by unfold o6;have:=List.length_filter_le (r5 a) (m9 i);rwa[List.length_range]at this
theorem zW(a:List Sy):o6 a 0=0:=rfl
theorem aC(a:List Sy):D (X6 a)=o6 a (D a):=by unfold X6 o6;rw[i1]
theorem BW(a:List Sy)(k:Nat)(b:r5 a k=Bt):∀m,k<m->((m9 m).filter (r5 a))[o6 a k]? =So k
 |0,h=>a8
 |m+1,h=>by rw[List.range_succ,List.filter_append];by_cases e:k=m;subst e;unfold o6;rw[List.getElem?_append_right (a7 _),Nat.sub_self];simp[b];have c:k<m:=a8;rw[List.getElem?_append_left (S2 b c)];exact BW a k b m c
theorem CL(a:List Sy)(k:Nat)(b:r5 a k=Bt)(c:k<D a):(X6 a).getD (o6 a k) i0=mv (I7 a) (a.getD k i0):=by unfold X6;rw[b9,List.getElem?_map,BW a k b _ c];rfl
theorem eM(d:List Sy):∀m j,j<o6 d m->∃k,k<m/\r5 d k=Bt/\o6 d k=j
 |0,j,h=>by rw[zW]at h;omega
 |m+1,j,h=>by rw[O9]at h;by_cases f:r5 d m=Bt;rw[if_pos f]at h;by_cases e:j=o6 d m;exact⟨m,a8,f,e.symm⟩;obtain⟨k,a,b,c⟩:=eM d m j a8;exact⟨k,a8,b,c⟩;rw[if_neg f]at h;obtain⟨k,a,b,c⟩:=eM d m j a8;exact⟨k,a8,b,c⟩
theorem uR{a:List Sy}(d:C5 a)(k:Nat)(c:k<D a)(b:r5 a k=Bt):N9 (mv (I7 a) (a.getD k i0)) (o6 a k) (o6 a (D a)):=by
 refine UQ (E3 (d.one k c)) λt g h e=> ?_
 obtain⟨n,rfl⟩:∃n:Nat,t=n:=⟨t.toNat,a8⟩;have f:=rL d c (i:=n) a8 b (RJ e);unfold I7;rw[Int.toNat_natCast];have j:=S2 b (a8:k<n);have l:=S2 f (a8:n<D a);omega
theorem CK{a:List Sy}(d:C5 a):C5 (X6 a):=by
 have n:=d.l1;have o:=d.l2;have m:=S2 (HG d) (a8:0<D a);have p:=Z0 a (D a);refine⟨by rw[aC];omega,by rw[aC];omega,?_,λi hi=> ?_⟩;rw[aC];obtain⟨k,c,b,e⟩:=eM a (D a) (o6 a (D a)-1) a8;rw[<-e,CL a k b c,iE];refine Classical.byContradiction λl=> ?_
 obtain⟨g,h,f⟩:=a3J d id k 0 c l;have j:=rL d c f b g;have q:=S2 b h;have r:=S2 j f;omega;rw[aC]at hi⊢;obtain⟨k,c,b,e⟩:=eM a (D a) i hi;rw[<-e,CL a k b c];exact nO (uR d k c b)
theorem a1E{a:List Sy}(e:C5 a)(n:∀i∈a,i.ok):∀i∈X6 a,i.ok:=λi hi=>by
 unfold X6 at hi;obtain⟨k,l,rfl⟩:=List.mem_map.1 hi;obtain⟨m,h⟩:=List.mem_filter.1 l;have d:k<D a:=List.mem_range.1 m;have j:a.getD k i0=a[k]:=by simp[b9,d]
 have f:=n _ (g3 d);rw[<-j]at f;obtain⟨o,p,_,_⟩:=f;have g:=uR e k d h;have q:=Z0 a (D a);have r:=e.l2;refine⟨by rw[iE];exact o,by rw[a5w];exact p,?_⟩;unfold KK;rcases g with⟨_,b,c,_⟩|⟨_,b,c⟩|⟨_,b,c⟩|⟨_,_,c,b⟩|⟨_,b,c⟩<;>omega
def Y1(a:List Sy):List Sy:=X6 (K2 (K6 a))
theorem a0D{a:List Sy}(b:C5 a):C5 (Y1 a):=CK (fR (R9 b))
theorem a1F(a:List Sy):D (X6 a)<=D a:=by rw[aC];exact Z0 a _
theorem a3G{a:List Sy}(c:C5 a):D (Y1 a)<=D a:=by have b:=a1F (K2 (K6 a));rw[oM (R9 c),S0]at b;exact b
end Go.Proofs.YtcljlejgllkcjaaGreat
