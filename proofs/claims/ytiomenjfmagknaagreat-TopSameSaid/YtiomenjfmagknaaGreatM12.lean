/- A part of the proof of TopSame: lemmas on the walks of its calls. -/
import Derived.Lib.AppendZerosOnto
import Derived.Lib.OwnBridge
import Derived.Shelf.Slices.CompactS
import Derived.Shelf.Slices.In.SortNone
import Derived.Shelf.Sort.Plain
import Derived.Test.YtiomenjfmagknaaGreatM11
set_option maxHeartbeats 12000000
set_option linter.all false
set_option maxRecDepth 100000
namespace Go.Proofs.YtiomenjfmagknaaGreat
open Go.RowKit Go.ChangeShapes Go.WideShapes Tryz
open Bool renaming false_eq_true→a4x,true→Bt,false→Bf
open Decidable renaming decide→Dc
open Ending renaming returned→X
open Go renaming World→Wd,Value→Va,Calls→Ca,bodyPost_ret→Bp,TypeId→Ti,Addr→Ad,Program→Pg,wpList→Wp
open Go.Proofs renaming enters_of→Eo
open IntKind renaming i64→M
open IntWalk renaming i64_in→a37
open Lib renaming hid→a6
open List renaming getD_eq_getElem?_getD→a8,length_append→a2e,replicate→a2A,range→q5,length_cons→a3W,getElem_mem→a30,length_map→a32,take_succ_eq_append_getElem→a4a,append_assoc→a4s,length_take→a4C
open Nat renaming le_refl→a7,le_trans→c8,add_zero→a4z,zero_add→a4E
open Obj renaming cells→U
open Operand renaming tmp→Tm
open Option renaming none→J,some→So
open Value renaming int→I,slice→Z,string→Y,pointer→K,bool→O,func→Fc,tuple→Tp,agg→Ag
def kH(c:Int):Prop:=c=32∨c=84∨c=6∨c=5∨c=21∨c=37∨c=53∨c=69
theorem UJ{c g f k l:Int}(h:kH c)(n:c=32→k % 4=0∧k<64)(p:c=5→k<max l 0)(o:c=21∨c=37∨c=53∨c=69→max g f<max l 0):gG ⟨c,g,f,k⟩ l=0:=by
 have q:j7 c≠2:=by
  rcases h with rfl|rfl|rfl|rfl|rfl|rfl|rfl|rfl<;>decide+kernel
 have y:EF ⟨c,g,f,k⟩=Bf:=by
  unfold EF;dsimp only;rw[OQ h];rfl
 have z:mV ⟨c,g,f,k⟩=Bf:=by
  unfold mV;dsimp only;by_cases e:c=32
  ·obtain⟨a,b⟩:=n e
   have j:¬64≤k:=by omega
   simp[a,j]
  ·have:(c==32)=Bf:=by simpa using e
   rw[this];rfl
 have v:(c==96)=Bf:=by unfold kH at h;simp;omega
 have w:(c==97)=Bf:=by unfold kH at h;simp;omega
 have u:(c==52)=Bf:=by unfold kH at h;simp;omega
 have s:(c==100)=Bf:=by unfold kH at h;simp;omega
 have t:(c==116)=Bf:=by unfold kH at h;simp;omega
 have x:(j7 c==2)=Bf:=by simpa using q
 have A:LN ⟨c,g,f,k⟩=Bf:=by unfold LN;dsimp only;rw[v,w,x];rfl
 have B:QX ⟨c,g,f,k⟩=Bf:=by unfold QX;dsimp only;rw[u];rfl
 have C:RK ⟨c,g,f,k⟩=Bf:=by unfold RK;dsimp only;rw[s,t];rfl
 have D:ZU ⟨c,g,f,k⟩ (max l 0)=Bf:=by
  unfold ZU;dsimp only;by_cases i:c=5
  ·have:=p i
   have e:(c==5)=Bt:=by simpa using i
   rw[e,if_pos rfl,decide_eq_false_iff_not];omega
  ·have e:(c==5)=Bf:=by simpa using i
   rw[e,if_neg (by decide)];by_cases m:c=21∨c=37∨c=53∨c=69
   ·have:=o m
    have d:Dc (max l 0≤max g f)=Bf:=by rw[decide_eq_false_iff_not];omega
    rw[d,Bool.and_false]
   ·have r:j7 c≠4:=by
     unfold kH at h;have:c=32∨c=84∨c=6:=by omega
     rcases this with rfl|rfl|rfl<;>decide+kernel
    have:(j7 c==4)=Bf:=by simpa using r
    rw[this];rfl
 unfold gG;rw[y,z,A,B,C,D];rfl
theorem yR(ps:List i2)(a:∀j,j<ps.length→rdb (ps.getD j j5)=Bf):W7 ps=[]:=by
 have c:rdb j5=Bf:=by decide
 unfold W7 unU;rw[List.filterMap_eq_nil_iff];intro j d;have:rdb (ps.getD j j5)=Bf:=by
  by_cases b:j<ps.length
  ·exact a j b
  ·rw[a8,List.getElem?_eq_none (by omega)];exact c
 unfold QK;rw[this];simp
theorem tI(ps:List Sy)(d:List Int):∀m j,j<m7 ps d m→∃k r,k<m∧r<(l7 ps d k).length∧j=m7 ps d k+r
 |0,j,h=>by unfold m7 n9 at h;simp at h
 |m+1,j,h=>by
  have f:=aH ps d m;by_cases e:j<m7 ps d m
  ·obtain⟨k,r,a,b,c⟩:=tI ps d m j e
   exact⟨k,r,by omega,b,c⟩
  ·exact⟨m,j-m7 ps d m,by omega,by omega,by omega⟩
theorem AB(ps:List Sy)(a:List Int):m7 ps a 0=0:=rfl
structure LI(N j:Nat)(i:i2):Prop where
 c:kH i.code
 ld:i.code=32→i.k % 4=0∧i.k<64
 ja:i.code=5→0≤i.k∧i.k<(N:Int)-1-j
 ask:i.code=21∨i.code=37∨i.code=53∨i.code=69→i.jt<(N:Int)-1-j∧i.jf<(N:Int)-1-j
 t:0≤i.jt∧i.jt≤255
 f:0≤i.jf∧i.jf≤255
theorem VV{ps:List Sy}(w:m9 ps){a:List Int}(h:m5 ps a)(k r:Nat)(j:k<ps.length)(d:r<(l7 ps a k).length):
  LI (m7 ps a ps.length) (m7 ps a k+r) ((l7 ps a k).getD r j5)∧(((l7 ps a k).getD r j5).k=(ps.getD k c6).k∨((l7 ps a k).getD r j5).code=5):=by
 have g:=aH ps a k;have D:=C4 ps a (show k+1≤ps.length by omega);have t:=a0P (w.one k j);have l:∀(c:Int),(c=32∨c=84∨c=6)→(ps.getD k c6).code=c→(c=32→(ps.getD k c6).k % 4=0∧(ps.getD k c6).k<64)→
   (LI (m7 ps a ps.length) (m7 ps a k+r) ((l7 ps a k).getD r j5)∧(((l7 ps a k).getD r j5).k=(ps.getD k c6).k∨((l7 ps a k).getD r j5).code=5)):=fun c u e s=>by
  have f:l7 ps a k=[⟨c,0,0,(ps.getD k c6).k⟩]:=by
   unfold l7;rw[e,if_neg (by omega),if_pos (by rcases u with rfl|rfl|rfl<;>rfl)]
  rw[f]at d⊢;obtain rfl:r=0:=by simpa using d
  show LI _ _ (⟨c,0,0,(ps.getD k c6).k⟩:i2)∧_;refine⟨⟨?_,s,fun b=> ?_,fun b=> ?_,⟨by first|(dsimp only;omega)|omega,by first|(dsimp only;omega)|omega⟩,⟨by first|(dsimp only;omega)|omega,by first|(dsimp only;omega)|omega⟩⟩,.inl rfl⟩
  ·unfold kH;dsimp only;omega
  ·dsimp only at b;omega
  ·dsimp only at b;omega
 rcases t with⟨q,_,_,B⟩|⟨q,_,_⟩|⟨q,_,_⟩|⟨q,L,P,A⟩|⟨q,A,N⟩
 ·exact l 32 (.inl rfl) q (fun _=>B)
 ·exact l 84 (.inr (.inl rfl)) q (fun b=>by omega)
 ·exact l 6 (.inr (.inr rfl)) q (fun b=>by omega)
 ·have f:l7 ps a k=[⟨5,0,0,o0 a (k+1) ((ps.getD k c6).th.toNat-(k+1))⟩]:=by unfold l7;rw[if_pos q]
  have v:=eX h (show k<(ps.getD k c6).th.toNat by omega) (by omega);have E:=C4 ps a (show k+1≤(ps.getD k c6).th.toNat by omega);have x:=C4 ps a (show(ps.getD k c6).th.toNat≤ps.length by omega);rw[f]at d g⊢;obtain rfl:r=0:=by simpa using d
  simp only[a3W,List.length_nil]at g;show LI _ _ (⟨5,0,0,o0 a (k+1) ((ps.getD k c6).th.toNat-(k+1))⟩:i2)∧_;refine⟨⟨.inr (.inr (.inr (.inl rfl))),fun b=>absurd b (show¬(5:Int)=32 by decide),fun _=> ?_,fun b=>absurd b (show¬((5:Int)=21∨(5:Int)=37∨(5:Int)=53∨(5:Int)=69) by decide),⟨by first|(dsimp only;omega)|omega,by first|(dsimp only;omega)|omega⟩,⟨by first|(dsimp only;omega)|omega,by first|(dsimp only;omega)|omega⟩⟩,.inr rfl⟩;show 0≤o0 a (k+1) ((ps.getD k c6).th.toNat-(k+1))∧o0 a (k+1) ((ps.getD k c6).th.toNat-(k+1))<_;rw[v];omega
 ·have m:=a0h.2 q
  have i:(ps.getD k c6).code≠5:=by omega
  have o:=eX h (show k<(ps.getD k c6).th.toNat by omega) (by omega);have p:=eX h (show k<(ps.getD k c6).el.toNat by omega) (by omega);have F:=C4 ps a (show k+1≤(ps.getD k c6).th.toNat by omega);have x:=C4 ps a (show k+1≤(ps.getD k c6).el.toNat by omega);have G:=C4 ps a (show(ps.getD k c6).th.toNat≤ps.length by omega);have H:=C4 ps a (show(ps.getD k c6).el.toNat≤ps.length by omega);rcases h.one k j with n|C
  ·have f:l7 ps a k=[⟨(ps.getD k c6).code,o0 a (k+1) ((ps.getD k c6).th.toNat-(k+1)),o0 a (k+1) ((ps.getD k c6).el.toNat-(k+1)),(ps.getD k c6).k⟩]:=by
    unfold l7;rw[if_neg i,if_neg (by rw[m];decide),if_pos n]
   obtain⟨y,z⟩:=h.near k j n m;rw[f]at d g⊢;obtain rfl:r=0:=by simpa using d
   simp only[a3W,List.length_nil]at g;rw[o]at y⊢;rw[p]at z⊢;show LI _ _ (⟨(ps.getD k c6).code,_,_,(ps.getD k c6).k⟩:i2)∧_;refine⟨⟨?_,fun b=> ?_,fun b=>absurd b i,fun _=> ?_,?_,?_⟩,.inl rfl⟩
   ·unfold kH;dsimp only;omega
   ·dsimp only at b;omega
   ·dsimp only;omega
   ·dsimp only;omega
   ·dsimp only;omega
  ·have f:l7 ps a k=[⟨(ps.getD k c6).code,0,1,(ps.getD k c6).k⟩,⟨5,0,0,o0 a (k+1) ((ps.getD k c6).th.toNat-(k+1))+1⟩,⟨5,0,0,o0 a (k+1) ((ps.getD k c6).el.toNat-(k+1))⟩]:=by
    unfold l7;rw[if_neg i,if_neg (by rw[m];decide),if_neg (by omega)]
   rw[f]at d g⊢;rw[o,p];simp only[a3W,List.length_nil]at g d;obtain rfl|rfl|rfl:r=0∨r=1∨r=2:=by omega
   ·show LI _ _ (⟨(ps.getD k c6).code,0,1,(ps.getD k c6).k⟩:i2)∧_
    refine⟨⟨?_,fun b=> ?_,fun b=>absurd b i,fun _=> ?_,⟨by first|(dsimp only;omega)|omega,by first|(dsimp only;omega)|omega⟩,⟨by first|(dsimp only;omega)|omega,by first|(dsimp only;omega)|omega⟩⟩,.inl rfl⟩
    ·unfold kH;dsimp only;omega
    ·dsimp only at b;omega
    ·dsimp only;omega
   ·show LI _ _ (⟨5,0,0,_⟩:i2)∧_
    refine⟨⟨.inr (.inr (.inr (.inl rfl))),fun b=>absurd b (show¬(5:Int)=32 by decide),fun _=> ?_,fun b=>absurd b (show¬((5:Int)=21∨(5:Int)=37∨(5:Int)=53∨(5:Int)=69) by decide),⟨by first|(dsimp only;omega)|omega,by first|(dsimp only;omega)|omega⟩,⟨by first|(dsimp only;omega)|omega,by first|(dsimp only;omega)|omega⟩⟩,.inr rfl⟩;dsimp only;omega
   ·show LI _ _ (⟨5,0,0,_⟩:i2)∧_
    refine⟨⟨.inr (.inr (.inr (.inl rfl))),fun b=>absurd b (show¬(5:Int)=32 by decide),fun _=> ?_,fun b=>absurd b (show¬((5:Int)=21∨(5:Int)=37∨(5:Int)=53∨(5:Int)=69) by decide),⟨by first|(dsimp only;omega)|omega,by first|(dsimp only;omega)|omega⟩,⟨by first|(dsimp only;omega)|omega,by first|(dsimp only;omega)|omega⟩⟩,.inr rfl⟩;dsimp only;omega
theorem KH{ps:List Sy}(h:m9 ps){a:List Int}(i:m5 ps a)(j:Nat)(g:j<(n9 ps a 0 ps.length).length):
  LI (n9 ps a 0 ps.length).length j ((n9 ps a 0 ps.length).getD j j5)∧((∃k,k<ps.length∧((n9 ps a 0 ps.length).getD j j5).k=(ps.getD k c6).k)∨((n9 ps a 0 ps.length).getD j j5).code=5):=by
 obtain⟨k,r,b,c,rfl⟩:=tI ps a ps.length j g;rw[pM ps a k r b c];obtain⟨e,f⟩:=VV h i k r b c;exact⟨e,f.imp (fun d=>⟨k,b,d⟩) id⟩
theorem GF{ps:List Sy}(g:m9 ps){a:List Int}(r:m5 ps a)(n:(n9 ps a 0 ps.length).length≤4096):LG (n9 ps a 0 ps.length)=(0,0):=by
 have o:=C4 ps a (show 0≤ps.length by omega);rw[AB]at o;have v:=g.l1;have u:(n9 ps a 0 ps.length).length=m7 ps a ps.length:=rfl;have h:=fun j d=>(KH g r j d).1
 refine SL _ ⟨by omega,n,fun j d=> ?_,?_,yR _ fun j d=> ?_⟩
 ·have b:=h j d
  unfold cJ;generalize(n9 ps a 0 ps.length).getD j j5=i at*;obtain⟨c,x,w,k⟩:=i;have e:max ((((n9 ps a 0 ps.length).length:Nat):Int)-1-(j:Int)) 0=(((n9 ps a 0 ps.length).length:Nat):Int)-1-(j:Int):=by omega
  refine UJ b.c b.ld (fun q=> ?_) (fun q=> ?_)
  ·rw[e];exact(b.ja q).2
  ·rw[e]
   have:=b.ask q;dsimp only at this;omega
 ·have p:=g.last
  have f:l7 ps a (ps.length-1)=[⟨6,0,0,(ps.getD (ps.length-1) c6).k⟩]:=by
   unfold l7;rw[p,if_neg (by decide),if_pos (show l0 6=Bf from rfl)]
  have m:=aH ps a (ps.length-1);rw[show ps.length-1+1=ps.length by omega,f]at m;simp only[a3W,List.length_nil]at m;have l:=pM ps a (ps.length-1) 0 (by omega) (by rw[f];exact Nat.zero_lt_one);rw[f,a4z]at l;rw[show(n9 ps a 0 ps.length).length-1=m7 ps a (ps.length-1) by omega,l];exact a2F
 ·have b:=(h j d).c
  generalize(n9 ps a 0 ps.length).getD j j5=i at*;unfold rdb;unfold kH at b;have s:(i.code==96)=Bf:=by simp;omega
  have t:(i.code==97)=Bf:=by simp;omega
  rw[s,t];rfl
theorem a1j{ps:List Sy}(m:m9 ps){c:List Int}(o:m5 ps c)(p:(n9 ps c 0 ps.length).length≤4096)(n:∀i∈ps,i.ok):∀i∈n9 ps c 0 ps.length,i.ok:=fun i hi=>by
 obtain⟨j,d,rfl⟩:=List.getElem_of_mem hi;obtain⟨a,b⟩:=KH m o j d;have e:(n9 ps c 0 ps.length).getD j j5=(n9 ps c 0 ps.length)[j]:=by simp[a8,d]
 rw[e]at a b;generalize(n9 ps c 0 ps.length)[j]=i at*;have h:=a.c;unfold kH at h;refine⟨by omega,⟨a.t.1,by have:=a.t.2;omega⟩,⟨a.f.1,by have:=a.f.2;omega⟩,?_⟩;rcases b with⟨k,f,b⟩|b
 ·have l:ps.getD k c6=ps[k]:=by simp[a8,f]
  obtain⟨_,g,_,_⟩:=n _ (a30 f);rw[b,l];exact⟨g.1,g.2⟩
 ·have:=a.ja b
  omega
theorem CX{ps:List Sy}{a:List Int}(c:m5 ps a)(d:a.length=ps.length)(lo:Nat):∀k,lo+k≤ps.length→o0 a lo k=k+2*o0 (XE a) lo k
 |0,_=>by simp[o0]
 |k+1,hk=>by
  have ih:=CX c d lo k (by omega);have e:(XE a).getD (lo+k) 0=if a.getD (lo+k) 0=3 then 1 else 0:=by
   have b:lo+k<a.length:=by omega
   unfold XE;simp[a8,b]
  show o0 a lo k+a.getD (lo+k) 0=_+2*(o0 (XE a) lo k+(XE a).getD (lo+k) 0);rw[ih,e];rcases c.one (lo+k) (by omega)with b|b
  ·rw[b,if_neg (by decide)];omega
  ·rw[b,if_pos rfl];omega
theorem BF{ps:List Sy}(a:m9 ps):(H4 ps).bk.reverse=n9 ps (P3 ps (q5 ps.length).reverse) 0 ps.length∧((H4 ps).bk.length:Int)=ps.length+2*(H4 ps).far∧m5 ps (P3 ps (q5 ps.length).reverse):=by
 have b:=a3a a;refine⟨NF ps a,?_,b⟩;rw[VX ps a,XS ps a,CX b (JE ps _).2 0 ps.length (by omega)]
theorem VU{ps:List Sy}(a:m9 ps)(k:∀i∈ps,i.ok)(d:r9):(K5 d (H4 ps).bk.reverse).err=0∧(K5 d (H4 ps).bk.reverse).ans=(N6 d.word ps).1∧
  (N6 d.word ps).2≤(K5 d (H4 ps).bk.reverse).steps∧((K5 d (H4 ps).bk.reverse).steps:Int)≤(N6 d.word ps).2+(H4 ps).far:=by
 obtain⟨g,o,l⟩:=BF a;have p:=a.l1;have j:(H4 ps).bk.reverse.length=(H4 ps).bk.length:=List.length_reverse;rw[g]at j⊢;have b:=iX a l d _ rfl (fun i hi=>by
  have h:ps.getD i c6=ps[i]:=by simp[a8,hi]
  rw[h];exact(k _ (a30 hi)).2.1.1) ps.length 0 ((n9 ps (P3 ps (q5 ps.length).reverse) 0 ps.length).length+2) vm0 46 [] (by omega) (by omega) rfl (by omega)
 rw[AB]at b;obtain⟨m,n,c,f⟩:=b;simp only[List.length_nil,a4E,a4z,Nat.sub_zero]at c f;refine⟨m,n,c,?_⟩;show((S9 d _ _ 0 vm0 46 []).steps:Int)≤((r7 d.word ps 0 0).2:Int)+(H4 ps).far;have e:vm0.a=0:=rfl;rw[e]at f;omega
def fQ(c:List Bool)(a:Nat):Bool:=c.getD a Bf
def yL(c:List Bool)(a:Nat):Bool:=fQ c a&&((a !=0&&a !=2)||(fQ c 0&&fQ c 2&&a==0))
def eV(c:List Bool):Nat→Nat
 |0=>2
 |a+1=>eV c a+(if yL c a then 1 else 0)
def RB(c:List Bool):Nat→List It
 |0=>[.put ⟨32,4,0,0⟩]
 |a+1=>RB c a++(if yL c a then [.jmp 21 (B8 a) 1 (eV c a),.here (eV c a)]else [])
def sI(c:List Bool):Nat→Int
 |0=> -1
 |a+1=>if fQ c a&&(a==0||a==2)&& !(fQ c 0&&fQ c 2)then a else sI c a
def gdX(c:List Bool):List It:=if sI c 6<0 then []else [.jmp 21 (B8 (sI c 6)) (eV c 6) 0,.here (eV c 6),.put ⟨32,0,0,0⟩,if sI c 6=2 then .jmp 69 1073741824 1 0 else .jmp 69 1073741824 0 1]
def sH(c:List Bool):List It:=RB c 6++(gdX c++[.here 0,.put ⟨6,2147483648,0,0⟩,.here 1,.put ⟨6,2147418112,0,0⟩])
structure H3(ps:List Sy):Prop where
 may:m9 ps
 ok:∀s∈ps,s.ok
 len:ps.length≤1365
instance :DecidablePred Sy.ok:=fun s=>by unfold Sy.ok LJ;infer_instance
def a3k(r:List Sy):Bool:=fE r&&r.all (fun s=>decide s.ok)&&Dc (r.length≤1365)
theorem a0I{r:List Sy}(h:a3k r=Bt):H3 r:=by
 unfold a3k at h;simp only[Bool.and_eq_true,List.all_eq_true,decide_eq_true_eq]at h;exact⟨iU h.1.1,h.1.2,h.2⟩
theorem a36:∀a b c d e f:Bool,a3k (F6 (sH [a,b,c,d,e,f]))=Bt:=by decide+kernel
theorem tX{c:List Bool}(h:c.length=6):H3 (F6 (sH c)):=by
 match c,h with
 |[c0,c1,c2,c3,c4,c5],_=>exact a0I (a36 c0 c1 c2 c3 c4 c5)
theorem H3.opt{r:List Sy}(h:H3 r):H3 (Q0 r):=
 ⟨a0W h.may,a1R (aZ (G4 h.may)) (a28 (G4 h.may) (aY (G4 h.may)) (TA h.may h.ok)),c8 (a3E h.may) h.len⟩
def V5(r:List Sy):List i2:=(H4 r).bk.reverse
theorem H3.bk{r:List Sy}(h:H3 r):(H4 r).bk.length≤4096:=by
 have:=(FZ r (q5 r.length).reverse).h1;have:=h.len;rw[List.length_reverse,List.length_range]at*;unfold H4;omega
structure vC(P:List i2):Prop where
 ok:∀i∈P,i.ok
 len:P.length≤4096
 at_:LG P=(0,0)
theorem H3.prg{r:List Sy}(a:H3 r):vC (V5 r):=by
 obtain⟨d,-,c⟩:=BF a.may;have b:=a.bk;rw[←List.length_reverse]at b;unfold V5;rw[d]at b⊢;exact⟨a1j a.may c b a.ok,b,GF a.may c b⟩
theorem H3.run{r:List Sy}(h:H3 r)(d:r9):(K5 d (V5 r)).ans=(N6 d.word r).1:=(VU h.may h.ok d).2.1
def V0(c:Bool)(a b:List Sy):List i2:=if c then(if(V5 a).length<(V5 (Q0 b)).length then V5 a else V5 (Q0 b))else V5 a
theorem LD{b c:List Sy}(a:H3 b)(d:H3 c)(e:Bool):vC (V0 e b c):=by
 unfold V0;split
 ·split
  ·exact a.prg
  ·exact d.opt.prg
 ·exact a.prg
theorem rF{a b:List Sy}(c:H3 a)(e:H3 b)(d:r9)(f:(N6 d.word b).1=(N6 d.word a).1)(g:Bool):(K5 d (V0 g a b)).ans=(N6 d.word a).1:=by
 unfold V0;split
 ·split
  ·exact c.run d
  ·rw[e.opt.run d,(a0U e.may d.word).1,f]
 ·exact c.run d
theorem a10(a b:List Sy):(V0 Bt a b).length≤(V0 Bf a b).length:=by
 unfold V0;simp only[if_true,a4x,if_false];split
 ·exact a7 _
 ·omega
section
variable {α:Type} {E:p6 α}
theorem R4{c:Type}(a B C cs:List c)(b:cs.length=B.length):splice (a++B++C) a.length cs=a++cs++C:=by
 unfold splice;rw[b,←a2e,List.drop_left,a4s a B C,List.take_left,a4s]
theorem p6.row_take(xs:List α)(i:Nat):E.row (xs.take i)++E.row (xs.drop i)=E.row xs:=by rw[←E.row_append,List.take_append_drop]
theorem e4.blk{w:Wd}{base n c:Nat}{e:Ti}{b:Option Ad}{xs:List α}(f:e4 w base e E (Z b n c) xs)(q:0<xs.length):∃g cs Jq,b=So ⟨g,0,J⟩∧n=xs.length∧base≤g∧b9 w g e cs∧n≤c∧c≤maxLen∧cs.size=c*E.k∧cs.toList=E.row xs++Jq:=by
 obtain⟨o,p,a,r,d⟩:=f;injection a with e1 e2 e3
 subst e1 e2 e3;rcases d with⟨_,d⟩|⟨g,cap,cur,a,l,m,h,i,j,k⟩
 ·omega
 ·injection a with e1 e2 e3
  subst e1 e3;exact⟨g,cur,cur.toList.drop (xs.length*E.k),rfl,rfl,l,m,h,i,j,by rw[←k,List.take_append_drop]⟩
theorem e4.mk2{w:Wd}{base n c g:Nat}{e:Ti}{xs:List α}{cs:Array Va}{Jq:List Va}(a:base≤g)(B:b9 w g e cs)(f:xs.length=n)(b:n≤c)(d:c≤maxLen)(h:cs.size=c*E.k)(i:cs.toList=E.row xs++Jq):e4 w base e E (Z g n c) xs:=by
 subst f;refine⟨_,c,rfl,E.row_length xs,.inr ⟨g,c,cs,rfl,a,B,b,d,h,?_⟩⟩;rw[i,←E.row_length xs,List.take_left]
theorem row_set(xs:List α)(i:Nat)(x:α)(Jq:List Va)(hi:i<xs.length):splice (E.row xs++Jq) (i*E.k) (E.c x)=E.row (xs.set i x)++Jq:=by
 have a:xs=xs.take i++(xs[i]::xs.drop (i+1)):=by rw[←List.drop_eq_getElem_cons hi,List.take_append_drop]
 have b:i*E.k=(E.row (xs.take i)).length:=by rw[E.row_length,a4C,Nat.min_eq_left (by omega)]
 have e:E.row xs++Jq=E.row (xs.take i)++E.c xs[i]++(E.row (xs.drop (i+1))++Jq):=by
  conv=>lhs;rw[a]
  rw[E.row_append,E.row_cons];simp
 rw[e,b,R4 _ _ _ _ (by rw[E.len,E.len]),List.set_eq_take_append_cons_drop,if_pos hi,E.row_append,E.row_cons];simp
theorem S1{c:Type}(a cs:List c)(b:Nat)(d:b+cs.length≤a.length):(splice a b cs).length=a.length:=by
 unfold splice;simp;omega
theorem kE{P:Pg}{w:Wd}{dT B ty:Ti}(f:Ti)(z:P.underlying dT=So (.slice f))(a:Nat)(n:(P.info? f).map (·.size)=So a)
  (g e k o d c m:Nat) (b:Ad) (cur:Array Va) (t:Ti) (r:b9 w g t cur) (x:min d k=m) (cs:List Va) (s:cs.length=m*a) (C:e+m*a≤cur.size)
  (q:h9 w (So b) cs) (p:∀v∈cs,v.oneCell'=Bt):
  (Builtin.copy_ #[dT,B] ty #[Z (So ⟨g,e,J⟩) k o,Z (So b) d c]).run P w= .ok (goInt m) (w.setRow g (splice cur.toList e cs).toArray):=by
 cases h:P.info? f with
 |none=>simp[h]at n
 |some i=>
  have hi:i.size=a:=by simpa[h]using n
  have l:=run_storeCells_at P g e t cs 0 cur w r (by omega) p;have u:=run_firstCells_some (P:=P) (w:=w) a m b d c cs s (fun j v A=>q.add A);have y:Nat.min d k=m:=x;simp only[a4z]at l;simp[Builtin.copy_,run_underlying z,Builtin.lenOf,sizeOf,typeInfo,h,hi,y,u,l,splice]
theorem hY{P:Pg}{w:Wd}{o:Array Oper}{rest:List Oper}{e:Oper}{a:Act}{Q:Exit→Act→Wd→Prop}(z:e.guard=J)(d s:Operand)(dT H:Ti)
  (C:e.op= .call {callee:= .builtin .copy,args:= #[d,s],argTypes:= #[dT,H]}) (i:Ti) (G:P.underlying dT=So (.slice i)) (f:Nat) (F:(P.info? i).map (·.size)=So f)
  (g of j l k c m:Nat) (b:Ad) (x:a.eval d=Z (So ⟨g,of,J⟩) j l) (D:a.eval s=Z (So b) k c) (cur:Array Va) (t:Ti) (n:b9 w g t cur) (B:min k j=m) (cs:List Va) (A:cs.length=m*f) (y:of+m*f≤cur.size)
  (u:h9 w (So b) cs) (q:∀v∈cs,v.oneCell'=Bt) (p:∀h,b9 h g t (splice cur.toList of cs).toArray→w.grownBy h (So g)→h=w.heap.size→Wp P o Q rest (a.put e.dst (goInt m)) h):Wp P o Q (e::rest) a w:=by
 refine wpList_plain z fun L r=> ?_
 unfold Oper.wp execOp;simp only[C,resolve,invoke,builtin,Sem.run_bind,Sem.run_pure,Result.andThen_ok,List.map_toArray,List.map_cons,List.map_nil,x,D,kE i G f F g of j l k c m b cur t n B cs A y u q];exact r _ _ (p _ (setRow_heap w g cur _ t (0,0) n) (E1 w g _) (by simp))
end
def X6:List (ByteArray×List ByteArray):=[(⟨#[64,98,97,115,105,99,45,105,111]⟩,[⟨#[114,101,97,100]⟩,⟨#[119,114,105,116,101]⟩,⟨#[99,108,111,115,101]⟩]),(⟨#[64,99,108,111,99,107]⟩,[⟨#[99,108,111,99,107,95,115,101,116,116,105,109,101]⟩,⟨#[115,101,116,116,105,109,101,111,102,100,97,121]⟩]),(⟨#[64,100,101,98,117,103]⟩,[⟨#[112,116,114,97,99,101]⟩,⟨#[112,101,114,115,111,110,97,108,105,116,121]⟩]),(⟨#[64,102,105,108,101]⟩,[⟨#[64,98,97,115,105,99,45,105,111]⟩,⟨#[111,112,101,110]⟩,⟨#[111,112,101,110,97,116]⟩,⟨#[105,111,99,116,108]⟩]),(⟨#[64,109,101,109,111,114,121]⟩,[⟨#[98,114,107]⟩,⟨#[109,109,97,112]⟩,⟨#[109,112,114,111,116,101,99,116]⟩,⟨#[109,117,110,109,97,112]⟩,⟨#[112,107,101,121,95,109,112,114,111,116,101,99,116]⟩,⟨#[115,104,109,97,116]⟩]),(⟨#[64,109,111,100,117,108,101]⟩,[⟨#[100,101,108,101,116,101,95,109,111,100,117,108,101]⟩,⟨#[102,105,110,105,116,95,109,111,100,117,108,101]⟩,⟨#[105,110,105,116,95,109,111,100,117,108,101]⟩]),(⟨#[64,109,111,117,110,116]⟩,[⟨#[109,111,117,110,116]⟩,⟨#[117,109,111,117,110,116,50]⟩]),(⟨#[64,110,101,115,116]⟩,[⟨#[64,110,101,115,116,45,50]⟩,⟨#[107,105,108,108]⟩]),(⟨#[64,110,101,115,116,45,50]⟩,[⟨#[64,110,101,115,116,45,51]⟩,⟨#[103,101,116,117,105,100]⟩]),(⟨#[64,110,101,115,116,45,51]⟩,[⟨#[64,110,101,115,116,45,52]⟩,⟨#[115,101,116,117,105,100]⟩]),(⟨#[64,110,101,115,116,45,52]⟩,[⟨#[64,110,101,115,116,45,53]⟩,⟨#[101,120,105,116]⟩]),(⟨#[64,110,101,115,116,45,53]⟩,[⟨#[114,101,97,100]⟩]),(⟨#[64,110,101,116,119,111,114,107]⟩,[⟨#[98,105,110,100]⟩,⟨#[99,111,110,110,101,99,116]⟩,⟨#[108,105,115,116,101,110]⟩,⟨#[115,111,99,107,101,116]⟩]),(⟨#[64,112,114,105,118,105,108,101,103,101,100]⟩,[⟨#[64,99,108,111,99,107]⟩,⟨#[64,109,111,100,117,108,101]⟩,⟨#[64,109,111,117,110,116]⟩,⟨#[64,114,101,98,111,111,116]⟩,⟨#[98,112,102]⟩,⟨#[115,101,116,117,105,100]⟩]),(⟨#[64,112,114,111,99,101,115,115]⟩,[⟨#[99,108,111,110,101]⟩,⟨#[99,108,111,110,101,51]⟩,⟨#[101,120,101,99,118,101]⟩,⟨#[101,120,105,116]⟩,⟨#[102,111,114,107]⟩,⟨#[107,105,108,108]⟩,⟨#[115,101,116,110,115]⟩,⟨#[117,110,115,104,97,114,101]⟩]),(⟨#[64,114,101,98,111,111,116]⟩,[⟨#[114,101,98,111,111,116]⟩]),(⟨#[64,114,101,115,111,117,114,99,101,115]⟩,[⟨#[115,99,104,101,100,95,115,101,116,97,116,116,114]⟩,⟨#[115,99,104,101,100,95,115,101,116,115,99,104,101,100,117,108,101,114]⟩]),(⟨#[64,115,121,115,116,101,109]⟩,[⟨#[64,102,105,108,101]⟩,⟨#[64,109,101,109,111,114,121]⟩,⟨#[64,110,101,116,119,111,114,107]⟩,⟨#[64,112,114,111,99,101,115,115]⟩,⟨#[103,101,116,117,105,100]⟩])]
structure Grp where
 name:ByteArray
 G:Nat
 has:List ByteArray
def a5o:p6 Grp:=⟨2,fun g=>[Y g.name,Z g.G g.has.length g.has.length],fun _=>rfl,fun x u a=>by simp at a;rcases a with rfl|rfl<;>rfl⟩
def mG(B:Nat)(w:Wd)(l:List Grp):Prop:=∀g∈l,B≤g.G∧h9 w g.G (F9.row g.has)
theorem mG.h{B:Nat}{w c:Wd}{l:List Grp}(a:mG B w l)(x:a9 w c):mG B c l:=fun g b=>⟨(a g b).1,(a g b).2.h x⟩
theorem mG.snoc{B:Nat}{w c:Wd}{l:List Grp}(b:mG B w l)(x:a9 w c)(g:Grp)(e:B≤g.G)(f:h9 w g.G (F9.row g.has)):mG B c (l++[g]):=fun d a=>by
 rcases List.mem_append.1 a with a|a
 ·exact⟨(b d a).1,(b d a).2.h x⟩
 ·rw[List.mem_singleton.1 a];exact⟨e,f.h x⟩
theorem a5n(s:ByteArray)(G n:Nat)(W:Wd):Ca prog 407 #[Y s,Z G n n] W fun e b=>e=X (Ag #[Y s,Z G n n])∧a9 W b:=by
 have a:=(a9.refl W).alloc (U #[Y s,Z G n n] 498);go_in;go_wp2;exact Bp (g0 rfl _ _ _ _ _ _ rfl (b9.new _ _ _) underlying498 rfl (by kernel_rfl)) rfl ⟨rfl,a⟩
theorem HB(W:Wd):Ca prog 401 #[] W fun e d=>∃(f:Nat)(c:List Grp),e=X (Z f 18 18)∧c.map (fun g=>(g.name,g.has))=X6∧h9 d f (a5o.row c)∧mG W d c∧a9 W d:=by
 have b:=a6 a5n;have P:mG W W []:=fun g ac=>by cases ac
 have a:=a9.refl W;go_in;go_wp2_with fail
 apply(b ⟨#[64,98,97,115,105,99,45,105,111]⟩ _ _ _).mono;rintro e z⟨rfl,h⟩;replace P:=(P.h ((a9.refl _).alloc _)).snoc h ⟨⟨#[64,98,97,115,105,99,45,105,111]⟩,W,[⟨#[114,101,97,100]⟩,⟨#[119,114,105,116,101]⟩,⟨#[99,108,111,115,101]⟩]⟩ a.size (h9.f (b9.new W _ _) rfl);replace a:=(a.alloc _).trans h;go_wp2_with fail
 apply(b ⟨#[64,99,108,111,99,107]⟩ _ _ _).mono;rintro e L⟨rfl,i⟩;replace P:=(P.h ((a9.refl _).alloc _)).snoc i ⟨⟨#[64,99,108,111,99,107]⟩,z,[⟨#[99,108,111,99,107,95,115,101,116,116,105,109,101]⟩,⟨#[115,101,116,116,105,109,101,111,102,100,97,121]⟩]⟩ a.size (h9.f (b9.new z _ _) rfl);replace a:=(a.alloc _).trans i;go_wp2_with fail
 apply(b ⟨#[64,100,101,98,117,103]⟩ _ _ _).mono;rintro e N⟨rfl,r⟩;replace P:=(P.h ((a9.refl _).alloc _)).snoc r ⟨⟨#[64,100,101,98,117,103]⟩,L,[⟨#[112,116,114,97,99,101]⟩,⟨#[112,101,114,115,111,110,97,108,105,116,121]⟩]⟩ a.size (h9.f (b9.new L _ _) rfl);replace a:=(a.alloc _).trans r;go_wp2_with fail
 apply(b ⟨#[64,102,105,108,101]⟩ _ _ _).mono;rintro e Q⟨rfl,s⟩;replace P:=(P.h ((a9.refl _).alloc _)).snoc s ⟨⟨#[64,102,105,108,101]⟩,N,[⟨#[64,98,97,115,105,99,45,105,111]⟩,⟨#[111,112,101,110]⟩,⟨#[111,112,101,110,97,116]⟩,⟨#[105,111,99,116,108]⟩]⟩ a.size (h9.f (b9.new N _ _) rfl);replace a:=(a.alloc _).trans s;go_wp2_with fail
 apply(b ⟨#[64,109,101,109,111,114,121]⟩ _ _ _).mono;rintro e R⟨rfl,t⟩;replace P:=(P.h ((a9.refl _).alloc _)).snoc t ⟨⟨#[64,109,101,109,111,114,121]⟩,Q,[⟨#[98,114,107]⟩,⟨#[109,109,97,112]⟩,⟨#[109,112,114,111,116,101,99,116]⟩,⟨#[109,117,110,109,97,112]⟩,⟨#[112,107,101,121,95,109,112,114,111,116,101,99,116]⟩,⟨#[115,104,109,97,116]⟩]⟩ a.size (h9.f (b9.new Q _ _) rfl);replace a:=(a.alloc _).trans t;go_wp2_with fail
 apply(b ⟨#[64,109,111,100,117,108,101]⟩ _ _ _).mono;rintro e S⟨rfl,u⟩;replace P:=(P.h ((a9.refl _).alloc _)).snoc u ⟨⟨#[64,109,111,100,117,108,101]⟩,R,[⟨#[100,101,108,101,116,101,95,109,111,100,117,108,101]⟩,⟨#[102,105,110,105,116,95,109,111,100,117,108,101]⟩,⟨#[105,110,105,116,95,109,111,100,117,108,101]⟩]⟩ a.size (h9.f (b9.new R _ _) rfl);replace a:=(a.alloc _).trans u;go_wp2_with fail
 apply(b ⟨#[64,109,111,117,110,116]⟩ _ _ _).mono;rintro e T⟨rfl,v⟩;replace P:=(P.h ((a9.refl _).alloc _)).snoc v ⟨⟨#[64,109,111,117,110,116]⟩,S,[⟨#[109,111,117,110,116]⟩,⟨#[117,109,111,117,110,116,50]⟩]⟩ a.size (h9.f (b9.new S _ _) rfl);replace a:=(a.alloc _).trans v;go_wp2_with fail
 apply(b ⟨#[64,110,101,115,116]⟩ _ _ _).mono;rintro e aa⟨rfl,w⟩;replace P:=(P.h ((a9.refl _).alloc _)).snoc w ⟨⟨#[64,110,101,115,116]⟩,T,[⟨#[64,110,101,115,116,45,50]⟩,⟨#[107,105,108,108]⟩]⟩ a.size (h9.f (b9.new T _ _) rfl);replace a:=(a.alloc _).trans w;go_wp2_with fail
 apply(b ⟨#[64,110,101,115,116,45,50]⟩ _ _ _).mono;rintro e ab⟨rfl,x⟩;replace P:=(P.h ((a9.refl _).alloc _)).snoc x ⟨⟨#[64,110,101,115,116,45,50]⟩,aa,[⟨#[64,110,101,115,116,45,51]⟩,⟨#[103,101,116,117,105,100]⟩]⟩ a.size (h9.f (b9.new aa _ _) rfl);replace a:=(a.alloc _).trans x;go_wp2_with fail
 apply(b ⟨#[64,110,101,115,116,45,51]⟩ _ _ _).mono;rintro e A⟨rfl,y⟩;replace P:=(P.h ((a9.refl _).alloc _)).snoc y ⟨⟨#[64,110,101,115,116,45,51]⟩,ab,[⟨#[64,110,101,115,116,45,52]⟩,⟨#[115,101,116,117,105,100]⟩]⟩ a.size (h9.f (b9.new ab _ _) rfl);replace a:=(a.alloc _).trans y;go_wp2_with fail
 apply(b ⟨#[64,110,101,115,116,45,52]⟩ _ _ _).mono;rintro e B⟨rfl,j⟩;replace P:=(P.h ((a9.refl _).alloc _)).snoc j ⟨⟨#[64,110,101,115,116,45,52]⟩,A,[⟨#[64,110,101,115,116,45,53]⟩,⟨#[101,120,105,116]⟩]⟩ a.size (h9.f (b9.new A _ _) rfl);replace a:=(a.alloc _).trans j;go_wp2_with fail
 apply(b ⟨#[64,110,101,115,116,45,53]⟩ _ _ _).mono;rintro e C⟨rfl,k⟩;replace P:=(P.h ((a9.refl _).alloc _)).snoc k ⟨⟨#[64,110,101,115,116,45,53]⟩,B,[⟨#[114,101,97,100]⟩]⟩ a.size (h9.f (b9.new B _ _) rfl);replace a:=(a.alloc _).trans k;go_wp2_with fail
 apply(b ⟨#[64,110,101,116,119,111,114,107]⟩ _ _ _).mono;rintro e D⟨rfl,l⟩;replace P:=(P.h ((a9.refl _).alloc _)).snoc l ⟨⟨#[64,110,101,116,119,111,114,107]⟩,C,[⟨#[98,105,110,100]⟩,⟨#[99,111,110,110,101,99,116]⟩,⟨#[108,105,115,116,101,110]⟩,⟨#[115,111,99,107,101,116]⟩]⟩ a.size (h9.f (b9.new C _ _) rfl);replace a:=(a.alloc _).trans l;go_wp2_with fail
 apply(b ⟨#[64,112,114,105,118,105,108,101,103,101,100]⟩ _ _ _).mono;rintro e E⟨rfl,m⟩;replace P:=(P.h ((a9.refl _).alloc _)).snoc m ⟨⟨#[64,112,114,105,118,105,108,101,103,101,100]⟩,D,[⟨#[64,99,108,111,99,107]⟩,⟨#[64,109,111,100,117,108,101]⟩,⟨#[64,109,111,117,110,116]⟩,⟨#[64,114,101,98,111,111,116]⟩,⟨#[98,112,102]⟩,⟨#[115,101,116,117,105,100]⟩]⟩ a.size (h9.f (b9.new D _ _) rfl);replace a:=(a.alloc _).trans m;go_wp2_with fail
 apply(b ⟨#[64,112,114,111,99,101,115,115]⟩ _ _ _).mono;rintro e F⟨rfl,n⟩;replace P:=(P.h ((a9.refl _).alloc _)).snoc n ⟨⟨#[64,112,114,111,99,101,115,115]⟩,E,[⟨#[99,108,111,110,101]⟩,⟨#[99,108,111,110,101,51]⟩,⟨#[101,120,101,99,118,101]⟩,⟨#[101,120,105,116]⟩,⟨#[102,111,114,107]⟩,⟨#[107,105,108,108]⟩,⟨#[115,101,116,110,115]⟩,⟨#[117,110,115,104,97,114,101]⟩]⟩ a.size (h9.f (b9.new E _ _) rfl);replace a:=(a.alloc _).trans n;go_wp2_with fail
 apply(b ⟨#[64,114,101,98,111,111,116]⟩ _ _ _).mono;rintro e G⟨rfl,o⟩;replace P:=(P.h ((a9.refl _).alloc _)).snoc o ⟨⟨#[64,114,101,98,111,111,116]⟩,F,[⟨#[114,101,98,111,111,116]⟩]⟩ a.size (h9.f (b9.new F _ _) rfl);replace a:=(a.alloc _).trans o;go_wp2_with fail
 apply(b ⟨#[64,114,101,115,111,117,114,99,101,115]⟩ _ _ _).mono;rintro e H⟨rfl,p⟩;replace P:=(P.h ((a9.refl _).alloc _)).snoc p ⟨⟨#[64,114,101,115,111,117,114,99,101,115]⟩,G,[⟨#[115,99,104,101,100,95,115,101,116,97,116,116,114]⟩,⟨#[115,99,104,101,100,95,115,101,116,115,99,104,101,100,117,108,101,114]⟩]⟩ a.size (h9.f (b9.new G _ _) rfl);replace a:=(a.alloc _).trans p;go_wp2_with fail
 apply(b ⟨#[64,115,121,115,116,101,109]⟩ _ _ _).mono;rintro e ad⟨rfl,q⟩;replace P:=(P.h ((a9.refl _).alloc _)).snoc q ⟨⟨#[64,115,121,115,116,101,109]⟩,H,[⟨#[64,102,105,108,101]⟩,⟨#[64,109,101,109,111,114,121]⟩,⟨#[64,110,101,116,119,111,114,107]⟩,⟨#[64,112,114,111,99,101,115,115]⟩,⟨#[103,101,116,117,105,100]⟩]⟩ a.size (h9.f (b9.new H _ _) rfl);replace a:=(a.alloc _).trans q;go_wp2_with fail
 go_ret;exact⟨_,_,rfl,rfl,fF (by simp) rfl,P.h ((a9.refl _).alloc _),a.alloc _⟩
section
open Go.Shelf Go.Sort
theorem a5i:Lays.n190 prog ⟨fun|190=>392|125=>100|258=>402|128=>148|129=>149|302=>408|303=>409|304=>410|305=>411|306=>412|307=>413|308=>414|309=>415|310=>416|333=>418|329=>214|330=>215|334=>419|335=>420|336=>101|344=>421|n=>n,fun|31=>343|46=>181|51=>26|53=>27|183=>258|182=>257|131=>262|218=>335|222=>338|228=>404|229=>405|n=>n,fun n=>n⟩:=by constructor<;>first|(intro w;kernel_rfl)|kernel_rfl
theorem a5h:Lays.n194 prog ⟨fun|194=>393|n=>n,fun|31=>343|n=>n,fun n=>n⟩:=by constructor<;>first|(intro w;kernel_rfl)|kernel_rfl
def sX(xs:List ByteArray):List (List UInt8):=xs.map (·.data.toList)
def HM(xs:List (List UInt8)):List ByteArray:=xs.map fun l=>⟨l.toArray⟩
theorem a00(xs:List ByteArray):HM (sX xs)=xs:=by
 unfold HM sX;rw[List.map_map];refine(List.map_congr_left fun s _=> ?_).trans (List.map_id xs);cases s;simp
theorem wB(a:List (List UInt8)):F9.row (HM a)=a.map encStr:=by rw[JF,HM,List.map_map];rfl
def lQ(xs:List ByteArray):List ByteArray:=HM ((sX xs).mergeSort fun x y=>Dc (x≤y))
def uN(xs:List ByteArray):List ByteArray:=HM (Lib.compact (sX xs))
theorem JL(xs:List ByteArray):F9.row xs=(sX xs).map encStr:=by rw[←wB,a00]
theorem L9(xs:List ByteArray):(sX xs).length=xs.length:=by simp[sX]
theorem nN(xs:List (List UInt8)):(HM xs).length=xs.length:=by simp[HM]
theorem aD(xs:List ByteArray):(lQ xs).length=xs.length:=by unfold lQ;rw[nN,List.length_mergeSort,L9]
theorem a3h(v:Va)(xs:List ByteArray)(base:Nat)(w:Wd)(E:xs.length≤1000000)(b:e4 w base 9 F9 v xs):
  Ca prog 392 #[v] w fun e d=>e=X (Tp #[])∧e4 d base 9 F9 v (lQ xs)∧w.grownBy d v.ownBlock:=by
 obtain⟨h,c,rfl,b⟩:=b;rcases b.2 with⟨i,k⟩|⟨g,cap,cur,i,q,s,l,m,o,C⟩
 ·have A:xs=[]:=List.eq_nil_of_length_eq_zero k
  subst A;have B:lQ []=[]:=List.eq_nil_of_length_eq_zero (by rw[aD];rfl);rw[B];exact(Any.slices_Sort_string_none a5i h c w).mono fun e d a=>⟨a.1,⟨h,c,rfl,by rw[a.2];exact b⟩,by rw[a.2];exact World.grownBy.refl w _⟩
 ·cases i
  have y:(Z g xs.length c)≠ Z J 0 0:=fun a=>by cases a
  obtain⟨_,_,z,_,u,_,_,D,p⟩:=Lib.holds_of_ownsRow (zs:=sX xs) (by rw[←JL];exact b) y;cases z;have t:((sX xs).mergeSort fun x f=>Dc (x≤f)).length=(sX xs).length:=List.length_mergeSort _;have:=Any.slices_Sort_string a5i g 0 c (sX xs) w p u (by rw[L9];omega);rw[L9]at this;refine this.mono fun e d⟨r,n,os,j⟩=>⟨r,⟨_,c,by rw[aD],?_⟩,by rw[j];exact grownBy_sorted _⟩
  rw[j,aD];unfold lQ;rw[wB];have:=ownsRow_sorted (base:=base) (n:=n) (os:=os) (ss:=sX xs) (ts:=(sX xs).mergeSort fun x f=>Dc (x≤f)) (cap:=c) (cur:=cur) (e:=9) (g:=g) t q s (by rw[L9];exact l) m o;rw[L9]at this;exact this
theorem MQ(v:Va)(xs:List ByteArray)(base:Nat)(w:Wd)(F:xs.length≤1000000)(b:e4 w base 9 F9 v xs):
  Ca prog 393 #[v] w fun e d=>∃v',e=X v'∧e4 d base 9 F9 v' (uN xs)∧w.grownBy d v.ownBlock:=by
 obtain⟨i,c,rfl,b⟩:=b;rcases b.2 with⟨l,n⟩|⟨g,cap,cur,l,A,B,o,x,y,z⟩
 ·have u:xs=[]:=List.eq_nil_of_length_eq_zero n
  subst u;exact(Any.slices_Compact_string_empty a5h i c w).mono fun e d a=>⟨_,a.1,⟨i,c,rfl,by rw[a.2];exact b⟩,by rw[a.2];exact World.grownBy.refl w _⟩
 ·cases l
  have f:(Z g xs.length c)≠ Z J 0 0:=fun a=>by cases a
  have h:=b;rw[JL]at h;obtain⟨_,_,t,_,E,_,_,D,p⟩:=Lib.holds_of_ownsRow (zs:=sX xs) h f;cases t;have s:=Lib.compact_length_le (sX xs);rw[L9]at s;have:=Any.slices_Compact_string a5h g 0 c (sX xs) w p (by rw[L9];omega) (by rw[L9];exact o);rw[L9]at this;refine this.mono fun e d⟨r,q,m⟩=>⟨_,r,⟨_,c,by unfold uN;rw[nN],?_⟩,?_⟩
  ·rw[m]
   unfold uN;rw[wB,nN];have j:=Lib.ownsRow_putRow (q:=q) (k:=(Lib.compact (sX xs)).length) (ys:=Lib.compact (sX xs)++a2A (xs.length-(Lib.compact (sX xs)).length) []) h (by simp;omega) (by omega);rw[List.take_left]at j;exact j
  ·rw[m]
   refine⟨rfl,rfl,rfl,by simp[putRow,mapBlock,Sort.ahead],fun k C f=> ?_⟩;have:g≠k:=fun e=>f (by rw[e];rfl)
   simp[putRow,mapBlock,Sort.ahead,Array.getElem?_modify,this]
end
abbrev E9:=ByteArray×Int×Int×Int×Int×Int×Int
def J8:List E9:=[(⟨#[98,105,110,100]⟩,49,361,49,282,200,200),(⟨#[98,112,102]⟩,321,357,321,386,280,280),(⟨#[98,114,107]⟩,12,45,12,45,214,214),(⟨#[99,108,111,99,107,95,115,101,116,116,105,109,101]⟩,227,264,227,262,112,112),(⟨#[99,108,111,110,101]⟩,56,120,56,120,220,220),(⟨#[99,108,111,110,101,51]⟩,435,435,-1,435,435,435),(⟨#[99,108,111,115,101]⟩,3,6,3,6,57,57),(⟨#[99,111,110,110,101,99,116]⟩,42,362,42,283,203,203),(⟨#[100,101,108,101,116,101,95,109,111,100,117,108,101]⟩,176,129,176,129,106,106),(⟨#[101,120,101,99,118,101]⟩,59,11,520,11,221,221),(⟨#[101,120,105,116]⟩,60,1,60,1,93,93),(⟨#[102,105,110,105,116,95,109,111,100,117,108,101]⟩,313,350,313,379,273,273),(⟨#[102,111,114,107]⟩,57,2,57,2,-1,-1),(⟨#[103,101,116,117,105,100]⟩,102,24,102,24,174,174),(⟨#[105,110,105,116,95,109,111,100,117,108,101]⟩,175,128,-1,128,105,105),(⟨#[105,111,99,116,108]⟩,16,54,514,54,29,29),(⟨#[107,105,108,108]⟩,62,37,62,37,129,129),(⟨#[108,105,115,116,101,110]⟩,50,363,50,284,201,201),(⟨#[109,109,97,112]⟩,9,90,9,-1,222,222),(⟨#[109,111,117,110,116]⟩,165,21,165,21,40,40),(⟨#[109,112,114,111,116,101,99,116]⟩,10,125,10,125,226,226),(⟨#[109,117,110,109,97,112]⟩,11,91,11,91,215,215),(⟨#[111,112,101,110]⟩,2,5,2,5,-1,-1),(⟨#[111,112,101,110,97,116]⟩,257,295,257,322,56,56),(⟨#[112,101,114,115,111,110,97,108,105,116,121]⟩,135,136,135,136,92,92),(⟨#[112,107,101,121,95,109,112,114,111,116,101,99,116]⟩,329,380,329,394,288,-1),(⟨#[112,116,114,97,99,101]⟩,101,26,521,26,117,117),(⟨#[114,101,97,100]⟩,0,3,0,3,63,63),(⟨#[114,101,98,111,111,116]⟩,169,88,169,88,142,142),(⟨#[115,99,104,101,100,95,115,101,116,97,116,116,114]⟩,314,351,314,380,274,274),(⟨#[115,99,104,101,100,95,115,101,116,115,99,104,101,100,117,108,101,114]⟩,144,156,144,156,119,119),(⟨#[115,101,99,99,111,109,112]⟩,317,354,317,383,277,277),(⟨#[115,101,116,110,115]⟩,308,346,308,375,268,268),(⟨#[115,101,116,116,105,109,101,111,102,100,97,121]⟩,164,79,164,79,170,170),(⟨#[115,101,116,117,105,100]⟩,105,23,105,23,146,146),(⟨#[115,104,109,97,116]⟩,30,397,-1,305,196,196),(⟨#[115,111,99,107,101,116]⟩,41,359,41,281,198,198),(⟨#[117,109,111,117,110,116,50]⟩,166,52,166,52,39,39),(⟨#[117,110,115,104,97,114,101]⟩,272,310,272,337,97,97),(⟨#[119,114,105,116,101]⟩,1,4,1,4,64,64)]
def E9.cells(c:E9):List Va:=[Y c.1,I M c.2.1,I M c.2.2.1,I M c.2.2.2.1,I M c.2.2.2.2.1,I M c.2.2.2.2.2.1,I M c.2.2.2.2.2.2]
def mO:Array Va:=(J8.flatMap E9.cells).toArray
theorem QJ(W:Wd):Ca prog 236 #[] W fun e f=>e=X (Ag mO)∧a9 W f:=by
 have c:∀v∈mO.toList,v.oneCell'=Bt:=by
  have:mO.toList.all (·.oneCell')=Bt:=by kernel_rfl
  exact List.all_eq_true.1 this
 go_in;have b:∀x:Array Va,b9 (W.alloc (U x 355)) W 355 x:=fun x=>b9.new _ _ _
 go_wp2_with(first|(refine a2n rfl 355 _ rfl mO (by kernel_rfl) ?_)|(refine c7 rfl 355 (Tm 0) (Tm 81) rfl W 355 zeroCells355 mO rfl rfl (b _) (by kernel_rfl) (by kernel_rfl) c ?_;intro g a d))
 exact Bp (g0 rfl _ _ _ _ _ _ rfl a underlying355 rfl (by kernel_rfl)) rfl ⟨rfl,((a9.refl W).alloc _).grown d (fun k e=>by cases e;exact a7 _)⟩
def uS:p6 E9:=⟨7,E9.cells,fun _=>rfl,fun x u a=>by simp[E9.cells]at a;rcases a with rfl|rfl|rfl|rfl|rfl|rfl|rfl<;>rfl⟩
theorem DM(c:E9)(s:ByteArray)(g:Nat)(W:Wd)(h:W.cell? ⟨g,0,J⟩=So (Y s)):
  Ca prog 175 (#[Ag c.cells.toArray]++ #[K g]) W fun e j=>e=X (O (c.1.toList==s.toList))∧a9 W j:=by
 obtain⟨n,a,b,c,d,e,f⟩:=c;have i:=(a9.refl W).alloc (U #[Y n,I M a,I M b,I M c,I M d,I M e,I M f] 280);have k:=i.cell h;have l:g≠W.heap.size:=Nat.ne_of_lt (block_lt_of_cell h);show Ca prog 175 #[Ag #[Y n,I M a,I M b,I M c,I M d,I M e,I M f],K g] W _;go_in;go_wp2;go_ret;exact⟨rfl,i⟩
theorem xV(c:E9)(s:ByteArray)(g:Nat)(W:Wd)(h:W.cell? ⟨g,0,J⟩=So (Y s)):
  Ca prog 378 (#[Ag c.cells.toArray]++ #[K g]) W fun e j=>e=X (O (c.1.toList==s.toList))∧a9 W j:=by
 obtain⟨n,a,b,c,d,e,f⟩:=c;have i:=(a9.refl W).alloc (U #[Y n,I M a,I M b,I M c,I M d,I M e,I M f] 280);have k:=i.cell h;have l:g≠W.heap.size:=Nat.ne_of_lt (block_lt_of_cell h);show Ca prog 378 #[Ag #[Y n,I M a,I M b,I M c,I M d,I M e,I M f],K g] W _;go_in;go_wp2;go_ret;exact⟨rfl,i⟩
def a4K:E9:=(⟨#[]⟩,0,0,0,0,0,0)
def aR(p:E9→Bool):E9×Bool:=match J8.find? p with
 |some c=>(c,Bt)
 |none=>(a4K,Bf)
theorem uR(p:E9→Bool)(g:Nat)(lb:Array Va)(ad:∀args w,(callFunc g args).run prog w= .ok (.enter g args) w)(W:Wd)(ai:V2 prog g lb (fun x=>Ag (uS.c x).toArray) p W J8):
  Ca prog 174 #[Fc (.func g) #[] lb] W fun e q=>e=X (Tp #[Ag (aR p).1.cells.toArray,O (aR p).2])∧a9 W q:=by
 have T:=a6 QJ;have ah:∀v∈mO.toList,v.oneCell'=Bt:=uS.row_oneCell J8;obtain⟨ab,aa⟩:=i6 (fun w G c(aj:a9 W w)(af:h9 w (So ⟨G,0,J⟩) (uS.row J8))=>(ixQ a1o uS (by decide) isAgg280 sizeOf280 p g lb ad _ 40 c J8 w (ai.h aj) rfl (by decide) af:Ca prog 237 #[Z (So ⟨G,0,J⟩) 40 c,Fc (.func g) #[] lb] w fun e q=>e=X (I M (Z7 p J8 0))∧a9 w q)) (kU p J8 0);have ax:J8.length=40:=rfl;have ae:mO.toList=uS.row J8:=rfl;obtain⟨R,a⟩:∃R,R=aR p:=⟨_,rfl⟩;rw[←a];unfold aR at a;have f:=a6 a;clear a;generalize mO=ac at*;generalize J8=y at*;generalize Z7 p y 0=ao at*;go_in;have ak:=(a9.refl W).alloc (U #[Y ⟨#[]⟩,I M 0,I M 0,I M 0,I M 0,I M 0,I M 0] 280);have S:=b9.new W 280 #[Y ⟨#[]⟩,I M 0,I M 0,I M 0,I M 0,I M 0,I M 0];go_wp2_with fail
 apply(T _).mono;rintro e s⟨rfl,m⟩;have L:=ak.trans m;have ag:∀x:Array Va,b9 (s.alloc (U x 355)) s 355 x:=fun x=>b9.new _ _ _
 go_wp2_with(refine c7 rfl 355 (Tm 4) (Tm 6) rfl s 355 _ ac rfl rfl (ag _) (by kernel_rfl) (by kernel_rfl) ah ?_;intro ba Q H)
 have N:=(L.alloc (U _ 355)).grown H (fun k e=>by cases e;exact L.size);have u:=h9.f Q ae;apply(ab _ _ 40 N u).mono;rintro e am⟨rfl,o⟩;have P:=N.trans o;have al:a9 (W.alloc (U #[Y ⟨#[]⟩,I M 0,I M 0,I M 0,I M 0,I M 0,I M 0] 280)) am:=((m.alloc (U _ 355)).grown H (fun k e=>by cases e;exact m.size)).trans o;have t:=S.h al;rcases aa.out with⟨k,d,i,az,h⟩|⟨i,h⟩
 ·have a:=f.out
  rw[h]at a;replace f:=a6 a;clear a h;rw[a4E]at i;subst i;have b:=u.h o;have z:=b.elt0 d (r:=0) rfl;have A:=b.elt0 d (r:=1) rfl;have B:=b.elt0 d (r:=2) rfl;have C:=b.elt0 d (r:=3) rfl;have D:=b.elt0 d (r:=4) rfl;have E:=b.elt0 d (r:=5) rfl;have F:=b.elt0 d (r:=6) rfl;dsimp only[uS,a4z]at z A B C D E F;have ay:(k:Int)<40:=by omega
  generalize y[k]=c at*;obtain⟨n,ap,aq,ar,au,av,aw⟩:=c;dsimp only at z A B C D E F;go_wp2_with(refine c7 rfl 280 (Tm 2) (Tm 15) rfl W _ _ _ rfl rfl t rfl (by kernel_rfl) (by simp[Value.oneCell']) ?_;intro an j l)
  exact Bp (h7 rfl _ _ _ _ _ _ rfl j underlying280 rfl (by kernel_rfl)) rfl ⟨by rw[f.out];rfl,P.grown l (fun k e=>by cases e;exact a7 _)⟩
 ·have a:=f.out
  rw[h]at a;replace f:=a6 a;clear a h;subst i;go_wp2_with(refine c7 rfl 280 (Tm 2) (Tm 12) rfl W _ _ _ rfl rfl t rfl (by kernel_rfl) (by simp[Value.oneCell']) ?_;intro an j l)
  exact Bp (h7 rfl _ _ _ _ _ _ rfl j underlying280 rfl (by kernel_rfl)) rfl ⟨by rw[f.out];rfl,P.grown l (fun k e=>by cases e;exact a7 _)⟩
def I3(s:ByteArray):Bool:=(aR fun c=>c.1.toList==s.toList).2
theorem hC(s:ByteArray)(W:Wd):Ca prog 119 #[Y s] W fun e k=>e=X (O (I3 s))∧a9 W k:=by
 have i:=(a9.refl W).alloc (U #[Y s] 9);have g:=a6 (uR (fun c=>c.1.toList==s.toList) 175 #[K W] (Eo func175 (by kernel_rfl) rfl) (W.alloc (U #[Y s] 9)) (fun c _ W2 h=>DM c s W W2 (h.cell (by simp))));unfold I3;generalize aR _=R at*;obtain⟨⟨n,a,b,c,d,e,f⟩,q⟩:=R;go_in;go_wp2_with fail
 apply g.mono;rintro e l⟨rfl,j⟩;dsimp only[E9.cells];go_wp2_with fail
 go_ret;exact⟨rfl,(i.trans j).alloc _⟩
def r3(s:ByteArray):Option (List ByteArray):=(X6.find? fun g=>g.1.toList==s.toList).map (·.2)
def a4y(B:Nat)(w:Wd)(v:Va):Option (List ByteArray)→Prop
 |none=>v=Z J 0 0
 |some l=>∃G,v=Z (So ⟨G,0,J⟩) l.length l.length∧B≤G∧h9 w (So ⟨G,0,J⟩) (F9.row l)
theorem gQ(s:ByteArray)(W:Wd):Ca prog 391 #[Y s] W fun e B=>∃v,e=X v∧a4y W B v (r3 s)∧a9 W B:=by
 obtain⟨H,D⟩:=i6 HB (show X6.length=18 from rfl);obtain⟨R,a⟩:∃R,R=r3 s:=⟨_,rfl⟩;rw[←a];unfold r3 at a;generalize X6=N at*;go_in;go_wp2_with fail
 apply(H _).mono;rintro e L⟨g,b,rfl,f,q,z,A⟩;have j:b.length=18:=by rw[←D.out,←f,a32]
 have t:R=(b.find? fun x=>x.name.toList==s.toList).map (·.has):=by
  rw[a,←f,List.find?_map,Option.map_map];rfl
 clear a;obtain⟨n,C,E,F⟩:=J5 q z j (fun k y=>eW b (fun x=>x.name.toList==s.toList) k y);clear q z f j;go_wp2_with fail
 go_loopw [7] (fun i wr=>∃k:Nat,k≤18∧i=I M k∧R=((b.drop k).find? fun x=>x.name.toList==s.toList).map (·.has)∧a9 L wr) (fun i _=>18-(intOf i).toNat)
 case atStart=>exact⟨0,by decide,rfl,t,a9.refl _⟩
 case round=>
  clear t;obtain⟨k,y,rfl,a,d⟩:=hrel;have j:=E.out;by_cases P:k<18
  ·have c:k<b.length:=by omega
   have o:=(n.h d).elt0 c (r:=0) rfl;have p:=(n.h d).elt0 c (r:=1) rfl;have h:=C _ (a30 c);rw[F k c]at a;dsimp only[a5o,a4z]at o p;generalize b[k]=x at*;obtain⟨nm,G,u⟩:=x;dsimp only at o p h a;have m:=a6 h;clear h;have l:=d.alloc (U #[Y nm,Z G u.length u.length] 498);have Q:(k:Int)<18:=by omega
   rcases w:nm.toList==s.toList with _|_
   ·rw[w]at a
    go_wp2_with fail
    go_roundw
    case rel=>exact⟨k+1,by omega,by go_num,a,l⟩
    case measure=>simp[intOf];omega
   ·rw[w]at a
    simp only[if_true,Option.map_some]at a;subst a;go_wp2_with fail
    go_ret;exact⟨_,rfl,⟨G,rfl,m.1,m.2.h l⟩,A.trans l⟩
  ·obtain rfl:k=18:=by omega
   rw[List.drop_of_length_le (by omega)]at a;subst a;go_wp2;go_ret;exact⟨_,rfl,rfl,A.trans d⟩
theorem BW(s:ByteArray)(W:Wd):Ca prog 388 #[Y s] W fun e d=>e=X (O (r3 s).isSome)∧a9 W d:=by
 have c:=a6 (gQ s);generalize r3 s=m at*;rcases m with _|l
 all_goals
  go_in;go_wp2_with fail
  apply(c _).mono;rintro e f⟨v,rfl,a,b⟩;first
   |(obtain rfl:=a;go_wp2;go_ret;exact⟨rfl,b⟩)
   |(obtain⟨G,rfl,_,_⟩:=a;go_wp2;go_ret;exact⟨rfl,b⟩)
def U4:Nat→ByteArray→Int
 |0,_=>0
 |f+1,s=>match r3 s with
  |none=>0
  |some l=>(l.foldl (fun n m=>max n (U4 f m)) 0)+1
def dU:Nat→ByteArray→Bool
 |0,_=>Bf
 |f+1,s=>match r3 s with
  |none=>Bt
  |some l=>l.all (dU f)
theorem dI{s:ByteArray}{l:List ByteArray}(a:r3 s=So l):∃g∈X6,g.2=l:=by
 obtain⟨g,b,rfl⟩:=Option.map_eq_some_iff.1 a;exact⟨g,List.mem_of_find?_eq_some b,rfl⟩
theorem qX(s:ByteArray):dU 8 s=Bt:=by
 have a:(X6.all fun g=>g.2.all (dU 7))=Bt:=by decide+kernel
 unfold dU;rcases c:r3 s with _|l
 ·rfl
 ·obtain⟨g,b,rfl⟩:=dI c
  exact List.all_eq_true.1 a g b
theorem mB{s:ByteArray}{l:List ByteArray}(a:r3 s=So l):l.length≤8:=by
 have b:(X6.all fun g=>Dc (g.2.length≤8))=Bt:=by decide+kernel
 obtain⟨g,c,rfl⟩:=dI a;exact of_decide_eq_true (List.all_eq_true.1 b g c)
theorem CC{c:Type}(g:c→Int)(b:Int)(a:∀m,0≤g m∧g m≤b):∀(l:List c)(x:Int),0≤x→x≤b→0≤l.foldl (fun n m=>max n (g m)) x∧l.foldl (fun n m=>max n (g m)) x≤b
 |[],x,h0,h1=>⟨h0,h1⟩
 |m::r,x,h0,h1=>CC g b a r (max x (g m)) (by have:=a m;omega) (by have:=a m;omega)
theorem DE:∀(f:Nat)(s:ByteArray),0≤U4 f s∧U4 f s≤f
 |0,s=>⟨Int.le_refl _,Int.le_refl _⟩
 |f+1,s=>by
  unfold U4;rcases r3 s with _|l
  ·dsimp only;omega
  ·have:=CC (U4 f) f (DE f) l 0 (Int.le_refl _) (by omega)
   dsimp only;omega
theorem KR:∀(f:Nat)(L:f≤100)(s:ByteArray),dU f s=Bt→∀W,Ca prog 389 #[Y s] W fun e P=>e=X (I M (U4 f s))∧a9 W P
 |0,_,s,h,W=>by cases h
 |f+1,L,s,h,W=>by
  obtain⟨p,c⟩:=i6 (gQ s) (BW s);have ih:=KR f (by omega);have t:=DE f;unfold dU at h;unfold U4;rcases g:r3 s with _|l
  ·rw[g]at c
   go_in;go_wp2_with fail
   apply(c _).mono;rintro e Q⟨rfl,b⟩;go_wp2;go_ret;exact⟨rfl,b⟩
  ·rw[g]at c p h
   have ac:=mB g;obtain⟨z,A,y,D⟩:=J5 (List.all_eq_true.1 h) ih t (fun k(u:k<l.length)(x:Int)=>show(l.drop k).foldl (fun n m=>max n (U4 f m)) x=(l.drop (k+1)).foldl (fun n m=>max n (U4 f m)) (max x (U4 f l[k])) by rw[List.drop_eq_getElem_cons u];rfl);obtain⟨R,a⟩:∃R,R=l.foldl (fun n m=>max n (U4 f m)) 0:=⟨_,rfl⟩;dsimp only;rw[←a];clear h ih t g;go_in;go_wp2_with fail
   apply(c _).mono;rintro e Q⟨rfl,b⟩;go_wp2_with fail
   apply(p _).mono;rintro e S⟨v,rfl,N,j⟩;obtain⟨G,rfl,_,q⟩:=N;have B:=a6 q;clear q;replace b:=b.trans j;go_wp2_with fail
   go_loopw [3,12] (fun n i wr=>∃(k:Nat)(x:Int),k≤l.length∧i=I M k∧n=I M x∧0≤x∧x≤f∧R=(l.drop k).foldl (fun n m=>max n (U4 f m)) x∧a9 W wr∧a9 S wr) (fun _ i _=>l.length-(intOf i).toNat)
   case atStart=>exact⟨0,0,by omega,rfl,rfl,by omega,by omega,a,b,a9.refl _⟩
   case round=>
    clear a b;obtain⟨k,x,u,rfl,rfl,T,aa,a,b,j⟩:=hrel;by_cases o:k<l.length
    ·have E:=(B.h j).elt0 o (r:=0) rfl
     simp only[F9,a4z,Nat.mul_one]at E;rw[D k o]at a;have F:=A _ (z _ (a30 o));have ab:=y l[k];generalize l[k]=m at*;generalize U4 f m=d at*;have C:=a6 a;clear a;go_wp2_with fail
     apply(F _).mono;rintro e ae⟨rfl,w⟩;go_wp2_with fail
     go_roundw
     case rel=>exact⟨k+1,_,by omega,by go_num,rfl,by omega,by omega,C.out,b.trans w,j.trans w⟩
     case measure=>simp[intOf];omega
    ·obtain rfl:k=l.length:=by omega
     rw[List.drop_of_length_le (by omega)]at a;have H:R=x:=a;clear a;subst H;have ad:IntKind.i64.wrap (R+1)=R+1:=a37 _ (by omega);go_wp2;go_ret;exact⟨rfl,b⟩
def cH:Nat→ByteArray→List ByteArray
 |0,_=>[]
 |f+1,s=>match r3 s with
  |none=>[]
  |some l=>l.flatMap fun m=>if Lib.hasPrefix m.data.toList [64]then cH f m else if I3 m then [m]else []
def hH:ByteArray:=⟨#[64]⟩
def O9(f:Nat)(m:ByteArray):List ByteArray:=if Lib.hasPrefix m.data.toList [64]then cH f m else if I3 m then [m]else []
theorem KQ:∀(f:Nat)(ba:f≤8)(s:ByteArray),dU f s=Bt→∀(n bo base:Nat)(v:Va)(xs:List ByteArray)(g:xs.length+(cH f s).length≤1000000)(w:Wd),b9 w n 277 #[Fc (.func 390) #[] #[K n,K bo]]→b9 w bo 343 #[v]→e4 w base 9 F9 v xs→base≤w→
  Ca prog 390 #[Y s,K n,K bo] w fun e D=>e=X (Tp #[])∧∃v',b9 D bo 343 #[v']∧e4 D base 9 F9 v' (xs++cH f s)∧MV (jY bo v) w (jY bo v') D
 |0,_,s,b,n,bo,base,v,xs,g,w,hbi,hbo,ho,hbase=>by cases b
 |f+1,ba,s,b,n,bo,base,v,xs,g,w,hbi,hbo,ho,hbase=>by
  have u:=a6 (gQ s);have ih:=KQ f (by omega);unfold dU at b;unfold cH at g⊢;rcases z:r3 s with _|l
  ·rw[z]at u
   go_in;go_wp2_with fail
   apply(u _).mono;rintro e E⟨_,rfl,rfl,d⟩;go_wp2_with fail
   go_loopw [9] (fun i wr=>i=I M 0∧wr=E) (fun _ _=>0)
   case atStart=>exact⟨rfl,rfl⟩
   case round=>
    obtain⟨rfl,rfl⟩:=hrel;go_wp2_with fail
    go_end0
    exact⟨rfl,v,hbo.h d,by rw[List.append_nil];exact ho.h d,.f d⟩
  ·rw[z]at u b g
   dsimp only at g⊢
   change xs.length+(l.flatMap (O9 f)).length≤1000000 at g
   have an:=a6 g;have bt:=mB z;obtain⟨ag,ah,ai,ak⟩:=J5 (List.all_eq_true.1 b) ih hC (fun s W=>bC s hH W);have bs:(⟨#[64]⟩:ByteArray)=hH:=rfl;have ac:∀k(q:k<l.length),((l.take k).flatMap (O9 f)).length+(O9 f l[k]).length≤(l.flatMap (O9 f)).length:=fun k q=>by
    have e:l.flatMap (O9 f)=(l.take (k+1)).flatMap (O9 f)++(l.drop (k+1)).flatMap (O9 f):=by rw[←List.flatMap_append,List.take_append_drop]
    rw[e,a4a q,List.flatMap_append,a2e,a2e];simp
   obtain⟨am,al⟩:=i6 ac (fun k(q:k<l.length)=>show(l.take (k+1)).flatMap (O9 f)=(l.take k).flatMap (O9 f)++O9 f l[k] by rw[a4a q,List.flatMap_append];simp);clear b ih z g ac;generalize ax:hH=S at*;go_in;go_wp2_with fail
   apply(u _).mono;rintro e E⟨_,rfl,⟨G,rfl,br,H⟩,d⟩;have aj:=a6 H;clear H;have ay:=hbo.h d;have bc:=hbi.h d;have bf:=ho.h d;have be:¬jY bo v G:=fun b=>by
    rcases b with rfl|b
    ·exact absurd hbo.lt (by omega)
    ·have:=(ho.lt b).2;omega
   go_wp2_with fail
   go_loopw [9] (fun i wr=>∃(k:Nat)(v':Va),k≤l.length∧i=I M k∧b9 wr bo 343 #[v']∧e4 wr base 9 F9 v' (xs++(l.take k).flatMap (O9 f))∧MV (jY bo v) E (jY bo v') wr) (fun i _=>l.length-(intOf i).toNat)
   case atStart=>exact⟨0,v,by omega,rfl,ay,by simpa using bf,.refl _ _⟩
   case round=>
    obtain⟨k,v',q,rfl,p,t,j⟩:=hrel;by_cases x:k<l.length
    ·have ap:=(j.inM aj (fun a av=>by cases av;exact be)).elt0 x (r:=0) rfl
     simp only[F9,a4z,Nat.mul_one]at ap;have P:=j.blk bc (fun b=>by
      rcases b with b|b
      ·exact hbi.ne hbo (by decide) b
      ·exact ho.ne hbi (by decide) b)
     have L:=al k x;have au:=am k x;have ar:=ah _ (ag _ (a30 x));generalize l[k]=m at*;have y:(xs++(l.take k).flatMap (O9 f)).length+(O9 f m).length≤1000000:=by have:=an.out;rw[a2e];omega
     generalize(l.take k).flatMap (O9 f)=ys at*;have A:=a6 L;clear L au;have c:O9 f m=if Lib.hasPrefix m.data.toList S.data.toList then cH f m else if I3 m then [m]else []:=by rw[←ax];rfl
     have bm:=P.cell 0;have aq:=p.cell 0;go_wp2_with fail
     apply(ak m _).mono;rintro e F⟨rfl,rfl⟩;rcases aa:Lib.hasPrefix m.data.toList S.data.toList with _|_
     ·rw[aa]at c
      go_wp2_with fail
      apply(ai m _).mono;rintro e F⟨rfl,o⟩;rcases Q:I3 m with _|_
      ·rw[Q]at c
       have h:=a6 c;clear c;go_wp2_with fail
       go_roundw
       case rel=>exact⟨k+1,v',by omega,by go_num,p.h o,by rw[A.out,h.out];simpa using t.h o,j.h o⟩
       case measure=>simp[intOf];omega
      ·rw[Q]at c
       simp only[a4x,if_false,if_true]at c;have h:=a6 c;clear c;have N:=p.h o;have ab:=t.h o;have R:=j.h o;have bn:=N.cell 0;have C:(xs++ys).length+1≤1000000:=by have:=h.out;rw[this]at y;simpa using y
       have B:base≤F.heap.size:=c8 hbase (c8 d.size R.size);generalize ad:xs++ys=zs at*;have ao:=a6 ad;clear ad;go_wp2_with(at_builtin;refine j3 rfl (Tm 20) (Tm 22) 343 9 rfl a57 base _ zs rfl (ab.h ((a9.refl _).alloc _)) _ 1 1 [m] rfl rfl (fF (by simp) rfl) C (c8 B (by simp)) ?_;intro af bk T bu bb aw;obtain⟨ae,bh,bi,bj⟩:=xW (by decide) (N.h ((a9.refl _).alloc _)) (ab.h ((a9.refl _).alloc _)) (MV.f ((a9.refl F).alloc _)) T bb aw;have bp:=ae.cell 0;have bq:=ae.frozen 0;obtain⟨bl,bv,aq,rfl⟩:=T.f)
       go_roundw
       case rel=>exact⟨k+1,_,by omega,by go_num,bh,by rw[A.out,h.out,←a4s,ao.out];exact bi,R.trans bj⟩
       case measure=>simp[intOf];omega
     ·rw[aa]at c
      have h:=a6 c;clear c;have C:(xs++ys).length+(cH f m).length≤1000000:=by have:=h.out;simp only[if_true]at this;rw[this]at y;exact y
      have B:base≤wr.heap.size:=c8 hbase (c8 d.size j.size);go_wp2_with fail
      apply(ar n bo base v' _ C _ P p t B).mono;rintro e bk⟨rfl,af,az,bg,bd⟩;go_wp2_with fail
      go_roundw
      case rel=>exact⟨k+1,af,by omega,by go_num,az,by rw[A.out,h.out,←a4s];exact bg,j.trans bd⟩
      case measure=>simp[intOf];omega
    ·obtain rfl:k=l.length:=by omega
     rw[List.take_of_length_le (by omega)]at t;go_wp2_with fail
     go_end0
     exact⟨rfl,v',p,t,(MV.f d).trans j⟩
end Go.Proofs.YtiomenjfmagknaaGreat
