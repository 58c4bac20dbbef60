/- A part of the proof of TopSame: lemmas on the walks of its calls. -/
import Derived.Test.YtiomenjfmagknaaGreatM22
set_option maxHeartbeats 12000000
set_option linter.all false
set_option maxRecDepth 100000
namespace Go.Proofs.YtiomenjfmagknaaGreat
open Go.RowKit Go.ChangeShapes Go.WideShapes Tryz
open Bool renaming true→Bt,false→Bf
open Decidable renaming decide→Dc
open Ending renaming returned→X
open Go renaming World→Wd,Value→Va,Calls→Ca,callsIn_wide→Cw,undef→Un,bodyPost_ret→Bp,TypeId→Ti,Addr→Ad,Program→Pg,strOfNums→Sn,callsIn_of_wp_marks→Cm,CallsIn→Ci
open Go.Proofs renaming enters_of→Eo
open IntKind renaming i64→M,u32→V,u64→U6,u8→U8
open Lib renaming hid→a6
open List renaming length_cons→a3W,getElem_mem→a30,length_map→a32,take_succ_eq_append_getElem→a4a,length_take→a4C,map_append→a4F
open Nat renaming le_refl→a7,le_trans→c8,reduceAdd→l9,zero_le→i5,add_zero→a4z,reduceSub→a4D,zero_add→a4E
open Obj renaming cells→U
open Operand renaming tmp→Tm
open Option renaming none→J,some→So
open Value renaming int→I,slice→Z,string→Y,pointer→K,bool→O,func→Fc,tuple→Tp,agg→Ag
theorem cV:∀a b:List (Nat×ByteArray),J2 (a++b)=J2 a+J2 b
 |[],b=>by simp[J2]
 |x::a,b=>by simp only[List.cons_append,J2,cV a b];omega
theorem uI(n:Nat)(t:ByteArray):J2 (aQ n t)≤t.size+1:=by
 unfold aQ;split
 ·exact i5 _
 ·have:=fX t
  simp only[J2];omega
theorem MJ(σ:QU)(x:Nat×ByteArray):J2 (H8 σ x).1+(H8 σ x).2.2.size≤J2 σ.1+σ.2.2.size+(x.2.size+1):=by
 unfold H8;split
 ·omega
 ·split
  ·have:=eK x.2
   dsimp only;simp only[ByteArray.size_append];have:(⟨#[32]⟩:ByteArray).size=1:=rfl;omega
  ·have:=uI (AP σ x) (σ.2.2++x.2)
   rw[ByteArray.size_append]at this;dsimp only;rw[cV];have:(⟨#[]⟩:ByteArray).size=0:=rfl;omega
theorem uC:∀(l:List (Nat×ByteArray))(σ:QU),J2 (l.foldl H8 σ).1+(l.foldl H8 σ).2.2.size≤J2 σ.1+σ.2.2.size+J2 l
 |[],σ=>by simp[J2]
 |x::r,σ=>by
  have a:=MJ σ x;have b:=uC r (H8 σ x);simp only[List.foldl_cons,J2];omega
theorem EZ(s:ByteArray):J2 (cZ s)≤s.size+2:=by
 have a:=uC (n0 s) ([],0,⟨#[]⟩);have b:=fY s.size 1 s
 change J2 (n0 s)≤_ at b
 change J2 (p9 (n0 s)).1+(p9 (n0 s)).2.2.size≤0+0+J2 (n0 s)at a
 have c:=uI (p9 (n0 s)).2.1 (p9 (n0 s)).2.2;unfold cZ;rw[cV];omega
theorem EY(s:ByteArray):J2 (G0 s).1≤s.size+2:=by
 unfold G0;split
 ·exact i5 _
 ·split
  ·exact i5 _
  ·exact EZ s
theorem jP(s:ByteArray):(J0 s).2.1.size≤s.size:=by
 unfold J0;dsimp only;split
 ·exact c8 (fX _) (eZ s 61).2
 ·exact i5 _
theorem jI(a b:List m6):x1 (a++b)=x1 a+x1 b:=by simp[x1]
theorem GJ(a:ByteArray)(σ:US)(l:Nat×ByteArray):x1 (C6 a σ l).all≤x1 σ.all+2*(l.2.size+1):=by
 unfold C6;split
 ·exact Nat.le_add_right _ _
 ·split
  ·have:=jP l.2
   dsimp only;rw[jI];simp[x1];omega
  ·exact Nat.le_add_right _ _
theorem qN(a:ByteArray):∀(b:List (Nat×ByteArray))(σ:US),x1 (b.foldl (C6 a) σ).all≤x1 σ.all+2*J2 b
 |[],σ=>by simp[J2]
 |x::r,σ=>by
  have c:=GJ a σ x;have d:=qN a r (C6 a σ x);simp only[List.foldl_cons,J2];omega
theorem GI(d:ByteArray)(σ:US)(l:Nat×ByteArray)(B:Nat)(e:l.2.size≤B)(c:∀a∈σ.all,a.val.size≤B):∀a∈(C6 d σ l).all,a.val.size≤B:=by
 unfold C6;split
 ·exact c
 ·split
  ·intro a b
   rcases List.mem_append.1 b with b|b
   ·exact c a b
   ·rw[List.mem_singleton.1 b]
    exact c8 (jP l.2) e
  ·exact c
theorem qM(b:ByteArray)(B:Nat):∀(c:List (Nat×ByteArray))(σ:US),(∀x∈c,x.2.size≤B)→(∀a∈σ.all,a.val.size≤B)→∀a∈(c.foldl (C6 b) σ).all,a.val.size≤B
 |[],σ,_,h=>h
 |x::r,σ,hl,h=>qM b B r _ (fun e d=>hl e (List.mem_cons_of_mem _ d)) (GI b σ x B (hl x List.mem_cons_self) h)
theorem AK(f b:ByteArray):x1 (A8 f b).1≤2*(b.size+2):=by
 have a:=qN f (G0 b).1 ⟨⟨#[]⟩,Bf,[],[]⟩;have d:=EY b;have c:x1 ([]:List m6)=0:=rfl;unfold A8;dsimp only;split
 ·split
  ·simp[x1]
  ·dsimp only at a⊢
   omega
 ·simp[x1]
theorem vW(b:ByteArray):∀x∈(G0 b).1,x.2.size≤b.size+1:=by
 unfold G0;split
 ·intro x a;cases a
 ·split
  ·intro x a;cases a
  ·exact iG b
theorem AJ(f b:ByteArray):∀a∈(A8 f b).1,a.val.size≤b.size+1:=by
 have d:=qM f (b.size+1) (G0 b).1 ⟨⟨#[]⟩,Bf,[],[]⟩ (vW b) (fun a c=>by cases c);unfold A8;dsimp only;split
 ·split
  ·intro a c;cases c
  ·exact d
 ·intro a c;cases c
def j1(l:List g3):Nat:=(l.map fun f=>f.data.length).sum
theorem cX(xs:List Int):(Sn xs).size=xs.length:=by simp[Sn,ByteArray.size]
theorem mA:∀l:List g3,x1 (F0 l)≤2*j1 l+4*l.length
 |[]=>a7 _
 |f::l=>by
  have c:=mA l;have b:=AK f.name (Sn f.data);rw[cX]at b;have e:F0 (f::l)=(A8 f.name (Sn f.data)).1++F0 l:=by simp[F0]
  have a:j1 (f::l)=f.data.length+j1 l:=by simp[j1]
  rw[e,jI,a,a3W];omega
theorem K3(f:g3)(l:List g3):j1 (f::l)=f.data.length+j1 l:=by simp[j1]
theorem I0(a b:List g3):j1 (a++b)=j1 a+j1 b:=by simp[j1]
theorem tE:∀(l:List g3),∀f∈l,f.data.length≤j1 l
 |x::l,f,hf=>by
  rw[K3];rcases List.mem_cons.1 hf with h|h
  ·rw[h];omega
  ·have:=tE l f h;omega
theorem FB{a b:List g3}(h:a.Perm b):j1 a=j1 b:=(h.map fun f:g3=>f.data.length).sum_nat
theorem tC:∀(l:List g3)(i:Nat)(x:g3),j1 (l.set i x)≤j1 l+x.data.length
 |[],_,x=>by simp[j1]
 |y::l,0,x=>by simp only[List.set_cons_zero,K3];omega
 |y::l,i+1,x=>by
  have:=tC l i x;simp only[List.set_cons_succ,K3];omega
theorem tD(l:List g3)(x:g3):j1 (P8 g3.name l x)≤j1 l+x.data.length:=by
 unfold P8;split
 ·rw[I0];simp[j1]
 ·exact tC _ _ _
theorem FA(l:List g3)(x:g3):j1 (O8 l x)≤j1 l+x.data.length:=by
 unfold O8;split
 ·exact tD l x
 ·split
  ·exact tD l x
  ·omega
theorem lR:∀(ds l:List g3),j1 (ds.foldl O8 l)≤j1 l+j1 ds
 |[],l=>by simp[j1]
 |x::ds,l=>by
  have a:=FA l x;have b:=lR ds (O8 l x);simp only[List.foldl_cons,K3];omega
theorem zN(u:g3)(ds:List g3):j1 (x7 u ds).1≤u.data.length+j1 ds:=by
 unfold x7;split
 ·simp[j1]
 ·split
  ·simp[j1]
  ·have a:=FB (G8 _ (vO g3.name) (G3 ds))
   have b:=lR ds [];show j1 (u::zM (G3 ds))≤_;rw[K3];unfold zM;rw[a];have:j1 ([]:List g3)=0:=rfl;unfold G3;omega
theorem AZ(l:List g3):∀a∈F0 l,a.val.size≤j1 l+1:=fun a c=>by
 obtain⟨f,d,b⟩:=List.mem_flatMap.1 c;have:=AJ _ _ a b;rw[cX]at this;have:=tE l f d;omega
theorem pX(u:g3)(ds:List g3):(l5 u ds).1.length≤17017∧x1 (l5 u ds).1≤2*(u.data.length+j1 ds)+68∧∀a∈(l5 u ds).1,a.val.size≤u.data.length+j1 ds+1:=by
 have d:=zN u ds;have e:=gF u ds;have f:=eQ (x7 u ds).1;have g:=mA (x7 u ds).1;have c:=AZ (x7 u ds).1;unfold l5;split
 ·exact⟨i5 _,by simp[x1],fun a b=>by cases b⟩
 ·split
  ·exact⟨i5 _,by simp[x1],fun a b=>by cases b⟩
  ·exact⟨by dsimp only;omega,by dsimp only;omega,fun a b=>by have:=c a b;omega⟩
def z6(a:Bool)(u:g3)(ds:List g3):List J1×List i0:=
 if(l5 u ds).2.length=0 then
  if r0 (i9 (l5 u ds).1).2 then([],(i9 (l5 u ds).1).2)
  else if y9 (i9 (l5 u ds).1).1 then(z8 a (i9 (l5 u ds).1).1,(i9 (l5 u ds).1).2)
  else([],(i9 (l5 u ds).1).2++[⟨u.name,0,2,⟨#[]⟩⟩])
 else([],(l5 u ds).2)
structure vB(l:List J1):Prop where
 len:l.length≤43
 pl:∀x∈l,x.d=0∧x.a=6∨(0<x.d∧x.d<8)∧0≤x.a∧x.a<6
 ok:∀x∈l,vC x.ins
theorem YV{p:i1}(d:y9 p=Bt)(c:Bool):vB (z8 c p):=by
 refine⟨by unfold z8;rw[a32];exact AI p,fun x a=> ?_,fun x a=> ?_⟩
 ·obtain⟨e,b,rfl⟩:=List.mem_map.1 a
  have:=kM b;unfold yE at this;dsimp only;omega
 ·obtain⟨e,b,rfl⟩:=List.mem_map.1 a
  exact a3Y d c (kM b)
theorem vS:vB []:=⟨by decide,fun x h=>(by cases h),fun x h=>(by cases h)⟩
theorem nZ(a:Bool)(u:g3)(ds:List g3):vB (z6 a u ds).1:=by
 unfold z6;split
 ·split
  ·exact vS
  ·split
   ·rename_i b;exact YV b a
   ·exact vS
 ·exact vS
structure a4w(a b:List J1):Prop where
 len:b.length=a.length
 at_:∀i(h:i<a.length)(k:i<b.length),b[i].ins.length≤a[i].ins.length∧a[i].d=b[i].d∧a[i].a=b[i].a
 ev:∀d:r9,d.ok→U2 b d=U2 a d
theorem oG:a4w [] []:=⟨rfl,fun i h=>(by cases h),fun _ _=>rfl⟩
theorem IA{p:i1}(b:y9 p=Bt):a4w (z8 Bf p) (z8 Bt p):=by
 refine⟨by unfold z8;rw[a32,a32],fun i c k=> ?_,fun d a=>PP b d a⟩;simp only[z8,List.getElem_map];exact⟨a3Z p _,trivial,trivial⟩
theorem QC(u:g3)(ds:List g3):a4w (z6 Bf u ds).1 (z6 Bt u ds).1∧(z6 Bf u ds).2=(z6 Bt u ds).2:=by
 unfold z6;split
 ·split
  ·exact⟨oG,rfl⟩
  ·split
   ·rename_i h;exact⟨IA h,rfl⟩
   ·exact⟨oG,rfl⟩
 ·exact⟨oG,rfl⟩
structure PR where
 p:J1
 A:Option Ad
 c:Nat
def PR.v(x:PR):Va:=Z x.A x.p.ins.length x.c
def fM:p6 PR:=⟨3,fun x=>[I M x.p.d,I M x.p.a,x.v],fun _=>rfl,by simp[Value.oneCell',PR.v]⟩
instance :Inhabited PR:=⟨⟨⟨0,0,[]⟩,J,0⟩⟩
structure eF(w:Wd)(v:Va)(l:List J1):Prop where
 ex:∃xs:List PR,s7 w 51 fM v xs∧(∀x∈xs,s7 w 116 gN x.v x.p.ins)∧xs.map (·.p)=l
theorem eF.h{w a:Wd}{v:Va}{l:List J1}(b:eF w v l)(x:a9 w a):eF a v l:=let⟨xs,h1,h2,h3⟩:=b.ex;⟨xs,h1.h x,fun d c=>(h2 d c).h x,h3⟩
def YB(p:J1):Prop:=p.d=0∧p.a=6∨(0<p.d∧p.d<8)∧0≤p.a∧p.a<6
theorem MH(x:PR)(w:Wd)(m:YB x.p)(g:vC x.p.ins)(l:s7 w 116 gN x.v x.p.ins):
  Ca prog 28 #[Ag (fM.c x).toArray] w fun e o=>e=X (O Bt)∧a9 w o:=by
 obtain⟨⟨d,a,b⟩,f,c⟩:=x;show Ca prog _ #[Ag #[I M d,I M a,Z f b.length c]] w _;dsimp only[PR.v,YB]at*;have B:=b9.new w 51 #[I M d,I M a,Z f b.length c];have i:=(a9.refl w).alloc (U #[I M d,I M a,Z f b.length c] 51);have h:=a6 (HX f b.length c b _ rfl g.ok (by have:=g.len;omega) (l.h i).mem);rw[g.at_]at h;obtain⟨q,r,s⟩:=B.c3;have k:=a6 i;generalize b.length=n at*;clear g l i B;go_in;rcases m with⟨rfl,rfl⟩|⟨⟨A,C⟩,D,E⟩
 ·go_wp2_with fail
  apply h.mono;rintro e p⟨rfl,j⟩;go_wp2_with fail
  go_ret;exact⟨rfl,k.trans j⟩
 ·have t:(d==0)=Bf:=by simp;omega
  have u:Dc (d<0)=Bf:=by simp;omega
  have v:Dc (8≤d)=Bf:=by simp;omega
  have y:Dc (a<0)=Bf:=by simp;omega
  have z:Dc (6≤a)=Bf:=by simp;omega
  go_wp2_with fail
  apply h.mono;rintro e p⟨rfl,j⟩;go_wp2_with fail
  go_ret;exact⟨rfl,k.trans j⟩
theorem a0v(x:PR)(w:Wd)(i:YB x.p)(j:vC x.p.ins)(h:s7 w 116 gN x.v x.p.ins):
  Ca prog 27 (#[Ag (fM.c x).toArray]++ #[]) w fun e m=>e=X (O Bf)∧a9 w m:=by
 have g:=fun cs=>(a9.refl w).alloc (U cs 51)
 have k:=a6 (fun cs=>MH x _ i j (h.h (g cs)));obtain⟨⟨d,a,f⟩,b,c⟩:=x;dsimp only[PR.v,fM]at*;show Ca prog _ #[Ag #[I M d,I M a,Z b f.length c]] w _;have B:=b9.new w 51 #[I M d,I M a,Z b f.length c];have l:=a6 (g #[I M d,I M a,Z b f.length c]);obtain⟨o,p,q⟩:=B.c3;clear h g j i B;go_in;go_wp2_with fail
 apply(k _).mono;rintro e r⟨rfl,n⟩;go_wp2_with fail
 go_ret;exact⟨rfl,l.trans n⟩
theorem a3b(a:Option Ad)(c:Nat)(xs:List PR)(w:Wd)(b:vB (xs.map (·.p)))(g:h9 w a (fM.row xs))(h:∀x∈xs,s7 w 116 gN x.v x.p.ins):
  Ca prog 16 #[Z a xs.length c] w fun e f=>e=X (O Bt)∧a9 w f:=by
 have o:xs.length≤43:=by have:=b.len;simpa using this
 have i:=a6 (show Ca prog 26 #[Z a xs.length c,Fc (.func 27) #[] #[]] w fun e f=>e=X (O Bf)∧a9 w f from by
  have:=cfQ a1t fM (by decide) isAgg51 sizeOf51 (fun _=>Bf) 27 #[] (Eo func27 (by kernel_rfl) rfl) a xs.length c xs w (fun x d W j=>a0v x W (b.pl _ (List.mem_map_of_mem d)) (b.ok _ (List.mem_map_of_mem d)) ((h x d).h j)) rfl (by omega) g;rwa[show xs.any (fun _=>Bf)=Bf from by simp]at this)
 have l:Dc (xs.length≤48)=Bt:=by simp;omega
 have m:(xs.length:Int)≤48:=by omega
 clear g h b;generalize xs.length=n at*;go_in;go_wp2_with fail
 apply i.mono;rintro e p⟨rfl,k⟩;go_wp2_with fail
 go_ret;exact⟨rfl,k⟩
theorem zI(a:Option Ad)(n c:Nat)(xs:List Int)(u:Wd)(d:xs.length=n)(g:n≤1000)(b:h9 u a (i3 V xs)):
  Ca prog 18 #[Z a n c] u fun e h=>e=X (I V (dX xs))∧a9 u h:=by
 have f:=a6 (IM a n c xs u d g b);clear b d;go_in;go_wp2_with fail
 apply f.mono;rintro e j⟨rfl,i⟩;go_wp2_with fail
 go_ret;exact⟨rfl,i⟩
theorem a0m(xs:List Int):N4.row xs=i3 V xs:=a3R V N4 (fun _=>rfl) xs
theorem vT(v:Va)(l:List J1)(d:r9)(w:Wd)(ah:d.ok)(h:vB l)(af:eF w v l):
  Ca prog 8 #[v,d.val] w fun e C=>e=X (Tp #[I V (U2 l d),I M 0])∧a9 w C:=by
 obtain⟨xs,bh,A,rfl⟩:=af.ex;obtain⟨aw,c,rfl,z,-⟩:=bh;have bv:xs.length≤43:=by have:=h.len;simpa using this
 have ai:U2 (xs.map (·.p)) d=dX (xs.map fun x=>(K5 d x.p.ins).ans):=by unfold U2;rw[List.map_map];rfl
 rw[ai];have P:=a6 (fun(x:PR)(b:x∈xs)(f:Wd)(o:a9 w f)=>show Ca prog 17 #[x.v,d.val] f fun e C=>e=X (Tp #[I V (K5 d x.p.ins).ans,I M (K5 d x.p.ins).steps,I M (K5 d x.p.ins).err])∧a9 f C from
  a4P x.A x.p.ins.length x.c x.p.ins rfl (h.ok _ (List.mem_map_of_mem b)).ok (by have:=(h.ok _ (List.mem_map_of_mem b)).len;omega) d ah f ((A x b).h o).mem)
 obtain⟨L,ba⟩:=i6 (fun f(o:a9 w f)=>a3b aw c xs f h (z.h o) fun x b=>(A x b).h o) z;obtain⟨a,y⟩:∃a:PR→Int,a=fun x=>(K5 d x.p.ins).ans:=⟨_,rfl⟩
 rw[←y];have Q:∀x,(K5 d x.p.ins).ans=a x:=fun x=>by rw[y]
 simp only[Q]at P;clear z A h ai af y Q;obtain⟨ap,ad,ao,S,T,W,aa,ab,ac⟩:=d;have am:=(a9.refl w).alloc (U #[I V ap,I V ad,I U6 ao,I U6 S,I U6 T,I U6 W,I U6 aa,I U6 ab,I U6 ac] 30);have ag:=b9.new w 30 #[I V ap,I V ad,I U6 ao,I U6 S,I U6 T,I U6 W,I U6 aa,I U6 ab,I U6 ac];dsimp only[r9.val]at*;obtain⟨u,H⟩:=i6 am ag;clear am ag ah;go_in;go_wp2_with fail
 apply(L _ u.out).mono;rintro e p⟨rfl,D⟩;obtain⟨s,ay⟩:=i6 (u.trans D) (H.h D);clear D u H L;go_wp2_with fail
 go_loopw [6,17] (fun bp bo wr=>∃k:Nat,k≤xs.length∧bo=I M k∧e4 wr p 26 N4 bp ((xs.take k).map a)∧a9 p wr) (fun _ i _=>xs.length-(intOf i).toNat)
 case atStart=>exact⟨0,i5 _,rfl,e4.nil _ _ _ _,a9.refl _⟩
 case round=>
  obtain⟨k,bu,rfl,n,b⟩:=hrel;obtain⟨ax,bk,bg,rfl⟩:=n.f;have B:((xs.take k).map a).length=k:=by rw[a32,a4C];omega
  obtain rfl:k=bk:=B.symm.trans n.i.2;have N:=a6 n;by_cases j:k<xs.length
  ·have g:=ba.h (s.trans b)
   obtain⟨br,bw,rfl,_⟩:=g.rows (by decide) (by omega);have bl:=g.b j (r:=0) rfl;have bm:=g.b j (r:=1) rfl;have bn:=g.b j (r:=2) rfl;simp only[fM,PR.v,a4z]at bl bm bn;have al:=P _ (a30 j);have ak:(xs.take (k+1)).map a=(xs.take k).map a++[a xs[k]]:=by rw[a4a j,a4F];rfl
   have bb:=a6 ak;generalize a xs[k]=bf at*;generalize xs[k]=x at*;obtain⟨⟨au,ar,an⟩,E,ae⟩:=x;dsimp only[PR.v]at*;have q:=(a9.refl wr).alloc (U #[I M au,I M ar,Z E an.length ae] 51);have G:=b9.new wr 51 #[I M au,I M ar,Z E an.length ae];have bx:=G.cell 2;have bc:=a6 (al _ (s.trans (b.trans q)));have F:=ay.h (b.trans q);obtain⟨bz,ca,cb,cc,cd,ce,cf,cg,ch⟩:=(F).c9;obtain⟨bd,R⟩:=i6 q b;have bi:((xs.take k).map a).length+1≤1000000:=by omega
   clear n B g al ak q G F b;go_wp2_with(first
    |(go_at_call 17;apply bc.mono;rintro e cj⟨rfl,av⟩;have t:=a6 (bd.trans av);clear av)
    |(at_builtin;go_loud (refine j3 rfl (Tm 29) (Tm 31) 37 26 rfl a0o p _ ((xs.take k).map a) rfl (N.h (t.alloc _)) _ 1 1 [bf] rfl rfl (fF (by simp) rfl) bi (R.trans (t.alloc _)).size ?_;intro ci ck aq bj bt bs)))
   have be:=bj p (R.trans (t.alloc _)) (a7 _);rw[←bb.out]at aq
   go_roundw
   case rel=>exact⟨k+1,by omega,by go_num,aq,be⟩
   case measure=>simp[intOf];omega
  ·obtain rfl:k=xs.length:=by omega
   have aj:(xs.take xs.length).map a=xs.map a:=by rw[List.take_length]
   have m:=N.i.1;rw[aj,a0m]at m;have az:=a6 (zI ax xs.length bg (xs.map a) wr (by rw[a32]) (by omega) m);clear n B aj m;go_wp2_with fail
   apply az.mono;rintro e cm⟨rfl,bq⟩;go_wp2_with fail
   go_ret2
   exact⟨rfl,s.trans (b.trans bq)⟩
section
theorem uP(A B:Option Ad)(n m c f:Nat)(w:Wd):Ca prog 84 #[Z A n c,I M 0,Z B m f,I M 0] w fun e i=>e=X (Tp #[if n<m then Z A n c else Z B m f,I M 0])∧w=i:=by
 by_cases b:n<m
 ·rw[if_pos b]
  have h:Dc (n<m)=Bt:=by simpa using b
  clear b;go_in;go_wp2_with fail
  go_ret2
  exact⟨rfl,rfl⟩
 ·rw[if_neg b]
  have h:Dc (n<m)=Bf:=by simpa using b
  clear b;go_in;go_wp2_with fail
  go_ret2
  exact⟨rfl,rfl⟩
theorem Wk.end_{W0 W1 w:Wd}{g:Nat}{a d:Int}{vr i j f v:Va}(h:Wk W0 W1 g a d vr i j f w)(b:w.cell? ⟨g,5,J⟩=So v):v=f:=by
 have e:w.cell? ⟨g,5,J⟩=So f:=h.b.cell 5;rw[e]at b;injection b with b
 exact b.symm
abbrev ML(b g:Nat):Va:=Fc (.func b) #[K g] #[]
def SA(W0 W1:Wd)(g gf:Nat)(a d:Int)(vr b:Va)(cs:Array Va)(r:List Sy)(k:Nat)(W:Wd):Prop:=
 b9 W gf 163 cs∧match k with
 |0=>Wk W0 W1 g a d vr b (Z J 0 0) (Z J 0 0) W
 |1=>∃v,Wk W0 W1 g a d vr b v (Z J 0 0) W∧s7 W 374 bA v r
 |_=>∃v e,Wk W0 W1 g a d vr b v e W∧s7 W 116 gN e (V5 r)
def SB(W0 W1:Wd)(g gf:Nat)(a:Nat)(d:Int)(vr b:Va)(cs:Array Va)(ps:List m1)(k:Nat)(W:Wd):Prop:=
 b9 W gf 163 cs∧match k with
 |0=>Wk W0 W1 g a d vr b (Z J 0 0) (Z J 0 0) W
 |1=>∃f h e,Wk W0 W1 g a d (Z f (e:List RR).length h) b (Z J 0 0) (Z J 0 0) W∧cO W (Z f e.length h) e∧e.map (·.p)=ps
 |2=>∃u v,Wk W0 W1 g a d u b v (Z J 0 0) W∧s7 W 374 bA v (F6 (aX ⟨a,d,ps⟩))
 |3=>∃u v,Wk W0 W1 g a d u b v (Z J 0 0) W∧s7 W 374 bA v (Q0 (F6 (aX ⟨a,d,ps⟩)))
 |_=>∃u v i,Wk W0 W1 g a d u b v i W∧s7 W 116 gN i (V5 (Q0 (F6 (aX ⟨a,d,ps⟩))))
def SC(W0 W1:Wd)(g gf:Nat)(vr b:Va)(cs:Array Va)(r:List Sy)(k:Nat)(W:Wd):Prop:=
 b9 W gf 163 cs∧match k with
 |0=>Wk W0 W1 g 0 0 vr b (Z J 0 0) (Z J 0 0) W
 |1=>∃v,Wk W0 W1 g 0 0 vr b v (Z J 0 0) W∧s7 W 374 bA v r
 |2=>∃v,Wk W0 W1 g 0 0 vr b v (Z J 0 0) W∧s7 W 374 bA v (Q0 r)
 |_=>∃v e,Wk W0 W1 g 0 0 vr b v e W∧s7 W 116 gN e (V5 (Q0 r))
section
variable {W0 W1 w:Wd} {g gf a:Nat} {d:Int} {A:Option Ad} {c:Nat} {rs:List RR}
theorem a5B(G:gf≠g)(s:a<6)(n:dL ⟨a,d,rs.map (·.p)⟩)(m:Va)(r:∀W,Tv W0 WK W0 W→cO W (Z A rs.length c) rs)
  (o:Wk W0 W1 g a d (Z A rs.length c) m (Z J 0 0) (Z J 0 0) w) (t:b9 w gf 163 #[ML 85 g,ML 82 g]):
  Ca prog 80 #[K g,Z gf 2 2] w fun e j=>∃v h,e=X (Tp #[h,I M 0])∧Wk W0 W1 g a d (Z A rs.length c) m v h j∧s7 j 116 gN h (V5 (F6 (aX ⟨a,d,rs.map (·.p)⟩))):=by
 obtain⟨E,-,-⟩:=aP n;refine(xU g gf 2 2 (SA W0 W1 g gf a d (Z A rs.length c) m _ (F6 (aX ⟨a,d,rs.map (·.p)⟩))) w (by decide) ⟨t,o⟩ (fun k x W f=> ?_) (fun W f=> ?_)).mono ?_
 ·obtain⟨l,f⟩:=f
  match k,x with
  |0,_=>exact⟨_,l.cell 0,Eo func85 (by kernel_rfl) rfl,(YU f s n (r W f.t)).mono fun e j⟨b,v,i,p,q⟩=>⟨b,q.blk l (.inr (by decide)),v,i,p⟩⟩
  |1,_=>
   obtain⟨v,b,i⟩:=f;exact⟨_,l.cell 1,Eo func82 (by kernel_rfl) rfl,(jK b E i).mono fun e j⟨z,u,B,C,D⟩=>⟨z,D.blk l (.inr (by decide)),v,u,B,C⟩⟩
 ·obtain⟨-,v,h,b,-⟩:=f
  exact⟨h,b.b.cell 5⟩
 ·rintro e j⟨h,rfl,y,-,v,F,b,i⟩
  rw[b.end_ y];exact⟨v,F,rfl,b,i⟩
theorem a5A(G:a<6)(s:dL ⟨a,d,rs.map (·.p)⟩)(t:Va)(F:∀W,Tv W0 WK W0 W→cO W (Z A rs.length c) rs)
  (C:Wk W0 W1 g a d (Z A rs.length c) t (Z J 0 0) (Z J 0 0) w) (H:b9 w gf 163 #[ML 86 g,ML 85 g,ML 83 g,ML 82 g]):
  Ca prog 80 #[K g,Z gf 4 4] w fun e j=>∃u v l,e=X (Tp #[l,I M 0])∧Wk W0 W1 g a d u t v l j∧s7 j 116 gN l (V5 (Q0 (F6 (aX (I1 ⟨a,d,rs.map (·.p)⟩))))):=by
 obtain⟨-,q,-⟩:=aP s;have z:dL ⟨a,d,w3 d rs⟩:=UQ s;replace q:H3 (F6 (aX ⟨a,d,w3 d rs⟩)):=q;refine(xU g gf 4 4 (SB W0 W1 g gf a d (Z A rs.length c) t _ (w3 d rs)) w (by decide) ⟨H,C⟩ (fun k L W h=> ?_) (fun W h=> ?_)).mono ?_
 ·obtain⟨i,h⟩:=h
  match k,L with
  |0,_=>exact⟨_,i.cell 0,Eo func86 (by kernel_rfl) rfl,(YT h s (F W h.t)).mono fun e j⟨b,x,y,B,f,r,D,E⟩=>⟨b,E.blk i (.inr (by decide)),x,y,B,f,r,D⟩⟩
  |1,_=>
   obtain⟨x,y,B,b,f,r⟩:=h;rw[←r]at z⊢;exact⟨_,i.cell 1,Eo func85 (by kernel_rfl) rfl,(YU b G z f).mono fun e j⟨m,v,n,o,p⟩=>⟨m,p.blk i (.inr (by decide)),_,v,n,o⟩⟩
  |2,_=>
   obtain⟨u,v,b,f⟩:=h;exact⟨_,i.cell 2,Eo func83 (by kernel_rfl) rfl,(DJ b q f).mono fun e j⟨m,v',n,o,p⟩=>⟨m,p.blk i (.inr (by decide)),u,v',n,o⟩⟩
  |3,_=>
   obtain⟨u,v,b,f⟩:=h;exact⟨_,i.cell 3,Eo func82 (by kernel_rfl) rfl,(jK b q.opt f).mono fun e j⟨m,v',n,o,p⟩=>⟨m,p.blk i (.inr (by decide)),u,v,v',n,o⟩⟩
 ·obtain⟨-,u,v,l,b,-⟩:=h
  exact⟨l,b.b.cell 5⟩
 ·rintro e j⟨l,rfl,N,-,u,v,P,b,f⟩
  rw[b.end_ N];exact⟨u,v,P,rfl,b,f⟩
end
section
variable {W0 W1 w:Wd} {g gf:Nat} {A:Option Ad} {c:Nat} {ar:List Int} {vr:Va}
theorem a5z(n:0<ar.length)(y:ar.length≤1000)(s:∀x∈ar,0≤x∧x<6)(q:∀W,Tv W0 WK W0 W→h9 W A (i3 M ar))
  (m:Wk W0 W1 g 0 0 vr (Z A ar.length c) (Z J 0 0) (Z J 0 0) w) (r:b9 w gf 163 #[ML 81 g,ML 82 g]):
  Ca prog 80 #[K g,Z gf 2 2] w fun e j=>∃v h,e=X (Tp #[h,I M 0])∧Wk W0 W1 g 0 0 vr (Z A ar.length c) v h j∧s7 j 116 gN h (V5 (F6 (sH (Q3 ar)))):=by
 have F:=tX (aO ar);refine(xU g gf 2 2 (SA W0 W1 g gf 0 0 vr (Z A ar.length c) _ (F6 (sH (Q3 ar)))) w (by decide) ⟨r,m⟩ (fun k t W f=> ?_) (fun W f=> ?_)).mono ?_
 ·obtain⟨l,f⟩:=f
  match k,t with
  |0,_=>exact⟨_,l.cell 0,Eo func81 (by kernel_rfl) rfl,(mN f n y s (q W f.t)).mono fun e j⟨b,v,i,o,p⟩=>⟨b,p.blk l (.inr (by decide)),v,i,o⟩⟩
  |1,_=>
   obtain⟨v,b,i⟩:=f;exact⟨_,l.cell 1,Eo func82 (by kernel_rfl) rfl,(jK b F i).mono fun e j⟨B,u,C,D,E⟩=>⟨B,E.blk l (.inr (by decide)),v,u,C,D⟩⟩
 ·obtain⟨-,v,h,b,-⟩:=f
  exact⟨h,b.b.cell 5⟩
 ·rintro e j⟨h,rfl,z,-,v,G,b,i⟩
  rw[b.end_ z];exact⟨v,G,rfl,b,i⟩
theorem a5y(s:0<ar.length)(E:ar.length≤1000)(C:∀x∈ar,0≤x∧x<6)(z:∀W,Tv W0 WK W0 W→h9 W A (i3 M ar))
  (r:Wk W0 W1 g 0 0 vr (Z A ar.length c) (Z J 0 0) (Z J 0 0) w) (B:b9 w gf 163 #[ML 81 g,ML 83 g,ML 82 g]):
  Ca prog 80 #[K g,Z gf 3 3] w fun e l=>∃v j,e=X (Tp #[j,I M 0])∧Wk W0 W1 g 0 0 vr (Z A ar.length c) v j l∧s7 l 116 gN j (V5 (Q0 (F6 (sH (Q3 ar))))):=by
 have q:=tX (aO ar);refine(xU g gf 3 3 (SC W0 W1 g gf vr (Z A ar.length c) _ (F6 (sH (Q3 ar)))) w (by decide) ⟨B,r⟩ (fun k D W f=> ?_) (fun W f=> ?_)).mono ?_
 ·obtain⟨i,f⟩:=f
  match k,D with
  |0,_=>exact⟨_,i.cell 0,Eo func81 (by kernel_rfl) rfl,(mN f s E C (z W f.t)).mono fun e l⟨b,v,h,t,y⟩=>⟨b,y.blk i (.inr (by decide)),v,h,t⟩⟩
  |1,_=>
   obtain⟨v,b,h⟩:=f;exact⟨_,i.cell 1,Eo func83 (by kernel_rfl) rfl,(DJ b q h).mono fun e l⟨m,u,n,o,p⟩=>⟨m,p.blk i (.inr (by decide)),u,n,o⟩⟩
  |2,_=>
   obtain⟨v,b,h⟩:=f;exact⟨_,i.cell 2,Eo func82 (by kernel_rfl) rfl,(jK b q.opt h).mono fun e l⟨m,u,n,o,p⟩=>⟨m,p.blk i (.inr (by decide)),v,u,n,o⟩⟩
 ·obtain⟨-,v,j,b,-⟩:=f
  exact⟨j,b.b.cell 5⟩
 ·rintro e l⟨j,rfl,F,-,v,G,b,h⟩
  rw[b.end_ F];exact⟨v,G,rfl,b,h⟩
end
def CgR(w:Wd)(P:List i2)(e:Ending)(b:Wd):Prop:=∃v,e=X (Tp #[v,I M 0])∧s7 b 116 gN v P∧a9 w b
end
theorem Wk.new{b w:Wd}{g:Nat}{a d:Int}{e c:Va}(i:a9 b w)(f:b9 w g 161 #[I M a,e,I V d,c,Z J 0 0,Z J 0 0])(h:b≤g):Wk b w g a d e c (Z J 0 0) (Z J 0 0) w:=
 ⟨f,.f i,h,h8 (a9.refl w) _⟩
theorem Wk.more{c f w:Wd}{g b:Nat}{a d h i:Int}{s p q r l j:Va}(k:Wk c f g a d s p q r w)(m:b9 f b 161 #[I M h,l,I V i,j,Z J 0 0,Z J 0 0])(o:g≠b)(n:c≤b):Wk c w b h i l j (Z J 0 0) (Z J 0 0) w:=
 ⟨m.grown k.f (fun e=>o (by injection e with e;exact e.symm)),k.t,n,h8 (a9.refl w) _⟩
theorem QI(a:Nat)(d:Int)(f:Option Ad)(c:Nat)(rs:List RR)(l:Bool)(w:Wd)(al:a<6)(N:dL ⟨a,d,rs.map (·.p)⟩)(ak:cO w (Z f rs.length c) rs):
  Ca prog 39 #[Ag #[I M a,Z f rs.length c,I V d],O l] w (CgR w (V0 l (F6 (aX ⟨a,d,rs.map (·.p)⟩)) (F6 (aX (I1 ⟨a,d,rs.map (·.p)⟩))))):=by
 have ar:=(a9.refl w).alloc (U #[I M a,Z f rs.length c,I V d] 96);have u:=b9.new w 96 #[I M a,Z f rs.length c,I V d];have ab:=a6 (fun W(t:Tv w WK w W)=>ak.tv t (by decide) (by decide));obtain⟨h,F⟩:∃P,P=V5 (F6 (aX ⟨a,d,rs.map (·.p)⟩)):=⟨_,rfl⟩;obtain⟨i,G⟩:∃P,P=V5 (Q0 (F6 (aX (I1 ⟨a,d,rs.map (·.p)⟩)))):=⟨_,rfl⟩;have am:V0 l (F6 (aX ⟨a,d,rs.map (·.p)⟩)) (F6 (aX (I1 ⟨a,d,rs.map (·.p)⟩)))=if l then(if h.length<i.length then h else i)else h:=by rw[F,G];rfl
 obtain⟨R,H⟩:∃R,R=if l then(if h.length<i.length then h else i)else h:=⟨_,rfl⟩
 rw[am,←H];have z:=a6 H;clear H;obtain⟨m,n⟩:=i6 (fun D W g gf bb(E:Wk w D g a d (Z f rs.length c) (Z J 0 0) (Z J 0 0) (Z J 0 0) W) L=>a5B (gf:=gf) bb al N _ ab E L) (fun D W g gf(E:Wk w D g a d (Z f rs.length c) (Z J 0 0) (Z J 0 0) (Z J 0 0) W) L=>a5A (gf:=gf) al N _ ab E L);rw[←F]at m;rw[←G]at n;clear am F G N ak;go_in;obtain⟨be,bf,bg⟩:=u.c3;obtain⟨ae,o⟩:=i6 ar u;clear ar u;dsimp only[ML]at m n;have ac:=a6 (show∀C,b9 ((((w.alloc (U #[I M a,Z f rs.length c,I V d] 96)).alloc (U C 161)).alloc (U C 161)).drew) (w+1) 161 C∧b9 ((((w.alloc (U #[I M a,Z f rs.length c,I V d] 96)).alloc (U C 161)).alloc (U C 161)).drew) (w+1+1) 161 C∧a9 w ((((w.alloc (U #[I M a,Z f rs.length c,I V d] 96)).alloc (U C 161)).alloc (U C 161)).drew)from fun C=>⟨((b9.b (by simp)).alloc _).drew,(b9.b (by simp)).drew,((ae.alloc _).alloc _).drew⟩)
 go_upto_region 1 with fail
 go_cut [6,7] (fun bh bi Q=>∃g j,bh=K (So ⟨g,0,J⟩)∧bi=K (So ⟨j,0,J⟩)∧g≠j∧b9 Q g 161 #[I M a,Z f rs.length c,I V d,Z J 0 0,Z J 0 0,Z J 0 0]∧b9 Q j 161 #[I M a,Z f rs.length c,I V d,Z J 0 0,Z J 0 0,Z J 0 0]∧w.heap.size≤g∧w.heap.size≤j∧a9 w Q)
 case first=>
  go_region
  all_goals
   go_wp2_with fail
   go_meet
   obtain⟨ao,ap,aq⟩:=ac.out #[I M a,Z f rs.length c,I V d,Z J 0 0,Z J 0 0,Z J 0 0];first
    |exact⟨_,_,rfl,rfl,by omega,ao,ap,by omega,by omega,aq⟩
    |exact⟨_,_,rfl,rfl,by omega,ap,ao,by omega,by omega,aq⟩
 case rest=>
  obtain⟨g,j,rfl,rfl,an,x,S,bc,bd,ai⟩:=hcut;obtain⟨T,y⟩:=i6 (m wc _ g wc (by have:=x.lt;omega) ((Wk.new ai x bc).h ((a9.refl wc).alloc _)) (b9.new wc _ _)) S;clear m ac be bf bg ae o x S ai;go_wp2_with fail
  apply T.mono;rintro e s⟨v,bj,rfl,p,B⟩;cases l
  ·go_wp2_with fail
   go_ret2
   exact⟨bj,rfl,by rw[z.out];exact B,p.t.b (a9.refl w) (a7 _)⟩
  ·have aa:=a6 (y.grown p.f (fun e=>an (by injection e with e;exact e.symm)))
   obtain⟨o,ad⟩:=i6 (n s _ j s ((p.more y an bd).h ((a9.refl s).alloc _)) (b9.new s _ _)) B;obtain⟨au,az,rfl,-,-⟩:=B;clear n y T p;go_wp2_with fail
   apply o.mono;rintro e bk⟨bl,bm,bn,rfl,A,ah⟩;have ag:=ad.kept fun b cs k=>k.grown A.f (fun e=>by injection e with e;exact k.ne aa (by decide) e)
   have aj:=A.t.b (a9.refl w) (a7 _);obtain⟨ay,ax⟩:=i6 ah ag;obtain⟨av,ba,rfl,-,-⟩:=ah;obtain⟨aw,af⟩:=i6 (uP au av h.length i.length az ba bk) aj;clear A ag aj o aa ad;go_wp2_with fail
   apply aw.mono;rintro e bo⟨rfl,rfl⟩;by_cases r:h.length<i.length
   ·simp only[if_pos r]
    go_wp2_with fail
    go_ret2
    exact⟨_,rfl,by have q:=z.out;rw[if_pos trivial,if_pos r]at q;rw[q];exact ax.out,af.out⟩
   ·simp only[if_neg r]
    go_wp2_with fail
    go_ret2
    exact⟨_,rfl,by have q:=z.out;rw[if_pos trivial,if_neg r]at q;rw[q];exact ay.out,af.out⟩
theorem a1X(a:Option Ad)(c:Nat)(ar:List Int)(h:Bool)(w:Wd)(ad:0<ar.length)(ag:ar.length≤1000)(D:∀x∈ar,0≤x∧x<6)(ae:h9 w a (i3 M ar)):
  Ca prog 38 #[Z a ar.length c,O h] w (CgR w (V0 h (F6 (sH (Q3 ar))) (F6 (sH (Q3 ar))))):=by
 have N:=a6 (fun W(t:Tv w WK w W)=>ae.h (t.b (a9.refl w) (a7 _)));obtain⟨d,z⟩:∃P,P=V5 (F6 (sH (Q3 ar))):=⟨_,rfl⟩;obtain⟨f,A⟩:∃P,P=V5 (Q0 (F6 (sH (Q3 ar)))):=⟨_,rfl⟩;have af:V0 h (F6 (sH (Q3 ar))) (F6 (sH (Q3 ar)))=if h then(if d.length<f.length then d else f)else d:=by rw[z,A];rfl
 obtain⟨R,B⟩:∃R,R=if h then(if d.length<f.length then d else f)else d:=⟨_,rfl⟩
 rw[af,←B];have p:=a6 B;clear B;obtain⟨i,j⟩:=i6 (fun u W g gf(y:Wk w u g 0 0 (Z J 0 0) (Z a ar.length c) (Z J 0 0) (Z J 0 0) W) C=>a5z (gf:=gf) ad ag D N y C) (fun u W g gf(y:Wk w u g 0 0 (Z J 0 0) (Z a ar.length c) (Z J 0 0) (Z J 0 0) W) C=>a5y (gf:=gf) ad ag D N y C);rw[←z]at i;rw[←A]at j;dsimp only[ML]at i j;clear af z A ae D;go_in;have ab:=((a9.refl w).alloc (U #[I M 0,Z J 0 0,I V 0,Z a ar.length c,Z J 0 0,Z J 0 0] 161)).alloc (U #[I M 0,Z J 0 0,I V 0,Z a ar.length c,Z J 0 0,Z J 0 0] 161);have E:=(b9.new w 161 #[I M 0,Z J 0 0,I V 0,Z a ar.length c,Z J 0 0,Z J 0 0]).alloc (U #[I M 0,Z J 0 0,I V 0,Z a ar.length c,Z J 0 0,Z J 0 0] 161);have F:b9 ((w.alloc (U #[I M 0,Z J 0 0,I V 0,Z a ar.length c,Z J 0 0,Z J 0 0] 161)).alloc (U #[I M 0,Z J 0 0,I V 0,Z a ar.length c,Z J 0 0,Z J 0 0] 161)) (w+1) 161 #[I M 0,Z J 0 0,I V 0,Z a ar.length c,Z J 0 0,Z J 0 0]:=b9.b (by simp);have ah:((w.alloc (U #[I M 0,Z J 0 0,I V 0,Z a ar.length c,Z J 0 0,Z J 0 0] 161)).alloc (U #[I M 0,Z J 0 0,I V 0,Z a ar.length c,Z J 0 0,Z J 0 0] 161)).heap.size=w.heap.size+2:=by simp
 obtain⟨G,o⟩:=i6 (i _ _ w (w+2) ((Wk.new ab E (a7 _)).h ((a9.refl _).alloc _)) (b9.b ah.symm)) F;clear i ab E F ah;go_wp2_with fail
 apply G.mono;rintro e n⟨v,ap,rfl,l,s⟩;cases h
 ·go_wp2_with fail
  go_ret2
  exact⟨ap,rfl,by rw[p.out];exact s,l.t.b (a9.refl w) (a7 _)⟩
 ·have L:=a6 (o.grown l.f (fun e=>by injection e with e;omega))
  obtain⟨H,Q⟩:=i6 (j n _ (w+1) n ((l.more o (by omega) (by omega)).h ((a9.refl n).alloc _)) (b9.new n _ _)) s;obtain⟨ai,an,rfl,-,-⟩:=s;clear j o G l;go_wp2_with fail
  apply H.mono;rintro e aq⟨au,av,rfl,r,aa⟩;have T:=Q.kept fun b cs k=>k.grown r.f (fun e=>by injection e with e;exact k.ne L (by decide) e)
  have ac:=r.t.b (a9.refl w) (a7 _);obtain⟨am,al⟩:=i6 aa T;obtain⟨aj,ao,rfl,-,-⟩:=aa;obtain⟨ak,S⟩:=i6 (uP ai aj d.length f.length an ao aq) ac;clear r T ac H L Q;go_wp2_with fail
  apply ak.mono;rintro e aw⟨rfl,rfl⟩;by_cases m:d.length<f.length
  ·simp only[if_pos m]
   go_wp2_with fail
   go_ret2
   exact⟨_,rfl,by have q:=p.out;rw[if_pos trivial,if_pos m]at q;rw[q];exact al.out,S.out⟩
  ·simp only[if_neg m]
   go_wp2_with fail
   go_ret2
   exact⟨_,rfl,by have q:=p.out;rw[if_pos trivial,if_neg m]at q;rw[q];exact am.out,S.out⟩
section
attribute [local go_sem] Oper.semAt_some
theorem pG{c:Func}{p q:Tmp}{d e:Ti}{P:Pg}(h:c.results= #[.cell p d,.cell q e])(tmps:Array Va)(w:Wd)(a b:Nat)(f g:Va)
  (i:tmps.getD p Un=K a) (k:tmps.getD q Un=K b) (m:(loadVar d ⟨a,0,J⟩).run P w= .ok f w) (n:(loadVar e ⟨b,0,J⟩).run P w= .ok g w):
  (results c tmps).run P w= .ok (Tp #[f,g]) w:=by
 have j:tmps[p]?.getD Un=K a:=by simpa using i
 have l:tmps[q]?.getD Un=K b:=by simpa using k
 simp[results,h,j,l,asAddr,m,n]
theorem VY(w:Wd)(g:Nat)(v:Va)(h:w.cell? ⟨g,0,J⟩=So v):(loadVar 46 ⟨g,0,J⟩).run prog w= .ok v w:=by
 simp[loadVar,go_sem,h]
theorem BK(w:Wd)(g:Nat)(v:Va)(h:w.cell? ⟨g,0,J⟩=So v):(loadVar 40 ⟨g,0,J⟩).run prog w= .ok v w:=by
 simp[loadVar,go_sem,isAgg40,h]
theorem EW(p:i1)(a b c d:Va)(f:Bool)(w:Wd)(B:p.small)(z:0≤p.fm∧0≤p.lm)(v:R3 w p a b c d)(x:y9 p=Bf):
  Ca prog 22 #[Ag (i4 p a b c d),O f] w fun e C=>e=X (Tp #[Z J 0 0,I M 2])∧a9 w C:=by
 have r:=a6 (fun t(A:a9 w t)=>FQ p a b c d t B z (v.h A));rw[x]at r;have y:=((((a9.refl w).alloc (U (i4 p a b c d) 39)).alloc (U #[O f] 4)).alloc (U #[Z J 0 0] 40)).alloc (U #[I M 0] 46);have j:=(((b9.new w 39 (i4 p a b c d)).alloc (U #[O f] 4)).alloc (U #[Z J 0 0] 40)).alloc (U #[I M 0] 46);have l:b9 ((((w.alloc (U (i4 p a b c d) 39)).alloc (U #[O f] 4)).alloc (U #[Z J 0 0] 40)).alloc (U #[I M 0] 46)) (w+1+1) 40 #[Z J 0 0]:=(b9.b (by simp)).alloc _;have m:b9 ((((w.alloc (U (i4 p a b c d) 39)).alloc (U #[O f] 4)).alloc (U #[Z J 0 0] 40)).alloc (U #[I M 0] 46)) (w+1+1+1) 46 #[I M 0]:=b9.b (by simp);obtain⟨s,q⟩:=i6 y (And.intro l m);clear v x y l m;unfold i4 at*;obtain⟨F,G,P,Q,R,S,T,W,aa⟩:=(j).c9;obtain⟨ab,H,L,N⟩:=(j).d4 9 10 11 12;clear j;go_in;go_wp2_with fail
 apply(r _ s.out).mono;rintro e ac⟨rfl,i⟩;have g:=q.1.h i;have h:=q.2.h i;have D:=g.frozen 0;have E:=h.frozen 0;have k2:=g.cell 0;have k3:=h.cell 0;have n:=(g.f 0 (Z J 0 0)).far (p:=⟨w+1+1+1,0,J⟩) (by show w+1+1≠w.heap.size+1+1+1;omega) (I M 2);have o:=(h.far (p:=⟨w+1+1,0,J⟩) (by show w+1+1+1≠w.heap.size+1+1;omega) (Z J 0 0)).f 0 (I M 2);have u:=((s.trans i).set (p:=⟨w+1+1,0,J⟩) (by show w≤w.heap.size+1+1;omega) (Z J 0 0)).set (p:=⟨w+1+1+1,0,J⟩) (by show w≤w.heap.size+1+1+1;omega) (I M 2);have k:=a6 (And.intro n (And.intro o u));clear g h n o u i;go_wp2_with fail
 exact Bp (pG rfl _ _ _ _ _ _ rfl rfl (BK _ _ _ (k.1.cell 0)) (VY _ _ _ (k.2.1.cell 0))) rfl ⟨rfl,k.2.2⟩
end
section
attribute [local go_sem] Oper.semAt_some
theorem a2l:mU prog 40 51 (Ag #[I M 0,I M 0,Z J 0 0]) 3 40:=⟨underlying40,by kernel_rfl,rfl,by decide,by decide⟩
def WBd:List Ti:=[40,51]
def pgV(a:Bool)(p:i1)(x:V3):J1:=⟨x.d,x.a,gM a p x⟩
structure BdI(w:Wd)(zo base:Nat)(opt:Bool)(p:i1)(cs:Array Va)(z:Nat)(pre:List PX)(W:Wd):Prop where
 ou:∃v xs,b9 W zo 40 #[v]∧e4 W base 51 fM v xs∧(∀x∈xs,s7 W 116 gN x.v x.p.ins)∧xs.map (·.p)=(pre.map PX.p).map (pgV opt p)
 b0:b9 W w 39 cs
 b1:b9 W (w+1) 4 #[O opt]
 b2:b9 W (w+1+1) 40 #[Z J 0 0]
 b3:b9 W (w+1+1+1) 46 #[I M 0]
 x:a9 w W
 z:z≤W
theorem a2b(w:Wd)(B base:Nat)(q:Bool)(p:i1)(cs:Array Va)(z:Nat)(o:w≤z):OwnFrom z (BdI w B base q p cs z):=fun C W W' row⟨⟨v,xs,h,i,j,l⟩,s,u,y,A,g,m⟩ d f=>
 have a:=fun{b:Nat}{t:Ti}{c:Array Va}(k:b9 W b t c)=>e8 k d fun r e=>(f r e).2
 ⟨⟨v,xs,a h,i.l d fun r e=>(f r e).2,fun x n=>(j x n).kept fun b cs k=>a k,l⟩,a s,a u,a y,a A,Below.grown g d g.size (fun r e=>c8 o (f r e).1),c8 m d.size⟩
def bdF(w b:Nat)(cs:Array Va)(a:Bool)(l:Va)(g:Nat)(x:PX):Act:=
 {tmps:= #[Ag cs,O a,K w,K (w+1:Nat),K (w+1+1:Nat),K (w+1+1+1:Nat),K b,K g,Un,Un,Ag cs,O Bt,O Bf,Ag cs,l,x.v,Un,Un,Un,Un,Un,Un,Un,Un,Un,Un,Un,Un,Un,Un,Un,Un,Un,Un,Un,Un,Un,Un,Un,Un,Un,Un,Un,Un,Un],defers:=[]}
def bdA(w d:Nat)(cs:Array Va)(b:Bool)(l:Va)(x:PX)(c:Nat)(a:Act)(W:Wd):Prop:=∃g,c≤g∧a=bdF w d cs b l g x∧b9 W g 98 #[I M x.d,I M x.a,I M x.fa,Z x.A x.rs.length x.c,I V x.df]
theorem cO.put{W:Wd}{v:Va}{rs:List RR}{l:Nat}{a f:Obj}(d:cO W v rs)(h:W.heap[l]? =So a)(g:a.isCells=Bf):cO (W.putObj l f) v rs:=
 have k:=fun{b:Nat}{t:Ti}{c:Array Va}(q:b9 W b t c)=>e8 q (grownBy_putObj' W l f) (fun r e=>by cases e;exact⟨a,h,g⟩)
 ⟨d.r.kept fun b cs q=>k q,fun r i=>(d.t r i).kept fun b cs q=>k q⟩
theorem YW(p:i1)(N u y z:Va)(i:Bool)(w:Wd)(ds:p.small)(dl:0≤p.fm∧0≤p.lm)(dp:∀x∈p.ar,0≤x∧x<6)(fq:p.ar.length≤6)(cc:R3 w p N u y z)(ce:y9 p=Bt):
  Ci .wide 3 prog 22 #[Ag (i4 p N u y z),O i] w fun e cx=>∃v,e=X (Tp #[v,I M 0])∧eF cx v (z8 i p)∧a9 w cx:=by
 have df:=a6 (fun dj(eo:a9 w dj)=>FQ p N u y z dj ds dl (cc.h eo));rw[ce]at df;have dv:=((((a9.refl w).alloc (U (i4 p N u y z) 39)).alloc (U #[O i] 4)).alloc (U #[Z J 0 0] 40)).alloc (U #[I M 0] 46);have be:=(((b9.new w 39 (i4 p N u y z)).alloc (U #[O i] 4)).alloc (U #[Z J 0 0] 40)).alloc (U #[I M 0] 46);have cy:b9 ((((w.alloc (U (i4 p N u y z) 39)).alloc (U #[O i] 4)).alloc (U #[Z J 0 0] 40)).alloc (U #[I M 0] 46)) (w+1) 4 #[O i]:=((b9.b (by simp)).alloc _).alloc _;have cz:b9 ((((w.alloc (U (i4 p N u y z) 39)).alloc (U #[O i] 4)).alloc (U #[Z J 0 0] 40)).alloc (U #[I M 0] 46)) (w+1+1) 40 #[Z J 0 0]:=(b9.b (by simp)).alloc _;have da:b9 ((((w.alloc (U (i4 p N u y z) 39)).alloc (U #[O i] 4)).alloc (U #[Z J 0 0] 40)).alloc (U #[I M 0] 46)) (w+1+1+1) 46 #[I M 0]:=b9.b (by simp);obtain⟨di,ap,dg,ea⟩:=J5 dv (And.intro be (And.intro cy (And.intro cz da))) cc dp;clear cc dv cy cz da dp;obtain⟨Aa,L,eu,cb,-⟩:=dg.a;have eb:=a6 (show h9 w Aa (i3 M p.ar) by rw[a3R M V7 (fun _=>rfl)]at cb;exact cb);clear cb;subst eu;unfold i4 at*;obtain⟨ch,ci,cn,co,cp,cq,cr,ct,cu⟩:=(be).c9;obtain⟨cv,cj,ck,cm⟩:=(be).d4 9 10 11 12;clear be;refine Cm func22 rfl trivial ?_ rfl;simp only[ntmps22,uE,l9,a4D];gi_wp2_with(first
  |(refine⟨trivial,?_⟩;gi_at_call 36;apply((Cw (n:=2)).2 (df _ di.out)).mono;rintro e f⟨rfl,Q⟩;clear ch ci cn co cp cq cr ct cu cv cj ck cm;have o:=(ap.1.h Q).alloc (U #[Z J 0 0] 40);have ch:=o.cell 0;have ci:=o.cell 1;have cn:=o.cell 2;have co:=o.cell 3;have cp:=o.cell 4;have cq:=o.cell 5;have cr:=o.cell 6;have ct:=o.cell 7;have cu:=o.cell 8;have cv:=o.cell 9;have cj:=o.cell 10;have ck:=o.cell 11;have cm:=o.cell 12;clear o)
  |(refine⟨trivial,?_⟩;gi_at_call 37;apply(TW p (Z Aa p.ar.length L) u y z _).mono;unfold i4;rintro e cx⟨rfl,rfl⟩))
 have dm:(#[Z Aa p.ar.length L,I U8 p.fm,u,I V p.dy,I U8 p.lm,y,z,I U8 p.am,I U6 p.sp,O p.we,O p.pe,O p.rt,O p.np]:Array Va)[0]? =So (Z Aa p.ar.length L):=rfl;have ep:i4 p (Z Aa p.ar.length L) u y z= #[Z Aa p.ar.length L,I U8 p.fm,u,I V p.dy,I U8 p.lm,y,z,I U8 p.am,I U6 p.sp,O p.we,O p.pe,O p.rt,O p.np]:=rfl;clear ch ci cn co cp cq cr ct cu cv cj ck cm;generalize(#[Z Aa p.ar.length L,I U8 p.fm,u,I V p.dy,I U8 p.lm,y,z,I U8 p.am,I U6 p.sp,O p.we,O p.pe,O p.rt,O p.np]:Array Va)=cs at*;have ft:w+4≤f.heap.size:=by have:=Q.size;simpa using this
 have db:=((ap.1.h Q).alloc (U #[Z J 0 0] 40)).alloc (U cs 39);have dc:=((ap.2.1.h Q).alloc (U #[Z J 0 0] 40)).alloc (U cs 39);have dd:=((ap.2.2.1.h Q).alloc (U #[Z J 0 0] 40)).alloc (U cs 39);have de:=((ap.2.2.2.h Q).alloc (U #[Z J 0 0] 40)).alloc (U cs 39);have dk:=(b9.new f 40 #[Z J 0 0]).alloc (U cs 39);have bv:b9 ((f.alloc (U #[Z J 0 0] 40)).alloc (U cs 39)) (f+1) 39 cs:=b9.b (by simp);have bu:=((di.trans Q).alloc (U #[Z J 0 0] 40)).alloc (U cs 39);have fv:((f.alloc (U #[Z J 0 0] 40)).alloc (U cs 39)).heap.size=f.heap.size+2:=by simp
 generalize(f.alloc (U #[Z J 0 0] 40)).alloc (U cs 39)=w0 at*;rw[←ep]at bv;have dy:=a6 dm;clear dm Q;refine s5 rfl (by decide) (gf:=77) (lb:= #[K (f+1:Nat)]) rfl trivial (Eo func77 (by kernel_rfl) rfl)
  (AH (f+1) p (Z Aa p.ar.length L) u y z WBd (by decide) (by decide) ds dl ce w w0 dg bu bv)
  (fun ab k=>ab.trans k)
  (fun W l az af ax ab ak ev=>⟨fun q=>Below.trans q (belowK_b (w:=w0) (by omega) W l az af ax ab ak ev),fun b t cs k bm=>e8 k (grownBy_putObj' W l af) (fun r e=>by cases e;exact⟨az,ab,ak⟩)⟩) (Below.refl _ _) (fun _=>rfl)
  (fun x W l az af bz ax ak=>⟨bz.1.put ax ak,bz.2⟩)
  (BdI w f f i p cs w0) (a2b _ _ _ _ _ _ _ (by omega))
  ⟨⟨_,[],dk,e4.nil _ _ _ _,fun x D=>(by cases D),rfl⟩,db,dc,dd,de,bu,a7 _⟩
  (bdA w f cs i (Fc (.func 77) #[] #[K (f+1:Nat)]))
  (fun x ga ec W l az af⟨g,ek,el,em⟩ ax ak=>⟨g,ek,el,e8 em (grownBy_putObj' W l af) (fun r e=>by cases e;exact⟨az,ax,ak⟩)⟩)
  (fun x W W' ab e=>⟨ab.1.h e,ab.2⟩) (fun W W' e=>⟨fun q=>q.trans e,fun b t cs k _=>k.h e⟩) ?Aa ?Ab ?Ac
 case Aa=>
  rintro l x W fg bz ca;unfold PX.v
  gi_wp2
  exact ca _ _ ((a9.refl W).alloc _) ⟨W,a7 _,rfl,b9.new _ _ _⟩
 case Ab=>
  rintro l ey x fh W ec-⟨⟨v,xs,ae,ad,al,ac⟩,am,an,G,H,D,ay⟩⟨bx,es⟩⟨g,fw,rfl,bl⟩ en fr;have et:=AI p;have fu:xs.length=ey.length:=by have:=congrArg List.length ac;simpa using this
  have ed:=ae.cell 0;obtain⟨du,fx,fy,fz⟩:=bl.d4 0 2 3 4;have fi:=an.cell 0;have fj:=(am.cell 0).trans dy.out;have bh:=a6 bl;obtain⟨P,aw⟩:∃P,P=gM i p x.p:=⟨_,rfl⟩;have dh:=a6 (show(([x].map PX.p).map (pgV i p))=[⟨x.d,x.a,P⟩] by rw[aw];rfl);obtain⟨dw,dt⟩:∃dw,dw=x.v:=⟨_,rfl⟩;have fs:=D.size;have dq:xs.length+1≤1000000:=by omega
  have fn:f≤W.heap.size:=by omega
  clear dk bv db dc dd de bu en et;rcases es with⟨dn,cd,ej⟩|⟨fo,fp,cd,er,dr⟩
  ·have aq:=a6 (a1X Aa L p.ar i W ej (by omega) ea (eb.h D))
   rw[show V0 i (F6 (sH (Q3 p.ar))) (F6 (sH (Q3 p.ar)))=P by rw[aw];unfold gM;rw[if_pos (show x.p.d=0 from dn)]]at aq;have eh:((x.d:Int)==0)=Bt:=by simp[dn]
   generalize(x.d:Int)=xd at*;generalize(x.a:Int)=xa at*;clear aw bx dt;obtain⟨S,T,br,F,bq,bp⟩:=jX ad ae al (And.intro am (And.intro an (And.intro G H))) ac D;have bt:=a6 ay;clear ad ae al am an G H ac D ay bl;unfold bdF;gi_wp2_with(first
    |(refine⟨trivial,?_⟩;gi_at_call 38;refine(CallsIn.inRound l ((Cw (n:=0)).2 aq.out)).mono ?_;rintro e ah⟨fd,rfl,au,C⟩;have bs:=a6 au;obtain⟨ao,av,rfl,-,-⟩:=au;have B:=a6 C;have du:=(bh.h C).cell 0;have ex:=(bh.h C).cell 1;have ee:=(T.h C).cell 0;clear C)
    |(gi_at_builtin;go_loud (refine o9 rfl (Tm 35) (Tm 42) 40 51 rfl a2l f v xs rfl (S.h (B.alloc _)) ah 1 1 [⟨⟨xd,xa,P⟩,ao,av⟩] rfl rfl (fF rfl rfl) dq (by have:=B.size;simp;omega) ?_;intro fe bc ag aa k7 cf A;obtain⟨m,cg,s,rfl⟩:=ag.f;have E:=(T.h (B.alloc (U #[I M xd,I M xa,Z ao P.length av] 51))).grown aa (fun e=>S.ne T (by decide) e.symm);have ei:=E.frozen 0;have eg:bc.cell? ⟨f,0,J⟩=So v:=E.cell 0;have R:=a6 E;have ar:=a6 ag;have bo:=a6 aa;clear E ag aa k7 cf)))
   have ba:Tv f WBd ah (bc.setCell ⟨f,0,J⟩ (Z m cg s)):=((Tv.f ((a9.refl ah).alloc _)).trans (.ofOwn (S.h (B.alloc _)) bo (a7 _) (by decide))).trans (.r R (a7 _) (by decide) 0 _);have h:=(Tv.f B.out).trans ba;have bd:=h.b bp (by omega);refine⟨h.from,⟨fun _=>bd,fun b t cs k bm=>h.blk k (.inr bm)⟩,⟨⟨_,_,R.f 0 _,ar.kept (x4 _ f 0 _) (.inr (ar.ne R (by decide))),fun ai j=> ?_,?_⟩,h.blk F.1 (.inl (by omega)),h.blk F.2.1 (.inl (by omega)),h.blk F.2.2.1 (.inl (by omega)),h.blk F.2.2.2 (.inl (by omega)),bd,c8 bt h.size⟩⟩
   ·rcases List.mem_append.1 j with j|j
    ·exact(br ai j).tv h (by decide)
    ·rw[List.mem_singleton.1 j];exact bs.tv ba (by decide)
   ·rw[a4F,a4F,a4F,bq.out,dh.out];rfl
  ·obtain⟨d,a,fa,bw,dx,ef,cw⟩:=x
   dsimp only[PX.p]at*;subst er;have aq:=a6 (QI fa bw dx ef cw i W cd (eT ce cd dr) bx);rw[show V0 i (F6 (aX ⟨fa,bw,cw.map (·.p)⟩)) (F6 (aX (I1 ⟨fa,bw,cw.map (·.p)⟩)))=P by rw[aw];unfold gM;rw[if_neg (show¬d=0 by omega)]]at aq;have eh:((d:Int)==0)=Bf:=by simp;omega
   generalize(d:Int)=xd at*;generalize(fa:Int)=xa at*;clear aw bx dt dr;obtain⟨S,T,br,F,bq,bp⟩:=jX ad ae al (And.intro am (And.intro an (And.intro G H))) ac D;have bt:=a6 ay;clear ad ae al am an G H ac D ay bl;unfold bdF;gi_wp2_with(first
    |(refine⟨trivial,?_⟩;gi_at_call 39;refine(CallsIn.inRound l ((Cw (n:=0)).2 aq.out)).mono ?_;rintro e ah⟨fd,rfl,au,C⟩;have bs:=a6 au;obtain⟨ao,av,rfl,-,-⟩:=au;have B:=a6 C;have du:=(bh.h C).cell 0;have ex:=(bh.h C).cell 1;have ee:=(T.h C).cell 0;clear C)
    |(gi_at_builtin;go_loud (refine o9 rfl (Tm 35) (Tm 42) 40 51 rfl a2l f v xs rfl (S.h (B.alloc _)) ah 1 1 [⟨⟨xd,xa,P⟩,ao,av⟩] rfl rfl (fF rfl rfl) dq (by have:=B.size;simp;omega) ?_;intro fe bc ag aa k7 cf A;obtain⟨m,cg,s,rfl⟩:=ag.f;have E:=(T.h (B.alloc (U #[I M xd,I M xa,Z ao P.length av] 51))).grown aa (fun e=>S.ne T (by decide) e.symm);have ei:=E.frozen 0;have eg:bc.cell? ⟨f,0,J⟩=So v:=E.cell 0;have R:=a6 E;have ar:=a6 ag;have bo:=a6 aa;clear E ag aa k7 cf)))
   have ba:Tv f WBd ah (bc.setCell ⟨f,0,J⟩ (Z m cg s)):=((Tv.f ((a9.refl ah).alloc _)).trans (.ofOwn (S.h (B.alloc _)) bo (a7 _) (by decide))).trans (.r R (a7 _) (by decide) 0 _);have h:=(Tv.f B.out).trans ba;have bd:=h.b bp (by omega);refine⟨h.from,⟨fun _=>bd,fun b t cs k bm=>h.blk k (.inr bm)⟩,⟨⟨_,_,R.f 0 _,ar.kept (x4 _ f 0 _) (.inr (ar.ne R (by decide))),fun ai j=> ?_,?_⟩,h.blk F.1 (.inl (by omega)),h.blk F.2.1 (.inl (by omega)),h.blk F.2.2.1 (.inl (by omega)),h.blk F.2.2.2 (.inl (by omega)),bd,c8 bt h.size⟩⟩
   ·rcases List.mem_append.1 j with j|j
    ·exact(br ai j).tv h (by decide)
    ·rw[List.mem_singleton.1 j];exact bs.tv ba (by decide)
   ·rw[a4F,a4F,a4F,bq.out,dh.out];rfl
 case Ac=>
  rintro bn ys W fm ew⟨⟨v,xs,ae,ad,al,ac⟩,am,an,G,H,D,ay⟩ ca;obtain⟨m,A,s,rfl⟩:=ad.f;have ed:=ae.cell 0;have fk:=G.frozen 0;have k2:=G.cell 0;have fl:=(H.far (p:=⟨w+1+1,0,J⟩) (by show w+1+1+1≠w.heap.size+1+1;omega) (Z m A s)).frozen 0;have k3:=(H.far (p:=⟨w+1+1,0,J⟩) (by show w+1+1+1≠w.heap.size+1+1;omega) (Z m A s)).cell 0;have bf:=(G.f 0 (Z m A s)).far (p:=⟨w+1+1+1,0,J⟩) (by show w+1+1≠w.heap.size+1+1+1;omega) (I M 0);have bg:=(H.far (p:=⟨w+1+1,0,J⟩) (by show w+1+1+1≠w.heap.size+1+1;omega) (Z m A s)).f 0 (I M 0);have bb:Tv w [40,46] W ((W.setCell ⟨w+1+1,0,J⟩ (Z m A s)).setCell ⟨w+1+1+1,0,J⟩ (I M 0)):=(Tv.r G (by omega) (by decide) 0 (Z m A s)).trans (.r (H.far (p:=⟨w+1+1,0,J⟩) (by show w+1+1+1≠w.heap.size+1+1;omega) (Z m A s)) (by omega) (by decide) 0 (I M 0));have aj:=bb.keep bn _ ca (.inr rfl);have bj:=bb.b D (a7 _);have bi:eF ((W.setCell ⟨w+1+1,0,J⟩ (Z m A s)).setCell ⟨w+1+1+1,0,J⟩ (I M 0)) (Z m A s) (z8 i p):=⟨xs,ad.ty.tv bb (by decide),fun ai j=>(al ai j).tv bb (by decide),by rw[ac,ew];rfl⟩;have dz:=a6 (And.intro bf (And.intro bg (And.intro aj (And.intro bj bi))));clear bf bg aj bj bi bb
  gi_wp2
  obtain⟨bf,bg,aj,bj,bi⟩:=dz.out;have bk:=fun{b:Nat}{t:Ti}{c:Array Va}(k:b9 ((W.setCell ⟨w+1+1,0,J⟩ (Z m A s)).setCell ⟨w+1+1+1,0,J⟩ (I M 0)) b t c)(af:Obj)=>e8 k (grownBy_putObj' _ bn af) (fun r e=>by cases e;exact⟨_,aj,rfl⟩)
  refine⟨by simp,.inl ⟨_,_,rfl,run_takeDeferred aj,?_⟩⟩;obtain⟨ff,ez,fb,fc⟩:=bi.ex;exact⟨_,pG rfl _ _ _ _ _ _ rfl rfl (BK _ _ _ ((bk bf _).cell 0)) (VY _ _ _ ((bk bg _).cell 0)),_,rfl,⟨ff,ez.kept fun b cs k=>bk k _,fun ai j=>(fb ai j).kept fun b cs k=>bk k _,fc⟩,Below.trans bj (belowK_b (w:=w) (a7 _) _ bn _ _ (by omega) aj rfl rfl)⟩
theorem zJ(p:i1)(b c d f:Va)(a:Bool)(w:Wd)(m:p.small)(h:0≤p.fm∧0≤p.lm)(j:∀x∈p.ar,0≤x∧x<6)(k:p.ar.length≤6)(i:R3 w p b c d f)(l:y9 p=Bt):
  Ca prog 22 #[Ag (i4 p b c d f),O a] w fun e g=>∃v,e=X (Tp #[v,I M 0])∧eF g v (z8 a p)∧a9 w g:=callsIn_wide.1 (YW p b c d f a w m h j k i l)
end
def bN(p:i1)(b e f g i h:Va)(u:a1f)(d:Va)(a:Bool)(c:Va):Array Va:=
 #[b,I U8 p.fm,e,I V p.dy,I U8 p.lm,f,g,I U8 p.am,I U6 p.sp,O p.we,O p.pe,O p.rt,O p.np,i,h,Y u.name,I M u.dir,Z u.A u.n u.c,d,O a,c]
theorem T1(l:List m6):(i9 l).2.length≤x1 l:=by
 have h:=(bG l (M7 2147483648,[]) (wQ _)).2;have e:(i9 l).2=(pH l).2:=by unfold i9;split<;>rfl
 rw[e];rw[List.length_nil,a4E]at h;exact h
theorem FM(g:Nat)(p:i1)(B D E F G t:Va)(u:a1f)(C:Va)(A:Bool)(j:Option Ad)(c:Nat)(l:List m6)(w:Wd)(P:b9 w g 58 (bN p B D E F G t u C A (Z j l.length c)))
  (aq:l.length≤100000) (af:h9 w j (Q8.row l)) (z:∀a∈l,a.val.size≤50000) (ae:x1 l≤900000):
  Ca prog 13 #[K g] w fun e T=>∃B D E F t,e=X (O (!r0 (i9 l).2))∧b9 T g 58 (bN (i9 l).1 B D E F G t u C A (Z j l.length c))∧r6 T w (i9 l).1 B D E F∧e4 T w 73 g6 t (i9 l).2∧w.grownBy T (So g):=by
 have ao:=a6 (FP j c l w aq af z ae);have bd:=c8 (T1 l) ae;generalize i9 l=R at*;obtain⟨q,S⟩:=R;dsimp only at*;have aj:=a6 P;have az:w.cell? ⟨g,20,J⟩=So (Z j l.length c):=P.cell 20;have bc:=P.lt;clear af z ae P;go_in;go_wp2_with fail
 apply ao.mono;rintro e bf⟨k,m,n,o,h,rfl,d,Q,ah⟩;have r:=aj.h ah;obtain⟨W,ac,ap,_,_,be⟩:=Q.inM;have ar:k.oneCell'=Bt:=by obtain⟨_,_,_,e⟩:=d.a.f;rw[e];rfl
 have of:m.oneCell'=Bt:=by obtain⟨_,_,_,e⟩:=d.f.f;rw[e];rfl
 have au:n.oneCell'=Bt:=by obtain⟨_,_,_,e⟩:=d.l.f;rw[e];rfl
 have av:o.oneCell'=Bt:=by obtain⟨_,_,_,e⟩:=d.m.f;rw[e];rfl
 have one:∀v∈(i4 q k m n o).toList,v.oneCell'=Bt:=by
  intro v z;simp only[i4,List.mem_cons,List.not_mem_nil,or_false]at z;rcases z with b|b|b|b|b|b|b|b|b|b|b|b|b<;>first|(rw[b];assumption)|(rw[b];rfl)
 go_wp2_with(refine y4 rfl 39 (Tm 15) (Tm 11) rfl g 0 58 (bN p B D E F G t u C A (Z j l.length c)).toList (i4 q k m n o) rfl rfl r (by simp[bN,i4]) (by kernel_rfl) one ?_;intro x f y;replace f:b9 x g 58 (bN q k m n o G t u C A (Z j l.length c)):=f;have bb:=f.frozen 14;have ax:x.cell? ⟨g,14,J⟩=So t:=f.cell 14)
 have aa:=Q.kept y (.inr (Q.ne r (by decide)));have i:r6 x w q k m n o:=⟨d.a.kept y (.inr (d.a.ne r (by decide))),d.f.kept y (.inr (d.f.ne r (by decide))),d.l.kept y (.inr (d.l.ne r (by decide))),d.m.kept y (.inr (d.m.ne r (by decide)))⟩;have H:b9 (x.setCell ⟨g,14,J⟩ h) g 58 (bN q k m n o G h u C A (Z j l.length c)):=f.f 14 h;have N:=aa.kept (x4 _ g 14 h) (.inr (aa.ne f (by decide)));have ab:r6 (x.setCell ⟨g,14,J⟩ h) w q k m n o:=⟨i.a.kept (x4 _ g 14 h) (.inr (i.a.ne f (by decide))),i.f.kept (x4 _ g 14 h) (.inr (i.f.ne f (by decide))),i.l.kept (x4 _ g 14 h) (.inr (i.l.ne f (by decide))),i.m.kept (x4 _ g 14 h) (.inr (i.m.ne f (by decide)))⟩;have ad:=((h8 ah (So g)).trans y).trans (x4 x g 14 h);have ag:=N.inM;rw[ap]at ag H N ab ad;obtain⟨aw,ba,ev,_,_,ai⟩:=ag;cases ev;have al:=a6 (kL W S.length ac S _ rfl (by omega) ai);have ay:(x.setCell ⟨g,14,J⟩ (Z W S.length ac)).cell? ⟨g,14,J⟩=So (Z W S.length ac):=H.cell 14;obtain⟨ak,an,L,am⟩:=J5 H N ab ad;clear H N ab ad aa i Q d r ai one ar of au av;go_wp2_with fail
 apply al.mono;rintro e bg⟨rfl,s⟩;go_wp2_with fail
 go_ret;exact⟨k,m,n,o,_,rfl,ak.h s,⟨L.a.h s,L.f.h s,L.l.h s,L.m.h s⟩,an.h s,am.trans (h8 s (So g))⟩
section
attribute [local go_sem] Oper.semAt_some
structure GC(g base:Nat)(ag:List m6)(W W':Wd):Prop where
 gr:W.grownBy W' (So g)
 ce:∀cs,b9 W g 58 cs→∃cs',b9 W' g 58 cs'∧(cs'=cs∨∃v,cs'=cs.setIfInBounds 20 v∧e4 W' base 88 Q8 v ag)
section
variable {g base:Nat} {ag:List m6} {W W':Wd}
theorem GC.h(h:W.grownBy W' J):GC g base ag W W':=⟨s6 h _,fun cs k=>⟨cs,k.grown h (by simp),.inl rfl⟩⟩
theorem GC.f(h:a9 W W'):GC g base ag W W':= .h (h8 h J)
instance (g base:Nat)(ag:List m6):fT (GC g base ag) where
 refl W:= .h ⟨rfl,rfl,rfl,a7 _,fun _ _ _=>rfl⟩
 trans a b c h k:=⟨h.gr.trans k.gr,fun cs q=>by
  obtain⟨n,j,d⟩:=h.ce cs q;obtain⟨o,p,e⟩:=k.ce n j;refine⟨o,p,?_⟩;rcases e with e|⟨m,e,i⟩
  ·rcases d with d|⟨l,d,f⟩
   ·exact .inl (e.trans d)
   ·exact .inr ⟨l,e.trans d,f.kept k.gr (.inr (f.ne j (by decide)))⟩
  ·rcases d with d|⟨l,d,f⟩
   ·exact .inr ⟨m,by rw[e,d],i⟩
   ·exact .inr ⟨m,by rw[e,d];simp,i⟩⟩
 drew W:= .h (B1 W)
def a44:VR (GC g base ag):=⟨fun _ c=>∃cs v,b9 c g 58 cs∧20<cs.size∧cs[20]? =So v∧e4 c base 88 Q8 v ag,fun _ W W'⟨cs,v,q,b,h,e⟩ k=>by
 obtain⟨d,f,a⟩:=k.ce cs q;rcases a with a|⟨j,a,i⟩
 ·exact⟨d,v,f,by rw[a];exact b,by rw[a];exact h,e.kept k.gr (.inr (e.ne q (by decide)))⟩
 ·exact⟨d,j,f,by rw[a];simpa using b,by rw[a];simp[b],i⟩⟩
theorem GC.set{cs:Array Va}{v:Va}(q:b9 W g 58 cs)(a:e4 W base 88 Q8 v ag):GC g base ag W (W.setCell ⟨g,20,J⟩ v):=⟨x4 _ _ _ v,fun c b=>by
 refine⟨_,b.f 20 v,.inr ⟨v,rfl,a.kept (x4 _ g 20 v) (.inr (a.ne q (by decide)))⟩⟩⟩
def pQ{c:Type}(e:Ti)(d:e≠58)(E:p6 c)(xs:List c):VR (GC g base ag):=⟨fun v a=>(∃cs,b9 a g 58 cs)∧e4 a base e E v xs,fun _ W W'⟨⟨cs,q⟩,b⟩ k=>⟨let⟨c2,q2,_⟩:=k.ce cs q;⟨c2,q2⟩,b.kept k.gr (.inr (b.ne q d))⟩⟩
def pU(h:List i0):VR (GC g base ag):=⟨fun x c=>∃a b,x=Tp #[a,b]∧(∃cs,b9 c g 58 cs)∧e4 c base 88 Q8 a ag∧e4 c base 73 g6 b h,fun _ W W'⟨a,b,f,⟨cs,q⟩,d,e⟩ k=>⟨a,b,f,let⟨c2,q2,_⟩:=k.ce cs q;⟨c2,q2⟩,d.kept k.gr (.inr (d.ne q (by decide))),e.kept k.gr (.inr (e.ne q (by decide)))⟩⟩
end
theorem GC.mkr{g base:Nat}{ag:List m6}{W b:Wd}{p:i1}{d h i j l k:Va}{u:a1f}{f:Va}{c:Bool}{e:Va}(m:GC g base ag W b)(n:b9 W g 58 (bN p d h i j l k u f c e)):∃v,b9 b g 58 (bN p d h i j l k u f c v):=by
 obtain⟨cs,q,a|⟨v,a,_⟩⟩:=m.ce _ n
 ·exact⟨e,by rw[←a];exact q⟩
 ·exact⟨v,by rw[a]at q;exact q⟩
theorem a0L{g base:Nat}{ag:List m6}{b:Wd}{p:i1}{f i j k m l:Va}{u:a1f}{h:Va}{d:Bool}{v:Va}(a:b9 b g 58 (bN p f i j k m l u h d v)){x:Va}(n:(a44 (g:=g) (base:=base) (ag:=ag)).p x b):e4 b base 88 Q8 v ag:=by
 obtain⟨cs,r,q,_,c,o⟩:=n;have e:cs=bN p f i j k m l u h d v:=by
  unfold b9 at q a;rw[q]at a;injection a with a
  injection a with a
 rw[e]at c;have:v=r:=by injection c
 rw[this];exact o
theorem TM(g:Nat)(p:i1)(T aa ab ac ad ba:Va)(u:PF)(i:Option Ad)(c:Nat)(ds:List PF)(S:Bool)(br:Va)(w:Wd)(H:b9 w g 58 (bN p T aa ab ac ad ba u.1 (Z i ds.length c) S br))
  (bg:ds.length≤1000000) (bh:IN u) (ar:∀p∈ds,IN p) (au:∀a,w.grownBy a (So g)→h9 a i (q7.row (ds.map (·.1)))∧F7 a u∧∀p∈ds,F7 a p):
  Ca prog 12 #[K g] w fun e F=>∃o r,e=X (O (Dc ((l5 (l4 u) (ds.map l4)).2.length=0)))∧b9 F g 58 (bN p T aa ab ac ad r u.1 (Z i ds.length c) S o)∧e4 F w 88 Q8 o (l5 (l4 u) (ds.map l4)).1∧e4 F w 73 g6 r (l5 (l4 u) (ds.map l4)).2∧w.grownBy F (So g):=by
 have ae:=a6 (fun a(bd:h9 a i (q7.row (ds.map (·.1))))(be:F7 a u)(bf:∀p∈ds,F7 a p)=>PV u i c ds a bg bd be bh (fun p av=>⟨bf p av,ar p av⟩));generalize l5 (l4 u) (ds.map l4)=R at*;obtain⟨ag,f⟩:=R;dsimp only at*;obtain⟨l,G⟩:=i6 (fun a(b:GC g w ag w a)=>b.mkr H) (fun a(b:GC g w ag w a)=>au a b.gr);have cc:=H.lt;clear H ar au;unfold o4 at ae;go_in;go_wp2_with fail
 refine wpIn_wide.1 (s8 (n:=1) (R:=(GC g w ag)) (fun _=>trivial) rfl [.is ?Aw,.is ?Ax,.is ?Ay,.is ?Az,.is ?Ba,.is (.agg #[Y u.1.name,I M u.1.dir,Z u.1.A u.1.n u.1.c]),.is ?Bb,.is ?Bc,.is ?Bd,.is (Z i ds.length c),(pU f),(pU f),(pQ 88 (by decide) Q8 ag),(pQ 73 (by decide) g6 f),.is ?Be,.is ?Bf,a44,.is ?Bg,.is ?Bh,.is ?Bi] (by kernel_rfl) ?Bj ?Aa ⟨?Ab,?Ac,?Ad,?Ae,?Af,?Ag,?Ah,?Ai,?Aj,?Ak,?Al,?Am,?An,?Ao,?Ap,?Aq,?Ar,?As,?At,?Au,trivial⟩ _ rfl rfl ?Av)
 case Aa=>intro x;simp only[e6,Act.put,uL,l9]<;>rfl
 case Ab|Ac|Ad|Ae|Af|Ah|Ai|Aj|Ap|Aq|As|At|Au=>
  intro x a b;simp only[e5,g1,uV,pU,pQ];repeat(intro d;try simp only[d])
  gi_wp2_with fail
  refine a0e ?_ rfl (fT.refl _);rfl
 case Ag=>
  intro x a b;simp only[e5,g1,uV,pU,pQ];intro t;simp only[t];obtain⟨bp,m⟩:=l a b;have bb:a.cell? ⟨g,15,J⟩=So (Y u.1.name):=m.cell 15;have bt:a.cell? ⟨g,16,J⟩=So (I M u.1.dir):=m.cell 16;have bw:a.cell? ⟨g,17,J⟩=So (Z u.1.A u.1.n u.1.c):=m.cell 17;gi_wp2_with fail
  refine a0e ?_ rfl (fT.refl _);rfl
 case Ak=>
  intro x a b;simp only[e5,g1,uV,pU,pQ];intro z;simp only[z];obtain⟨bp,m⟩:=l a b;have bb:a.cell? ⟨g,18,J⟩=So (Z i ds.length c):=m.cell 18;gi_wp2_with fail
  refine a0e ?_ rfl (fT.refl _);rfl
 case Al=>
  intro x a b;simp only[e5,g1,uV,pU,pQ];intro y A;simp only[y,A];gi_wp2_with(refine⟨trivial,?_⟩;gi_at_call 20;apply((Cw (n:=0)).2 (ae a (G a b).1 (G a b).2.1 (G a b).2.2)).mono;rintro e ce⟨bq,bs,rfl,bl,bn,aw⟩)
  refine a0e ?_ rfl (GC.f aw);exact⟨bq,bs,rfl,(l a b).elim (fun v q=>⟨_,q.h aw⟩),bl.mono b.gr.size,bn.mono b.gr.size⟩
 case Am=>
  intro x a b;simp only[e5,g1,uV,pU,pQ];rintro ax;gi_wp2_with fail
  refine a0e ?_ rfl (GC.f (a9.refl a));exact ax
 case An=>
  intro x a b;simp only[e5,g1,uV,pU,pQ];rintro⟨o,r,B,C,P,Q⟩;rw[B];gi_wp2_with fail
  refine a0e ?_ rfl (GC.f (a9.refl a));exact⟨C,P⟩
 case Ao=>
  intro x a b;simp only[e5,g1,uV,pU,pQ];rintro⟨o,r,B,C,P,Q⟩;rw[B];gi_wp2_with fail
  refine a0e ?_ rfl (GC.f (a9.refl a));exact⟨C,Q⟩
 case Ar=>
  intro x a b;simp only[e5,g1,uV,pU,pQ];rintro s L;simp only[s];obtain⟨E,h⟩:=l a b;have bx:a.cell? ⟨g,20,J⟩=So E:=h.cell 20;have cb:=h.frozen 20;obtain⟨Aa,cd,bz,bc⟩:=L.2.f;have D:=L.2;rw[bc]at D⊢;gi_wp2_with fail
  refine a0e ?_ rfl (GC.set h D);exact⟨_,_,h.f 20 _,by simp[bN],rfl,D.kept (x4 _ g 20 _) (.inr (D.ne h (by decide)))⟩
 case Av=>
  intro x a b;simp only[l8,e5,g1,uV,pU,pQ];rintro af ah am an t y ao ap z A ax⟨o,r,B,C,P,Q⟩ L ay ai s bk aj ak al;simp only[af,ah,am,an,t,y,ao,ap,z,A,ai,s,aj,ak,al];clear af ah am an t y ao ap z A ai s aj ak al;obtain⟨E,h⟩:=l a b;have az:=a0L h bk;obtain⟨j,k,aq,_⟩:=ay.2.inM;have N:=ay.2;rw[aq]at N;have bu:a.cell? ⟨g,14,J⟩=So ba:=h.cell 14;have ca:=h.frozen 14;have b3:b9 (a.setCell ⟨g,14,J⟩ (Z j f.length k)) g 58 (bN p T aa ab ac ad (Z j f.length k) u.1 (Z i ds.length c) S E):=h.f 14 _;have bv:(a.setCell ⟨g,14,J⟩ (Z j f.length k)).cell? ⟨g,14,J⟩=So (Z j f.length k):=b3.cell 14;have bi:=b.gr.trans (x4 a g 14 (Z j f.length k));have bm:=az.kept (x4 _ g 14 (Z j f.length k)) (.inr (az.ne h (by decide)));have bo:=N.kept (x4 _ g 14 (Z j f.length k)) (.inr (N.ne h (by decide)));simp only[aq];gi_wp2_with fail
  go_wp2_with fail
  go_ret;have bj:((f.length:Int)==0)=Dc (f.length=0):=by
   rw[Bool.eq_iff_iff,beq_iff_eq,decide_eq_true_iff];omega
  refine⟨E,_,?_,b3,bm,bo,bi⟩;show X (O ((f.length:Int)==0))=_;rw[bj]
end
def aF(p:i1)(a b c d f e:Va):Array Va:=
 #[a,I U8 p.fm,b,I V p.dy,I U8 p.lm,c,d,I U8 p.am,I U6 p.sp,O p.we,O p.pe,O p.rt,O p.np,f,e]
theorem iM(p:i1)(d f g h i:Va)(b:Option Ad)(c:Nat)(a:List i0)(w:Wd)(o:a.length≤1000000)(l:h9 w b (g6.row a)):
  Ca prog 7 #[Ag (aF p d f g h i (Z b a.length c))] w fun e r=>e=X (O (!r0 a))∧a9 w r:=by
 have k:=fun cs=>b9.new w 43 cs
 have j:=fun cs=>(a9.refl w).alloc (U cs 43)
 have m:=a6 (kL b a.length c a _ rfl o (l.h (j (aF p d f g h i (Z b a.length c)))));have s:(w.alloc (U (aF p d f g h i (Z b a.length c)) 43)).cell? ⟨w,14,J⟩=So (Z b a.length c):=(k (aF p d f g h i (Z b a.length c))).cell 14;have n:=a6 (j (aF p d f g h i (Z b a.length c)));clear k j l;generalize r0 a=R at*;generalize aF p d f g h i (Z b a.length c)=cs at*;go_in;go_wp2_with fail
 apply m.mono;rintro e t⟨rfl,q⟩;go_wp2_with fail
 go_ret;exact⟨rfl,n.trans q⟩
def a0s:ByteArray:=⟨#[97,46,115,101,114,118,105,99,101]⟩
def iA(a:ByteArray):ByteArray:=(⟨#[91,83,101,114,118,105,99,101,93,10]⟩++a)++⟨#[10]⟩
theorem vK(a:ByteArray)(Q:a.size≤1000)(w:Wd):
  Ca prog 9 #[Y a] w fun e o=>∃u:PF,e=X (o4 u.1)∧F7 o u∧IN u∧l4 u=⟨a0s,0,z7 (iA a)⟩∧a9 w o:=by
 have T:¬9223372036854775807<10+a.size:=by omega
 have W:¬9223372036854775807<10+a.size+1:=by omega
 have y:(⟨#[91,83,101,114,118,105,99,101,93,10]⟩:ByteArray).size=10:=rfl;have x:(⟨#[10]⟩:ByteArray).size=1:=rfl;have F:(iA a).size=a.size+11:=by unfold iA;simp only[ByteArray.size_append,y,x];omega
 have g:=b9.new w 24 #[Y ⟨#[]⟩,I M 0,Z J 0 0];have r:=(a9.refl w).alloc (U #[Y ⟨#[]⟩,I M 0,Z J 0 0] 24);obtain⟨G,c,p,P,d,l⟩:=oT (iA a) (w.alloc (U #[Y ⟨#[]⟩,I M 0,Z J 0 0] 24));have N:(⟨#[91,83,101,114,118,105,99,101,93,10]⟩++a)++⟨#[10]⟩=iA a:=rfl;have B:(z7 (iA a)).length=(iA a).size:=by simp[z7]
 have f:=g.h d;have i:=r.trans d;generalize iA a=S at*;generalize z7 S=xs at*;obtain⟨t,h⟩:=i6 i l;clear g r d i l;go_in;go_wp2_with(refine c7 rfl 24 (Tm 2) (Tm 7) rfl w _ _ _ rfl rfl f rfl (by kernel_rfl) (by simp[Value.oneCell']) ?_;intro L s n)
 refine Bp (g0 rfl _ _ _ _ _ _ rfl s underlying24 rfl (by kernel_rfl)) rfl ⟨(⟨a0s,0,So ⟨G,0,J⟩,a.size+11,c⟩,xs),rfl,⟨B.trans F,?_⟩,⟨by show a0s.size≤_;decide,by dsimp only;omega⟩,rfl,t.f n (fun k e=>by cases e;exact a7 _)⟩;have v:0<xs.length:=by omega
 have C:G≠w.heap.size:=fun e=>by
  have k1:=h.cell (k:=0) (u:=I U8 xs[0]) (M2 v);have k2:p.cell? ⟨w,0,J⟩=So (Y ⟨#[]⟩):=f.cell 0;rw[e,a4E,k2]at k1;cases k1
 exact fun j u E=>by
  obtain⟨b,H,e,m⟩:=h j u E;obtain⟨R,D,_⟩:=cells_of_cell m;have z:b≠w.heap.size:=fun q=>by
   injection e with e
   injection e with e
   exact C (e.trans q)
  have A:L.heap[b]? =p.heap[b]? :=n.block b (Array.getElem?_eq_some_iff.1 D).1 (fun q=>by injection q with q;exact z q);refine⟨b,H,e,?_⟩;rw[←m];unfold World.cell?;simp only[A]
def VP.stk(l:List J1):VP:=⟨fun v w=>eF w v l,fun _ _ _ h x=>h.h x⟩
def VP.tup(l:List J1):VP:=⟨fun t w=>∃v,t=Tp #[v,I M 0]∧eF w v l,fun _ _ _⟨v,a,b⟩ x=>⟨v,a,b.h x⟩⟩
theorem zW(g:Nat)(p:i1)(k l m n ab an:Va)(u:a1f)(am:Va)(i:Bool)(al:Va)(w:Wd)(S:b9 w g 58 (bN p k l m n ab an u am i al))
  (ah:p.small) (ad:0≤p.fm∧0≤p.lm) (W:∀x∈p.ar,0≤x∧x<6) (af:p.ar.length≤6) (T:R3 w p k l m n) (ag:y9 p=Bt):
  Ca prog 14 #[K g] w fun e ao=>e=X (O Bt)∧∃B v,a9 w B∧ao=B.setCell ⟨g,13,J⟩ v∧eF B v (z8 i p):=by
 have C:=a6 (fun a(b:a9 w a)=>zJ p k l m n i a ah ad W af (T.h b) ag);unfold i4 at C;generalize z8 i p=t at*;have f:=a6 S;clear S T W;go_in;go_wp2_with fail
 refine e7 rfl [.is ?Ar,.is ?As,.is ?At,.is ?Au,.is (.agg #[k,I U8 p.fm,l,I V p.dy,I U8 p.lm,m,n,I U8 p.am,I U6 p.sp,O p.we,O p.pe,O p.rt,O p.np]),.is ?Av,.is ?Aw,.is ?Ax,.is (O i),.tup t,.tup t,.stk t,.is (I M 0),.stk t,.is (I M 0)] (by kernel_rfl) ?Ay ?Aa ⟨?Ab,?Ac,?Ad,?Ae,?Af,?Ag,?Ah,?Ai,?Aj,?Ak,?Al,?Am,?An,?Ao,?Ap,trivial⟩ ?Aq
 case Aa=>intro x;simp only[e6,Act.put,uL,l9]<;>rfl
 case Ab|Ac|Ad|Ae|Af|Ag|Ah|Ai|Aj|Ap=>
  intro x a b;simp only[e5,j8,uV,VP.stk,VP.tup];repeat(intro d;try simp only[d])
  have ar:a.cell? ⟨g,0,J⟩=So k:=(f.h b).cell 0;have au:a.cell? ⟨g,1,J⟩=So (I U8 p.fm):=(f.h b).cell 1;have az:a.cell? ⟨g,2,J⟩=So l:=(f.h b).cell 2;have ba:a.cell? ⟨g,3,J⟩=So (I V p.dy):=(f.h b).cell 3;have bb:a.cell? ⟨g,4,J⟩=So (I U8 p.lm):=(f.h b).cell 4;have bc:a.cell? ⟨g,5,J⟩=So m:=(f.h b).cell 5;have bd:a.cell? ⟨g,6,J⟩=So n:=(f.h b).cell 6;have be:a.cell? ⟨g,7,J⟩=So (I U8 p.am):=(f.h b).cell 7;have bf:a.cell? ⟨g,8,J⟩=So (I U6 p.sp):=(f.h b).cell 8;have bg:a.cell? ⟨g,9,J⟩=So (O p.we):=(f.h b).cell 9;have av:a.cell? ⟨g,10,J⟩=So (O p.pe):=(f.h b).cell 10;have aw:a.cell? ⟨g,11,J⟩=So (O p.rt):=(f.h b).cell 11;have ax:a.cell? ⟨g,12,J⟩=So (O p.np):=(f.h b).cell 12;have ay:a.cell? ⟨g,19,J⟩=So (O i):=(f.h b).cell 19;go_wp2_with fail
  refine a0e ?_ rfl (a9.refl _);rfl
 case Ak=>
  intro x a b;simp only[e5,j8,uV,VP.stk,VP.tup];intro o q;simp only[o,q];go_wp2_with(go_at_call 22;apply(C a b).mono;rintro e bh⟨y,rfl,j,ak⟩)
  refine a0e ?_ rfl (ak);exact⟨y,rfl,j⟩
 case Al=>
  intro x a b;simp only[e5,j8,uV,VP.stk,VP.tup];rintro⟨y,r,j⟩;simp only[r];go_wp2_with fail
  refine a0e ?_ rfl (a9.refl _);exact⟨y,rfl,j⟩
 case Am=>
  intro x a b;simp only[e5,j8,uV,VP.stk,VP.tup];rintro⟨aa,h,s⟩;simp only[h];go_wp2_with fail
  refine a0e ?_ rfl (a9.refl _);exact s
 case An=>
  intro x a b;simp only[e5,j8,uV,VP.stk,VP.tup];rintro⟨aa,h,s⟩;simp only[h];go_wp2_with fail
  refine a0e ?_ rfl (a9.refl _);rfl
 case Ao=>
  intro x a b;simp only[e5,j8,uV,VP.stk,VP.tup];rintro z;go_wp2_with fail
  refine a0e ?_ rfl (a9.refl _);exact z
 case Aq=>
  intro x a b;simp only[l8,e5,j8,uV,VP.stk,VP.tup];rintro E F L N o P Q R q⟨y,r,j⟩⟨aa,h,s⟩ z G A H;simp only[E,F,L,N,o,P,Q,R,q,r,h,G,H];clear E F L N o P Q R q r h G H;obtain⟨xs,aj,ai,ae⟩:=A.ex;obtain⟨ap,c,ac,-,-⟩:=aj;have k13:=(f.h b).frozen 13;have aq:a.cell? ⟨g,13,J⟩=So ab:=(f.h b).cell 13;have D:=a6 A;clear j s z A ai ae;simp only[ac]at D⊢;go_wp2_with fail
  go_ret;exact⟨rfl,a,_,b,rfl,D.out⟩
end Go.Proofs.YtiomenjfmagknaaGreat
