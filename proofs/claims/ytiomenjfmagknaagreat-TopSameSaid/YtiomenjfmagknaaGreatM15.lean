/- A part of the proof of TopSame: lemmas on the walks of its calls. -/
import Derived.Test.YtiomenjfmagknaaGreatM14
set_option maxHeartbeats 12000000
set_option linter.all false
set_option maxRecDepth 100000
namespace Go.Proofs.YtiomenjfmagknaaGreat
open Go.RowKit Go.ChangeShapes Go.WideShapes Tryz
open Bool renaming true→Bt,false→Bf
open Decidable renaming decide→Dc
open Ending renaming returned→X
open Go renaming World→Wd,Value→Va,Calls→Ca,callsIn_wide→Cw,bodyPost_ret→Bp,TypeId→Ti,Addr→Ad,results_none→Rz,callsIn_of_wp→Co,CallsIn→Ci
open Int renaming toNat_natCast→a4A
open IntKind renaming i64→M,u32→V,u64→U6,u16→U1
open IntWalk renaming i64_in→a37
open Lib renaming hid→a6
open List renaming getD_eq_getElem?_getD→a8,getElem?_eq_getElem→e9,length_append→a2e,replicate→a2A,range→q5,length_cons→a3W,getElem_mem→a30,length_map→a32,take_succ_eq_append_getElem→a4a,append_assoc→a4s,length_take→a4C,map_append→a4F
open Nat renaming le_refl→a7,le_trans→c8,reduceAdd→l9,zero_le→i5,add_zero→a4z,reduceSub→a4D,zero_add→a4E
open Obj renaming cells→U
open Option renaming none→J,some→So
open Value renaming int→I,slice→Z,pointer→K,bool→O,func→Fc,tuple→Tp,agg→Ag
structure ZS where
 l:p0
 co:Int
 at_:Nat
 th:Nat
 el:Nat
 T:Int
 E:Int
def nD(rs:List Sy)(x:ZS):List Sy:=qP rs x.at_ x.co x.T x.E
theorem XM(rs:List Sy)(a:Nat)(co T E:Int):(qP rs a co T E).length=rs.length:=by unfold qP;split<;>simp
theorem CN:∀(xs:List ZS)(rs:List Sy),(xs.foldl nD rs).length=rs.length
 |[],_=>rfl
 |x::xs,rs=>by rw[List.foldl_cons,CN xs,nD,XM]
theorem YP{w:Wd}{g base:Nat}{a f:Va}{rs:List Sy}(l:sN w g base a f rs)(xs:List ZS)(n:e4 w base 1 wV f (xs.map (·.l)))(s:∀x∈xs,rR w x.l g x.co x.at_ x.th x.el x.T x.E∧x.at_<rs.length)(W:rs.length≤1000000)(aj:xs.length≤1000000):
  Ca prog 193 #[K g] w fun e y=>e=X a∧e4 y base 374 bA a (xs.foldl nD rs)∧w.grownBy y a.ownBlock:=by
 obtain⟨z,F,j,_,_,aa⟩:=n.inM;rw[a32]at j;have G:w.cell? ⟨g,1,J⟩=So f:=l.b.cell 1;rw[j]at G;obtain⟨H,B,A⟩:=p7 l (show e4 w base 1 wV (Z z xs.length F) (xs.map (·.l)) by rw[←j];exact n) s;clear n aa s l;go_in;go_wp2_with fail
 go_loopg [4,10] xs.length (fun L aq ab wr=>∃k:Nat,k≤xs.length∧xs.length-k≤L∧ab=I M k∧sN wr g base a f ((xs.take k).foldl nD rs)∧w.grownBy wr a.ownBlock)
 case atStart=>exact⟨0,i5 _,by omega,rfl,H.out,World.grownBy.refl w _⟩
 case round=>
  obtain⟨k,ai,ah,rfl,c,d⟩:=hrel;by_cases m:k<xs.length
  ·have R:(k:Int)<xs.length:=by omega
   have S:k<(xs.map (·.l)).length:=by simpa using m
   have T:=a30 m;obtain⟨t,P⟩:=A _ T;have v:(xs.take (k+1)).foldl nD rs=nD ((xs.take k).foldl nD rs) xs[k]:=by rw[a4a m,List.foldl_append];rfl
   have u:((xs.take k).foldl nD rs).length=rs.length:=CN _ _;have Oq:=B.apart H.o (by decide) d;obtain⟨ac,af,q,_,_,o⟩:=Oq.inM;rw[a32]at q;cases q;obtain⟨b,ap,rfl,ag⟩:=o.rows (by decide) (by simp;omega);have i:=o.b S (r:=0) rfl;obtain⟨h,C⟩:=i6 (a1U c xs[k].l xs[k].co xs[k].at_ xs[k].th xs[k].el xs[k].T xs[k].E (t.row H.o d) (by rw[u];exact P) (by rw[u];exact W)) v;have p:qP ((xs.take k).foldl nD rs) xs[k].at_ xs[k].co xs[k].T xs[k].E=nD ((xs.take k).foldl nD rs) xs[k]:=rfl;rw[p]at h;simp only[List.getElem_map]at i;generalize xs[k]=x at*;obtain⟨⟨ak,al,am,an,ao⟩,co,ae,th,el,ad,E⟩:=x;simp only[wV,a1k,a4z,Nat.mul_one]at i;dsimp only at h;clear v Oq o t p;go_wp2_with fail
   apply h.mono;rintro e ar⟨rfl,N,Q⟩;go_wp2_with fail
   go_roundg (xs.length-(k+1))
   case measure=>omega
   case rel=>exact⟨k+1,by omega,by omega,by go_num,by rw[C.out];exact N,d.trans Q⟩
  ·obtain rfl:k=xs.length:=by omega
   rw[List.take_length]at c;have R:Dc ((xs.length:Int)<xs.length)=Bf:=by simp
   have i:wr.cell? ⟨g,0,J⟩=So a:=c.b.cell 0;have D:=a6 c;clear c;go_wp2_with fail
   go_ret;exact⟨rfl,D.o,d⟩
def T2:List It→List Sy
 |[]=>[]
 | .put s::r=>s::T2 r
 | .jmp c k _ _::r=>⟨c,k,0,0⟩::T2 r
 | .here _::r=>T2 r
def L1:List It→Nat→List (Nat×Int×Nat×Nat)
 |[],_=>[]
 | .put _::r,n=>L1 r (n+1)
 | .jmp c _ t e::r,n=>(n,c,t,e)::L1 r (n+1)
 | .here _::r,n=>L1 r n
def PK(a:Nat→Nat)(r:List Sy)(j:Nat×Int×Nat×Nat):List Sy:=qP r j.1 j.2.1 (a j.2.2.1) (a j.2.2.2)
theorem jE(b:Nat→Nat):∀(f:List It)(a:List Sy),(L1 f a.length).foldl (PK b) (a++T2 f)=a++f.flatMap (a1D b)
 |[],a=>by simp[L1,T2]
 | .put s::r,a=>by
  have d:=jE b r (a++[s]);rw[a2e,List.length_singleton,a4s,a4s]at d;exact d
 | .here x::r,a=>jE b r a
 | .jmp c k t e::r,a=>by
  have d:=jE b r (a++[⟨c,k,(b t:Int),if c=5 then 0 else(b e:Int)⟩]);rw[a2e,List.length_singleton,a4s,a4s]at d;have g:PK b (a++T2 (.jmp c k t e::r)) (a.length,c,t,e)=a++([⟨c,k,(b t:Int),if c=5 then 0 else(b e:Int)⟩]++T2 r):=by
   unfold PK qP;have h:(a++T2 (.jmp c k t e::r))[a.length]? =So ⟨c,k,0,0⟩:=by rw[List.getElem?_append_right (a7 _),Nat.sub_self];rfl
   rw[h];show(a++(⟨c,k,0,0⟩::T2 r)).set a.length ⟨c,k,(b t:Int),if c=5 then 0 else(b e:Int)⟩=_;rw[List.set_append_right _ _ (a7 _),Nat.sub_self];rfl
  show((a.length,c,t,e)::L1 r (a.length+1)).foldl (PK b) _=_;rw[List.foldl_cons,g];exact d
theorem a1J(T:List It):(L1 T 0).foldl (PK fun x=>Z3 T 0 x 0) (T2 T)=F6 T:=jE _ T []
theorem aG:∀A B:List It,T2 (A++B)=T2 A++T2 B
 |[],B=>rfl
 | .put s::A,B=>by simp[T2,aG A B]
 | .jmp c k t e::A,B=>by simp[T2,aG A B]
 | .here x::A,B=>by simp[T2,aG A B]
theorem D2:∀A:List It,(T2 A).length=m0 A
 |[]=>rfl
 | .put s::A=>by simp[T2,m0,It.n,D2 A];omega
 | .jmp c k t e::A=>by simp[T2,m0,It.n,D2 A];omega
 | .here x::A=>by simp[T2,m0,It.n,D2 A]
theorem I4:∀(A B:List It)(n:Nat),L1 (A++B) n=L1 A n++L1 B (n+m0 A)
 |[],B,n=>rfl
 | .put s::A,B,n=>by
  simp only[List.cons_append,L1,I4 A B (n+1),m0,It.n];congr 2;omega
 | .jmp c k t e::A,B,n=>by
  simp only[List.cons_append,L1,I4 A B (n+1),m0,It.n];congr 3;omega
 | .here x::A,B,n=>by
  simp only[List.cons_append,L1,I4 A B n,m0,It.n];congr 2;omega
section
structure JZ where
 l:p0
 at_:Nat
 c:Int
 t:Nat
 e:Nat
def JZ.num(z:JZ):Nat×Int×Nat×Nat:=(z.at_,z.c,z.t,z.e)
structure JB(w:Wd)(g:Nat)(lab:Nat→Nat)(z:JZ):Prop where
 bt:b9 w z.l.bt 289 #[K (lab z.t:Nat)]
 bw:b9 w z.l.bw 285 #[K g]
 ba:b9 w z.l.ba 3 #[I M z.at_]
 bc:b9 w z.l.bc 114 #[I U1 z.c]
 be:b9 w z.l.be 289 #[K (s4 z.c (lab z.e))]
structure WS(w:Wd)(g base:Nat)(vl vt:Va)(T:List It)(lab:Nat→Nat)(N:Nat):Prop where
 wri:sN w g base vl vt (T2 T)
 zs:∃zs:List JZ,zs.map JZ.num=L1 T 0∧e4 w base 1 wV vt (zs.map (·.l))∧∀z∈zs,JB w g lab z
 labs:∀x,x<N→b9 w (lab x) 291 #[I M (Z3 T 0 x 0:Nat)]∧base≤lab x
 inj:∀x y,x<N→y<N→lab x=lab y→x=y
section
variable {w w':Wd} {g base N:Nat} {vl vt:Va} {T:List It} {lab:Nat→Nat} {z:JZ}
theorem JB.tv{S:List Ti}(a:JB w g lab z)(t:Tv base S w w')(b:S.contains 289=Bf∧S.contains 285=Bf∧S.contains 3=Bf∧S.contains 114=Bf):JB w' g lab z:=
 ⟨t.blk a.bt (.inr b.1),t.blk a.bw (.inr b.2.1),t.blk a.ba (.inr b.2.2.1),t.blk a.bc (.inr b.2.2.2),t.blk a.be (.inr b.1)⟩
theorem WS.h(d:WS w g base vl vt T lab N)(x:a9 w w'):WS w' g base vl vt T lab N:=
 ⟨d.wri.h x,let⟨zs,a,b,c⟩:=d.zs;⟨zs,a,b.h x,fun z h=>(c z h).tv (base:=0) (S:=[]) (.f x) ⟨rfl,rfl,rfl,rfl⟩⟩,fun f e=>⟨(d.labs f e).1.h x,(d.labs f e).2⟩,d.inj⟩
theorem WS.put{f:Va}(d:WS w g base vl vt T lab N)(s:Sy)(k:sN w' g base f vt (T2 T++[s]))(t:Tv base W2 w w'):WS w' g base f vt (T++[.put s]) lab N:=by
 obtain⟨zs,a,b,c⟩:=d.zs;refine⟨by rw[aG];exact k,⟨zs,by rw[I4,a];simp[L1],t.own b (by decide),fun z h=>(c z h).tv t (by decide)⟩,fun x e=>⟨?_,(d.labs x e).2⟩,d.inj⟩;rw[bH];exact t.blk (d.labs x e).1 (.inr (by decide))
end
theorem dP:∀(T:List It)(n:Nat),(L1 T n).length≤m0 T
 |[],_=>a7 _
 | .put s::r,n=>by have:=dP r (n+1);simp only[L1,m0,It.n];omega
 | .jmp c k t e::r,n=>by have:=dP r (n+1);simp only[L1,m0,It.n,a3W];omega
 | .here x::r,n=>by have:=dP r n;simp only[L1,m0,It.n];omega
theorem a2V{w:Wd}{g base N:Nat}{vl vt:Va}{T:List It}{lab:Nat→Nat}(f:WS w g base vl vt T lab N)(co k:Int)(t e:Nat)(p:m0 T+1≤1000000):
  Ca prog 190 #[K g,I U1 co,I V k,K (lab t:Nat),K (s4 co (lab e))] w fun l w'=>l=X (Tp #[])∧∃i j,WS w' g base i j (T++[.jmp co k t e]) lab N∧Tv base W3 w w':=by
 obtain⟨zs,a,b,c⟩:=f.zs;have d:zs.length≤m0 T:=by
  have:=dP T 0;rw[←a,a32]at this;exact this
 apply(YM f.wri b co k (lab t) (s4 co (lab e)) (by rw[D2];exact p) (by rw[a32];omega)).mono;rintro l w'⟨o,i,j,k1,k2,n,b1,b2,b3,b4,h⟩;refine⟨o,i,j,⟨by rw[aG];exact k1,⟨zs++[⟨⟨w+2,w,w+4,w+1,w+3⟩,m0 T,co,t,e⟩],?_,by rw[a4F];exact k2,fun z d=> ?_⟩,fun x m=>⟨?_,(f.labs x m).2⟩,f.inj⟩,h⟩
 ·rw[a4F,a,I4,a4E]
  rfl
 ·rcases List.mem_append.1 d with d|d
  ·exact(c z d).tv h (by decide)
  ·rw[List.mem_singleton.1 d]
   exact⟨b2,n,by rw[D2]at b4;exact b4,b1,b3⟩
 ·rw[bH]
  exact h.blk (f.labs x m).1 (.inr (by decide))
def W4:List Ti:=[288,374,1,291]
theorem Tv.more{B:Nat}{S c:List Ti}{w w':Wd}(a:Tv B S w w')(h:∀t,c.contains t=Bf→S.contains t=Bf):Tv B c w w':=
 ⟨a.os,a.tape,a.output,a.size,fun b d f e=>a.keep b d f (e.imp id fun q=>by cases d<;>first|rfl|exact h _ q)⟩
theorem a2W{w:Wd}{g base N:Nat}{vl vt:Va}{T:List It}{lab:Nat→Nat}(d:WS w g base vl vt T lab N)(x:Nat)(p:x<N):
  Ca prog 191 #[K g,K (lab x:Nat)] w fun o w'=>o=X (Tp #[])∧WS w' g base vl vt (T++[.here x]) lab N∧Tv base W4 w w':=by
 obtain⟨zs,a,b,c⟩:=d.zs;obtain⟨i,h⟩:=d.labs x p;apply(YN d.wri (lab x) _ i h).mono;rintro o w'⟨r,k1,k2,j⟩;have t:Tv base W4 w w':= .l j fun k l=>by cases l;exact⟨h,_,i,rfl⟩
 have q:Tv base [291] w w':= .l j fun k l=>by cases l;exact⟨h,_,i,rfl⟩
 refine⟨r,⟨by rw[aG];simpa[T2]using k1,⟨zs,by rw[I4,a];simp[L1],q.own b (by decide),fun z s=>(c z s).tv q (by decide)⟩,fun f n=>⟨?_,(d.labs f n).2⟩,d.inj⟩,t⟩;rw[bH,a4E];show b9 w' (lab f) _ #[I M ((if x=f then m0 T else Z3 T 0 f 0:Nat):Int)];by_cases m:x=f
 ·subst m
  rw[if_pos rfl];rw[D2]at k2;exact k2
 ·rw[if_neg m]
  exact(d.labs f n).1.grown j (fun e=>by injection e with e;exact m (d.inj x f p n e.symm))
def wI(T:List It)(N:Nat):Prop:=(∀x∈J7 T,x<N)∧∀j∈L1 T 0,j.2.2.1<N∧j.2.2.2<N
def aW(lab:Nat→Nat)(N b y:Nat):Nat:=if y=N then b else lab y
theorem o3(lab:Nat→Nat)(N b:Nat):aW lab N b N=b:=if_pos rfl
theorem B5(lab:Nat→Nat){N y:Nat}(b:Nat)(h:y<N):aW lab N b y=lab y:=if_neg (by omega)
theorem WS.add{w:Wd}{g base N b:Nat}{vl vt:Va}{T:List It}{lab:Nat→Nat}(f:WS w g base vl vt T lab N)(l:wI T N)(o:b9 w b 291 #[I M 0])(n:base≤b)(m:∀d,d<N→lab d≠b):WS w g base vl vt T (aW lab N b) (N+1):=by
 obtain⟨zs,a,bo,c⟩:=f.zs;refine⟨f.wri,⟨zs,a,bo,fun z j=> ?_⟩,fun d r=> ?_,fun d z r j e=> ?_⟩
 ·have p:z.num∈L1 T 0:=by rw[←a];exact List.mem_map.2 ⟨z,j,rfl⟩
  obtain⟨i,h⟩:=l.2 _ p;have q:=c z j;refine⟨?_,q.bw,q.ba,q.bc,?_⟩
  ·rw[B5 lab b (show z.t<N from i)];exact q.bt
  ·rw[B5 lab b (show z.e<N from h)];exact q.be
 ·by_cases s:d=N
  ·subst s
   rw[o3,iO T 0 d 0 (fun k=>by have:=l.1 d k;omega)];exact⟨o,n⟩
  ·rw[B5 lab b (by omega)]
   exact f.labs d (by omega)
 ·by_cases i:d=N
  ·by_cases h:z=N
   ·omega
   ·rw[i,o3,B5 lab b (by omega)]at e
    exact absurd e.symm (m z (by omega))
  ·by_cases h:z=N
   ·rw[h,o3,B5 lab b (by omega)]at e
    exact absurd e (m d (by omega))
   ·rw[B5 lab b (by omega),B5 lab b (by omega)]at e
    exact f.inj d z (by omega) (by omega) e
theorem WS.label{w w':Wd}{g base N b:Nat}{vl vt:Va}{T:List It}{lab:Nat→Nat}(a:WS w g base vl vt T lab N)(c:wI T N)(x:a9 w w')(d:b9 w' b 291 #[I M 0])(f:w≤b):WS w' g base vl vt T (aW lab N b) (N+1):=
 (a.h x).add c d (c8 a.wri.hs f) fun i h e=>by have:=(a.labs i h).1.lt;omega
end
theorem CM(a:List It)(b:Nat→Nat):∀(zs:List JZ)(rs:List Sy),(zs.map fun z=>(⟨z.l,z.c,z.at_,b z.t,b z.e,(Z3 a 0 z.t 0:Nat),(Z3 a 0 z.e 0:Nat)⟩:ZS)).foldl nD rs=(zs.map JZ.num).foldl (PK fun x=>Z3 a 0 x 0) rs
 |[],_=>rfl
 |z::zs,rs=>CM a b zs _
theorem nU:∀(T:List It)(n:Nat),∀j∈L1 T n,j.1<n+m0 T
 | .put s::r,n,j,h=>by have:=nU r (n+1) j h;simp only[m0,It.n];omega
 | .here x::r,n,j,h=>by have:=nU r n j h;simp only[m0,It.n];omega
 | .jmp c k t e::r,n,j,h=>by
  rcases List.mem_cons.1 h with h|h
  ·rw[h];simp only[m0,It.n];omega
  ·have:=nU r (n+1) j h;simp only[m0,It.n];omega
theorem vE{w:Wd}{g base N:Nat}{h s:Va}{d:List It}{i:Nat→Nat}(f:WS w g base h s d i N)(o:wI d N)(p:m0 d≤1000000):
  Ca prog 193 #[K g] w fun e l=>e=X h∧e4 l base 374 bA h (F6 d)∧w.grownBy l h.ownBlock:=by
 obtain⟨zs,a,b,c⟩:=f.zs;have t:zs.length≤m0 d:=by
  have:=dP d 0;rw[←a,a32]at this;exact this
 have:=YP f.wri (zs.map fun z=>(⟨z.l,z.c,z.at_,i z.t,i z.e,(Z3 d 0 z.t 0:Nat),(Z3 d 0 z.e 0:Nat)⟩:ZS)) (by rw[List.map_map];exact b) (fun x r=>by
  obtain⟨z,k,rfl⟩:=List.mem_map.1 r;have j:z.num∈L1 d 0:=by rw[←a];exact List.mem_map.2 ⟨z,k,rfl⟩
  obtain⟨m,n⟩:=o.2 _ j;have q:=c z k;refine⟨⟨q.bt,q.bw,q.ba,q.bc,q.be,(f.labs _ m).1,(f.labs _ n).1⟩,?_⟩;rw[D2];have:=nU d 0 _ j;rwa[a4E]at this) (by rw[D2];exact p) (by rw[a32];omega)
 rw[CM,a,a1J]at this;exact this
theorem a4M{w:Wd}{g base N:Nat}{l h:Va}{a:List It}{f:Nat→Nat}(d:WS w g base l h a f N)(k:Int)(j:m0 a+1≤1000000):
  Ca prog 192 #[K g,I V k] w fun e c=>e=X (Tp #[])∧∃b,WS c g base b h (a++[.put ⟨6,k,0,0⟩]) f N∧Tv base W2 w c:=
 (a1T d.wri k (by rw[D2];exact j)).mono fun e c⟨i,b,k1,t⟩=>⟨i,b,d.put _ k1 t,t⟩
theorem a2U{w:Wd}{g base N:Nat}{l h:Va}{a:List It}{f:Nat→Nat}(d:WS w g base l h a f N)(k:Int)(j:m0 a+1≤1000000):
  Ca prog 188 #[K g,I V k] w fun e c=>e=X (Tp #[])∧∃b,WS c g base b h (a++[.put ⟨32,k,0,0⟩]) f N∧Tv base W2 w c:=
 (YL d.wri k (by rw[D2];exact j)).mono fun e c⟨i,b,k1,t⟩=>⟨i,b,d.put _ k1 t,t⟩
section
def s7{α:Type}(w:Wd)(e:Ti)(E:p6 α)(v:Va)(xs:List α):Prop:=∃A c,v=Z A xs.length c∧h9 w A (E.row xs)∧∀a,A=So a→a.spot=J∧∃cs,b9 w a.block e cs
section
variable {α:Type} {w w':Wd} {e:Ti} {E:p6 α} {v:Va} {xs:List α} {A:Option Ad} {n c:Nat}
theorem s7.rd(b:s7 w e E v xs):LH w E v xs:=let⟨A,c,hv,hM,hA⟩:=b;⟨A,c,hv,hM,fun a d=>(hA a d).1⟩
theorem s7.h(b:s7 w e E v xs)(x:a9 w w'):s7 w' e E v xs:=let⟨A,c,hv,hM,hA⟩:=b;⟨A,c,hv,hM.h x,fun a d=>let⟨h1,cs,h2⟩:=hA a d;⟨h1,cs,h2.h x⟩⟩
theorem s7.kept(k:s7 w e E v xs)(i:∀b cs,b9 w b e cs→b9 w' b e cs):s7 w' e E v xs:=by
 obtain⟨A,c,p,l,h⟩:=k;refine⟨A,c,p,fun j u o=> ?_,fun a d=>let⟨h1,cs,h2⟩:=h a d;⟨h1,cs,i _ _ h2⟩⟩;obtain⟨b,q,d,m⟩:=l j u o;obtain⟨_,cs,f⟩:=h _ d;have g:=i _ _ f;refine⟨b,q,d,?_⟩;rw[←m];unfold b9 at f g;simp only at f g;unfold World.cell?;simp only[g,f]
theorem s7.tv{B:Nat}{S:List Ti}(a:s7 w e E v xs)(t:Tv B S w w')(d:S.contains e=Bf):s7 w' e E v xs:=a.kept fun b cs k=>t.blk k (.inr d)
theorem s7.ne{g:Nat}{t:Ti}{cs:Array Va}(b:s7 w e E (Z A n c) xs)(k:b9 w g t cs)(i:e≠t):∀a,A=So a→a.block≠g:=fun a f j=>by
 obtain⟨_,_,l,_,d⟩:=b;cases l;obtain⟨_,m,h⟩:=d a f;exact h.ne k i j
theorem e4.ty{base:Nat}(h:e4 w base e E v xs):s7 w e E v xs:=by
 obtain⟨A,c,f,j,i⟩:=h.rd;refine⟨A,c,f,j,fun a b=>⟨i a b,?_⟩⟩;obtain⟨m,o,p,l⟩:=h;rcases l.2 with⟨d,_⟩|⟨g,cap,cur,d,_,k,_⟩
 ·rw[f]at d;injection d with h1;rw[h1]at b;cases b
 ·rw[f]at d;injection d with h1;rw[h1]at b;cases b
  exact⟨_,k⟩
theorem s7.nil(w:Wd)(e:Ti)(E:p6 α):s7 w e E (Z J 0 0) []:=⟨J,0,rfl,h9.nil _ _,fun a b=>by cases b⟩
theorem p6.row_pre(E:p6 α)(xs:List α)(k:Nat):E.row (xs.take k)=(E.row xs).take (E.row (xs.take k)).length:=by
 conv=>rhs;rw[←E.row_take xs k]
 simp
theorem s7.take(b:s7 w e E (Z A n c) xs)(k a:Nat)(g:k≤xs.length):s7 w e E (Z A k a) (xs.take k):=by
 obtain⟨A,c,h,f,d⟩:=b;cases h;exact⟨A,a,by rw[a4C,Nat.min_eq_left g],by rw[E.row_pre];exact f.take _,d⟩
theorem s7.len(a:s7 w e E (Z A n c) xs):n=xs.length:=by obtain⟨_,_,b,_⟩:=a;cases b;rfl
theorem s7.mem(a:s7 w e E (Z A n c) xs):h9 w A (E.row xs):=by obtain⟨_,_,b,a,_⟩:=a;cases b;exact a
end
end
section
structure St(w:Wd)(g base:Nat)(T:List It)(lab:Nat→Nat)(N:Nat):Prop where
 ex:∃vl vt,WS w g base vl vt T lab N
 ok:wI T N
section
variable {w w' W:Wd} {g base N:Nat} {T:List It} {lab:Nat→Nat}
theorem St.h(h:St w g base T lab N)(x:a9 w w'):St w' g base T lab N:=let⟨vl,vt,k⟩:=h.ex;⟨⟨vl,vt,k.h x⟩,h.ok⟩
theorem wI.put(h:wI T N)(s:Sy):wI (T++[.put s]) N:=by
 unfold wI at*;rw[m4,I4];simpa[J7,L1]using h
theorem wI.here(b:wI T N){x:Nat}(c:x<N):wI (T++[.here x]) N:=by
 unfold wI at*;rw[m4,I4];refine⟨fun d a=> ?_,by simpa[L1]using b.2⟩;rcases List.mem_append.1 a with a|a
 ·exact b.1 d a
 ·rw[List.mem_singleton.1 a];exact c
theorem wI.jmp(b:wI T N){c k:Int}{t e:Nat}(f:t<N)(d:e<N):wI (T++[.jmp c k t e]) N:=by
 unfold wI at*;rw[m4,I4];refine⟨by simpa[J7]using b.1,fun j a=> ?_⟩;rcases List.mem_append.1 a with a|a
 ·exact b.2 j a
 ·rw[List.mem_singleton.1 a];exact⟨f,d⟩
theorem wI.more(a:wI T N){c:Nat}(b:N≤c):wI T c:=⟨fun x e=>Nat.lt_of_lt_of_le (a.1 x e) b,fun j d=>⟨Nat.lt_of_lt_of_le (a.2 j d).1 b,Nat.lt_of_lt_of_le (a.2 j d).2 b⟩⟩
theorem St.label(a:St w g base T lab N)(x:a9 w w'){b:Nat}(c:b9 w' b 291 #[I M 0])(d:w≤b):St w' g base T (aW lab N b) (N+1):=
 let⟨vl,vt,k⟩:=a.ex;⟨⟨vl,vt,k.label a.ok x c d⟩,a.ok.more (Nat.le_succ N)⟩
def Sp(w:Wd)(g base:Nat)(T:List It)(lab:Nat→Nat)(N:Nat)(e:Ending)(w':Wd):Prop:=e= .returned (Tp #[])∧St w' g base T lab N∧Tv base W4 w w'
theorem Tv.w4{S:List Ti}(a:Tv base S w w')(b:S=W2∨S=W3):Tv base W4 w w':=a.more fun t q=>by
 simp only[W4,List.contains_cons,Bool.or_eq_false_iff]at q;rcases b with rfl|rfl
 ·simp only[W2,List.contains_cons,Bool.or_eq_false_iff];exact⟨q.1,q.2.1,q.2.2.2.2⟩
 ·simp only[W3,List.contains_cons,Bool.or_eq_false_iff];exact⟨q.1,q.2.1,q.2.2.1,q.2.2.2.2⟩
theorem a3c(a:St w g base T lab N)(s:Sy)(f:m0 T+1≤1000000)(h:a9 w W)(b:Nat)(c:b9 W b 374 #[I U1 s.code,I V s.k,I M s.th,I M s.el]):
  Ca prog 254 #[K g,Z b 1 1] W (Sp w g base (T++[.put s]) lab N):=
 let⟨vl,vt,k⟩:=a.ex
 (rB k.wri s (by rw[D2];exact f) h b c).mono fun e w'⟨d,i,k1,t⟩=>⟨d,⟨⟨i,vt,k.put s k1 t⟩,a.ok.put s⟩,t.w4 (.inl rfl)⟩
theorem fJ(a:St w g base T lab N)(k:Int)(c:m0 T+1≤1000000):
  Ca prog 192 #[K g,I V k] w (Sp w g base (T++[.put ⟨6,k,0,0⟩]) lab N):=
 let⟨vl,vt,q⟩:=a.ex
 (a4M q k c).mono fun e w'⟨b,d,k1,t⟩=>⟨b,⟨⟨d,vt,k1⟩,a.ok.put _⟩,t.w4 (.inl rfl)⟩
theorem kD(a:St w g base T lab N)(k:Int)(c:m0 T+1≤1000000):
  Ca prog 188 #[K g,I V k] w (Sp w g base (T++[.put ⟨32,k,0,0⟩]) lab N):=
 let⟨vl,vt,q⟩:=a.ex
 (a2U q k c).mono fun e w'⟨b,d,k1,t⟩=>⟨b,⟨⟨d,vt,k1⟩,a.ok.put _⟩,t.w4 (.inl rfl)⟩
theorem a3d(a:St w g base T lab N)(c k:Int)(t e:Nat)(h:t<N)(d:e<N)(f:m0 T+1≤1000000):
  Ca prog 190 #[K g,I U1 c,I V k,K (lab t:Nat),K (s4 c (lab e))] w (Sp w g base (T++[.jmp c k t e]) lab N):=
 let⟨vl,vt,q⟩:=a.ex
 (a2V q c k t e f).mono fun m w'⟨b,j,l,k1,i⟩=>⟨b,⟨⟨j,l,k1⟩,a.ok.jmp h d⟩,i.w4 (.inr rfl)⟩
theorem a3e(a:St w g base T lab N)(x:Nat)(b:x<N):
  Ca prog 191 #[K g,K (lab x:Nat)] w (Sp w g base (T++[.here x]) lab N):=
 let⟨vl,vt,q⟩:=a.ex
 (a2W q x b).mono fun e w'⟨c,k1,d⟩=>⟨c,⟨⟨vl,vt,k1⟩,a.ok.here b⟩,d⟩
end
structure H6(w:Wd)(g base:Nat)(T:List It)(lab:Nat→Nat)(N:Nat)(Xa:List It)(N':Nat)(lab':Nat→Nat)(w':Wd):Prop where
 st:St w' g base (T++Xa) lab' N'
 old:∀y,y<N→lab' y=lab y
 tv:Tv base W4 w w'
 le:N≤N'
def Rn(w:Wd)(g base:Nat)(T:List It)(lab:Nat→Nat)(N:Nat)(Xa:List It)(a:Nat)(e:Ending)(w':Wd):Prop:=e= .returned (Tp #[])∧∃b,H6 w g base T lab N Xa a b w'
section
variable {w w1 w' W:Wd} {g base N N1 N2:Nat} {T Xa Xb:List It} {lab lab1 lab2:Nat→Nat}
theorem H6.refl(h:St w g base T lab N):H6 w g base T lab N [] N lab w:=⟨by rw[List.append_nil];exact h,fun _ _=>rfl,Tv.refl _ _ _,a7 _⟩
theorem H6.trans(a:H6 w g base T lab N Xa N1 lab1 w1)(k:H6 w1 g base (T++Xa) lab1 N1 Xb N2 lab2 w'):H6 w g base T lab N (Xa++Xb) N2 lab2 w':=
 ⟨by rw[←a4s];exact k.st,fun c b=>(k.old c (Nat.lt_of_lt_of_le b a.le)).trans (a.old c b),a.tv.trans k.tv,c8 a.le k.le⟩
theorem H6.step(h:H6 w g base T lab N Xa N1 lab1 w1)(k:St w' g base (T++Xa++Xb) lab1 N1)(t:Tv base W4 w1 w'):H6 w g base T lab N (Xa++Xb) N1 lab1 w':=h.trans ⟨k,fun _ _=>rfl,t,a7 _⟩
theorem H6.label(a:H6 w g base T lab N Xa N1 lab1 w1)(x:a9 w1 w'){b:Nat}(c:b9 w' b 291 #[I M 0])(d:w1≤b):H6 w g base T lab N Xa (N1+1) (aW lab1 N1 b) w':=by
 have:=a.trans (Xb:=[]) ⟨by rw[List.append_nil];exact a.st.label x c d,fun f e=>if_neg (by omega),Tv.f x,Nat.le_succ _⟩;rwa[List.append_nil]at this
theorem H6.h(h:H6 w g base T lab N Xa N1 lab1 w1)(x:a9 w1 w'):H6 w g base T lab N Xa N1 lab1 w':=⟨h.st.h x,h.old,h.tv.h x,h.le⟩
end
theorem D9{w:Wd}{g base N:Nat}{T:List It}{lab:Nat→Nat}(a:St w g base T lab N)(c k:Int)(t e:Nat)(h:t<N)(b:e<N)(d:m0 T+1≤1000000){ta:Nat}(i:lab t=ta){pe:Option Ad}(f:s4 c (lab e)=pe):
  Ca prog 190 #[K g,I U1 c,I V k,K ta,K pe] w (Sp w g base (T++[.jmp c k t e]) lab N):=by
 subst i;subst f;exact a3d a c k t e h b d
theorem q8{w:Wd}{g base N:Nat}{T:List It}{lab:Nat→Nat}(a:St w g base T lab N)(x:Nat)(b:x<N){xa:Nat}(c:lab x=xa):
  Ca prog 191 #[K g,K xa] w (Sp w g base (T++[.here x]) lab N):=by
 subst c;exact a3e a x b
theorem N9{c:Int}(h:¬c=5)(b:Nat):s4 c b=So ⟨b,0,J⟩:=if_neg h
theorem XH(b a:Int):m0 ([It.put ⟨32,b,0,0⟩]++if a=4294967295 then []else [.put ⟨84,a,0,0⟩])≤2:=by split<;>simp[m0,It.n]
theorem RH{w:Wd}{g base N:Nat}{T:List It}{lab:Nat→Nat}(j:St w g base T lab N)(c a i:Int)(h:Nat)(Q:h<N){fa:Nat}(G:lab h=fa)(R:m0 T+4≤1000000):
  Ca prog 355 #[K g,I V c,I V a,I V i,K fa] w (Rn w g base T lab N (mF N c a i h) (gO N a)):=by
 unfold mF gO;by_cases d:a=0
 ·rw[if_pos d,if_pos d]
  have C:(a==0)=Bt:=by simp[d]
  clear d;go_in;go_wp2_with fail
  exact Bp (Rz rfl _ _ _) rfl ⟨rfl,lab,H6.refl j⟩
 ·rw[if_neg d,if_neg d]
  have C:(a==0)=Bf:=by simp[d]
  have s:([It.put ⟨32,c,0,0⟩]++if a=4294967295 then []else [.put ⟨84,a,0,0⟩])++[.jmp 21 i N h]++[.here N]= .put ⟨32,c,0,0⟩::((if a=4294967295 then []else [.put ⟨84,a,0,0⟩])++[.jmp 21 i N h,.here N]):=by simp
  have F:=XH c a;have o:=a6 (kD j c (by omega));have l:=H6.refl j;rw[←s];obtain⟨Xa,b⟩:∃Xa,Xa=[It.put ⟨32,c,0,0⟩]++if a=4294967295 then []else [.put ⟨84,a,0,0⟩]:=⟨_,rfl⟩
  rw[←b]at F⊢;have A:=a6 b;clear d j s b;go_in;go_wp2_with fail
  apply o.mono;rintro e w1⟨rfl,q,t⟩;have k:=l.step (Xb:=[.put ⟨32,c,0,0⟩]) (by simpa using q) t;clear l o q t
  go_upto_if 17 with fail
  go_cut [] (fun P=>H6 w g base T lab N Xa N lab P)
  case first=>
   have b:=A.out;by_cases f:a=4294967295
   ·have D:(a !=4294967295)=Bf:=by simp[f]
    rw[if_pos f,List.append_nil]at b;clear f;go_wp2_with fail
    go_meet
    rw[b];exact k
   ·have D:(a !=4294967295)=Bt:=by simp[f]
    rw[if_neg f]at b;obtain⟨y,B⟩:=i6 (a3c k.st ⟨84,a,0,0⟩ (by simp only[g2,List.nil_append,m0,It.n];omega) ((a9.refl w1).alloc (U #[I U1 84,I V a,I M 0,I M 0] 374)) w1 (b9.new w1 _ _)) b;clear f b;go_wp2_with fail
    apply y.mono;rintro e S⟨rfl,f,H⟩;have v:=k.step f H;go_wp2_with fail
    go_meet
    rw[B.out];exact v
  case rest=>
   have m:=hcut.label ((a9.refl wc).alloc (U #[I M 0] 291)) (b9.new wc _ _) (a7 _);have p:=a6 (D9 m.st 21 i N h (by omega) (by omega) (by rw[g2];omega) (o3 lab N _) ((N9 (by decide) _).trans (by rw[B5 lab _ (by omega),G])));go_wp2_with fail
   apply p.mono;rintro e aa⟨rfl,r,u⟩;have n:=m.step r u;have z:=a6 (q8 n.st N (by omega) (o3 lab N _));clear p r u;go_wp2_with fail
   apply z.mono;rintro e ab⟨rfl,E,L⟩;have x:=n.step E L;go_wp2_with fail
   go_end0
   exact⟨rfl,_,x⟩
theorem a2S{w:Wd}{g base N:Nat}{T:List It}{lab:Nat→Nat}(C:St w g base T lab N)(t:j6)(j:mT t.mask)(k:mT t.value)(ar:m0 T+8≤1000000):
  Ca prog 268 #[K g,Ag #[I M t.arg,I U6 t.mask,I U6 t.value,I V t.act]] w (Rn w g base T lab N (DZ N t) (sU N t)):=by
 obtain⟨arg,a,b,d⟩:=t;dsimp only at j k⊢;have L:=(a9.refl w).alloc (U #[I M arg,I U6 a,I U6 b,I V d] 392);have n:=b9.new w 392 #[I M arg,I U6 a,I U6 b,I V d];have Q:=(H6.refl C).h L;generalize l:w.alloc (U #[I M arg,I U6 a,I U6 b,I V d] 392)=w1 at*;have ai:w1=w.heap.size+1:=by rw[←l];simp
 have o:=n.alloc (U #[I M 0] 291);have h:=Q.label ((a9.refl w1).alloc (U #[I M 0] 291)) (b9.new w1 _ _) (a7 _);have ap:=xE (N+1) (cD arg 0) (lo a) (lo b) N;have aq:=xE (gO (N+1) (lo a)) (cD arg 4) (hi a) (hi b) N;have au:=bQ (N+1) (lo a);have av:=bQ (gO (N+1) (lo a)) (hi a);have e:(([]++mF (N+1) (cD arg 0) (lo a) (lo b) N)++mF (gO (N+1) (lo a)) (cD arg 4) (hi a) (hi b) N)++[.put ⟨6,d,0,0⟩]++[.here N]=DZ N ⟨arg,a,b,d⟩:=by simp[DZ]
 obtain⟨i,v,x,z,A⟩:=gP (RH h.st (cD arg 0) (lo a) (lo b) N (by omega) (o3 lab N _) (by rw[List.append_nil];omega)) (a1c arg) (XF arg) (fun w=>Q4 a w j) (fun w=>Q4 b w k);obtain⟨ab,ac,ad⟩:=o.c3;rw[←e];show Ca prog _ _ w (Rn w g base T lab N _ (gO (gO (N+1) (lo a)) (hi a)));rw[ai]at i h;have y:=a6 l;clear l C j k L n e;generalize cD arg 0=aj at*;generalize cD arg 4=G at*;generalize lo a=E at*;generalize hi a=F at*;generalize lo b=am at*;generalize hi b=H at*;generalize mF (N+1) aj E am N=an at*;generalize gO (N+1) E=N1 at*;generalize D:mF N1 G F H N=ao at*;have aa:=a6 D;clear D;go_in;go_wp2_with fail
 apply(v _).mono;rintro e m⟨rfl,rfl⟩;go_wp2_with fail
 apply(x _).mono;rintro e m⟨rfl,rfl⟩;go_wp2_with fail
 apply(z _).mono;rintro e m⟨rfl,rfl⟩;go_wp2_with fail
 apply(A _).mono;rintro e m⟨rfl,rfl⟩;go_wp2_with fail
 rw[y.out];apply i.mono;rintro e ay⟨rfl,aw,c⟩;have B:=(c.old N (by omega)).trans (o3 lab N _);have p:=h.trans c;have P:=c.tv.blk o (.inr (by decide));have s:=a6 (RH p.st G F H N (by have:=c.le;omega) B (by simp only[g2,List.nil_append];omega));clear i v x z A ab ac ad y;go_wp2_with fail
 apply s.mono;rintro e az⟨rfl,ax,f⟩;rw[aa.out]at f;have q:=p.trans f;have af:=(f.old N (by have:=c.le;omega)).trans B;have ae:=(f.tv.blk P (.inr (by decide))).cell 3;have u:=a6 (fJ q.st d (by simp only[g2,List.nil_append];omega));clear s;go_wp2_with fail
 apply u.mono;rintro e ba⟨rfl,ag,ak⟩;have r:=q.step ag ak;have S:=a6 (q8 r.st N (by have:=c.le;have:=f.le;omega) af);clear u ae;go_wp2_with fail
 apply S.mono;rintro e bb⟨rfl,ah,al⟩;have R:=r.step ah al;go_wp2_with fail
 go_end0
 exact⟨rfl,_,by simpa using R⟩
theorem a2T{w:Wd}{g base N:Nat}{T:List It}{lab:Nat→Nat}(C:St w g base T lab N)(s f:Int)(o:Option Ad)(c:Nat)(ts:List j6)(D:s7 w 392 a3q (Z o ts.length c) ts)(p:∀t∈ts,vN t)(y:m0 T+8*ts.length+8≤1000000):
  Ca prog 203 #[K g,Ag #[I V s,Z o ts.length c,I V f]] w (Rn w g base T lab N (sA N ts f) (jW N ts)):=by
 have z:=(a9.refl w).alloc (U #[I V s,Z o ts.length c,I V f] 234);have A:=b9.new w 234 #[I V s,Z o ts.length c,I V f];have L:=(H6.refl C).h z;have R:=D.h z;generalize aq:w.alloc (U #[I V s,Z o ts.length c,I V f] 234)=w1 at*;have aj:=A.cell 1;obtain⟨Q,P⟩:=i6 p y;clear C D p y z;go_in;go_wp2_with fail
 go_loopw [9] (fun i wr=>∃(k N1:Nat)(Xa:List It)(lab1:Nat→Nat),k≤ts.length∧i=I M k∧m0 Xa≤7*k∧H6 w g base T lab N Xa N1 lab1 wr∧sA N ts f=Xa++sA N1 (ts.drop k) f∧jW N ts=jW N1 (ts.drop k)∧Tv base W4 w1 wr) (fun i _=>ts.length-(intOf i).toNat)
 case atStart=>exact⟨0,N,[],lab,i5 _,rfl,a7 _,L,rfl,rfl,.refl _ _ _⟩
 case round=>
  obtain⟨k,N1,Xa,lab1,ao,rfl,an,G,a,d,x⟩:=hrel;have y:=P.out;by_cases n:k<ts.length
  ·have m:=R.tv x (by decide)
   obtain⟨b,ar,rfl,am⟩:=m.mem.rows (by decide) (by omega);have ad:=m.mem.b n (r:=0) rfl;have ae:=m.mem.b n (r:=1) rfl;have af:=m.mem.b n (r:=2) rfl;have ag:=m.mem.b n (r:=3) rfl;have p:=Q _ (a30 n);rw[List.drop_eq_getElem_cons n]at a d
   change sA N ts f=Xa++(DZ N1 ts[k]++if ts[k].mask=0 then []else sA (sU N1 ts[k]) (ts.drop (k+1)) f)at a
   change jW N ts=if ts[k].mask=0 then sU N1 ts[k]else jW (sU N1 ts[k]) (ts.drop (k+1))at d
   simp only[a3q,a4z]at ad ae af ag;have ap:=SG N1 ts[k];generalize ts[k]=t at*;have E:=(a9.refl wr).alloc (U #[I M t.arg,I U6 t.mask,I U6 t.value,I V t.act] 392);have H:=b9.new wr 392 #[I M t.arg,I U6 t.mask,I U6 t.value,I V t.act];have q:=G.h E;obtain⟨v,h,j⟩:=p7 (a2S q.st t p.2.1 p.2.2.1 (by rw[g2];omega)) a d;clear a d m;go_wp2_with fail
   apply v.mono;rintro e ai⟨rfl,ac,u⟩;have B:=q.trans u;have S:=(x.h E).trans u.tv;have al:=(u.tv.blk H (.inr (by decide))).cell 1;by_cases l:t.mask=0
   ·have aa:(t.mask==0)=Bt:=by simp[l]
    have a:=h.out;have d:=j.out;rw[if_pos l,List.append_nil]at a;rw[if_pos l]at d;obtain⟨h,j⟩:=i6 a d;clear l a d;go_wp2_with fail
    exact Bp (Rz rfl _ _ _) rfl ⟨rfl,_,by rw[h.out,j.out];exact B⟩
   ·have aa:(t.mask==0)=Bf:=by simp[l]
    have a:=h.out;have d:=j.out;rw[if_neg l,←a4s]at a;rw[if_neg l]at d;obtain⟨h,j⟩:=i6 a d;clear l a d;go_wp2_with fail
    go_roundw
    case rel=>exact⟨k+1,_,_,ac,by omega,by go_num,by rw[g2];omega,B,h.out,j.out,S⟩
    case measure=>simp[intOf];omega
  ·obtain rfl:k=ts.length:=by omega
   rw[List.drop_length]at a d;have F:=x.blk A (.inr (by decide));have ak:=F.cell 2;obtain⟨v,h,j⟩:=p7 (fJ G.st f (by rw[g2];omega)) a d;clear a d;go_wp2_with fail
   apply v.mono;rintro e ai⟨rfl,ab,ah⟩;have q:=G.step ab ah;go_wp2_with fail
   go_end0
   exact⟨rfl,_,by rw[h.out,j.out];exact q⟩
end
theorem x0{a:Type}{l:List a}{d:a}{k:Nat}(b:k<l.length):l.getD k d=l[k]:=by simp[a8,b]
theorem a4N{w:Wd}{g base:Nat}{b:Nat→Nat}(D:St w g base [] b 1)(a:Nat)(L:a<6){fa:Nat}(u:b 0=fa):
  Ca prog 199 #[K g,I M a,K fa] w (Rn w g base [] b 1 (gE a) 3):=by
 have H:r5[a].2=B8 a:=by unfold B8;rw[a4A,x0 (show a<r5.length from L)];exact rfl
 have C:=a6 (jS a L);rw[H]at C;obtain⟨R,o⟩:∃R,R=gE a:=⟨_,rfl⟩;rw[←o];unfold gE at o;generalize B8 a=W at*;have s:=a6 o;have c:=((H6.refl D).label ((a9.refl w).alloc (U #[I M 0] 291)) (b9.new w _ _) (a7 _)).label ((a9.refl _).alloc (U #[I M 0] 291)) (b9.new (w.alloc (U #[I M 0] 291)) _ _) (a7 _);rw[show(w.alloc (U #[I M 0] 291)).heap.size=w.heap.size+1 by simp]at c;clear H D o;go_in;go_wp2_with fail
 apply(C _).mono;rintro e ae⟨rfl,ab⟩;replace c:=c.h ab;have y:=a6 (kD c.st 4 (by show(0:Nat)+1≤1000000;decide));go_wp2_with fail
 apply y.mono;rintro e af⟨rfl,f,N⟩;have p:=c.step f N;have z:=a6 (D9 p.st 21 W 1 0 (by decide) (by decide) (by simp[m0,It.n]) (show aW (aW b 1 w) 2 (w+1) 1=w.heap.size from rfl) ((N9 (by decide) _).trans (by rw[show aW (aW b 1 w) 2 (w+1) 0=b 0 from rfl,u])));go_wp2_with fail
 apply z.mono;rintro e ag⟨rfl,E,P⟩;have q:=p.step E P;have A:=a6 (q8 q.st 1 (by decide) (show aW (aW b 1 w) 2 (w+1) 1=w.heap.size from rfl));go_wp2_with fail
 apply A.mono;rintro e ah⟨rfl,F,Q⟩;have r:=q.step F Q;have B:=a6 (kD r.st 0 (by simp[m0,It.n]));go_wp2_with fail
 apply B.mono;rintro e ai⟨rfl,G,S⟩;have d:=r.step G S;clear y z A B f E F G N P Q S c p q r;by_cases n:a=0
 ·subst n
  have m:=a6 (D9 d.st 69 1073741824 0 2 (by decide) (by decide) (by simp[m0,It.n]) (show aW (aW b 1 w) 2 (w+1) 0=fa from u) (N9 (by decide) _));rw[o3]at m;go_wp2_with fail
  apply m.mono;rintro e aa⟨rfl,t,v⟩;have h:=d.step t v;have j:=a6 (q8 h.st 2 (by omega) (o3 _ 2 _));go_wp2_with fail
  apply j.mono;rintro e T⟨rfl,k,l⟩;have i:=h.step k l;go_wp2_with fail
  go_end0
  exact⟨rfl,_,by rw[s.out];simpa using i⟩
 ·by_cases f:a=2
  ·subst f
   have m:=a6 (D9 d.st 69 1073741824 2 0 (by decide) (by decide) (by simp[m0,It.n]) (o3 _ 2 _) ((N9 (by decide) _).trans (by rw[show aW (aW b 1 w) 2 (w+1) 0=b 0 from rfl,u])));go_wp2_with fail
   apply m.mono;rintro e aa⟨rfl,t,v⟩;have h:=d.step t v;have j:=a6 (q8 h.st 2 (by omega) (o3 _ 2 _));go_wp2_with fail
   apply j.mono;rintro e T⟨rfl,k,l⟩;have i:=h.step k l;go_wp2_with fail
   go_end0
   exact⟨rfl,_,by rw[s.out];simpa using i⟩
  ·have ac:((a:Int)==0)=Bf:=by simp[n]
   have ad:((a:Int)==2)=Bf:=by simp;omega
   have x:=a6 (And.intro n f);clear n f;have j:=a6 (q8 d.st 2 (by omega) (o3 _ 2 _));go_wp2_with fail
   apply j.mono;rintro e T⟨rfl,k,l⟩;have i:=d.step k l;go_wp2_with fail
   go_end0
   exact⟨rfl,_,by rw[s.out,if_neg (by have:=x.out;omega),if_neg (by have:=x.out;omega)];simpa using i⟩
section
attribute [local go_sem] Oper.semAt_some
def dA(s:m8):Va:=Ag #[I V s.fr,I V s.tp,I M s.way]
def S2:p6 m8:=⟨3,fun s=>[I V s.fr,I V s.tp,I M s.way],fun _=>rfl,by simp[Value.oneCell']⟩
def O7(n:Nat):List Int:=(q5 n).map fun k=>((k:Nat):Int)+1
theorem TV{a:List Int}{k:Nat}(b:k<a.length)(lo:Int):aT lo (a.drop k) ((k:Int)+1)=(if lo<a[k]then [⟨lo,a[k]-1,0⟩]else [])++⟨a[k],a[k],(k:Int)+1⟩::aT (a[k]+1) (a.drop (k+1)) (((k+1:Nat):Int)+1):=by
 rw[List.drop_eq_getElem_cons b];rfl
theorem NA{a:List Int}{k:Nat}(c:k<a.length){lo:Int}(b:N7 lo (a.drop k)):lo≤a[k]∧a[k]<4294967296∧N7 (a[k]+1) (a.drop (k+1)):=by
 rw[List.drop_eq_getElem_cons c]at b;exact b
theorem sR{n k:Nat}(h:k<(O7 n).length):(O7 n)[k]=(k:Int)+1:=by simp[O7]
theorem FT(l b1 b2 b3 B c ae:Nat)(aa ab:Option Ad)(a:List Int)(bg:a.length≤900000)(ak:N7 0 a)(Jq:List m8→Wd→Prop)(u:Wd)
  (E:∀d x W,Jq d W→a9 u W→d.length<(aT 0 a 1).length→YieldAt .wide 1 prog l #[dA x] W fun e W'=>e=X (O Bt)∧Jq (d++[x]) W'∧(a9 u W→a9 u W'))
  (ay:u.cell? ⟨b1,0,J⟩=So (Z aa a.length c)) (az:u.cell? ⟨b2,0,J⟩=So (I M 0)) (ag:u.cell? ⟨b3,0,J⟩=So (Z ab a.length ae)) (ah:h9 u aa (i3 V a)) (ai:h9 u ab (i3 M (O7 a.length)))
  (W:Wd) (D:a9 u W) (af:Jq [] W):
  Ci .wide 2 prog 352 #[Fc (.yield l) #[] #[],K b1,K b2,K b3] W fun e W'=>(∃v,e=X v)∧∃ys,ys=aT 0 a 1∧Jq ys W':=by
 obtain⟨y,z⟩:∃y,y=aT 0 a 1:=⟨_,rfl⟩;rw[←z]at E⊢;obtain⟨q,al,ac⟩:=p7 E ah ai;have aq:=D.cell ay;clear E ah ai;refine Co func352 rfl trivial ?_ rfl;simp only[ntmps352,uE,l9,a4D]
 gi_wp2
 gi_loopw [5,10] (fun bc bb wr=>∃(d:List m8)(k:Nat)(lo:Int),k≤a.length∧bc=I U6 lo∧0≤lo∧lo≤4294967296∧bb=I M k∧y=d++aT lo (a.drop k) ((k:Int)+1)∧N7 lo (a.drop k)∧Jq d wr∧a9 u wr) (fun _ i _=>a.length-(intOf i).toNat)
 case atStart=>exact⟨[],0,0,i5 _,rfl,by decide,by decide,rfl,z,ak,af,D⟩
 case round=>
  clear af D aq ak z;obtain⟨d,k,lo,bh,rfl,bi,bj,rfl,b,G,s,h⟩:=hrel;have ae:=h.cell az;by_cases F:k<a.length
  ·obtain⟨r,bf,rfl,_,ba⟩:=(al.h h).at_ (k:=k) (by simpa using F)
   rw[List.getElem_map]at ba;rw[TV F]at b;have aj:=NA F G;generalize a[k]=x at*;have ad:=a6 aj;obtain⟨bk,bl,_⟩:=aj;have bm:IntKind.u64.wrap x=x:=IntWalk.u64_in _ (by omega);have t:IntKind.u32.wrap lo=lo∨x≤lo:=by by_cases m:x≤lo;exact .inr m;exact .inl (IntWalk.u32_in _ (by omega))
   have R:IntKind.u32.wrap (x-1)=x-1∨x≤lo:=by by_cases m:x≤lo;exact .inr m;exact .inl (IntWalk.u32_in _ (by omega))
   have bn:IntKind.u64.wrap (x+1)=x+1:=IntWalk.u64_in _ (by omega);clear G;by_cases j:lo<x
   ·have r:Dc (lo<x)=Bt:=by simpa using j
    rw[if_pos j]at b;have g:=a6 b;have t:=t.resolve_right (by omega);have R:=R.resolve_right (by omega);clear b;gi_wp2_with fail
    obtain⟨aw,bd,am,ao,n,A⟩:=q d ⟨lo,x-1,0⟩ wr s h (by rw[g.out];simp only[a2e,a3W];omega);simp only[dA]at n;rw[n]
    gi_wp2
    apply A.mono;rintro e w⟨rfl,L,P⟩;have p:a9 u w:=P h;have ar:=p.cell ag;obtain⟨au,av,rfl,_,H⟩:=(ac.h p).at_ (k:=k) (by simp[O7];omega);rw[List.getElem_map,sR]at H;gi_wp2_with fail
    obtain⟨ax,be,an,ap,o,C⟩:=q (d++[⟨lo,x-1,0⟩]) ⟨x,x,(k:Int)+1⟩ w L p (by rw[g.out];simp only[a2e,a3W];omega);simp only[dA]at o;rw[o]
    gi_wp2
    apply C.mono;rintro e S⟨rfl,N,Q⟩;have T:a9 u S:=Q p
    gi_wp2
    go_roundw
    case rel=>exact⟨(d++[⟨lo,x-1,0⟩])++[⟨x,x,(k:Int)+1⟩],k+1,x+1,by omega,rfl,by omega,by omega,by go_num,by rw[g.out];simp,ad.2.2,N,T⟩
    case measure=>simp[intOf];omega
   ·have r:Dc (lo<x)=Bf:=by simpa using j
    rw[if_neg j]at b;have g:=a6 b;clear b t R;gi_wp2_with fail
    refine⟨(fun f m=>by cases m),?_⟩;have ar:=h.cell ag;obtain⟨au,av,rfl,_,H⟩:=(ac.h h).at_ (k:=k) (by simp[O7];omega);rw[List.getElem_map,sR]at H;gi_wp2_with fail
    obtain⟨ax,be,an,ap,o,C⟩:=q d ⟨x,x,(k:Int)+1⟩ wr s h (by rw[g.out];simp only[a2e,a3W];omega);simp only[dA]at o;rw[o]
    gi_wp2
    apply C.mono;rintro e S⟨rfl,N,Q⟩;have T:a9 u S:=Q h
    gi_wp2
    go_roundw
    case rel=>exact⟨d++[⟨x,x,(k:Int)+1⟩],k+1,x+1,by omega,rfl,by omega,by omega,by go_num,by rw[g.out];simp,ad.2.2,N,T⟩
    case measure=>simp[intOf];omega
  ·obtain rfl:k=a.length:=by omega
   rw[List.drop_length]at b G;unfold aT at b;by_cases j:lo<4294967296
   ·have r:Dc (lo<4294967296)=Bt:=by simpa using j
    have t:IntKind.u32.wrap lo=lo:=IntWalk.u32_in _ (by omega);rw[if_pos j]at b;have g:=a6 b;clear b;gi_wp2_with fail
    obtain⟨aw,bd,am,ao,n,A⟩:=q d ⟨lo,4294967295,0⟩ wr s h (by rw[g.out];simp only[a2e,a3W];omega);simp only[dA]at n;rw[n]
    gi_wp2
    apply A.mono;rintro e w⟨rfl,L,P⟩;have p:a9 u w:=P h
    gi_wp2
    go_end0
    rw[g.out];exact⟨⟨_,rfl⟩,_,rfl,L⟩
   ·have r:Dc (lo<4294967296)=Bf:=by simpa using j
    rw[if_neg j,List.append_nil]at b;have g:=a6 b;clear b;gi_wp2_with fail
    go_end0
    rw[g.out];exact⟨⟨_,rfl⟩,s⟩
theorem NH(a b:Option Ad)(n m c d:Nat)(w:Wd):
  Ci .wide 2 prog 265 #[Z a n c,Z b m d,I M 0] w fun e f=>e=X (Fc (.func 352) #[] #[K w,K (w+2:Nat),K (w+1:Nat)])∧f=((w.alloc (U #[Z a n c] 37)).alloc (U #[Z b m d] 33)).alloc (U #[I M 0] 3):=by
 refine Co func265 rfl trivial ?_ rfl;simp only[ntmps265,uE,l9,a4D]
 gi_wp2
 go_ret;exact⟨rfl,rfl⟩
theorem wF(b1 b2 b3 c e:Nat)(b d:Option Ad)(a:List Int)(p:a.length≤900000)(t:N7 0 a)(u:Wd)(h:u.cell? ⟨b1,0,J⟩=So (Z b a.length c))(i:u.cell? ⟨b2,0,J⟩=So (I M 0))(j:u.cell? ⟨b3,0,J⟩=So (Z d a.length e))(k:h9 u b (i3 V a))(m:h9 u d (i3 M (O7 a.length))):
  jU .wide 2 prog 352 #[K b1,K b2,K b3] (fun s:m8=> #[dA s]) (fun _ _=>True) (fun W W'=>a9 u W→a9 u W') (fun ys=>ys=aT 0 a 1) (aT 0 a 1).length u:=fun l Jq W n w o g=>
 FT l b1 b2 b3 0 c e b d a p t Jq u (fun v x f q _ r=>o v x f q trivial r) h i j k m W n g
end
section
attribute [local go_sem] Oper.semAt_some
def aK:p6 a0Q:=⟨5,fun n=>[O n.leaf,I M n.way,I V n.at_,I M n.less,I M n.more],fun _=>rfl,by simp[Value.oneCell']⟩
theorem a2p:mU prog 315 390 (Ag #[O Bf,I M 0,I V 0,I M 0,I M 0]) 5 40:=⟨underlying315,by kernel_rfl,rfl,by decide,by decide⟩
def S6:List Ti:=[390,315]
def tS(b a:Nat):Va:=Fc (.func 267) #[] #[K b,K a]
theorem s7.sub{g:Type}{w:Wd}{e:Ti}{E:p6 g}{b d n c:Nat}{xs:List g}(h:s7 w e E (Z (So ⟨b,d,J⟩) n c) xs)(k f:Nat)(m:k≤xs.length):s7 w e E (Z (So ⟨b,d+k*E.k,J⟩) (n-k) f) (xs.drop k):=by
 obtain⟨p,q,o,j,i⟩:=h;cases o;refine⟨_,f,by rw[List.length_drop],?_,fun a l=>by cases l;have:=i ⟨b,d,J⟩ rfl;exact this⟩;have e:=E.row_take xs k;have:=j.drop (k*E.k);rwa[←e,List.drop_left' (by rw[E.row_length,a4C,Nat.min_eq_left m])]at this
structure Gw(w:Wd)(bt bg base:Nat)(v:Va)(xs:List a0Q):Prop where
 g:b9 w bg 386 #[tS bt bg]
 t:b9 w bt 315 #[v]
 o:e4 w base 390 aK v xs
 hb:base≤w
 ht:base≤bt
theorem Gw.more{w:Wd}{i h base n c:Nat}{f:Option Ad}{xs ys:List a0Q}{a:a0Q}(b:Gw w i h base (Z f n c) (xs++a::ys)):∃gb,f=So ⟨gb,0,J⟩∧n=(xs++a::ys).length∧w.frozen? ⟨gb,xs.length*5+4,J⟩=Bf∧w.cell? ⟨gb,xs.length*5+4,J⟩=So (I M a.more)∧
  ∀m:Int,Gw (w.setCell ⟨gb,xs.length*5+4,J⟩ (I M m)) i h base (Z f n c) (xs++⟨a.leaf,a.way,a.at_,a.less,m⟩::ys)∧Tv base S6 w (w.setCell ⟨gb,xs.length*5+4,J⟩ (I M m)):=by
 have d:=b.o;obtain⟨gb,cs,Jq,rfl,o,_⟩:=d.blk (by simp;omega);have l:xs.length<(xs++a::ys).length:=by simp
 have e:(xs++a::ys)[xs.length]=a:=by simp
 refine⟨gb,rfl,o,?_,d.i.1.elt0 l (r:=4) (by rw[e];rfl),fun m=> ?_⟩
 ·obtain⟨_,_,q,k⟩:=d
  cases q;exact k.frozenAt _
 ·subst o
  obtain⟨p,j⟩:=d.setF xs.length 4 l (by decide) (I M m) ⟨a.leaf,a.way,a.at_,a.less,m⟩ (by rw[e];rfl);have g:Tv base S6 w _:= .ofOwn d j (a7 _) (by decide);rw[List.set_append_right _ _ (a7 _),Nat.sub_self,List.set_cons_zero]at p;exact⟨⟨g.blk b.g (.inr (by decide)),b.t.grown j (fun e=>d.ne b.t (by decide) e.symm),p,c8 b.hb g.size,b.ht⟩,g⟩
theorem yX:∀(f:Nat)(l:List m8),l.length≤f→0<l.length→∀(b j c i A base:Nat)(v:Va)(xs:List a0Q)(w:Wd),Gw w i A base v xs→s7 w 388 S2 (Z (So ⟨b,j,J⟩) l.length c) l→l.length≤c→l.length≤1000000→xs.length+(gr f l xs.length).length≤1000000→
  Ca prog 267 #[Z (So ⟨b,j,J⟩) l.length c,K i,K A] w fun e bq=>e=X (Tp #[])∧∃v',Gw bq i A base v' (xs++gr f l xs.length)∧Tv base S6 w bq
 |0,l,hf,h0,b,j,c,i,A,base,v,xs,w,h,hs,hc,hc2,hl=>absurd h0 (by omega)
 |f+1,l,hf,h0,b,j,c,i,A,base,v,xs,w,h,hs,hc,hc2,hl=>by
  have ih:=a6 (yX f);refine(Cw (n:=1)).1 ?_;obtain⟨an,z,y,bf⟩:=J5 h.hb h.o h hs;have cc:IntKind.i64.wrap ((l.length:Int).tdiv 2)=((l.length/2:Nat):Int):=by rw[IntWalk.i64_quo _ 2 ⟨by omega,by omega,by decide⟩];omega
  unfold gr at hl⊢;clear h hs;by_cases T:l.length/2=0
  ·have bz:(((l.length/2:Nat):Int)==0)=Bt:=by simp[T]
   rw[if_pos T]at hl⊢;have ah:l.getD 0 rV=l[0]:=x0 h0;rw[ah];have ab:=fun(g:Wd)(a:s7 g 388 S2 (Z (So ⟨b,j,J⟩) l.length c) l)=>show g.cell? ⟨b,j+2,J⟩=So (I M l[0].way) by rw[show j+2=j+0*S2.k+2 by simp];exact a.mem.b h0 (r:=2) rfl
   have au:=a6 ab;clear ab T ah;generalize l[0]=m at*;refine Co func267 rfl trivial ?_ rfl;simp only[ntmps267,uE,l9,a4D];gi_wp2_with fail
   obtain⟨ac,ao⟩:=i6 (fun(g:Wd)(a:GA 390 aK (v).ownBlock base (v) xs [(⟨Bt,m.way,0,0,0⟩:a0Q)] w g)=>show b9 g i 315 #[v]from y.t.grown a.g (fun e=>z.ne y.t (by decide) e.symm)) (fun(g:Wd)(a:GA 390 aK (v).ownBlock base (v) xs [(⟨Bt,m.way,0,0,0⟩:a0Q)] w g)=>show s7 g 388 S2 (Z (So ⟨b,j,J⟩) l.length c) l from bf.kept fun b2 cs k=>k.grown a.g (fun e=>z.ne k (by decide) e.symm));refine s8 (R:=(GA 390 aK v.ownBlock base v xs [(⟨Bt,m.way,0,0,0⟩:a0Q)])) (fun _=>trivial) rfl [.is v,.is ?Bo,.is ?Bp,.is ?Bq,.is (I M m.way),.is ?Br,(D4 #[O Bt,I M m.way,I V 0,I M 0,I M 0]),(D1 w)] (by kernel_rfl) ?Bs ?Aa ⟨?Ab,?Ac,?Ad,?Ae,?Af,?Ag,?Ah,?Ai,trivial⟩ _ rfl rfl ?Aj
   case Aa=>intro x;simp only[e6,Act.put,uL,l9]<;>rfl
   case Ab|Ac|Ad|Ae|Af|Ag=>
    intro x g a;simp only[e5,g1,uV,D4,D1];repeat(intro d;try simp only[d])
    have aw:g.cell? ⟨i,0,J⟩=So v:=(ac g a).cell 0;have ba:=au g (ao g a);gi_wp2_with fail
    refine a0e ?_ rfl (fT.refl _);rfl
   case Ah=>
    intro x g a;simp only[e5,g1,uV,D4,D1];intro G;simp only[G];gi_wp2_with fail
    refine a0e ?_ rfl (GA.f ((a9.refl g).alloc _));exact⟨g,rfl,b9.new _ _ _,fun e=>by have:=((a.old z.out).lt e).2;omega⟩
   case Ai=>
    intro x g a;simp only[e5,g1,uV,D4,D1];rintro o⟨ag,H,ai,ce⟩;simp only[o,H];gi_wp2_with(gi_at_builtin;go_loud (refine o9 rfl _ _ 315 390 rfl a2p base v xs rfl (a.old z.out) ag 1 1 [(⟨Bt,m.way,0,0,0⟩:a0Q)] rfl rfl (h9.f ai rfl) hl (c8 an a.g.size) ?_;intro ch ck bb ab ak bc bd))
    refine a0e ?_ rfl (⟨ab,fun _=>ak,bc⟩);exact⟨bb,bd.imp id (fun q b ax=>by have:=q b ax;have:=a.g.size;omega)⟩
   case Aj=>
    intro x g a;simp only[l8,e5,g1,uV,D4,D1];rintro o C D E F G⟨ag,H,ai,ce⟩⟨L,ar⟩;simp only[o,C,D,E,F,G,H];clear o C D E F G H;obtain⟨p,u,s,ae⟩:=L.f;rw[ae]at L ar;have t:=ac g a;have bi:=t.frozen 0;have bh:=t.cell 0;have N:Tv base S6 w g:= .ofOwn z a.g (a7 _) (by decide);have P:=Tv.r t y.ht (S:=S6) (by decide) 0 (Z p u s);have b2:=t.f 0 (Z p u s);have aj:=L.kept (x4 _ i 0 (Z p u s)) (.inr (L.ne t (by decide)));obtain⟨av,Q⟩:=i6 (N.trans P) (⟨(N.trans P).blk y.g (.inr (by decide)),b2,aj,c8 an (N.trans P).size,y.ht⟩:Gw (g.setCell ⟨i,0,J⟩ (Z p u s)) i A base (Z p u s) (xs++[(⟨Bt,m.way,0,0,0⟩:a0Q)]));clear N P b2 aj;simp only[ae];gi_wp2_with fail
    refine Bp (Rz rfl _ _ _) rfl ⟨rfl,_,Q.out,av.out⟩
  ·obtain⟨k,ay⟩:∃k,k=l.length/2:=⟨_,rfl⟩
   rw[if_neg T]at hl⊢;rw[←ay]at cc T hl⊢;have bz:((k:Int)==0)=Bf:=by simp[T]
   have ct:(l.length:Int)/2=(k:Int):=by omega
   have cq:0<k:=by omega
   have bk:k<l.length:=by omega
   have cr:(k:Int)<(l.length:Int):=by omega
   have ah:l.getD k rV=l[k]:=x0 bk;rw[ah]at hl⊢;have au:=a6 (fun(g:Wd)(a:s7 g 388 S2 (Z (So ⟨b,j,J⟩) l.length c) l)=>show g.cell? ⟨b,j+k*3,J⟩=So (I V l[k].fr) by rw[show j+k*3=j+k*S2.k+0 from rfl];exact a.mem.b bk (r:=0) rfl);obtain⟨Av,B,cd⟩:=z.b;subst cd;have cv:IntKind.i64.wrap ((xs.length:Int)+1)=((xs.length+1:Nat):Int):=by rw[a37 _ (by simp only[a3W]at hl;omega)];omega
   have aw:w.cell? ⟨i,0,J⟩=So (Z Av xs.length B):=y.t.cell 0;have br:=a6 hl;have ca:xs.length+1≤1000000:=by simp only[a3W]at hl;omega
   have cn:=a6 ay;clear T ah hl ay;generalize bp:l[k]=m at*;have co:=a6 bp;clear bp;refine Co func267 rfl trivial ?_ rfl;simp only[ntmps267,uE,l9,a4D];gi_wp2_with fail
   obtain⟨ac,ao⟩:=i6 (fun(g:Wd)(a:GA 390 aK ((Z Av xs.length B)).ownBlock base ((Z Av xs.length B)) xs [(⟨Bf,0,m.fr,((xs.length+1:Nat):Int),0⟩:a0Q)] w g)=>show b9 g i 315 #[(Z Av xs.length B)]from y.t.grown a.g (fun e=>z.ne y.t (by decide) e.symm)) (fun(g:Wd)(a:GA 390 aK ((Z Av xs.length B)).ownBlock base ((Z Av xs.length B)) xs [(⟨Bf,0,m.fr,((xs.length+1:Nat):Int),0⟩:a0Q)] w g)=>show s7 g 388 S2 (Z (So ⟨b,j,J⟩) l.length c) l from bf.kept fun b2 cs k=>k.grown a.g (fun e=>z.ne k (by decide) e.symm));refine s8 (R:=(GA 390 aK (Z Av xs.length B).ownBlock base (Z Av xs.length B) xs [(⟨Bf,0,m.fr,((xs.length+1:Nat):Int),0⟩:a0Q)])) (fun _=>trivial) rfl [.is (Z Av xs.length B),.is ?Bt,.is ?Bu,.is ?Bv,.is ?Bw,.is (I V m.fr),.is ?Bx,.is ?By,.is ?Bz,(D4 #[O Bf,I M 0,I V m.fr,I M ((xs.length+1:Nat):Int),I M 0]),(D1 w)] (by kernel_rfl) ?Ca ?Ak ⟨?Al,?Am,?An,?Ao,?Ap,?Aq,?Ar,?As,?At,?Au,?Av,trivial⟩ _ rfl rfl ?Aw
   case Ak=>intro x;simp only[e6,Act.put,uL,l9]<;>rfl
   case Al|Am|An|Ao|Ap|Aq|Ar|As|At=>
    intro x g a;simp only[e5,g1,uV,D4,D1];repeat(intro d;try simp only[d])
    have aw:g.cell? ⟨i,0,J⟩=So (Z Av xs.length B):=(ac g a).cell 0;have ba:=au g (ao g a);gi_wp2_with fail
    refine a0e ?_ rfl (fT.refl _);rfl
   case Au=>
    intro x g a;simp only[e5,g1,uV,D4,D1];intro ap;simp only[ap];gi_wp2_with fail
    refine a0e ?_ rfl (GA.f ((a9.refl g).alloc _));exact⟨g,rfl,b9.new _ _ _,fun e=>by have:=((a.old z.out).lt e).2;omega⟩
   case Av=>
    intro x g a;simp only[e5,g1,uV,D4,D1];rintro o⟨ag,aq,ai,cf⟩;simp only[o,aq];gi_wp2_with(gi_at_builtin;go_loud (refine o9 rfl _ _ 315 390 rfl a2p base (Z Av xs.length B) xs rfl (a.old z.out) ag 1 1 [(⟨Bf,0,m.fr,((xs.length+1:Nat):Int),0⟩:a0Q)] rfl rfl (h9.f ai rfl) ca (c8 an a.g.size) ?_;intro ch ck bb ab ak bc bd))
    refine a0e ?_ rfl (⟨ab,fun _=>ak,bc⟩);exact⟨bb,bd.imp id (fun q b ax=>by have:=q b ax;have:=a.g.size;omega)⟩
   case Aw=>
    intro x g a;simp only[l8,e5,g1,uV,D4,D1];rintro o C D E F G H ad ap⟨ag,aq,ai,cf⟩⟨L,ar⟩;simp only[o,C,D,E,F,G,H,ad,ap,aq];clear o C D E F G H ad ap aq;obtain⟨p,u,s,ae⟩:=L.f;rw[ae]at L ar;have t:=ac g a;have bi:=t.frozen 0;have bh:=t.cell 0;have N:Tv base S6 w g:= .ofOwn z a.g (a7 _) (by decide);have P:=Tv.r t y.ht (S:=S6) (by decide) 0 (Z p u s);have b2:=t.f 0 (Z p u s);have aj:=L.kept (x4 _ i 0 (Z p u s)) (.inr (L.ne t (by decide)));obtain⟨av,Q⟩:=i6 (N.trans P) (⟨(N.trans P).blk y.g (.inr (by decide)),b2,aj,c8 an (N.trans P).size,y.ht⟩:Gw (g.setCell ⟨i,0,J⟩ (Z p u s)) i A base (Z p u s) (xs++[(⟨Bf,0,m.fr,((xs.length+1:Nat):Int),0⟩:a0Q)]));clear N P b2 aj;simp only[ae];have bg:=a6 ((ao g a).tv (.r t y.ht (S:=S6) (by decide) 0 (Z p u s)) (by decide));gi_wp2_with fail
    generalize g.setCell ⟨i,0,J⟩ (Z p u s)=cw at*;clear a t bi bh L ar aw;refine g4 (fun _=>trivial) rfl [.is (tS i A),.is ?Cb,.is ?Cc,.is ?Cd,.is (Z (So ⟨b,j,J⟩) k k)] (by kernel_rfl) ?Ce ?Ax ⟨?Ay,?Az,?Ba,?Bb,?Bc,trivial⟩ _ rfl rfl ?Bd
    case Ax=>intro x;simp only[e6,Act.put,uL,l9]<;>rfl
    case Ay|Az|Ba|Bb|Bc=>
     intro x g a;simp only[e5,g1,uV];repeat(intro d;try simp only[d])
     have ba:=(Q.g.h a).cell 0;gi_wp2_with fail
     refine a0e ?_ rfl (a9.refl _);rfl
    case Bd=>
     intro x g a;simp only[l8,e5,j8,uV];intro o C D E F;simp only[o,C,D,E,F];clear o C D E F;have bn:(l.take k).length=k:=by rw[a4C];omega
     have bl:(l.drop k).length=l.length-k:=List.length_drop;have bw:=br.out;simp only[a3W,a2e]at bw;have bo:(xs++[(⟨Bf,0,m.fr,((xs.length+1:Nat):Int),0⟩:a0Q)]).length=xs.length+1:=by simp
     have al:=ih (l.take k) (by omega) (by omega) b j k i A base _ _ g ⟨Q.g.h a,Q.t.h a,Q.o.h a,c8 Q.hb a.size,Q.ht⟩ (by rw[bn];exact(bg.h a).take k k (by omega)) (by omega) (by omega) (by rw[bo];omega);rw[bn,bo]at al;have al:=a6 al;unfold tS;gi_wp2_with(refine⟨trivial,?_⟩;gi_at_call 267;apply((Cw (n:=0)).2 al.out).mono;rintro e cj⟨rfl,cu,af,be⟩;rw[a4s,List.singleton_append]at af;obtain⟨cm,W,cp,rfl⟩:=af.o.f;obtain⟨gb,rfl,az,bv,bu,S4⟩:=af.more;have ak:=af.t.cell 0;have bx:(xs.length:Int)<W:=(by rw[az];simp;omega);have bs:=a6 az;clear az)
     have aa:=a6 (S4 W).1;obtain⟨bt,S5⟩:=i6 ((((av.h a).trans be).trans (S4 W).2)) (((bg.h a).tv be (by decide)).tv (S4 W).2 (by decide));generalize cj.setCell ⟨gb,xs.length*5+4,J⟩ (I M W)=cx at*;clear S4 bv bu ak bx af be a;refine g4 (fun _=>trivial) rfl [.is (tS i A),.is ?Cf,.is ?Cg,.is ?Ch,.is ?Ci,.is ?Cj,.is ?Ck,.is (Z (So ⟨b,j+k*3,J⟩) (l.length-k) (l.length-k))] (by kernel_rfl) ?Cl ?Be ⟨?Bf,?Bg,?Bh,?Bi,?Bj,?Bk,?Bl,?Bm,trivial⟩ _ rfl rfl ?Bn
     case Be=>intro x;simp only[e6,Act.put,uL,l9]<;>rfl
     case Bf|Bg|Bh|Bi|Bj|Bk|Bl|Bm=>
      intro x g a;simp only[e5,g1,uV];repeat(intro d;try simp only[d])
      have ba:=(aa.g.h a).cell 0;gi_wp2_with fail
      refine a0e ?_ rfl (a9.refl _);rfl
     case Bn=>
      intro x g a;simp only[l8,e5,j8,uV];intro o C D E F G H ad;simp only[o,C,D,E,F,G,H,ad];clear o C D E F G H ad;have bm:(xs++(⟨Bf,0,m.fr,((xs.length+1:Nat):Int),(W:Int)⟩:a0Q)::gr f (l.take k) (xs.length+1)).length=xs.length+1+(gr f (l.take k) (xs.length+1)).length:=by simp;omega
      have am:=ih (l.drop k) (by omega) (by omega) b (j+k*3) (l.length-k) i A base _ _ g ⟨aa.g.h a,aa.t.h a,aa.o.h a,c8 aa.hb a.size,aa.ht⟩ (by rw[bl];exact(S5.h a).sub k _ (by omega)) (by omega) (by omega) (by rw[bm];omega);rw[bl,bm]at am;have am:=a6 am;unfold tS;gi_wp2_with(refine⟨trivial,?_⟩;gi_at_call 267;apply((Cw (n:=0)).2 am.out).mono;rintro e cy⟨rfl,ci,bj,cg⟩)
      have cb:W=xs.length+1+(gr f (l.take k) (xs.length+1)).length:=by rw[bs.out];simp;omega
      go_end0
      refine⟨rfl,ci,?_,(bt.h a).trans cg⟩;rw[a4s,List.cons_append,cb]at bj;exact bj
end
def gK(c:Nat→Nat)(N:Nat)(b:List Nat)(a:Nat):Nat:=if a<N then c a else b.getD (a-N) 0
theorem ON(d:Nat→Nat)(N:Nat)(a:List Nat)(b:Nat):gK d N (a++[b])=aW (gK d N a) (N+a.length) b:=by
 funext y;show(if y<N then d y else(a++[b]).getD (y-N) 0)=if y=N+a.length then b else if y<N then d y else a.getD (y-N) 0
 by_cases c:y<N
 ·rw[if_pos c,if_neg (by omega),if_pos c]
 ·rw[if_neg c,if_neg c]
  obtain⟨j,rfl⟩:∃j,y=N+j:=⟨y-N,by omega⟩;rw[Nat.add_sub_cancel_left];by_cases e:j<a.length
  ·rw[if_neg (by omega),a8,List.getElem?_append_left e,a8]
  ·by_cases f:j=a.length
   ·rw[if_pos (by omega),f,a8,List.getElem?_append_right (a7 _)]
    simp
   ·rw[if_neg (by omega),a8,a8,List.getElem?_eq_none (by simp;omega),List.getElem?_eq_none (by omega)]
theorem St.labels{w:Wd}{g base N:Nat}{l:List It}{h:Nat→Nat}(m:St w g base l h N)(f:List Nat)(A:∀b∈f,b9 w b 291 #[I M 0]∧base≤b∧∀d,d<N→h d≠b)(D:f.Nodup):St w g base l (gK h N f) (N+f.length):=by
 have key:∀k,k≤f.length→St w g base l (gK h N (f.take k)) (N+k):=fun k=>by
  induction k with
  |zero=>
   intro _;obtain⟨p,r,q⟩:=m.ex;have e:∀d,d<N→gK h N (f.take 0) d=h d:=fun d j=>if_pos j
   obtain⟨zs,a,bo,c⟩:=q.zs;refine⟨⟨p,r,q.wri,⟨zs,a,bo,fun z t=> ?_⟩,fun x i=>by rw[e x i];exact q.labs x i,fun x d i j E=>q.inj x d i j (by rw[←e x i,←e d j];exact E)⟩,m.ok⟩;have C:z.num∈L1 l 0:=by rw[←a];exact List.mem_map.2 ⟨z,t,rfl⟩
   obtain⟨n,y⟩:=m.ok.2 _ C;have q:=c z t;exact⟨by rw[e z.t n];exact q.bt,q.bw,q.ba,q.bc,by rw[e z.e y];exact q.be⟩
  |succ k ih=>
   intro G;have s:=ih (by omega);obtain⟨p,r,q⟩:=s.ex;have B:(f.take k).length=k:=by rw[a4C];omega
   have o:k<f.length:=by omega
   obtain⟨u,v,n⟩:=A _ (a30 o);rw[a4a o,ON,B];refine⟨⟨p,r,q.add s.ok u v fun d j=> ?_⟩,s.ok.more (Nat.le_succ _)⟩;unfold gK;split
   ·rename_i F;exact n d F
   ·rw[a8,List.getElem?_take_of_lt (by omega),e9 (by omega)]
    exact List.pairwise_iff_getElem.1 D _ _ (by omega) o (by omega)
 have:=key f.length (a7 _);rwa[List.take_length]at this
def NE:p6 Nat:=⟨1,fun b=>[K (So ⟨b,0,J⟩)],fun _=>rfl,by simp[Value.oneCell']⟩
def a0X:p6 (Option Nat):=⟨1,fun b=>[K (b.map fun b=>⟨b,0,J⟩)],fun _=>rfl,by simp[Value.oneCell']⟩
def s3(a:List Nat)(x:a0Q)(b:Nat):Nat:=if x.leaf then a.getD x.way.toNat 0 else b
def TS(a:List Nat):List a0Q→List Nat→List (Option Nat)
 |x::nd,b::bs=>So (s3 a x b)::TS a nd bs
 |_,_=>[]
theorem AF(e:List Nat):∀(a:List a0Q)(d:List Nat)(b:Nat)(f:d.length<a.length),TS e a (d++[b])=TS e a d++[So (s3 e a[d.length] b)]
 |x::a,[],b,f=>by cases a<;>rfl
 |x::a,c::d,b,f=>congrArg (So (s3 e x c)::·) (AF e a d b (by simpa using f))
theorem wE(d:List Nat):∀(c:List a0Q)(a:List Nat),a.length≤c.length→(TS d c a).length=a.length
 |[],[],_=>rfl
 |x::c,[],_=>rfl
 |x::c,b::a,h=>by show(TS d c a).length+1=a.length+1;rw[wE d c a (by simpa using h)]
theorem JU(d:List Nat):∀(c:List a0Q)(a:List Nat)(j:Nat)(e:j<a.length)(f:j<c.length),(TS d c a)[j]? =So (So (s3 d c[j] a[j]))
 |x::c,b::a,0,_,_=>rfl
 |x::c,b::a,j+1,e,f=>JU d c a j (by simpa using e) (by simpa using f)
theorem qA(z:Va)(n:Nat):(madeCells #[z] n).toList=a2A n z:=toList_madeCells_one _ _
theorem a0V(n:Nat):(madeCells #[K J] n).toList=a0X.row (a2A n J):=by
 rw[qA]
 induction n with
 |zero=>rfl
 |succ n ih=>rw[List.replicate_succ,List.replicate_succ,ih];rfl
section
attribute [local go_sem] Oper.semAt_some
structure a5U(nd:List a0Q)(m:Nat)(x:a0Q):Prop where
 lf:x.leaf=Bt→0≤x.way∧x.way<m
 br:x.leaf=Bf→(0≤x.less∧x.less<nd.length)∧0≤x.more∧x.more<nd.length
theorem e4.setN{f:Type}{w:Wd}{base g n cap:Nat}{e:Ti}{E:p6 f}{xs:List f}(b:e4 w base e E (Z g n cap) xs)(j:Nat)(i:j<xs.length)(h:E.k=1)(u:Va)(d:f)(o:[u]=E.c d):
  e4 (w.setCell ⟨g,j,J⟩ u) base e E (Z g n cap) (xs.set j d)∧w.grownBy (w.setCell ⟨g,j,J⟩ u) (So g)∧w.frozen? ⟨g,j,J⟩=Bf∧w.cell? ⟨g,j,J⟩=(E.c xs[j])[0]? :=by
 obtain⟨l,rfl⟩:=b.i;obtain⟨a,c⟩:=List.length_eq_one_iff.1 ((E.len xs[j]).trans h);have:=b.setF j 0 i (by omega) u d (by rw[c,←o];rfl);have q:=l.elt0 i (r:=0) (u:=a) (by rw[c];rfl);rw[h,Nat.mul_one,a4z]at this q;refine⟨this.1,this.2,?_,q.trans (by rw[c];rfl)⟩;obtain⟨_,_,m,k⟩:=b;cases m;exact k.frozenAt _
theorem ND:(prog.info? 289).map (fun i=>(i.zero,i.size,i.bytes))=So (So (K J),1,8):=by kernel_rfl
theorem nI{c:Type}(a R:List c)(x b:c)(k:Nat)(d:a.length=k):(a++x::R).set k b=a++[b]++R:=by
 subst d;rw[List.set_append_right _ _ (a7 _),Nat.sub_self,List.set_cons_zero,a4s];rfl
structure Fld(w:Wd)(nd:List a0Q)(wl:List Nat)(n:Nat)(bs:List Nat)(wr:Wd):Prop where
 o:e4 wr w 289 a0X (Z w n n) (TS wl nd bs++a2A (n-bs.length) J)
 b:∀b∈bs,b9 wr b 291 #[I M 0]∧w≤b
 nd:bs.Nodup
 x:a9 w wr
theorem AW(b:Nat)(p:Nat→Nat)(a:List a0Q){k:Nat}(c:k<a.length):Z6 b p 0 (a.take (k+1))=Z6 b p 0 (a.take k)++EA b p k a[k]:=by
 rw[a4a c,nQ,a4C,Nat.min_eq_left (by omega),a4E];simp[Z6]
theorem wR(a:Nat)(p:Nat→Nat)(i:Nat)(x:a0Q):m0 (EA a p i x)≤1:=by unfold EA;split<;>simp[m0,It.n]
theorem RI{w:Wd}{g base N:Nat}{au:List It}{L:Nat→Nat}(dw:St w g base au L N)(An Aw:Option Ad)(du dv:Nat)(c:List a0Q)(v:List Nat)(ee:s7 w 390 aK (Z An c.length du) c)(el:s7 w 289 NE (Z Aw v.length dv) v)(fx:N=3+v.length)(ed:∀i(hi:i<v.length),L (3+i)=v[i])
  (eh:∀x∈c,a5U c v.length x) (av:0<c.length) (ga:c.length≤10000) (fz:m0 au+c.length+2≤100000) (ff:base≤w):
  Ca prog 202 #[K g,Z An c.length du,Z Aw v.length dv] w (Rn w g base au L N (uU N c) (N+c.length)):=by
 refine(Cw (n:=1)).1 ?_;have fj:∀W:Wd,(Instr.makeSlice 311 (I M (c.length:Int)) (I M (c.length:Int))).run prog W= .ok (Z W c.length c.length) (W.alloc (U (madeCells #[K J] c.length) 289)):=fun W=>
  G9 311 289 (K J) 8 underlying311 ND rfl M M c.length c.length (a7 _) (by omega) (by decide) W
 obtain⟨ah,dq,dl,bd,et⟩:=gP ee el dw eh ed;have di:Fld w c v c.length [] (w.alloc (U (madeCells #[K J] c.length) 289)):=⟨by
  have e:TS v c []++a2A (c.length-([]:List Nat).length) J=a2A c.length J:=by cases c<;>rfl
  rw[e];exact e4.new (a7 _) (a0V _) (by simp) (by omega),fun b l=>(by cases l),.nil,(a9.refl w).alloc _⟩
 clear ee el dw eh ed;refine Co func202 rfl trivial ?_ rfl;simp only[ntmps202,uE,l9,a4D];gi_wp2_with fail
 generalize w.alloc (U (madeCells #[K J] c.length) 289)=gh at*;clear fj
 gi_loopw [16] (fun s wr=>∃f:List Nat,f.length≤c.length∧s=I M f.length∧Fld w c v c.length f wr) (fun i _=>c.length-(intOf i).toNat)
 case atStart=>exact⟨[],i5 _,rfl,di⟩
 case round=>
  clear di;obtain⟨f,ci,rfl,y⟩:=hrel;by_cases h:f.length<c.length
  ·have af:=y.x
   have ef:(f.length:Int)<(c.length:Int):=by omega
   obtain⟨ds,cm,rfl,_⟩:=(ah.h af).mem.rows (by decide) av;have F:=(ah.h af).mem.b h (r:=0) rfl;have ab:=(ah.h af).mem.b h (r:=1) rfl;have ac:=(ah.h af).mem.b h (r:=2) rfl;have ad:=(ah.h af).mem.b h (r:=3) rfl;have ae:=(ah.h af).mem.b h (r:=4) rfl;simp only[aK,a4z]at F ab ac ad ae;have ao:=bd _ (a30 h);have ej:∀b,TS v c (f++[b])=TS v c f++[So (s3 v c[f.length] b)]:=fun b=>AF v c f b h
   have aq:=wE v c f ci;generalize c[f.length]=x at*;obtain⟨A,G,z,m,o⟩:=x;dsimp only at F ab ac ad ae;have cp:a9 wr ((wr.alloc (U #[O A,I M G,I V z,I M m,I M o] 390)).alloc (U #[I M 0] 291)):=((a9.refl wr).alloc _).alloc _;have dh:b9 ((wr.alloc (U #[O A,I M G,I V z,I M m,I M o] 390)).alloc (U #[I M 0] 291)) wr.heap.size 390 #[O A,I M G,I V z,I M m,I M o]:=(b9.new wr _ _).alloc _;have dg:b9 ((wr.alloc (U #[O A,I M G,I V z,I M m,I M o] 390)).alloc (U #[I M 0] 291)) (wr+1) 291 #[I M 0]:=b9.b (by simp);have ek:a2A (c.length-f.length) (J:Option Nat)=J::a2A (c.length-(f.length+1)) J:=by
    rw[show c.length-f.length=(c.length-(f.length+1))+1 by omega,List.replicate_succ]
   have ca:=y.o.h cp;rw[ek]at ca;obtain⟨cb,br,fv,dt⟩:=ca.setN f.length (by simp;omega) rfl (K (wr+1:Nat)) (So (wr.heap.size+1)) rfl;rw[nI _ _ _ _ _ aq]at cb;have fm:w<wr.heap.size:=(y.o.lt rfl).2;rw[World.setCell_alloc_past _ _ _ _ (by simp;omega),World.setCell_alloc_past _ _ _ _ fm]at cb br;have dt:(((wr.alloc (U #[O A,I M G,I V z,I M m,I M o] 390)).alloc (U #[I M 0] 291))).cell? ⟨w,f.length,J⟩=So (K J):=by
    rw[dt];simp only[List.getElem_append_right (Nat.le_of_eq aq),aq,Nat.sub_self,List.getElem_cons_zero];rfl
   have er:=dh.grown br (fun e=>by injection e with e;omega);have ep:=dg.grown br (fun e=>by injection e with e;omega);have ey:a9 w _:=(af.trans cp).grown br (fun k e=>by cases e;exact a7 _);have ea:∀b∈f,b9 _ b 291 #[I M 0]∧w.heap.size≤b:=fun b l=>⟨((y.b b l).1.h cp).grown br (fun e=>ca.ne ((y.b b l).1.h cp) (by decide) e.symm),(y.b b l).2⟩
   have eg:(f++[wr.heap.size+1]).Nodup:=by
    refine List.nodup_append.2 ⟨y.nd,List.nodup_cons.2 ⟨List.not_mem_nil,.nil⟩,fun a fe b l e=> ?_⟩;have:=(y.b a fe).1.lt;rw[List.mem_singleton.1 l]at e;omega
   obtain⟨cn,gd⟩:=er.c2;obtain⟨dn,dm,cu,bz,dk⟩:=gP (ej (wr+1)) cb ea ey ep;have cj:(f++[wr.heap.size+1]).length=f.length+1:=by simp
   clear ej ca cb ea ek dh dg af;cases A
   ·gi_wp2_with fail
    go_roundw
    case rel=>
     refine⟨f++[wr.heap.size+1],by omega,by rw[cj];go_num,⟨?_,fun b l=> ?_,eg,bz.out⟩⟩
     ·rw[cj,dn.out];exact dm.out
     ·rcases List.mem_append.1 l with l|l
      ·exact cu b l
      ·rw[List.mem_singleton.1 l];exact⟨dk.out,by omega⟩
    case measure=>simp[intOf];omega
   ·obtain⟨fl,em⟩:=ao.lf rfl
    obtain⟨ay,rfl⟩:=Int.eq_ofNat_of_zero_le fl;have gb:(ay:Int)<(v.length:Int):=em;have en:ay<v.length:=by omega
    obtain⟨b1,gc,rfl,_⟩:=(dq.h bz.out).mem.rows (by decide) (by omega);have fn:=(dq.h bz.out).mem.b en (r:=0) rfl;simp only[NE,a4z,Nat.mul_one]at fn;have cg:=dm.out;rw[a4s,List.singleton_append]at cg;obtain⟨cc,cd,fw,da⟩:=cg.setN f.length (by simp;omega) rfl (K (v[ay]:Nat)) (So v[ay]) rfl;rw[nI _ _ _ _ _ aq]at cc;rw[World.setCell_alloc_past _ _ _ _ (by simp;omega),World.setCell_alloc_past _ _ _ _ (by simp;omega)]at cc cd;simp only[List.getElem_append_right (Nat.le_of_eq aq),aq,Nat.sub_self,List.getElem_cons_zero]at da;replace da:=da.trans (show(a0X.c (So (wr+1)))[0]? =So (K (wr+1:Nat))from rfl);have dz:=fun(b:Nat)(k:b9 _ b 291 #[I M 0])=>k.grown cd (fun e=>cg.ne k (by decide) e.symm)
    obtain⟨dj,eu⟩:=i6 dz cc;have dr:a9 w _:=bz.grown cd (fun k e=>by cases e;exact a7 _);have ex:=a6 dr;have ei:s3 v ⟨Bt,(ay:Int),z,m,o⟩ (wr.heap.size+1)=v[ay]:=by
     unfold s3;rw[if_pos rfl,a4A,x0 en]
    have ev:=a6 ei;clear dz cc dr ei cg em cd;gi_wp2_with fail
    go_roundw
    case rel=>
     refine⟨f++[wr.heap.size+1],by omega,by rw[cj];go_num,⟨?_,fun b l=> ?_,eg,ex.out⟩⟩
     ·rw[cj,dn.out,ev.out];exact eu.out
     ·rcases List.mem_append.1 l with l|l
      ·exact⟨dj _ (cu b l).1,(cu b l).2⟩
      ·rw[List.mem_singleton.1 l];exact⟨dj _ dk.out,by omega⟩
    case measure=>simp[intOf];omega
  ·have dd:f.length=c.length:=by omega
   have dy:=St.labels (dl.h y.x) f (fun b l=>⟨(y.b b l).1,c8 ff (y.b b l).2,fun eo df e=>by
    obtain⟨gf,gg,q⟩:=dl.ex;have:=(q.labs eo df).1.lt;have:=(y.b b l).2;omega⟩) y.nd
   rw[dd]at dy;have aq:=wE v c f ci;have cf:=y.o;rw[dd,Nat.sub_self,List.replicate_zero,List.append_nil]at cf;obtain⟨p,bu⟩:∃p:Nat→Nat,p=fun j=>nA N j (c.getD j IP):=⟨_,rfl⟩
   have ap:∀j,j<c.length→p j<N+c.length:=fun j E=>by
    rw[bu];show nA N j (c.getD j IP)<_;rw[x0 E];unfold nA;split
    ·rename_i an
     have:=(bd _ (a30 E)).lf an;omega
    ·omega
   have ch:∀j,j<c.length→wr.cell? ⟨w,j,J⟩=So (K (gK L N f (p j):Nat)):=fun j E=>by
    have ck:=JU v c f j (by omega) E;have eb:j<(TS v c f).length:=by omega
    have:=cf.i.1.elt0 eb (r:=0) (u:=K (s3 v c[j] f[j]:Nat)) (by rw[e9 eb]at ck;injection ck with ck;rw[ck];rfl);rw[show a0X.k=1 from rfl,Nat.mul_one,a4z]at this;rw[this,bu];show _=So (K (So ⟨gK L N f (nA N j (c.getD j IP)),0,J⟩));rw[x0 E];unfold gK nA s3;by_cases an:c[j].leaf=Bt
    ·obtain⟨aw,ax⟩:=(bd _ (a30 E)).lf an
     have C:c[j].way.toNat<v.length:=by omega
     rw[if_pos an,if_pos an,if_pos (by omega),et _ C,x0 C]
    ·rw[if_neg an,if_neg an,if_neg (by omega),Nat.add_sub_cancel_left,x0 (by omega)]
   have ce:H6 w g base au L N [] (N+c.length) (gK L N f) wr:=⟨by rw[List.append_nil];exact dy,fun eo df=>if_pos df,Tv.f y.x,Nat.le_add_right _ _⟩;have bt:=ah.h y.x;have dc:∃cs,b9 wr w 289 cs:=let⟨g',cs,_,e,_,_,l,_⟩:=cf.blk (by omega);by cases e;exact⟨cs,l⟩
   have am:uU N c=(if(c.getD 0 IP).leaf then [.jmp 5 0 (p 0) 0]else [])++Z6 N p 0 c:=by rw[bu];rfl
   rw[x0 av]at am;obtain⟨ds,cm,rfl,_⟩:=bt.mem.rows (by decide) av;have F:wr.cell? ⟨ds,cm,J⟩=So (O c[0].leaf):=by rw[show cm=cm+0*aK.k+0 by simp];exact bt.mem.b av (r:=0) rfl
   have dp:=a6 bu;clear cf bu dd y;generalize gK L N f=A at*;have ez:=ch 0 av;have fy:(0:Int)<c.length:=by omega
   cases ec:c[0].leaf
   ·rw[ec]at F am
    have cv:=a6 am;clear am;obtain⟨ai,cw,bc⟩:=p7 (fun(H:Wd)(t:Tv base W4 wr H)(j:Nat)(E:j<c.length)=>show H.cell? ⟨w,j,J⟩=So (K (A (p j):Nat))from let⟨cs,hB⟩:=dc;by rw[(t.blk hB (.inr (by decide))).cell,←hB.cell];exact ch j E) (bt) (ce);gi_wp2_with fail
    gi_loopw [48] (fun s H=>∃k,k≤c.length∧s=I M k∧H6 w g base au L N ([]++Z6 N p 0 (c.take k)) (N+c.length) A H∧Tv base W4 wr H∧m0 (Z6 N p 0 (c.take k))≤k) (fun i _=>c.length-(intOf i).toNat)
    case atStart=>exact⟨0,i5 _,rfl,by simpa[Z6]using bc.out,.refl _ _ _,a7 _⟩
    case round=>
     clear bc;obtain⟨k,ci,rfl,al,Q,fg⟩:=hrel;by_cases h:k<c.length
     ·have ef:(k:Int)<(c.length:Int):=by omega
      have D:=cw.tv Q (by decide);have F:=D.mem.b h (r:=0) rfl;have ab:=D.mem.b h (r:=1) rfl;have ac:=D.mem.b h (r:=2) rfl;have ad:=D.mem.b h (r:=3) rfl;have ae:=D.mem.b h (r:=4) rfl;simp only[aK,a4z]at F ab ac ad ae;have ao:=bd _ (a30 h);have bv:=AW N p c h;have R:c[k].leaf=Bf→p k=N+k:=fun de=>by rw[dp.out];show nA N k (c.getD k IP)=_;rw[x0 h];unfold nA;rw[de];rfl
      have fh:=wR N p k c[k];generalize c[k]=x at*;obtain⟨ar,G,z,m,o⟩:=x;dsimp only at F ab ac ad ae;have ba:=b9.new wr 390 #[O ar,I M G,I V z,I M m,I M o];have T:=(a9.refl wr).alloc (U #[O ar,I M G,I V z,I M m,I M o] 390);have ag:=al.h T;have cn:=ba.cell 0;have P:=a6 bv;clear bv D;cases ar
      ·obtain⟨⟨aw,ax⟩,C,bs⟩:=ao.br rfl
       obtain⟨m,rfl⟩:=Int.eq_ofNat_of_zero_le aw;obtain⟨o,rfl⟩:=Int.eq_ofNat_of_zero_le C;have cx:=a6 (R rfl);clear R;have fi:(m:Int)<(c.length:Int):=ax;have fk:(o:Int)<(c.length:Int):=bs;have cz:=(ai _ (Q.h T) k h);have aa:=a6 (q8 ag.st (p k) (ap k h) rfl);clear aw C ax bs ao;gi_wp2_with(refine⟨trivial,?_⟩;gi_at_call 191;apply((Cw (n:=0)).2 aa.out).mono;rintro e fo⟨rfl,C,S⟩)
       obtain⟨cq,aj,az⟩:=p7 (ag.step C S) ((Q.h T).trans S) (S.blk ba (.inr (by decide)));clear C S cn cz aa;refine g4 (fun _=>trivial) rfl [.is ?Be,.is ?Bf,.is (I V z),.is ?Bg,.is ?Bh,.is (I M o),.is ?Bi,.is (K (A (p o):Nat)),.is ?Bj,.is ?Bk,.is (I M m),.is ?Bl,.is (K (A (p m):Nat))] (by kernel_rfl) ?Bm ?Aa ⟨?Ab,?Ac,?Ad,?Ae,?Af,?Ag,?Ah,?Ai,?Aj,?Ak,?Al,?Am,?An,trivial⟩ _ rfl rfl ?Ao
       case Aa=>intro x;simp only[e6,Act.put,uL,l9]<;>rfl
       case Ab|Ac|Ad|Ae|Af|Ag|Ah|Ai|Aj|Ak|Al|Am|An=>
        intro x ak B;simp only[e5,g1,uV];repeat(intro d;try simp only[d])
        obtain⟨fq,fr⟩:=(az.h B).d2 2 4;have fs:=ai ak (aj.h B) o (by omega);have ft:=(az.h B).cell 3;have fu:=ai ak (aj.h B) m (by omega);gi_wp2_with fail
        refine a0e ?_ rfl (a9.refl _);rfl
       case Ao=>
        intro x ak B;simp only[l8,e5,j8,uV];intro be bf bj bk bl bm bn bo bp bq bg bh bi;simp only[be,bf,bj,bk,bl,bm,bn,bo,bp,bq,bg,bh,bi];clear be bf bj bk bl bm bn bo bp bq bg bh bi;have bb:=cq.h B;have ct:=a6 (D9 bb.st 53 z (p o) (p m) (ap o (by omega)) (ap m (by omega)) (by simp only[g2,m0,It.n]at*;omega) rfl (N9 (by decide) _));gi_wp2_with(refine⟨trivial,?_⟩;gi_at_call 190;apply((Cw (n:=0)).2 ct.out).mono;rintro e fp⟨rfl,db,bw⟩)
        have cr:=bb.step db bw;have cy:=(aj.h B).trans bw;gi_wp2_with fail
        go_roundw
        case rel=>exact⟨k+1,by omega,by go_num,by have R:=cx.out;rw[P.out];simpa[EA,R]using cr,cy,by rw[P.out,g2];omega⟩
        case measure=>simp[intOf];omega
      ·gi_wp2_with fail
       go_roundw
       case rel=>exact⟨k+1,by omega,by go_num,by rw[P.out];simpa[EA]using ag,Q.h T,by rw[P.out,g2];omega⟩
       case measure=>simp[intOf];omega
     ·obtain rfl:k=c.length:=by omega
      rw[List.take_length]at al;gi_wp2_with fail
      go_end0
      exact⟨rfl,_,by rw[cv.out];exact al⟩
   ·rw[ec]at F am
    obtain⟨cv,aa,ew,es⟩:=J5 am (D9 ce.st 5 0 (p 0) 0 (ap 0 av) (by omega) (by rw[List.append_nil];omega) rfl (show s4 5 _=J from if_pos rfl)) ch ce;clear am ch ce;gi_wp2_with(refine⟨trivial,?_⟩;gi_at_call 190;apply((Cw (n:=0)).2 aa.out).mono;rintro e co⟨rfl,dx,bx⟩)
    have fb:=es.step dx bx;have fa:∃cs,b9 co w 289 cs:=let⟨cs,k⟩:=dc;⟨cs,bx.blk k (.inr (by decide))⟩;have fd:∀j,j<c.length→co.cell? ⟨w,j,J⟩=So (K (A (p j):Nat)):=fun j E=>let⟨cs,k⟩:=dc;by rw[(bx.blk k (.inr (by decide))).cell,←k.cell];exact ew j E
    have fc:=bt.tv bx (by decide);clear dx bx aa ez F bt;obtain⟨ai,cw,bc⟩:=p7 (fun(H:Wd)(t:Tv base W4 co H)(j:Nat)(E:j<c.length)=>show H.cell? ⟨w,j,J⟩=So (K (A (p j):Nat))from let⟨cs,hB⟩:=fa;by rw[(t.blk hB (.inr (by decide))).cell,←hB.cell];exact fd j E) (fc) (fb);gi_wp2_with fail
    gi_loopw [48] (fun s H=>∃k,k≤c.length∧s=I M k∧H6 w g base au L N ([.jmp 5 0 (p 0) 0]++Z6 N p 0 (c.take k)) (N+c.length) A H∧Tv base W4 co H∧m0 (Z6 N p 0 (c.take k))≤k) (fun i _=>c.length-(intOf i).toNat)
    case atStart=>exact⟨0,i5 _,rfl,by simpa[Z6]using bc.out,.refl _ _ _,a7 _⟩
    case round=>
     clear bc;obtain⟨k,ci,rfl,al,Q,fg⟩:=hrel;by_cases h:k<c.length
     ·have ef:(k:Int)<(c.length:Int):=by omega
      have D:=cw.tv Q (by decide);have F:=D.mem.b h (r:=0) rfl;have ab:=D.mem.b h (r:=1) rfl;have ac:=D.mem.b h (r:=2) rfl;have ad:=D.mem.b h (r:=3) rfl;have ae:=D.mem.b h (r:=4) rfl;simp only[aK,a4z]at F ab ac ad ae;have ao:=bd _ (a30 h);have bv:=AW N p c h;have R:c[k].leaf=Bf→p k=N+k:=fun de=>by rw[dp.out];show nA N k (c.getD k IP)=_;rw[x0 h];unfold nA;rw[de];rfl
      have fh:=wR N p k c[k];generalize c[k]=x at*;obtain⟨ar,G,z,m,o⟩:=x;dsimp only at F ab ac ad ae;have ba:=b9.new wr 390 #[O ar,I M G,I V z,I M m,I M o];have T:=(a9.refl wr).alloc (U #[O ar,I M G,I V z,I M m,I M o] 390);have ag:=al.h T;have cn:=ba.cell 0;have P:=a6 bv;clear bv D;cases ar
      ·obtain⟨⟨aw,ax⟩,C,bs⟩:=ao.br rfl
       obtain⟨m,rfl⟩:=Int.eq_ofNat_of_zero_le aw;obtain⟨o,rfl⟩:=Int.eq_ofNat_of_zero_le C;have cx:=a6 (R rfl);clear R;have fi:(m:Int)<(c.length:Int):=ax;have fk:(o:Int)<(c.length:Int):=bs;have cz:=(ai _ (Q.h T) k h);have aa:=a6 (q8 ag.st (p k) (ap k h) rfl);clear aw C ax bs ao;gi_wp2_with(refine⟨trivial,?_⟩;gi_at_call 191;apply((Cw (n:=0)).2 aa.out).mono;rintro e fo⟨rfl,C,S⟩)
       obtain⟨cq,aj,az⟩:=p7 (ag.step C S) ((Q.h T).trans S) (S.blk ba (.inr (by decide)));clear C S cn cz aa;refine g4 (fun _=>trivial) rfl [.is ?Bn,.is ?Bo,.is (I V z),.is ?Bp,.is ?Bq,.is (I M o),.is ?Br,.is (K (A (p o):Nat)),.is ?Bs,.is ?Bt,.is (I M m),.is ?Bu,.is (K (A (p m):Nat))] (by kernel_rfl) ?Bv ?Ap ⟨?Aq,?Ar,?As,?At,?Au,?Av,?Aw,?Ax,?Ay,?Az,?Ba,?Bb,?Bc,trivial⟩ _ rfl rfl ?Bd
       case Ap=>intro x;simp only[e6,Act.put,uL,l9]<;>rfl
       case Aq|Ar|As|At|Au|Av|Aw|Ax|Ay|Az|Ba|Bb|Bc=>
        intro x ak B;simp only[e5,g1,uV];repeat(intro d;try simp only[d])
        obtain⟨fq,fr⟩:=(az.h B).d2 2 4;have fs:=ai ak (aj.h B) o (by omega);have ft:=(az.h B).cell 3;have fu:=ai ak (aj.h B) m (by omega);gi_wp2_with fail
        refine a0e ?_ rfl (a9.refl _);rfl
       case Bd=>
        intro x ak B;simp only[l8,e5,j8,uV];intro be bf bj bk bl bm bn bo bp bq bg bh bi;simp only[be,bf,bj,bk,bl,bm,bn,bo,bp,bq,bg,bh,bi];clear be bf bj bk bl bm bn bo bp bq bg bh bi;have bb:=cq.h B;have ct:=a6 (D9 bb.st 53 z (p o) (p m) (ap o (by omega)) (ap m (by omega)) (by simp only[g2,m0,It.n]at*;omega) rfl (N9 (by decide) _));gi_wp2_with(refine⟨trivial,?_⟩;gi_at_call 190;apply((Cw (n:=0)).2 ct.out).mono;rintro e fp⟨rfl,db,bw⟩)
        have cr:=bb.step db bw;have cy:=(aj.h B).trans bw;gi_wp2_with fail
        go_roundw
        case rel=>exact⟨k+1,by omega,by go_num,by have R:=cx.out;rw[P.out];simpa[EA,R]using cr,cy,by rw[P.out,g2];omega⟩
        case measure=>simp[intOf];omega
      ·gi_wp2_with fail
       go_roundw
       case rel=>exact⟨k+1,by omega,by go_num,by rw[P.out];simpa[EA]using ag,Q.h T,by rw[P.out,g2];omega⟩
       case measure=>simp[intOf];omega
     ·obtain rfl:k=c.length:=by omega
      rw[List.take_length]at al;gi_wp2_with fail
      go_end0
      exact⟨rfl,_,by rw[cv.out];exact al⟩
end
end Go.Proofs.YtiomenjfmagknaaGreat
