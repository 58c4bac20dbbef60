/- A part of the proof of TopSame: lemmas on the walks of its calls. -/
import Derived.StillTailTactics
import Derived.Test.YtiomenjfmagknaaGreatM04
set_option maxHeartbeats 12000000
set_option linter.all false
set_option maxRecDepth 100000
namespace Go.Proofs.YtiomenjfmagknaaGreat
open Go.RowKit Go.ChangeShapes Go.WideShapes Tryz
open Bool renaming true→Bt,false→Bf
open Decidable renaming decide→Dc
open Ending renaming returned→X
open Go renaming World→Wd,Value→Va,Calls→Ca,callsIn_wide→Cw,undef→Un,bodyPost_ret→Bp,TypeId→Ti,Addr→Ad,Program→Pg,strOfNums→Sn,results_none→Rz,wpListIn→Wl,callsIn_of_wp_marks→Cm,callsIn_of_wp→Co,CallsIn→Ci,wpList→Wp
open Go.Proofs renaming enters_of→Eo
open IntKind renaming i64→M,u32→V,u16→U1,u8→U8
open IntWalk renaming i64_in→a37
open Lib renaming hid→a6
open List renaming getD_eq_getElem?_getD→a8,getElem?_eq_getElem→e9,length_append→a2e,length_cons→a3W,getElem_mem→a30,take_succ_eq_append_getElem→a4a,append_assoc→a4s,length_take→a4C,map_append→a4F
open Nat renaming le_refl→a7,le_trans→c8,reduceAdd→l9,zero_le→i5,add_zero→a4z,reduceSub→a4D,zero_add→a4E
open Obj renaming cells→U
open Operand renaming tmp→Tm
open Option renaming none→J,some→So
open Value renaming int→I,slice→Z,string→Y,pointer→K,bool→O,func→Fc,tuple→Tp,agg→Ag
section
theorem FU{j:Fence}{n:Nat}{P:Pg}{i:Oper}{a:Act}{w:Wd}{k t:Act→Wd→Prop}{m l:Exit→Act→Wd→Prop}(b:i.wpIn j n P a w k m)(z:∀u g,k u g→u.defers=a.defers)
  (h:∀v g,k (a.put i.dst v) g→t (a.put i.dst v) g) (q:∀c a w,m (.panic c) a w→l (.panic c) a w) (y:∀a w,m .outgrown a w→l .outgrown a w):i.wpIn j n P a w t l:=by
 unfold Oper.wpIn at*;refine⟨b.1,?_⟩;replace b:=b.2;generalize(i.semAt j.round a.eval).run P w=r at*;cases r with
 |ok n g=>
  cases n<;>simp only[Oper.uponIn]at b⊢
  case value=>exact h _ _ b
  case skip=>exact h _ _ b
  case defer d=>
   have:=z _ _ b;rw[G6]at this;have:=congrArg List.length this;simp at this
  case enter=>
   refine⟨b.1,CallsIn.mono b.2 fun e A f=> ?_⟩;cases e with
   |returned v=>exact h _ _ f
   |panicked c=>exact q _ _ _ f
   |outgrown=>obtain⟨o,s,p⟩:=f;exact⟨o,s,y _ _ p⟩
  case row=>exact⟨b.1,RowsIn.mono b.2 fun _ _ f=>h _ _ f⟩
  case round=>
   refine⟨b.1,RoundIn.mono b.2 fun e A f=> ?_⟩;cases e with
   |returned v=>exact h _ _ f
   |panicked c=>exact q _ _ _ f
   |outgrown=>obtain⟨o,s,p⟩:=f;exact⟨o,s,y _ _ p⟩
 |halt x g=>
  cases x<;>simp only[Oper.uponIn]at b⊢
  case panic=>exact q _ _ _ b
def R6:List Oper→Nat→Bool
 |[],_=>Bt
 |[_],_=>Bt
 |_::os,k=>(os.any fun o=>o.after.toList.any fun e=>Region.binds .any e&&Dc (e.on=k))&&R6 os (k+1)
theorem jH:∀(os:List Oper)(k i:Nat),R6 os k=Bt→i+1<os.length→∃j a,i<j∧os[j]? =So a∧∃e∈a.after,Region.binds .any e=Bt∧e.on=k+i
 |[],_,_,_,h=>by simp at h
 |[_],_,_,_,h=>by simp at h
 |o1::o2::os,k,0,hc,h=>by
  simp only[R6,Bool.and_eq_true,List.any_eq_true,Array.mem_toList_iff,decide_eq_true_eq]at hc;obtain⟨⟨a,d,e,c,b⟩,_⟩:=hc;obtain⟨j,f,l⟩:=List.getElem_of_mem d;exact⟨j+1,a,by omega,by rw[List.getElem?_cons_succ,e9 f,l],e,c,b.1,b.2⟩
 |o1::o2::os,k,i+1,hc,h=>by
  have g:R6 (o2::os) (k+1)=Bt:=by
   simp only[R6,Bool.and_eq_true]at hc;exact hc.2
  obtain⟨j,a,f,d,e,c,b,m⟩:=jH (o2::os) (k+1) i g (by simpa using h);exact⟨j+1,a,by omega,by rw[List.getElem?_cons_succ];exact d,e,c,b,by omega⟩
section
variable {R:Wd→Wd→Prop}
def g1(F:Fence)(n:Nat)(P:Pg)(l:List Oper)(aa:VR R)(ds:List Deferred)(w:Wd)(a:Act):Oper→Prop
 |⟨dst,op,type,pos,after,J⟩=>Wl F n P #[] (yG aa dst ds w) [⟨dst,op,type,pos,after,J⟩] a w
 |⟨dst,op,type,pos,after,So (j,want)⟩=>mJ (Z5 (q9 a (cK l j))) want (Wl F n P #[] (yG aa dst ds w) [⟨dst,op,type,pos,after,J⟩] a w) (aa.p Un w)
def rP(c:Fence)(n:Nat)(P:Pg)(l:List Oper)(b:(Nat→Va)→Act)(ds:List Deferred)(w:Wd)(Vs:List (VR R)):List Oper→List (VR R)→Prop
 |[],[]=>True
 |[_],[]=>True
 |o::os,aa::Ws=>(∀x a,R w a→e5 Vs x a (g1 c n P l aa ds a (b x) o) o.after.toList)∧rP c n P l b ds w Vs os Ws
 |[],_::_=>False
 |_::_::_,[]=>False
theorem AN{f:Fence}{n:Nat}{P:Pg}{l:List Oper}{e:(Nat→Va)→Act}{ds:List Deferred}{w:Wd}{Vs:List (VR R)}:∀(os:List Oper)(a:List (VR R))(i:Nat)(b:Oper),rP f n P l e ds w Vs os a→os[i]? =So b→i<a.length→
  ∃c,a[i]? =So c∧∀x d,R w d→e5 Vs x d (g1 f n P l c ds d (e x) b) b.after.toList
 |[],_,_,_,_,h,_=>by simp at h
 |_::_,[],_,_,_,_,hi=>by simp at hi
 |o'::os,c::a,0,b,h,ho,_=>by
  simp only[List.getElem?_cons_zero,Option.some.injEq]at ho;subst ho;simp only[rP]at h;exact⟨c,rfl,h.1⟩
 |o'::os,c::a,i+1,b,h,ho,hi=>by
  simp only[List.getElem?_cons_succ]at ho⊢;simp only[rP]at h;exact AN os a i b h.2 ho (by simpa using hi)
variable [fT R]
theorem g1.toList{h:Fence}{n:Nat}{P:Pg}{l:List Oper}{k:VR R}{ds:List Deferred}{w:Wd}{a:Act}{d:Oper}(q:∀f,h.fn f)(r:a.defers=ds)(b:g1 h n P l k ds w a d):Wl h n P l.toArray (yG k d.dst ds w) [d] a w:=by
 obtain⟨o,s,u,t,after,p⟩:=d;cases p with
 |none=>exact b
 |some g=>
  obtain⟨j,i⟩:=g;have m:=sS l ⟨o,s,u,t,after,So (j,i)⟩ a j i rfl;simp only[g1]at b;unfold mJ at b;simp only[Wl]at b⊢;by_cases c:Z5 (q9 a (cK l j))=So i
  ·rw[if_pos (m.2 c)]
   rw[if_pos c]at b;exact b
  ·rw[if_neg (fun e=>c (m.1 e))]
   rw[if_neg c]at b;exact⟨fun f _=>q f,by rw[fL];exact b,by rw[G6];exact r,fT.refl _⟩
theorem Z9{D:Fence}{n:Nat}{P:Pg}{b:Array Oper}{Q:Exit→Act→Wd→Prop}{a:Act}{w:Wd}{id:Nat}(ay:∀f,D.fn f)(bk:P.follows .mixedOrders=Bt)
  (Vs:List (VR R)) (bb:H2 b.toList=Bt) (ak:a2r b.toList 0=Bt) (T:(Nat→Va)→Act) (ax:∀x,e6 b.toList x 0 a=T x)
  (bm:rP D n P b.toList T a.defers w Vs b.toList Vs)
  (bj:b.size=Vs.length∨b.size=Vs.length+1)
  (bh:∀x t g,b[Vs.length]? =So g→R w t→(∀j(h:VR R),Vs[j]? =So h→h.p (x j) t)→(∀i,i<Vs.length→∃j s,i<j∧b[j]? =So s∧∃e∈s.after,Region.binds .any e=Bt∧e.on=i)∧
   wpOpIn D n P b Q Vs.length (Q .normal) (T x) t)
  (bd:b.size=Vs.length→∀x t,R w t→(∀j(h:VR R),Vs[j]? =So h→h.p (x j) t)→Q .normal (T x) t)
  (ai:b.size=Vs.length+1→∀i,i<Vs.length→∃j s,i<j∧b[j]? =So s∧∃e∈s.after,Region.binds .any e=Bt∧e.on=i):(Code.region id b Bt).wpIn D n P Q a w:=by
 obtain rfl:(fun x=>e6 b.toList x 0 a)=T:=funext ax;have an:∀(os:List Oper)(x:Nat→Va)(k:Nat)(a:Act),(e6 os x k a).defers=a.defers:=by
  intro os
  induction os with
  |nil=>intro _ _ _;rfl
  |cons g os ih=>intro x k a;simp only[e6];rw[ih,G6]
 have key:∀(E:Nat)(c:Array Bool)(x:Nat→Va)(l:Wd),R w l→(∀j(h:VR R),c[j]? =So Bt→Vs[j]? =So h→h.p (x j) l)→
   (∀(j:Nat)(g:Oper),c[j]? =So Bt→b[j]? =So g→∀e∈g.after,Region.binds .any e=Bt→c[e.on]? =So Bt)→
   (∀j,Vs.length≤j→c[j]?≠So Bt)→
   c.size=b.size→c.toList.count Bf≤E→wpAnyIn D n P .any b Q E c (e6 b.toList x 0 a) l:=by
  intro E;have af:∀(c:Array Bool),c.size=b.size→Region.ready .any b c=[]→∀n j,j<n→j<b.size→c[j]? =So Bt:=by
   intro c H y n
   induction n with
   |zero=>intro j d;omega
   |succ n ih=>
    intro j d ad;have r:j<c.size:=by omega
    cases F:c[j]with
    |true=>rw[Array.getElem?_eq_getElem r,F]
    |false=>
     have:j∈Region.ready .any b c:=by
      rw[mem_ready];refine⟨by simp[Array.getElem?_eq_getElem r,F],b[j],Array.getElem?_eq_getElem ad,fun e q p=> ?_⟩;have B:=E2 b.toList 0 j b[j] ak (by simp[ad]) e q p;have:=ih e.on (by omega) (by omega);simp[this]
     rw[y]at this;cases this
  have ao:∀(c:Array Bool)(x:Nat→Va)(l:Wd),R w l→(∀j(h:VR R),c[j]? =So Bt→Vs[j]? =So h→h.p (x j) l)→(∀j,Vs.length≤j→c[j]?≠So Bt)→c.size=b.size→
    Region.ready .any b c=[]→Q .normal (e6 b.toList x 0 a) l:=by
   intro c x l C z N H y;have af:=af c H y;have al:b.size=Vs.length:=by
    rcases bj with o|o
    ·exact o
    ·exact absurd (af (b.size+1) Vs.length (by omega) (by omega)) (N _ (a7 _))
   refine bd al x l C (fun j h d=> ?_);have:j<Vs.length:=(List.getElem?_eq_some_iff.1 d).1;exact z j h (af (j+1) j (by omega) (by omega)) d
  induction E with
  |zero=>
   intro c x l C z ah N H ba;have y:Region.ready .any b c=[]:=by
    rw[List.eq_nil_iff_forall_not_mem];intro j d;rw[mem_ready]at d;obtain⟨aa,g,A,_⟩:=d;have ad:j<b.size:=(Array.getElem?_eq_some_iff.1 A).1;have r:j<c.size:=by omega
    have F:c[j]=Bf:=by simpa[Array.getElem?_eq_getElem r]using aa
    have:0<c.toList.count Bf:=List.count_pos_iff.2 (by rw[←F];exact Array.getElem_mem_toList r);omega
   exact⟨y,ao c x l C z N H y⟩
  |succ E ih=>
   intro c x l C z ah N H ba;refine⟨ao c x l C z N H,fun i hi=> ?_⟩;rw[mem_ready]at hi;obtain⟨aa,g,A,bc⟩:=hi;have bu:i<b.size:=(Array.getElem?_eq_some_iff.1 A).1;have r:i<c.size:=by omega
   have F:c[i]=Bf:=by simpa[Array.getElem?_eq_getElem r]using aa
   have ag:b.toList[i]? =So g:=by simpa using A
   have aj:∀e∈g.after,Region.binds .any e=Bt→c[e.on]? =So Bt:=fun e q p=>by
    have B:=E2 b.toList 0 i g ak ag e q p;have bi:=bc e q p;have:e.on<c.size:=by omega
    simpa[Array.getElem?_eq_getElem this]using bi
   by_cases bf:i<Vs.length
   ·obtain⟨h,az,bn⟩:=AN _ _ i g bm ag bf
    have u:=lE g.after.toList (fun e q p=>by
     have B:=E2 b.toList 0 i g ak ag e (by simpa using q) p;have ab:e.on<Vs.length:=by omega
     rw[a8,e9 ab];exact z e.on _ (aj e (by simpa using q) p) (e9 ab)) (bn x l C)
    have au:∀v ae,h.p (q9 ((e6 b.toList x 0 a).put g.dst v) g.dst) ae→R l ae→wpAnyIn D n P .any b Q E (c.setIfInBounds i Bt) ((e6 b.toList x 0 a).put g.dst v) ae:=by
     intro v ae bo ar;rw[←lU,qR b.toList x 0 a i g _ bb ag,a4E];refine ih _ _ _ (fT.trans _ _ _ C ar) (fun j W d ac=> ?_) (fun j s d G e q p=> ?_) (fun j d=> ?_) (by simpa using H) ?_
     ·by_cases L:j=i
      ·subst L
       rw[az]at ac;injection ac with ac
       subst ac;simp only[DY,if_true];exact bo
      ·simp only[DY,if_neg L]
       rw[Array.getElem?_setIfInBounds_ne (Ne.symm L)]at d;exact W.st _ _ _ (z j W d ac) ar
     ·have B:c[e.on]? =So Bt:=by
       by_cases L:j=i
       ·subst L
        rw[A]at G;injection G with G
        subst G;exact aj e q p
       ·rw[Array.getElem?_setIfInBounds_ne (Ne.symm L)]at d
        exact ah j s d G e q p
      have bl:e.on≠i:=fun av=>by
       rw[av,Array.getElem?_eq_getElem r,F]at B;cases B
      rw[Array.getElem?_setIfInBounds_ne (Ne.symm bl)];exact B
     ·rw[Array.getElem?_setIfInBounds_ne (by omega)]
      exact N j d
     ·have:=lG c.toList i (by simp[r,F])
      simp only[Array.toList_setIfInBounds];omega
    unfold wpOpIn;rw[A];dsimp only;have u:Wl D n P b (yG h g.dst a.defers l) [g] (e6 b.toList x 0 a) l:=by
     have:=g1.toList ay (an _ _ _ _) u;rwa[Array.toArray_toList]at this
    simp only[Wl]at u;split
    ·rename_i am
     rw[if_pos am]at u;refine FU u (fun br t o=>by rw[an];exact o.2.1) (fun v t o=>au v t o.1 o.2.2) (fun _ _ _ o=>o.elim) (fun _ _ o=>o.elim)
    ·rename_i am
     rw[if_neg am]at u;exact⟨u.1,au _ _ u.2.1 u.2.2.2⟩
   ·have be:i=Vs.length:=by omega
    subst be;have al:b.size=Vs.length+1:=by omega
    have ai:=ai al;have ap:∀m i,Vs.length≤i+m→i<Vs.length→c[i]? =So Bt:=by
     intro m
     induction m with
     |zero=>intro i aw ab;omega
     |succ m ihm=>
      intro i aw ab;obtain⟨j,s,bt,S,e,q,p,B⟩:=ai i ab;have ad:j<b.size:=(Array.getElem?_eq_some_iff.1 S).1;rw[←B];by_cases d:j=Vs.length
      ·subst d
       rw[A]at S;injection S with S
       subst S;exact aj e q p
      ·exact ah j s (ihm j (by omega) (by omega)) S e q p
    obtain⟨-,bg⟩:=bh x l g A C (fun j h d=>z j h (ap Vs.length j (by omega) (List.getElem?_eq_some_iff.1 d).1) d);refine wpOpIn_mono (fun bs ae aq=> ?_) bg;have y:Region.ready .any b (c.setIfInBounds Vs.length Bt)=[]:=by
     rw[List.eq_nil_iff_forall_not_mem];intro j d;rw[mem_ready]at d;obtain⟨aa,s,G,_⟩:=d;have ad:j<b.size:=(Array.getElem?_eq_some_iff.1 G).1;have:(c.setIfInBounds Vs.length Bt)[j]? =So Bt:=by
      by_cases d:j=Vs.length
      ·subst d
       simp[r]
      ·rw[Array.getElem?_setIfInBounds_ne (Ne.symm d)]
       exact ap Vs.length j (by omega) (by omega)
     simp[this]at aa
    cases E with
    |zero=>exact⟨y,aq⟩
    |succ f=>exact⟨fun _=>aq,fun j d=>by rw[y]at d;cases d⟩
 obtain⟨bq,bp⟩:=gV b.toList 0 a;refine wpIn_region_any bk ?_;have:=key b.size (Array.replicate b.size Bf) bq {w with drawn:=w.drawn+1} ((fT.drew w)) (fun j h o _=>by
  simp[Array.getElem?_replicate]at o) (fun j g o _=>by simp[Array.getElem?_replicate]at o) (fun j _ o=>by simp[Array.getElem?_replicate]at o) (by simp) (by simp)
 rw[bp]at this;exact this
theorem R8{e:Fence}{n:Nat}{P:Pg}{b:Array Oper}{Q:Exit→Act→Wd→Prop}{a:Act}{w:Wd}{id:Nat}(l:∀f,e.fn f)(s:P.follows .mixedOrders=Bt)
  (Vs:List (VR R)) (h:(H2 b.toList&&(a2r b.toList 0&&Dc (b.size=Vs.length)))=Bt) (d:(Nat→Va)→Act) (k:∀x,e6 b.toList x 0 a=d x)
  (u:rP e n P b.toList d a.defers w Vs b.toList Vs)
  (q:∀x c,R w c→l8 x c (Q .normal (d x) c) Vs 0):(Code.region id b Bt).wpIn e n P Q a w:=by
 simp only[Bool.and_eq_true]at h;obtain⟨o,p,g⟩:=h;have g:b.size=Vs.length:=of_decide_eq_true g;refine Z9 l s Vs o p d k u (.inl g) (fun x c z t=> ?_) (fun _ x c v m=> ?_) (fun y=>by omega)
 ·have:=(Array.getElem?_eq_some_iff.1 t).1
  omega
 ·exact fB Vs 0 (fun j i r=>by rw[a4E];exact m j i r) (q x c v)
theorem s8{k:Fence}{n:Nat}{P:Pg}{b:Array Oper}{Q:Exit→Act→Wd→Prop}{a:Act}{w:Wd}{id:Nat}(A:∀f,k.fn f)(L:P.follows .mixedOrders=Bt)
  (Vs:List (VR R)) (o:(H2 b.toList&&(a2r b.toList 0&&R6 b.toList 0))=Bt) (h:(Nat→Va)→Act) (z:∀x,e6 b.toList x 0 a=h x)
  (T:rP k n P b.toList h a.defers w Vs b.toList Vs) (c:Oper) (p:b.toList.drop Vs.length=[c]) (G:c.guard.isNone=Bt)
  (F:∀x g,R w g→l8 x g (Wl k n P #[] Q [c] (h x) g) Vs 0):(Code.region id b Bt).wpIn k n P Q a w:=by
 simp only[Bool.and_eq_true]at o;obtain⟨D,E,C⟩:=o;have W:b.size=Vs.length+1:=by
  have:=congrArg List.length p;simp at this;omega
 have S:b[Vs.length]? =So c:=by
  have d:(b.toList.drop Vs.length)[0]? =So c:=by rw[p];rfl
  rw[List.getElem?_drop]at d;simpa using d
 have m:∀i,i<Vs.length→∃j r,i<j∧b[j]? =So r∧∃e∈r.after,Region.binds .any e=Bt∧e.on=i:=fun i hi=>by
  obtain⟨j,q,t,u,e,v,y,ab⟩:=jH b.toList 0 i C (by simp;omega);exact⟨j,q,t,by simpa using u,e,v,y,by omega⟩
 refine Z9 A L Vs D E h z T (.inr W) (fun x g q ac aa B=> ?_) (fun d=>by omega) (fun _=>m);refine⟨m,?_⟩;have l:=fB Vs 0 (fun j s H=>by rw[a4E];exact B j s H) (F x g aa);unfold wpOpIn;rw[S];dsimp only;have N:c.guard=J:=by simpa using G
 simp only[Wl,Region.wanted,N,if_true]at l⊢;exact Oper.wpIn_mono (fun a w d=>d) l
end
def K0{F n P ops Q a w id}:= @R8 a9 _ F n P ops Q a w id
def g4{F n P ops Q a w id}:= @s8 a9 _ F n P ops Q a w id
end
section
attribute [local go_sem] Oper.semAt_some
structure PU(g:Nat)(ob:Option Nat)(W W':Wd):Prop where
 os:W'.os=W.os
 tape:W'.tape=W.tape
 output:W'.output=W.output
 size:W≤W'.heap.size
 keep:∀b,b<W.heap.size→b≠g→ob≠So b→W'.heap[b]? =W.heap[b]?
structure RA(ob:Option Nat)(base:Nat)(v:Va)(n:Nat)(xs ys:List Va)(W W':Wd):Prop where
 g:W.grownBy W' ob
 old:W.ownsRow base 116 4 v n xs→W'.ownsRow base 116 4 v n xs
 new:∀v',W.ownsRow base 116 4 v' (n+1) (xs++ys)→W'.ownsRow base 116 4 v' (n+1) (xs++ys)
theorem s6{W W':Wd}(a:W.grownBy W' J)(d:Option Nat):W.grownBy W' d:=⟨a.os,a.tape,a.output,a.size,fun b c _=>a.block b c (fun e=>by cases e)⟩
theorem RA.h{c:Option Nat}{base:Nat}{v:Va}{n:Nat}{xs ys:List Va}{W W':Wd}(b:W.grownBy W' J):RA c base v n xs ys W W':=
 have k:∀a j zs,W.ownsRow base 116 4 a j zs→W'.ownsRow base 116 4 a j zs:=fun a j zs q=>q.kept b (by cases a.ownBlock;exact .inl rfl;exact .inr (fun e=>by cases e))
 ⟨s6 b c,k _ _ _,fun _=>k _ _ _⟩
instance (d:Option Nat)(base:Nat)(v:Va)(n:Nat)(xs ys:List Va):fT (RA d base v n xs ys) where
 refl W:=RA.h ⟨rfl,rfl,rfl,a7 _,fun _ _ _=>rfl⟩
 trans a b c h k:=⟨h.g.trans k.g,fun q=>k.old (h.old q),fun v' q=>k.new v' (h.new v' q)⟩
 drew W:=RA.h (B1 W)
theorem A9{W:Wd}{base n:Nat}{e t:Ti}{i:Nat}{v:Va}{xs:List Va}{g:Nat}{cs:Array Va}(d:W.ownsRow base e i v n xs)(k:b9 W g t cs)(h:e≠t):v.ownBlock≠So g:=fun a=>by
 rcases d.2 with⟨b,_⟩|⟨c,cap,cur,b,_,f,_⟩
 ·rw[b]at a;cases a
 ·rw[b]at a
  injection a with a
  have a:c=g:=a;subst a;unfold b9 at k;rw[f]at k;injection k with k
  injection k with _ k2
  exact h k2
def pS{c:Option Nat}{base:Nat}{v:Va}{n:Nat}{xs ys:List Va}(cs:Array Va):VR (RA c base v n xs ys):=
 ⟨fun u d=>∃a,u=Z (So ⟨a,0,J⟩) 1 1∧b9 d a 116 cs∧c≠So a,fun _ _ _⟨a,f,g,b⟩ e=>⟨a,f,g.grown e.g (fun q=>b q.symm),b⟩⟩
def zT{c:Option Nat}{base:Nat}{v:Va}{n:Nat}{xs ys:List Va}(z:Nat):VR (RA c base v n xs ys):=
 ⟨fun u d=>d.ownsRow base 116 4 u (n+1) (xs++ys)∧(u.ownBlock=c∨∀b,u.ownBlock=So b→z≤b),fun _ _ _ a e=>⟨e.new _ a.1,a.2⟩⟩
structure a5R(w:Wd)(z gk:Nat)(pv:Va)(far:Int)(bk:List i2)(v:Va)(base:Nat)(A:Option Ad)(m c:Nat)(xs:List i2)(pre:List Nat)(W:Wd):Prop where
 ex:∃v',b9 W gk 301 #[v',pv,I M far]∧W.ownsRow base 116 4 v' (bk.length+pre.length) (pc (bk++pre.map fun i=>xs.getD i j5))∧(v'.ownBlock=v.ownBlock∨∀b,v'.ownBlock=So b→w.heap.size≤b)
 box:b9 W w 297 #[K gk]
 box2:b9 W (w+1) 49 #[Z A m c]
 pu:PU gk v.ownBlock w W
 z:z≤W
theorem PU.l{g z:Nat}{f:Option Nat}{w W W':Wd}{row:Option Nat}(a:PU g f w W)(k:w≤z)(c:W.grownBy W' row)(j:∀r,row=So r→z≤r):PU g f w W':=
 ⟨c.os.trans a.os,c.tape.trans a.tape,c.output.trans a.output,c8 a.size c.size,fun b d h i=>(c.block b (Nat.lt_of_lt_of_le d a.size) (fun e=>by have:=j b e.symm;omega)).trans (a.keep b d h i)⟩
theorem ZQ(w:Wd)(z k:Nat)(p:w≤z)(q:Va)(j:Int)(i:List i2)(v:Va)(base:Nat)(h:Option Ad)(m c:Nat)(xs:List i2):OwnFrom z (a5R w z k q j i v base h m c xs):=fun s W W' row b a f=>by
 have d:∀r,row=So r→∃g:Obj,W.heap[r]? =So g∧g.isCells=Bf:=fun r e=>(f r e).2
 obtain⟨v',l,n,o⟩:=b.ex;exact⟨⟨v',e8 l a d,P9 n a d,o⟩,e8 b.box a d,e8 b.box2 a d,b.pu.l p a (fun r e=>(f r e).1),c8 b.z a.size⟩
def a45(b:Nat)(a:Option Ad)(m c z:Nat)(g x:Nat)(co e d kk:Int):Act:=
 {tmps:= #[K b,Z a m c,K z,Un,Un,K g,Z a m c,Fc (.func 400) #[] #[K (z+1:Nat)],I M x,Ag #[I U1 co,I U8 e,I U8 d,I V kk],Un,Un,Un,Un,Un,Un,Un,Un,Un,Un],defers:=[]}
def a6I(f:Nat)(d:Option Ad)(m c z:Nat)(xs:List i2)(x h:Nat)(e:Act)(W:Wd):Prop:=
 ∃g co b a kk,h≤g∧xs.getD x j5=⟨co,b,a,kk⟩∧e=a45 f d m c z g x co b a kk∧b9 W g 116 #[I U1 co,I U8 b,I U8 a,I V kk]
theorem a3r(f:Nat)(an:Va)(ah:Int)(s:List i2)(v:Va)(base:Nat)(o:Option Ad)(m c:Nat)(xs:List i2)(da:xs.length=m)(dz:m≤3)(t:s.length≤500000)(w:Wd)(dw:base≤w)
  (bq:b9 w f 301 #[v,an,I M ah]) (ak:w.ownsRow base 116 4 v s.length (pc s)) (ck:h9 w o (pc xs)) (cj:∀a,o=So a→a.block<w∧a.block≠f∧v.ownBlock≠So a.block):
  Ci .wide 3 prog 338 #[K f,Z o m c] w fun e ao=>(∃u,e=X u)∧∃v',b9 ao f 301 #[v',an,I M ah]∧ao.ownsRow base 116 4 v' (s.length+m) (pc (s++xs.reverse))∧
   PU f v.ownBlock w ao∧(v'.ownBlock=v.ownBlock∨∀b,v'.ownBlock=So b→w.heap.size≤b):=by
 have bb:=a6 da;refine Cm func338 rfl trivial ?_ rfl;simp only[ntmps338,uE,l9,a4D];gi_wp2_with(refine⟨trivial,?_⟩;gi_at_call 383;apply(ZC o m c _).mono;rintro e ao⟨rfl,rfl⟩)
 have bc:b9 ((w.alloc (U #[K f] 297)).alloc (U #[Z o m c] 49)) w 297 #[K f]:=(b9.new w _ _).alloc _;have ad:b9 ((w.alloc (U #[K f] 297)).alloc (U #[Z o m c] 49)) (w+1) 49 #[Z o m c]:=b9.b (by simp);have N:a9 w ((w.alloc (U #[K f] 297)).alloc (U #[Z o m c] 49)):=((a9.refl w).alloc _).alloc _;have eb:((w.alloc (U #[K f] 297)).alloc (U #[Z o m c] 49)).heap.size=w.heap.size+2:=by simp
 generalize(w.alloc (U #[K f] 297)).alloc (U #[Z o m c] 49)=w0 at*;have bn:h9 w0 o (pc xs):=ck.h N;have dx:f<w.heap.size:=bq.lt;refine s5 rfl (by decide) (gf:=400) (lb:= #[K (w+1:Nat)]) rfl trivial (Eo func400 (by kernel_rfl) rfl)
  (DR (w+1) m c o xs bb (by omega) w0 ad.lt (by rw[ad.cell];rfl) bn) (fun B k=>B.trans k)
  (fun W l G ac _ T S _=>⟨fun ay=>cell_kept ay (grownBy_putObj' W l ac) (fun r e=>by cases e;exact⟨G,T,S⟩),fun ay j u ax=>by
   obtain⟨b,az,e,aw⟩:=ay j u ax;exact⟨b,az,e,cell_kept aw (grownBy_putObj' W l ac) (fun r e=>by cases e;exact⟨G,T,S⟩)⟩⟩) (Below.refl _ _) (fun _=>rfl)
  (fun x W l G ac bl _ _=>bl)
  (a5R w w0 f an ah s v base o m c xs) (ZQ w w0 f (by omega) an ah s v base o m c xs)
  ⟨⟨v,bq.h N,by simpa using M1 ak N,.inl rfl⟩,bc,ad,⟨N.os,N.tape,N.output,N.size,fun b t _ _=>N.block t⟩,a7 _⟩
  (a6I f o m c w xs)
  (fun x dl cf W l G ac⟨g,co,F,D,kk,n,L,av,ci⟩ T S=>⟨g,co,F,D,kk,n,L,av,e8 ci (grownBy_putObj' W l ac) (fun r e=>by cases e;exact⟨G,T,S⟩)⟩)
  (fun _ _ _ B _=>B) (fun W W' e=>⟨fun B=>e.cell B,fun B=>B.h e⟩) ?Aa ?Ab ?Ac
 case Aa=>
  intro l x W dm bl aa;obtain⟨⟨co,F,D,kk⟩,ai⟩:∃E,xs.getD x j5=E:=⟨_,rfl⟩;simp only[ai,i2.val,i2.cells]
  gi_wp2
  exact aa _ _ ((a9.refl W).alloc _) ⟨W,co,F,D,kk,a7 _,ai,rfl,b9.new _ _ _⟩
 case Ab=>
  rintro l ba de dn W cf bm p ea⟨g,co,F,D,kk,ec,ai,rfl,cp⟩ bk dy;obtain⟨v',Q,y,al⟩:=p.ex;obtain⟨H,br,bu,_⟩:=bm.ex;have ch:H=v':=by
   have n:=bk _ _ br rfl;unfold b9 at Q;rw[Q]at n;injection n with n
   injection n with n
   injection n with n
   injection n with n
   exact n.symm
  subst ch;have cy:H.ownBlock≠So g:=fun e=>by have:=(bu.lt g e).2;omega
  have bs:H.ownBlock≠So w.heap.size:=A9 y p.box (by decide);have bt:H.ownBlock≠So f:=A9 y Q (by decide);have cw:H.ownBlock≠So (w.heap.size+1):=A9 y p.box2 (by decide);have bo:=p.box;have dc:=p.z;obtain⟨A,cv⟩:∃A,s.length+ba.length=A:=⟨_,rfl⟩;obtain⟨ys,ab⟩:∃ys,pc (s++ba.map fun i=>xs.getD i j5)=ys:=⟨_,rfl⟩;rw[cv,ab]at y;have cm:A+1≤maxLen:=by unfold maxLen;omega
  have cn:(A+1)*8≤140737488355328:=by omega
  obtain⟨dd,hi,bv,bw,bx⟩:=info_parts XD;have cb:=a6 hi;have cc:=a6 bv;have cd:=a6 bw;have ce:=a6 bx;have cz:w≤W.heap.size:=p.pu.size;clear hi bv bw bx bc ad bn bu br bm bk;unfold a45;gi_wp2_with fail
  refine s8 (R:=(RA H.ownBlock base H A ys [I U1 co,I U8 F,I U8 D,I V kk])) (fun _=>trivial) rfl [.is (K f),.is (K f),.is (K f),.is (K f),.is H,.is (.agg #[I U1 co,I U8 F,I U8 D,I V kk]),(pS #[I U1 co,I U8 F,I U8 D,I V kk]),(zT w),.is (K f),.is (K f)] (by kernel_rfl) ?Ap ?Ad ⟨?Ae,?Af,?Ag,?Ah,?Ai,?Aj,?Ak,?Al,?Am,?An,trivial⟩ _ rfl rfl ?Ao
  case Ad=>intro x;simp only[e6,Act.put,uL,l9]<;>rfl
  case Ae|Af|Ag|Ah|Ai|Aj|Am|An=>
   intro x P h;simp only[e5,g1,uV,pS,zT];repeat(intro d;try simp only[d])
   have dp:=(bo.grown h.g (fun e=>bs e.symm)).cell 0;have dl:=(Q.grown h.g (fun e=>bt e.symm)).cell 0;have cg:=cp.grown h.g (fun e=>cy e.symm);obtain⟨ef,dq,dr,ds⟩:=cg.c4;gi_wp2_with fail
   refine a0e ?_ rfl (fT.refl _);rfl
  case Ak=>
   intro x P h;simp only[e5,g1,uV,pS,zT];intro af;simp only[af];gi_wp2_with fail
   refine a0e ?_ rfl (RA.h (h8 ((a9.refl P).alloc _) J));exact⟨P,rfl,b9.new _ _ _,fun e=>by have:=((h.old y).lt _ e).2;omega⟩
  case Al=>
   intro x P h;simp only[e5,g1,uV,pS,zT];rintro ae⟨au,ag,bz,df⟩;simp only[ae,ag];gi_wp2_with(gi_at_builtin;refine M4 _ rfl _ _ 49 rfl base 116 dd _ 4 8 underlying49 cb cc cd ce rfl (by decide) H A ys rfl (h.old y) ⟨au,0,J⟩ 1 1 [I U1 co,I U8 F,I U8 D,I V kk] rfl rfl (fun j u cs=>(h9.f bz rfl:h9 _ au [I U1 co,I U8 F,I U8 D,I V kk]).add cs) (by simp[Value.oneCell']) cm cn (by have:=h.g.size;omega) ?_;intro ed ee dg dh di dj dk)
   refine a0e ?_ rfl (⟨dh,fun _=>di,dj⟩);exact⟨dg,dk.imp id (fun q b t=>by have:=q b t;have:=h.g.size;omega)⟩
  case Ao=>
   intro x P h;simp only[l8,e5,g1,uV,pS,zT];rintro bd be bf bg ae af⟨au,ag,bz,df⟩⟨am,ca⟩ bh bi;simp only[bd,be,bf,bg,ae,af,ag,bh,bi];clear bd be bf bg ae af ag bh bi;obtain⟨ar,aq,bj⟩:=ownsRow_succ am;rw[bj]at am ca;have aj:=Q.grown h.g (fun e=>bt e.symm);have dt:=aj.cell 0;have du:=aj.frozen 0;simp only[bj];gi_wp2_with fail
   have C:=grownBy_setCell' P f (Z ar (A+1) aq);have cx:=A9 am aj (by decide);have cq:=(bo.grown h.g (fun e=>bs e.symm)).grown C (fun e=>by injection e;omega);have bp:=(p.box2.grown h.g (fun e=>cw e.symm)).grown C (fun e=>by injection e;omega);have keep:∀b,b<w.heap.size→b≠f→v.ownBlock≠So b→(P.setCell ⟨f,0,J⟩ (Z ar (A+1) aq)).heap[b]? =W.heap[b]? :=fun b t n L=>
    (C.block b (by have:=h.g.size;omega) (fun e=>by injection e with e;exact n e)).trans (h.g.block b (by omega) (fun e=>by
     rcases al with q|q
     ·rw[q]at e;exact L e.symm
     ·have:=q b e.symm;omega))
   refine⟨KeepsFrom.trans (KeepsOthers.from (KeepsOthers.of_grownBy h.g ?_) _) ((KeepsOthers.setCell _ _ _).from _),⟨fun _=>by rw[bp.cell];rfl,fun B j u ax=> ?_⟩,⟨⟨Z ar (A+1) aq,aj.f 0 _,?_,?_⟩,cq,bp,?_,c8 dc (c8 h.g.size C.size)⟩⟩
   ·intro j G e ak
    rcases y.2 with⟨rfl,_⟩|⟨g,cap,cur,rfl,_,cr,_⟩
    ·cases e
    ·cases e
     rw[cr]at ak;cases ak;rfl
   ·obtain⟨b,az,e,aw⟩:=B j u ax
    obtain⟨n,L,av⟩:=cj _ e;refine⟨b,az,e,?_⟩;have:=keep b n L av;rw[←aw];unfold World.cell?;simp only;rw[this]
   ·have ct:=am.kept C (.inr cx)
    rw[show s.length+(ba++[de]).length=A+1 by rw[a2e];simp;omega,a4F,←a4s,NJ,ab];simp only[List.map_cons,List.map_nil,ai];exact ct
   ·rcases ca with q|q
    ·rcases al with r|r
     ·exact .inl (q.trans r)
     ·exact .inr fun b t=>r b (q.symm.trans t)
    ·exact .inr q
   ·exact⟨C.os.trans (h.g.os.trans p.pu.os),C.tape.trans (h.g.tape.trans p.pu.tape),C.output.trans (h.g.output.trans p.pu.output),c8 cz (c8 h.g.size C.size),fun b t n L=>(keep b t n L).trans (p.pu.keep b t n L)⟩
 case Ac=>
  rintro ap ys W dv ab p aa;obtain⟨v',Q,y,al⟩:=p.ex;have T:ys.length=m:=by rw[ab];simp
  have S:(ys.map fun i=>xs.getD i j5)=xs.reverse:=by
   have db:=bb.out;rw[ab,List.map_reverse,←db,FO]
  rw[T,S]at y
  gi_wp2
  refine⟨by simp,.inl ⟨_,_,rfl,run_takeDeferred aa,?_⟩⟩;have cu:∀r,So ap=So r→∃G:Obj,W.heap[r]? =So G∧G.isCells=Bf:=fun r e=>by cases e;exact⟨_,aa,rfl⟩
  exact⟨_,Rz rfl _ _ _,⟨_,rfl⟩,v',e8 Q (grownBy_putObj' W ap _) cu,ownsRow_putObj y _ aa rfl,p.pu.l (z:=w) (a7 _) (grownBy_putObj' W ap _) (fun r e=>by cases e;omega),al⟩
theorem a5D(y f n nb G:Nat)(F:Option Ad)(P:Int)(a:List Int)(Q:a.length=n)(t:Nat)(ab:t<n)(aa:n≤200000)(T:nb≤500000)(C:∀x∈a,0≤x∧x≤nb)(W:Wd)
  (A:b9 W y 301 #[Z F nb G,Z f n n,I M P]) (D:b9 W f 3 (i3 M a).toArray):
  Ca prog 339 #[K y,I M t] W fun e R=>e=X (I M ((nb:Int)-a.getD t 0))∧a9 W R:=by
 have b:t<a.length:=by omega
 have E:=(D.cell t).trans (show((i3 M a).toArray)[t]? =So (I M (a.getD t 0))from by
  rw[List.getElem?_toArray,M2 b,a8,e9 b];rfl)
 have B:=C _ (a30 b);have z:a[t]=a.getD t 0:=by rw[a8,e9 b];rfl
 rw[z]at B;have ac:(0:Int)≤t:=by omega
 have ad:(t:Int)<n:=by omega
 generalize a.getD t 0=p at*;have ae:IntKind.i64.wrap ((nb:Int)-p)=nb-p:=a37 _ (by omega);obtain⟨H,L⟩:=i6 A E;clear A D E C z B b Q;go_in;go_wp2_with fail
 refine e7 rfl [.is ?Aq,.is ?Ar,.is ?As,.is (Z F nb G),.is ?At,.is ?Au,.is ?Av,.is ?Aw,.is (Z f n n),.is ?Ax,.is ?Ay,.is (I M p),.is (I M ((nb:Int)-p)),.is (I M ((nb:Int)-p))] (by kernel_rfl) ?Az ?Aa ⟨?Ab,?Ac,?Ad,?Ae,?Af,?Ag,?Ah,?Ai,?Aj,?Ak,?Al,?Am,?An,?Ao,trivial⟩ ?Ap
 case Aa=>intro x;simp only[e6,Act.put,uL,l9]<;>rfl
 case Ab|Ac|Ad|Ae|Af|Ag|Ah|Ai|Aj|Ak|Al|Am|An|Ao=>
  intro x N c;simp only[e5,j8,uV];repeat(intro d;try simp only[d])
  obtain⟨S,af⟩:=(H.h c).c2;have ag:=c.cell L.out;go_wp2_with fail
  refine a0e ?_ rfl (a9.refl _);rfl
 case Ap=>
  intro x N c;simp only[l8,e5,j8,uV];intro g h m o q r s u v w i j k l;simp only[g,h,m,o,q,r,s,u,v,w,i,j,k,l];clear g h m o q r s u v w i j k l;go_wp2;go_ret;exact⟨rfl,c⟩
def O5(nb:Nat)(a:List Int)(t:Int):Int:=(nb:Int)-a.getD t.toNat 0
def V6(nb:Nat)(a:List Int)(s:Sy):List i2×Int:=
 if s.code=5 then([⟨5,0,0,O5 nb a s.th⟩],0)
 else if l0 s.code=Bf then([⟨s.code,0,0,s.k⟩],0)
 else if max (O5 nb a s.th) (O5 nb a s.el)≤255 then([⟨s.code,O5 nb a s.th,O5 nb a s.el,s.k⟩],0)
 else([⟨s.code,0,1,s.k⟩,⟨5,0,0,O5 nb a s.th+1⟩,⟨5,0,0,O5 nb a s.el⟩],1)
structure LK(gk gp n base:Nat)(bk:List i2)(pl:List Int)(far:Int)(v:Va)(W:Wd):Prop where
 k:b9 W gk 301 #[v,Z gp n n,I M far]
 r:W.ownsRow base 116 4 v bk.length (pc bk)
 q:b9 W gp 3 (i3 M pl).toArray
theorem LK.h{d f n base:Nat}{b:List i2}{g:List Int}{c:Int}{v:Va}{W W':Wd}(a:LK d f n base b g c v W)(e:a9 W W'):LK d f n base b g c v W':=⟨a.k.h e,M1 a.r e,a.q.h e⟩
theorem LK.val{f h n base:Nat}{b:List i2}{k:List Int}{e:Int}{v:Va}{W:Wd}(i:LK f h n base b k e v W):∃d c,v=Z d b.length c:=by
 rcases i.r.2 with⟨a,j⟩|⟨g,cap,cur,a,_⟩
 ·exact⟨J,0,by rw[a,j]⟩
 ·exact⟨_,_,a⟩
structure LS(gk gp n base:Nat)(bk:List i2)(pl:List Int)(far:Int)(v:Va)(W W':Wd):Prop where
 ex:∃v',LK gk gp n base bk pl far v' W'∧(v'.ownBlock=v.ownBlock∨∀b,v'.ownBlock=So b→W.heap.size≤b)
 pu:PU gk v.ownBlock W W'
theorem PU.f{g:Nat}{d:Option Nat}{W W':Wd}(a:a9 W W'):PU g d W W':=⟨a.os,a.tape,a.output,a.size,fun b c _ _=>a.block c⟩
theorem PU.trans{g:Nat}{e:Option Nat}{a b c:Wd}(d:PU g e a b)(k:PU g e b c):PU g e a c:=
 ⟨k.os.trans d.os,k.tape.trans d.tape,k.output.trans d.output,c8 d.size k.size,fun x i f h=>(k.keep x (Nat.lt_of_lt_of_le i d.size) f h).trans (d.keep x i f h)⟩
theorem PU.of_set(g i:Nat)(c:Option Nat)(W:Wd)(u:Va):PU g c W (W.setCell ⟨g,i,J⟩ u):=⟨rfl,rfl,rfl,by simp,fun b _ a _=>Below.heap_setCell W ⟨g,i,J⟩ u b a⟩
theorem JS(c i n base:Nat)(h:List i2)(s:List Int)(j:Int)(v:Va)(f W:Wd)(xs:List i2)(g m:Nat)(r:xs.length=m)(B:m≤3)(l:h.length≤500000)(C:i≠c)
  (d:LK c i n base h s j v W) (p:b9 W g 116 (pc xs).toArray) (k:PU c v.ownBlock f W) (E:∀b,v.ownBlock=So b→b<f.heap.size) (G:f≤g) (F:c<f) (A:base≤f):
  Ca prog 338 #[K c,Z g m m] W fun e t=>(∃u,e=X u)∧LS c i n base (h++xs.reverse) s j v f t:=by
 refine(callsIn_wide.1 (a3r c _ j h v base g m m xs r B l W (c8 A k.size) d.k d.r (h9.f p rfl) (fun a e=>by
  cases e;exact⟨p.lt,by show g≠c;omega,fun e=>by have:=E g e;omega⟩))).mono ?_
 rintro e t⟨w,v',x,y,o,z⟩;have D:=(o.keep i d.q.lt C (A9 d.r d.q (by decide))).trans d.q;refine⟨w,⟨v',⟨x,?_,D⟩,z.imp id (fun q b l=>c8 k.size (q b l))⟩,k.trans o⟩;rw[a2e,List.length_reverse,r];exact y
theorem a6i(h F n base:Nat)(f:List i2)(g:List Int)(o:Int)(v:Va)(W:Wd)(s:Sy)(a:Int)(cn:0≤a)(br:s.ok)(ad:H5 s a n)(cd:g.length=n)(cs:n≤131072)(cp:f.length≤400000)(bp:∀x∈g,0≤x∧x≤f.length)
  (cq:0≤o∧o≤1000000) (au:F≠h) (ba:base≤W) (ab:LK h F n base f g o v W):
  Ca prog 258 #[K h,s.val] W fun e cf=>(∃u,e=X u)∧LS h F n base (f++(V6 f.length g s).1.reverse) g (o+(V6 f.length g s).2) v W cf:=by
 have bc:∀b,v.ownBlock=So b→b<W.heap.size:=fun b e=>(ab.r.lt b e).2
 have bb:=ab.k.lt;obtain⟨af,ag,rfl⟩:=ab.val;have ak:∀t:Int,0≤t→t<n→0≤O5 f.length g t∧O5 f.length g t≤400000:=fun t bk cb=>by
  have bt:t.toNat<g.length:=by omega
  have:=bp _ (a30 bt);unfold O5;rw[a8,e9 bt];simp only[Option.getD_some];omega
 have ai:=a6 (fun(t:Int)(bk:0≤t)(cb:t<n)(W':Wd)(e:a9 W W')=>by
  have c:=a5D h F n f.length ag af o g cd t.toNat (by omega) (by omega) (by omega) bp W' (ab.h e).k (ab.h e).q;rw[Int.toNat_of_nonneg bk]at c;exact c)
 have ay:=a6 ab;have bo:=jA ad;have aa:=a6 (fun W'=>y7 s.code W');rw[bo]at aa;obtain⟨R,bg⟩:∃R,V6 f.length g s=R:=⟨_,rfl⟩;rw[bg];have az:=a6 bg;have cr:=br.2.1;obtain⟨co,k,th,el⟩:=s;unfold Sy.val Sy.cells;dsimp only at*;have av:=(a9.refl W).alloc (U #[I U1 co,I V k,I M th,I M el] 374);have be:=b9.new W 374 #[I U1 co,I V k,I M th,I M el];clear ab br bg bo;by_cases P:co=5
 ·subst P
  obtain⟨aw,ax⟩:0≤th∧th<n:=by
   rcases ad with⟨c,_,_,_⟩|⟨c,_,_⟩|⟨c,_,_⟩|⟨c,_,_,w⟩|⟨c,_,_⟩
   ·cases c
   ·cases c
   ·cases c
   ·dsimp only at w;omega
   ·rcases c with c|c|c|c<;>cases c
  have Q:R=([⟨5,0,0,O5 f.length g th⟩],0):=by rw[←az.out];rfl
  obtain⟨z,ac⟩:=ak th aw ax;have aj:=a6 (ai th aw ax);rw[show(f.length:Int)-g.getD th.toNat 0=O5 f.length g th from rfl]at aj;clear ak ai aa ad;generalize O5 f.length g th=d at*;have T:IntKind.u32.wrap d=d:=IntWalk.u32_in _ (by omega);subst Q;go_in;go_wp2_with fail
  apply(aj _ av).mono;rintro e T⟨rfl,A⟩;have r:=av.trans A;go_wp2_with fail
  refine(JS h F n base f g o (Z af f.length ag) W _ ([⟨5,0,0,d⟩]) (T).heap.size 1 rfl (by omega) (by omega) au (ay.h ((r).alloc _)) (b9.new T _ _) (PU.f ((r).alloc _)) bc (r).size bb ba).mono ?_;rintro e ah⟨⟨bh,rfl⟩,w⟩;go_wp2_with fail
  go_end0
  exact⟨⟨_,rfl⟩,by rw[Int.add_zero];exact w⟩
 have cj:(co==5)=Bf:=by simpa using P
 rcases y:l0 co with _|_
 ·obtain⟨q,bq,ct⟩:∃q:Int,(if co=32 then 1 else if co=84 then 3 else if co=6 then 5 else 4)=q∧(q !=4)=Bt:=by
   rcases ad with⟨c,_,_,_⟩|⟨c,_,_⟩|⟨c,_,_⟩|⟨c,_,_,w⟩|⟨c,_,_⟩
   ·exact⟨1,by rw[if_pos c],rfl⟩
   ·dsimp only at c;exact⟨3,by rw[if_neg (by omega),if_pos c],rfl⟩
   ·dsimp only at c;exact⟨5,by rw[if_neg (by omega),if_neg (by omega),if_pos c],rfl⟩
   ·exact absurd c P
   ·dsimp only at c;rcases c with c|c|c|c<;>rw[c]at y<;>cases y
  rw[bq]at aa;have Q:R=([⟨co,0,0,k⟩],0):=by
   rw[←az.out];unfold V6;rw[if_neg P,if_pos y]
  clear ak ai ad bq y P;subst Q;go_in;go_wp2_with fail
  apply(aa _).mono;rintro e T⟨rfl,A⟩;have r:=av.trans A;have B:=be.h A;obtain⟨G,H,L,N⟩:=(B).c4;go_wp2_with fail
  clear G H L N;refine(JS h F n base f g o (Z af f.length ag) W _ ([⟨co,0,0,k⟩]) (T).heap.size 1 rfl (by omega) (by omega) au (ay.h ((r).alloc _)) (b9.new T _ _) (PU.f ((r).alloc _)) bc (r).size bb ba).mono ?_;rintro e ah⟨⟨bh,rfl⟩,w⟩;go_wp2_with fail
  go_end0
  exact⟨⟨_,rfl⟩,by rw[Int.add_zero];exact w⟩
 ·obtain⟨bn,aw,ax,bu,bv⟩:(if co=32 then(1:Int)else if co=84 then 3 else if co=6 then 5 else 4)=4∧0≤th∧th<n∧0≤el∧el<n:=by
   rcases ad with⟨c,_,_,_⟩|⟨c,_,_⟩|⟨c,_,_⟩|⟨c,_,_,w⟩|⟨c,cc,w⟩
   ·dsimp only at c;rw[c]at y;cases y
   ·dsimp only at c;rw[c]at y;cases y
   ·dsimp only at c;rw[c]at y;cases y
   ·exact absurd c P
   ·dsimp only at c cc w
    exact⟨by rw[if_neg (by omega),if_neg (by omega),if_neg (by omega)],by omega,by omega,by omega,by omega⟩
  rw[bn]at aa;obtain⟨z,ac⟩:=ak th aw ax;obtain⟨ci,b1⟩:=ak el bu bv;obtain⟨aj,bd⟩:=i6 (ai th aw ax) (ai el bu bv);rw[show(f.length:Int)-g.getD th.toNat 0=O5 f.length g th from rfl]at aj;rw[show(f.length:Int)-g.getD el.toNat 0=O5 f.length g el from rfl]at bd;have Q:R=if max (O5 f.length g th) (O5 f.length g el)≤255 then([⟨co,O5 f.length g th,O5 f.length g el,k⟩],0)else([⟨co,0,1,k⟩,⟨5,0,0,O5 f.length g th+1⟩,⟨5,0,0,O5 f.length g el⟩],1):=by
   rw[←az.out];unfold V6;rw[if_neg P,if_neg (by rw[y];decide)]
  clear ak ai ad bn y P az;generalize O5 f.length g th=j at*;generalize O5 f.length g el=l at*;by_cases bw:max j l≤255
  ·rw[if_pos bw]at Q
   have cv:j≤255:=by omega
   have cw:l≤255:=by omega
   have da:IntKind.u8.wrap j=j:=IntWalk.u8_in _ (by omega);have db:IntKind.u8.wrap l=l:=IntWalk.u8_in _ (by omega);subst Q;go_in;go_wp2_with fail
   apply(aa _).mono;rintro e T⟨rfl,A⟩;have r:=av.trans A;have B:=be.h A;obtain⟨G,H,L,N⟩:=(B).c4;go_wp2_with fail
   clear G H L N;refine e7 rfl [.is ?Ay,.is ?Az,.is (I M th),.is (I M j),.is ?Ba,.is ?Bb,.is (I M el),.is (I M l),.is (I M j),.is (I M l)] (by kernel_rfl) ?Bc ?Aa ⟨?Ab,?Ac,?Ad,?Ae,?Af,?Ag,?Ah,?Ai,?Aj,?Ak,trivial⟩ ?Al
   case Aa=>intro x;simp only[e6,Act.put,uL,l9]<;>rfl
   case Ab|Ac|Ad|Af|Ag|Ah|Aj|Ak=>
    intro x i m;simp only[e5,j8,uV];repeat(intro d;try simp only[d])
    obtain⟨ca,ch⟩:=(B.h m).d2 2 3;go_wp2_with fail
    refine a0e ?_ rfl (a9.refl _);rfl
   case Ae=>
    intro x i m;simp only[e5,j8,uV];intro z C;simp only[z,C];go_wp2_with(apply(aj _ (r.trans m)).mono;rintro e ah⟨rfl,ae⟩)
    refine a0e ?_ rfl (ae);rfl
   case Ai=>
    intro x i m;simp only[e5,j8,uV];intro D E;simp only[D,E];go_wp2_with(apply(bd _ (r.trans m)).mono;rintro e ah⟨rfl,ae⟩)
    refine a0e ?_ rfl (ae);rfl
   case Al=>
    intro x i m;simp only[l8,e5,j8,uV];intro z ac C am D an E ao ap aq;simp only[z,ac,C,am,D,an,E,ao,ap,aq];clear z ac C am D an E ao ap aq;have S:=r.trans m;have bf:=B.h m;have cg:Dc (max j l≤255)=Bt:=by simp;omega
    obtain⟨G,H,L,N⟩:=(bf).c4;go_wp2_with fail
    clear G H L N;refine(JS h F n base f g o (Z af f.length ag) W _ ([⟨co,j,l,k⟩]) (i).heap.size 1 rfl (by omega) (by omega) au (ay.h ((S).alloc _)) (b9.new i _ _) (PU.f ((S).alloc _)) bc (S).size bb ba).mono ?_;rintro e ah⟨⟨bh,rfl⟩,w⟩;go_wp2_with fail
    refine Bp (Rz rfl _ _ _) rfl ?_;exact⟨⟨_,rfl⟩,by rw[Int.add_zero];exact w⟩
  ·rw[if_neg bw]at Q
   have cx:IntKind.u32.wrap j=j:=IntWalk.u32_in _ (by omega);have cy:IntKind.u32.wrap l=l:=IntWalk.u32_in _ (by omega);have cz:IntKind.u32.wrap (j+1)=j+1:=IntWalk.u32_in _ (by omega);subst Q;go_in;go_wp2_with fail
   apply(aa _).mono;rintro e T⟨rfl,A⟩;have r:=av.trans A;have B:=be.h A;obtain⟨G,H,L,N⟩:=(B).c4;go_wp2_with fail
   clear G H L N;refine e7 rfl [.is ?Bd,.is ?Be,.is (I M th),.is (I M j),.is ?Bf,.is ?Bg,.is (I M el),.is (I M l),.is (I M j),.is (I M l)] (by kernel_rfl) ?Bh ?Am ⟨?An,?Ao,?Ap,?Aq,?Ar,?As,?At,?Au,?Av,?Aw,trivial⟩ ?Ax
   case Am=>intro x;simp only[e6,Act.put,uL,l9]<;>rfl
   case An|Ao|Ap|Ar|As|At|Av|Aw=>
    intro x i m;simp only[e5,j8,uV];repeat(intro d;try simp only[d])
    obtain⟨ca,ch⟩:=(B.h m).d2 2 3;go_wp2_with fail
    refine a0e ?_ rfl (a9.refl _);rfl
   case Aq=>
    intro x i m;simp only[e5,j8,uV];intro z C;simp only[z,C];go_wp2_with(apply(aj _ (r.trans m)).mono;rintro e ah⟨rfl,ae⟩)
    refine a0e ?_ rfl (ae);rfl
   case Au=>
    intro x i m;simp only[e5,j8,uV];intro D E;simp only[D,E];go_wp2_with(apply(bd _ (r.trans m)).mono;rintro e ah⟨rfl,ae⟩)
    refine a0e ?_ rfl (ae);rfl
   case Ax=>
    intro x i m;simp only[l8,e5,j8,uV];intro z ac C am D an E ao ap aq;simp only[z,ac,C,am,D,an,E,ao,ap,aq];clear z ac C am D an E ao ap aq;have S:=r.trans m;have bf:=B.h m;have cg:Dc (max j l≤255)=Bf:=by simp;omega
    have al:=ay.h S;have ar:=al.k;have cm:=ar.cell 2;have ck:=ar.frozen 2;have bz:=bf.far (p:=⟨h,2,J⟩) (by show W≠h;omega) (I M (o+1));have bi:LK h F n base f g (o+1) (Z af f.length ag) (i.setCell ⟨h,2,J⟩ (I M (o+1))):=
     ⟨ar.f 2 _,al.r.kept (x4 i h 2 _) (.inr (A9 al.r ar (by decide))),al.q.far au _⟩
    have bx:=a6 bi;have cu:W≤(i.setCell ⟨h,2,J⟩ (I M (o+1))).heap.size:=by have:=S.size;simpa using this
    clear al ar bi;obtain⟨G,H,L,N⟩:=(bz).c4;go_wp2_with fail
    clear G H L N;have ce:PU h (Z af f.length ag).ownBlock W (i.setCell ⟨h,2,J⟩ (I M (o+1))):=(PU.f S).trans (PU.of_set h 2 _ i _);have bs:(i.setCell ⟨h,2,J⟩ (I M (o+1))).heap.size=i.heap.size:=by simp
    generalize i.setCell ⟨h,2,J⟩ (I M (o+1))=bj at*;have bm:b9 (bj.alloc (U #[I U1 co,I U8 0,I U8 1,I V k,I U1 5,I U8 0,I U8 0,I V (j+1),I U1 5,I U8 0,I U8 0,I V l] 116)) i 116 (pc [⟨co,0,1,k⟩,⟨5,0,0,j+1⟩,⟨5,0,0,l⟩]).toArray:=by rw[←bs];exact b9.new _ _ _
    have bl:=(a9.refl bj).alloc (U #[I U1 co,I U8 0,I U8 1,I V k,I U1 5,I U8 0,I U8 0,I V (j+1),I U1 5,I U8 0,I U8 0,I V l] 116);apply(JS h F n base f g (o+1) (Z af f.length ag) W _ [⟨co,0,1,k⟩,⟨5,0,0,j+1⟩,⟨5,0,0,l⟩] i 3 rfl (by omega) (by omega) au (bx.h bl) bm (ce.trans (PU.f bl)) bc S.size bb ba).mono;clear bs bm;rintro e ah⟨⟨bh,rfl⟩,w⟩;go_wp2_with fail
    go_end0
    exact⟨⟨_,rfl⟩,w⟩
end
section
theorem e4.of{α:Type}{w:Wd}{base:Nat}{e:Ti}{E:p6 α}{v:Va}{xs:List α}(b:w.ownsRow base e E.k v xs.length (E.row xs)):e4 w base e E v xs:=by
 have c:=b;rcases b.2 with⟨a,d⟩|⟨g,cap,cur,a,_⟩
 ·exact⟨J,0,by rw[a,d],c⟩
 ·exact⟨_,cap,a,c⟩
theorem e4.to{α:Type}{w:Wd}{base:Nat}{e:Ti}{E:p6 α}{v:Va}{xs:List α}(h:e4 w base e E v xs):w.ownsRow base e E.k v xs.length (E.row xs):=let⟨_,_,_,k⟩:=h;k
theorem oC{α:Type}{r:Fence}{n:Nat}{P:Pg}{w:Wd}{A:Array Oper}{rest:List Oper}{p:Oper}{a:Act}{Q:Exit→Act→Wd→Prop}(H:p.guard=J)(s x:Operand)(t e:Ti)
  (S:p.op= .call {callee:= .builtin .append,args:= #[s,x],argTypes:= #[t,t]}) {z:Va} {b:Nat} {E:p6 α} (h:mU P t e z E.k b)
  (base:Nat) (v:Va) (xs:List α) (aa:a.eval s=v) (T:e4 w base e E v xs)
  (g m d:Nat) (ys:List α) (ac:a.eval x=Z g m d) (R:ys.length=m) (D:h9 w g (E.row ys)) (ab:xs.length+m≤1000000) (G:base≤w)
  (C:∀v' c,e4 c base e E v' (xs++ys)→w.grownBy c v.ownBlock→e4 c base e E v xs→(∀l zs,zs.length=(xs++ys).length→e4 w base e E l zs→e4 c base e E l zs∨e4 c base e E l (xs++ys))→(v'.ownBlock=v.ownBlock∨∀b,v'.ownBlock=So b→w.heap.size≤b)→Wl r n P A Q rest (a.put p.dst v') c):
  Wl r n P A Q (p::rest) a w:=by
 obtain⟨i,hi,f⟩:=Option.map_eq_some_iff.1 h.i;simp only[Prod.mk.injEq]at f;obtain⟨f,N,F⟩:=f;subst R;have o:(xs++ys).length=xs.length+ys.length:=a2e;refine cQ w H s x t S base e i z E.k b h.u hi f N F h.zs h.k0 v xs.length (E.row xs) aa T.to ⟨g,0,J⟩ ys.length d (E.row ys) ac (E.row_length ys) (fun j u L=>D.add L) (E.row_oneCell ys) (by unfold maxLen;omega) (c8 (Nat.mul_le_mul ab h.b0) (by decide)) G fun v' c B ad ae af ag=> ?_
 rw[←E.row_append,←o]at B;refine C v' c (.of B) ad (.of ae) (fun l zs f k=> ?_) ag;have y:=k.to;rw[f,o]at y;rcases af l _ y with q|q
 ·exact .inl (.of (by rw[f,o];exact q))
 ·exact .inr (.of (by rw[o,E.row_append];exact q))
theorem o9{α:Type}{i:Fence}{n:Nat}{P:Pg}{w:Wd}{j:Array Oper}{rest:List Oper}{f:Oper}{a:Act}{Q:Exit→Act→Wd→Prop}(r:f.guard=J)(s x:Operand)(t e:Ti)
  (y:f.op= .call {callee:= .builtin .append,args:= #[s,x],argTypes:= #[t,t]}) {z:Va} {b:Nat} {E:p6 α} (l:mU P t e z E.k b)
  (base:Nat) (v:Va) (xs:List α) (B:a.eval s=v) (A:e4 w base e E v xs)
  (g m d:Nat) (ys:List α) (D:a.eval x=Z g m d) (u:ys.length=m) (p:h9 w g (E.row ys)) (C:xs.length+m≤1000000) (q:base≤w)
  (o:∀v' c,e4 c base e E v' (xs++ys)→w.grownBy c v.ownBlock→e4 c base e E v xs→(∀h,e4 w base e E h (xs++ys)→e4 c base e E h (xs++ys))→(v'.ownBlock=v.ownBlock∨∀b,v'.ownBlock=So b→w.heap.size≤b)→Wl i n P j Q rest (a.put f.dst v') c):
  Wl i n P j Q (f::rest) a w:=
 oC r s x t e y l base v xs B A g m d ys D u p C q fun v' c F G H L N=>o v' c F G H (fun h k=>(L h _ rfl k).elim id id) N
structure GA{α:Type}(e:Ti)(E:p6 α)(ob:Option Nat)(base:Nat)(v:Va)(xs ys:List α)(W W':Wd):Prop where
 g:W.grownBy W' ob
 old:e4 W base e E v xs→e4 W' base e E v xs
 new:∀v',e4 W base e E v' (xs++ys)→e4 W' base e E v' (xs++ys)
section
variable {α:Type} {e:Ti} {E:p6 α} {ob:Option Nat} {base:Nat} {v:Va} {xs ys:List α} {W W':Wd}
theorem GA.h(b:W.grownBy W' J):GA e E ob base v xs ys W W':=
 have k:∀a zs,e4 W base e E a zs→e4 W' base e E a zs:=fun a zs q=>q.kept b (by cases a.ownBlock;exact .inl rfl;exact .inr (fun e=>by cases e))
 ⟨s6 b ob,k _ _,fun _=>k _ _⟩
theorem GA.f(h:a9 W W'):GA e E ob base v xs ys W W':= .h (h8 h J)
instance (e:Ti)(E:p6 α)(ob:Option Nat)(base:Nat)(v:Va)(xs ys:List α):fT (GA e E ob base v xs ys) where
 refl W:= .h ⟨rfl,rfl,rfl,a7 _,fun _ _ _=>rfl⟩
 trans a b c h k:=⟨h.g.trans k.g,fun q=>k.old (h.old q),fun v' q=>k.new v' (h.new v' q)⟩
 drew W:= .h (B1 W)
def D4(cs:Array Va):VR (GA e E ob base v xs ys):=
 ⟨fun u c=>∃a,u=Z (So ⟨a,0,J⟩) 1 1∧b9 c a e cs∧ob≠So a,fun _ _ _⟨a,d,f,b⟩ e=>⟨a,d,f.grown e.g (fun q=>b q.symm),b⟩⟩
def D1(z:Nat):VR (GA e E ob base v xs ys):=
 ⟨fun u aa=>e4 aa base e E u (xs++ys)∧(u.ownBlock=ob∨∀b,u.ownBlock=So b→z≤b),fun _ _ _ h e=>⟨e.new _ h.1,h.2⟩⟩
end
end
def C6(a:ByteArray)(σ:US)(l:Nat×ByteArray):US:=
 if(S7 l.2).2=Bt then{σ with sec:=(S7 l.2).1,inn:=Bt}
 else if(J0 l.2).2.2=Bt∧σ.inn=Bt then{σ with all:=σ.all++[⟨a,l.1,σ.sec,(J0 l.2).1,(J0 l.2).2.1⟩]}
 else{σ with notes:=σ.notes++[⟨a,l.1,130,l.2.extract 0 (min l.2.size 60)⟩]}
theorem LU{w:Wd}{i l z base:Nat}{g:ByteArray}{ar au f u:Va}{sec s k v:ByteArray}{all:List m6}{notes:List i0}(A:UI w i l z base g ar au ⟨sec,Bt,all,notes⟩ f u)(bi:all.length+1≤1000000)(n:Nat)(t:ByteArray)
  (be:Hid (∀W,Ca prog 109 #[Y t] W fun e j=>e=X (Tp #[Y s,O Bf])∧a9 W j)) (bb:Hid (∀W,Ca prog 110 #[Y t] W fun e j=>e=X (Tp #[Y k,Y v,O Bt])∧a9 W j)):
  Ci .wide 1 prog 62 #[K i,.agg #[I M n,Y t]] w fun bg j=>bg=X (Tp #[])∧∃va',UI j i l z base g ar au ⟨sec,Bt,all++[⟨g,n,sec,k,v⟩],notes⟩ va' u∧MV (uO i l f u) w (uO i l va' u) j:=by
 have H:=a6 A;have bj:f.ownBlock≠So w.heap.size:=fun e=>by have:=(A.a.lt e).2;omega
 clear A;refine Co func62 rfl trivial ?_ rfl;simp only[ntmps62,uE,l9,a4D];gi_wp2_with(first
  |(refine⟨trivial,?_⟩
    gi_at_call 109
    apply((Cw (n:=0)).2 (be _)).mono;rintro e bu⟨rfl,r⟩;have bs:=((b9.new w 185 #[I M n,Y t]).h r).cell 1)
  |(refine⟨trivial,?_⟩
    gi_at_call 110
    apply((Cw (n:=0)).2 (bb _)).mono;rintro e G⟨rfl,C⟩;have aw:=(((a9.refl w).alloc (U #[I M n,Y t] 185)).trans r).trans C;have L:=((b9.new w 185 #[I M n,Y t]).h r).h C;have B:=H.h aw;have Q:=B.r.cell 2;obtain⟨h,bc,bf⟩:=p7 B L aw;clear r C L B))
 clear Q;have P:∀a,GA 88 Q8 f.ownBlock base f all [⟨g,n,sec,k,v⟩] G a→b9 a i 139 #[Y g,Y sec,O Bt,f,Fc (.func 59) #[] #[K l,K z]]:=fun a c=>h.r.grown c.g (fun e=>by have:=(h.a.lt e.symm).1;have:=h.lr;omega)
 have N:∀a,GA 88 Q8 f.ownBlock base f all [⟨g,n,sec,k,v⟩] G a→b9 a w 185 #[I M n,Y t]:=fun a c=>bc.grown c.g (fun e=>bj e.symm)
 obtain⟨y,bd⟩:=i6 P N;clear P N;refine s8 (R:=(GA 88 Q8 f.ownBlock base f all [⟨g,n,sec,k,v⟩])) (fun _=>trivial) rfl [.is ?Ay,.is ?Az,.is ?Ba,.is ?Bb,.is f,.is ?Bc,.is ?Bd,.is ?Be,.is (Y g),.is ?Bf,.is (I M n),.is ?Bg,.is ?Bh,.is ?Bi,.is (Y sec),.is ?Bj,.is ?Bk,.is (.agg #[Y g,I M n,Y sec,Y k,Y v]),(D4 #[Y g,I M n,Y sec,Y k,Y v]),(D1 G),.is ?Bl,.is ?Bm] (by kernel_rfl) ?Bn ?Aa ⟨?Ab,?Ac,?Ad,?Ae,?Af,?Ag,?Ah,?Ai,?Aj,?Ak,?Al,?Am,?An,?Ao,?Ap,?Aq,?Ar,?As,?At,?Au,?Av,?Aw,trivial⟩ _ rfl rfl ?Ax
 case Aa=>intro x;simp only[e6,Act.put,uL,l9]<;>rfl
 case Ab|Ac|Ad|Ae|Af|Ag|Ah|Ai|Aj|Ak|Al|Am|An|Ao|Ap|Aq|Ar|As|Av|Aw=>
  intro x a c;simp only[e5,g1,uV,D4,D1];repeat(intro d;try simp only[d])
  obtain⟨Q,bw⟩:=(y a c).d2 3 0;have bx:=(bd a c).cell 0;have bz:=(y a c).cell 1;gi_wp2_with fail
  refine a0e ?_ rfl (fT.refl _);rfl
 case At=>
  intro x a c;simp only[e5,g1,uV,D4,D1];intro m;simp only[m];gi_wp2_with fail
  refine a0e ?_ rfl (GA.f ((a9.refl a).alloc _));exact⟨a,rfl,b9.new _ _ _,fun e=>by have:=((c.old h.a).lt e).2;omega⟩
 case Au=>
  intro x a c;simp only[e5,g1,uV,D4,D1];rintro p⟨av,o,ay,bk⟩;simp only[p,o];gi_wp2_with(gi_at_builtin;refine o9 rfl _ _ 56 88 rfl a5K base f all rfl (c.old h.a) av 1 1 [⟨g,n,sec,k,v⟩] rfl rfl (h9.f ay rfl) bi (c8 h.hb c.g.size) ?_;intro bt bv E F ba bl bm)
  refine a0e ?_ rfl (⟨F,fun _=>ba,bl⟩);exact⟨E,bm.imp id (fun q b bh=>by have:=q b bh;have:=c.g.size;omega)⟩
 case Ax=>
  intro x a c;simp only[l8,e5,g1,uV,D4,D1];rintro S T ah ak p al am an ao ap aa ab ac ad ae af ag m⟨av,o,ay,bk⟩⟨D,az⟩ ai aj;simp only[S,T,ah,ak,p,al,am,an,ao,ap,aa,ab,ac,ad,ae,af,ag,m,o,ai,aj];clear S T ah ak p al am an ao ap aa ab ac ad ae af ag m o ai aj;obtain⟨bn,br,bo,aq⟩:=D.f;rw[aq]at D az;have ax:=y a c;have bp:=ax.cell 3;have bq:=ax.frozen 3;simp only[aq];gi_wp2_with fail
  obtain⟨E,F,ba⟩:=h.mvA c.g D az
  go_end0
  exact⟨rfl,_,E,(MV.f bf.out).trans F⟩
theorem RX{w:Wd}{m x W base:Nat}{A:ByteArray}{aa ab p B:Va}{σ:US}(o:UI w m x W base A aa ab σ p B)(ad:σ.notes.length+1≤1000000)(ak:σ.all.length+1≤1000000)(n:Nat)(t:ByteArray)(ae:t.size≤1000000):
  Ca prog 62 #[K m,Ag #[I M n,Y t]] w fun aj ag=>aj=X (Tp #[])∧∃va' af,UI ag m x W base A aa ab (C6 A σ (n,t)) va' af∧MV (uO m x p B) w (uO m x va' af) ag:=by
 obtain⟨u,r⟩:=i6 (yS t ae) (oF t ae);obtain⟨R,d⟩:∃R,R=C6 A σ (n,t):=⟨_,rfl⟩;rw[←d];unfold C6 at d;dsimp only at d;generalize S7 t=S at*;generalize J0 t=ah at*;obtain⟨s,b⟩:=S;obtain⟨k,v,al⟩:=ah;dsimp only at*;obtain⟨sec,inn,all,notes⟩:=σ;dsimp only at*;have H:=a6 o;cases b
 ·cases al
  ·have h:=a6 (d.trans ((if_neg (by simp)).trans (if_neg (by simp))))
   clear d o;go_in;go_wp2_with fail
   apply(u _).mono;rintro e T⟨rfl,c⟩;have am:=((b9.new w 185 #[I M n,Y t]).h c).cell 1;go_wp2_with fail
   apply(r _).mono;rintro e q⟨rfl,i⟩;have f:=(((a9.refl w).alloc (U #[I M n,Y t] 185)).trans c).trans i;have l:=((b9.new w 185 #[I M n,Y t]).h c).h i;obtain⟨P,Q⟩:=l.d2 1 0;have a:=H.h f;obtain⟨y,z,D,E,F⟩:=a.r.d5 2 4 1 0 3;have C:=a6 a;clear c i l a;go_wp2_with fail
   have G:0≤min (t.size:Int) 60:=by omega
   have L:min (t.size:Int) 60≤t.size:=by omega
   have N:(min (t.size:Int) 60).toNat=min t.size 60:=by omega
   go_still_tail 13,(by kernel_rfl)
   change Wp _ _ _ _ _ q.drew
   clear G L N P Q y z D E F;go_wp2_with fail
   apply(TZ (C.h (a9.refl q).drew) ad n 130 _).mono;rintro e an⟨rfl,v',g,j⟩;go_wp2_with fail
   refine Bp (Rz rfl _ _ _) rfl ⟨rfl,p,v',?_,(MV.f f.drew).trans j⟩;rw[h.out];exact g
  ·cases inn
   ·have h:=a6 (d.trans ((if_neg (by simp)).trans (if_neg (by simp))))
    clear d o;go_in;go_wp2_with fail
    apply(u _).mono;rintro e T⟨rfl,c⟩;have am:=((b9.new w 185 #[I M n,Y t]).h c).cell 1;go_wp2_with fail
    apply(r _).mono;rintro e q⟨rfl,i⟩;have f:=(((a9.refl w).alloc (U #[I M n,Y t] 185)).trans c).trans i;have l:=((b9.new w 185 #[I M n,Y t]).h c).h i;obtain⟨P,Q⟩:=l.d2 1 0;have a:=H.h f;obtain⟨y,z,D,E,F⟩:=a.r.d5 2 4 1 0 3;have C:=a6 a;clear c i l a;go_wp2_with fail
    have G:0≤min (t.size:Int) 60:=by omega
    have L:min (t.size:Int) 60≤t.size:=by omega
    have N:(min (t.size:Int) 60).toNat=min t.size 60:=by omega
    go_still_tail 13,(by kernel_rfl)
    change Wp _ _ _ _ _ q.drew
    clear G L N P Q y z D E F;go_wp2_with fail
    apply(TZ (C.h (a9.refl q).drew) ad n 130 _).mono;rintro e an⟨rfl,v',g,j⟩;go_wp2_with fail
    refine Bp (Rz rfl _ _ _) rfl ⟨rfl,p,v',?_,(MV.f f.drew).trans j⟩;rw[h.out];exact g
   ·have h:=a6 (d.trans ((if_neg (by simp)).trans (if_pos ⟨rfl,rfl⟩)))
    clear d o;rw[h.out];apply(callsIn_wide.1 (LU H ak n t u r)).mono;rintro e T⟨rfl,va',g,j⟩;exact⟨rfl,va',B,g,j⟩
 ·have h:=a6 (d.trans (if_pos rfl))
  clear d r o;go_in;go_wp2_with fail
  apply(u _).mono;rintro e T⟨rfl,c⟩;have f:=((a9.refl w).alloc (U #[I M n,Y t] 185)).trans c;have a:=H.h f;obtain⟨g,j⟩:=a.mvS s;have y:=a.r.cell 1;have ao:=a.r.frozen 1;have ac:=a.r.f 1 (Y s);have ap:=ac.frozen 2;have z:=ac.cell 2;have ai:=a6 g;clear a g c;go_wp2_with fail
  refine Bp (Rz rfl _ _ _) rfl ?_;exact⟨rfl,p,B,by rw[h.out];exact ai.out,(MV.f f).trans j⟩
theorem OM(a:ByteArray)(σ:US)(l:Nat×ByteArray):(C6 a σ l).notes.length≤σ.notes.length+1∧(C6 a σ l).all.length≤σ.all.length+1:=by
 unfold C6;split
 ·exact⟨Nat.le_succ _,Nat.le_succ _⟩
 ·split
  ·simp
  ·simp
theorem lA(a:ByteArray):∀(b:List (Nat×ByteArray))(σ:US),(b.foldl (C6 a) σ).notes.length≤σ.notes.length+b.length∧(b.foldl (C6 a) σ).all.length≤σ.all.length+b.length
 |[],σ=>⟨a7 _,a7 _⟩
 |x::r,σ=>by
  have c:=OM a σ x;have d:=lA a r (C6 a σ x);simp only[List.foldl_cons,a3W];omega
theorem a3A{w:Wd}{a i base:Nat}{c:ByteArray}{p q g:Va}{b:List i0}(f:b9 w a 41 #[g])(v:b9 w i 24 #[Y c,p,q])(d:e4 w base 73 g6 g b)(u:base≤w)(y:b.length+1≤1000000)(n e:Int)(t:ByteArray):
  Ca prog 59 #[I M n,I M e,Y t,K a,K i] w fun o h=>o=X (Tp #[])∧∃v',b9 h a 41 #[v']∧e4 h base 73 g6 v' (b++[⟨c,n,e,t⟩])∧MV (jY a g) w (jY a v') h:=by
 have D:=f.cell 0;have E:=v.cell 0;have m:=a6 f;have r:=d;have l:=a6 d;clear f d;go_in;go_wp2_with(at_builtin;refine j3 rfl (Tm 8) (Tm 15) 41 73 rfl lX base _ b rfl (r.h ((a9.refl _).alloc _)) _ 1 1 [⟨c,n,e,t⟩] rfl rfl (fF (by simp) rfl) y (c8 u (by simp)) ?_;intro P Q j L x s;obtain⟨k,z,A,B⟩:=xW (by decide) (m.h ((a9.refl _).alloc _)) (l.h ((a9.refl _).alloc _)) (MV.f ((a9.refl _).alloc _)) j x s;have G:=k.cell 0;have H:=k.frozen 0;obtain⟨C,N,F,rfl⟩:=j.f)
 go_end0
 exact⟨rfl,_,z,A,B⟩
theorem RY{w:Wd}{g h v base:Nat}{f:ByteArray}{y z l o:Va}{σ:US}(B:UI w g h v base f y z σ l o)(u:Option Ad)(m c:Nat)(d:List (Nat×ByteArray))(ac:d.length=m)(D:h9 w u (v9.row d))(C:∀a,u=So a→¬uO g h l o a.block)(al:m≤100000)(aj:σ.notes.length≤100000)(ak:σ.all.length≤100000)(F:∀x∈d,x.2.size≤1000000):
  Ca prog 61 #[Z u m c,Fc (.func 62) #[K g] #[]] w fun ab N=>ab=X (Tp #[])∧∃va' j,UI N g h v base f y z (d.foldl (C6 f) σ) va' j∧MV (uO g h l o) w (uO g h va' j) N:=by
 subst ac;obtain⟨R,S,P,H⟩:=J5 D F C B;clear B D F C;go_in;go_wp2_with fail
 go_loopw [8] (fun i wr=>∃(k:Nat)(va' j:Va),k≤d.length∧i=I M k∧UI wr g h v base f y z ((d.take k).foldl (C6 f) σ) va' j∧MV (uO g h l o) w (uO g h va' j) wr) (fun i _=>d.length-(intOf i).toNat)
 case atStart=>exact⟨0,l,o,i5 _,rfl,H.out,.refl _ _⟩
 case round=>
  obtain⟨k,va',j,ai,rfl,q,A⟩:=hrel;by_cases s:k<d.length
  ·have p:=A.inM R P.out
   obtain⟨b,am,rfl,ah⟩:=p.rows (by decide) (by omega);have W:=p.b s (r:=0) rfl;have aa:=p.b s (r:=1) rfl;have E:=lA f (d.take k) σ;rw[a4C]at E;have G:(d.take (k+1)).foldl (C6 f) σ=C6 f ((d.take k).foldl (C6 f) σ) d[k]:=by rw[a4a s,List.foldl_append];rfl
   have L:=S _ (a30 s);generalize d[k]=x at*;obtain⟨n,t⟩:=x;generalize(d.take k).foldl (C6 f) σ=τ at*;simp only[v9,a4z]at W aa;obtain⟨Q,T⟩:=i6 (RX (q.h ((a9.refl wr).alloc (U #[I M n,Y t] 185))) (by omega) (by omega) n t L) G;clear G E L q p;go_wp2_with fail
   apply Q.mono;rintro e an⟨rfl,af,ag,ad,ae⟩;go_wp2_with fail
   go_roundw
   case rel=>exact⟨k+1,af,ag,by omega,by go_num,by rw[T.out];exact ad,(A.h ((a9.refl wr).alloc _)).trans ae⟩
   case measure=>simp[intOf];omega
  ·obtain rfl:k=d.length:=by omega
   rw[List.take_of_length_le (a7 _)]at q;go_wp2_with fail
   go_end0
   exact⟨rfl,va',j,q,A⟩
theorem oK:∀(n:Nat)(s:ByteArray),(aA n s).size≤s.size
 |0,s=>a7 _
 |n+1,s=>by
  unfold aA;split
  ·exact c8 (oK n _) (by simp only[ByteArray.size_extract];omega)
  ·exact a7 _
theorem oJ:∀(n:Nat)(s:ByteArray),(cU n s).size≤s.size
 |0,s=>a7 _
 |n+1,s=>by
  unfold cU;split
  ·exact c8 (oJ n _) (by simp only[ByteArray.size_extract];omega)
  ·exact a7 _
theorem fX(s:ByteArray):(W8 s).size≤s.size:=c8 (oJ _ _) (oK _ _)
def J2:List (Nat×ByteArray)→Nat
 |[]=>0
 |x::r=>x.2.size+1+J2 r
theorem fY:∀(f k:Nat)(r:ByteArray),J2 (AR k (G2 f r))≤r.size+1
 |0,_,_=>i5 _
 |f+1,k,r=>by
  unfold G2;split
  ·exact i5 _
  ·rename_i b
   have ih:=fY f (k+1) (I6 r 10).2.1;show(I6 r 10).1.size+1+J2 _≤_;rcases nY r 10 with⟨_,e⟩|⟨j,c,_,e⟩
   ·rw[e]at ih⊢
    have a:∀g,G2 g (⟨#[]⟩:ByteArray)=[]:=fun g=>by cases g<;>rfl
    dsimp only at ih⊢;rw[a];show r.size+1+0≤_;omega
   ·rw[e]at ih⊢
    simp only[ByteArray.size_extract]at ih⊢;omega
def vZ(σ:QU)(b:Nat):Prop:=σ.2.2.size≤b∧∀x∈σ.1,x.2.size≤b
theorem mL(n:Nat)(t:ByteArray):∀x∈aQ n t,x.2.size≤t.size:=fun x a=>by
 unfold aQ at a;split at a
 ·cases a
 ·rw[List.mem_singleton.1 a];exact fX t
theorem zK(σ:QU)(x:Nat×ByteArray)(b:Nat)(e:vZ σ b):vZ (H8 σ x) (b+(x.2.size+1)):=by
 have d:∀c∈σ.1,c.2.size≤b+(x.2.size+1):=fun c a=>by have:=e.2 c a;omega
 have f:=e.1;unfold H8;split
 ·exact⟨by omega,d⟩
 ·split
  ·have:=eK x.2
   refine⟨?_,d⟩;simp only[ByteArray.size_append];have:(⟨#[32]⟩:ByteArray).size=1:=rfl;omega
  ·refine⟨i5 _,fun c a=> ?_⟩
   rcases List.mem_append.1 a with a|a
   ·exact d c a
   ·have:=mL _ _ c a
    rw[ByteArray.size_append]at this;omega
theorem mK:∀(l:List (Nat×ByteArray))(σ:QU)(b:Nat),vZ σ b→vZ (l.foldl H8 σ) (b+J2 l)
 |[],σ,b,h=>h
 |x::r,σ,b,h=>by
  have:=mK r _ _ (zK σ x b h);simp only[List.foldl_cons,J2];rwa[←Nat.add_assoc]
theorem iG(s:ByteArray):∀x∈cZ s,x.2.size≤s.size+1:=fun x a=>by
 have b:=mK (n0 s) ([],0,⟨#[]⟩) 0 ⟨a7 _,fun x a=>by cases a⟩;have c:=fY s.size 1 s
 change J2 (n0 s)≤_ at c
 rcases List.mem_append.1 a with a|a
 ·have:=b.2 x a;omega
 ·have d:=mL _ _ x a
  have:=b.1
  change(p9 (n0 s)).2.2.size≤_ at this
  omega
theorem MK(σ:QU)(x:Nat×ByteArray):(H8 σ x).1.length≤σ.1.length+1:=by
 unfold H8;split
 ·exact Nat.le_succ _
 ·split
  ·exact Nat.le_succ _
  ·have:=lD (AP σ x) (σ.2.2++x.2)
   simp;omega
theorem uD:∀(l:List (Nat×ByteArray))(σ:QU),(l.foldl H8 σ).1.length≤σ.1.length+l.length
 |[],σ=>a7 _
 |x::r,σ=>by
  have a:=MK σ x;have:=uD r (H8 σ x);simp only[List.foldl_cons,a3W];omega
theorem tA(s:ByteArray):(G0 s).1.length≤1001∧∀x∈(G0 s).1,x.2.size≤65537:=by
 unfold G0;split
 ·exact⟨i5 _,fun x a=>by cases a⟩
 ·split
  ·exact⟨i5 _,fun x a=>by cases a⟩
  ·refine⟨?_,fun x a=> ?_⟩
   ·have b:=uD (n0 s) ([],0,⟨#[]⟩)
    change(p9 (n0 s)).1.length≤0+_ at b
    have c:=lD (p9 (n0 s)).2.1 (p9 (n0 s)).2.2;show(cZ s).length≤_;unfold cZ;rw[a2e];omega
   ·have:=iG s x a;omega
def A8(a:ByteArray)(b:ByteArray):List m6×List i0:=
 let p:=G0 b
 let σ:=p.1.foldl (C6 a) ⟨⟨#[]⟩,Bf,[],[]⟩
 if p.2=0 then(if 0<σ.notes.length then([],σ.notes)else(σ.all,[]))else([],[⟨a,0,p.2,⟨#[]⟩⟩])
theorem LR(f:ByteArray)(n:Int)(g:Option Ad)(m c:Nat)(xs:List Int)(w:Wd)(am:xs.length=m)(aj:h9 w g (i3 U8 xs)):
  Ca prog 33 #[Ag #[Y f,I M n,Z g m c]] w fun e T=>∃S G,e=X (Tp #[S,G])∧e4 T w 88 Q8 S (A8 f (Sn xs)).1∧e4 T w 73 g6 G (A8 f (Sn xs)).2∧a9 w T:=by
 have H:b9 ((w.alloc (U #[Y f,I M n,Z g m c] 24)).alloc (U #[Z J 0 0] 41)) w 24 #[Y f,I M n,Z g m c]:=(b9.new w _ _).alloc _;have ah:b9 ((w.alloc (U #[Y f,I M n,Z g m c] 24)).alloc (U #[Z J 0 0] 41)) (w+1) 41 #[Z J 0 0]:=b9.b (by simp);have N:a9 w ((w.alloc (U #[Y f,I M n,Z g m c] 24)).alloc (U #[Z J 0 0] 41)):=((a9.refl w).alloc _).alloc _;have aq:((w.alloc (U #[Y f,I M n,Z g m c] 24)).alloc (U #[Z J 0 0] 41)).heap.size=w.heap.size+2:=by simp
 have ae:=a6 (GG g m c xs _ am (aj.h N));have ap:=tA (Sn xs);obtain⟨R,h⟩:∃R,R=A8 f (Sn xs):=⟨_,rfl⟩;rw[←h];unfold A8 at h;generalize G0 (Sn xs)=p at*;obtain⟨Q,pe⟩:=p;dsimp only at*;obtain⟨ab,ac,ag,E⟩:=J5 H ah N aq;have ba:=H.cell 2;have ad:=a6 ap;clear H ah N aq aj am ap;by_cases D:pe=0
 ·rw[if_pos D]at h
  subst D;obtain⟨σ,P⟩:∃σ,σ=Q.foldl (C6 f) ⟨⟨#[]⟩,Bf,[],[]⟩:=⟨_,rfl⟩;rw[←P]at h;obtain⟨l,ar⟩:=i6 h P;clear h P;go_in;go_wp2_with fail
  apply ae.mono;rintro e z⟨v,rfl,u,r⟩;obtain⟨B,d,rfl,_,_,ak⟩:=u.inM;have o:=ab.h r;have t:=ac.h r;have bb:=o.cell 0;have j:UI (z.alloc (U #[Y f,Y ⟨#[]⟩,O Bf,Z J 0 0,Fc (.func 59) #[] #[K (w+1:Nat),K w]] 139)) z (w+1) w (z+1) f (I M n) (Z g m c) ⟨⟨#[]⟩,Bf,[],[]⟩ (Z J 0 0) (Z J 0 0):=
   ⟨b9.new _ _ _,t.alloc _,o.alloc _,e4.nil _ _ _ _,e4.nil _ _ _ _,by omega,by have:=t.lt;omega,by have:=o.lt;omega,by simp⟩
  have aa:=a6 (RY j B Q.length d Q rfl (ak.h ((a9.refl _).alloc _)) (fun a aw=>by
   subst aw;have bd:=(u.lt (k:=a.block) (by rfl)).2;have be:=(u.lt (k:=a.block) (by rfl)).1;have:=E.out;rintro(C|C|C|C)
   ·omega
   ·omega
   ·cases C
   ·cases C) (by have:=ad.1;omega) (i5 _) (i5 _) (fun x ax=>by have:=ad.2 x ax;omega))
  rw[←ar.out]at aa;have s:=a6 r;clear j o t ak u;go_wp2_with fail
  apply aa.mono;rintro e W⟨rfl,S,G,j,L⟩;obtain⟨az,bc,rfl,_⟩:=j.m.inM;have F:a9 w W:=L.b ((ag.trans s.out).alloc _) fun b i=>by
   have:=E.out;have:=s.size;rcases i with rfl|rfl|i|i
   ·omega
   ·omega
   ·cases i
   ·cases i
  have al:w≤z.heap.size+1:=by have:=E.out;have:=s.size;omega
  have ay:=j.n.cell 0;have bf:=j.r.cell 3;have af:=a6 j;clear j;by_cases y:0<σ.notes.length
  ·have ai:=decide_eq_true y
   have q:=l.out;rw[if_pos y]at q;have A:=a6 q;clear q l y;go_wp2_with fail
   go_quiet (fail)
   go_wp2_with fail
   go_ret2
   exact⟨_,_,rfl,by rw[A.out];exact e4.nil _ _ _ _,by rw[A.out];exact af.m.mono al,F.drewN _⟩
  ·have ai:=decide_eq_false y
   have q:=l.out;rw[if_neg y]at q;have A:=a6 q;clear q l y;go_wp2_with fail
   go_ret2
   exact⟨_,_,rfl,by rw[A.out];exact af.a.mono al,by rw[A.out];exact e4.nil _ _ _ _,F⟩
 ·rw[if_neg D]at h
  have ai:(pe !=0)=Bt:=by simp[D]
  have l:=a6 h;clear h D;go_in;go_wp2_with fail
  apply ae.mono;rintro e z⟨v,rfl,u,r⟩;have o:=ab.h r;have t:=ac.h r;obtain⟨av,s⟩:=i6 (a3A (base:=z) t o (e4.nil _ _ _ _) (a7 _) (by simp) 0 pe ⟨#[]⟩) r;clear o t u;go_wp2_with fail
  apply av.mono;rintro e W⟨rfl,G,an,ao,L⟩;have ay:=an.cell 0;have F:a9 w W:=L.b (ag.trans s.out) fun b i=>by
   rcases i with rfl|i
   ·omega
   ·cases i
  have au:=a6 ao;clear ao an;go_wp2_with fail
  go_quiet (fail)
  go_wp2_with fail
  go_ret2
  exact⟨_,_,rfl,by rw[l.out];exact e4.nil _ _ _ _,by rw[l.out];exact au.mono (by have:=E.out;have:=s.size;omega),F.drewN _⟩
end Go.Proofs.YtiomenjfmagknaaGreat
