/- A part of the proof of TopFront: lemmas on the walks of its calls. -/
import Derived.Test.YtcljlejgllkcjaaGreatM20
set_option maxHeartbeats 12000000
set_option linter.all false
set_option maxRecDepth 100000
namespace Go.Proofs.YtcljlejgllkcjaaGreat
open Go.RowKit Go.ChangeShapes Go.WideShapes Tryz
open Bool renaming true→Bt,false→Bf
open Decidable renaming decide→Dc
open Ending renaming returned→X
open Go renaming World→Wd,Value→Va,Calls→Ca,callsIn_wide→Cw,undef→Un,bodyPost_ret→Bp,TypeId→Ti,Addr→Ad,Program→Pg,strOfNums→Sn,callsIn_of_wp_marks→Cm,CallsIn→Ci
open Go.Proofs renaming enters_of→Eo
open IntKind renaming i64→M,u32→V,u64→U6,u8→U8
open List renaming length_append→g1,getElem_mem→g3,take_succ_eq_append_getElem→g2,length_cons→i4,length→D
open Nat renaming le_refl→a7,le_trans→b6,zero_le→c6,add_zero→j8
open Obj renaming cells→U
open Operand renaming tmp→Tm
open Option renaming none→J,some→So
open Value renaming int→I,slice→Z,string→Y,pointer→K,bool→O,func→Fc,tuple→Tp,agg→Ag
theorem aT{P:Pg}{c:Array Oper}{o:Oper}{a:Act}{w:Wd}{b:Act->Wd->Prop}{Q:Exit->Act->Wd->Prop}{E:Prop}(e:o.guard=J)(d:o.wp P a w b Q):if Region.wanted o (yielded c a.tmps)=Bt then Oper.wp P o a w b Q else E:=by
 have f:Region.wanted o (yielded c a.tmps)=Bt:=by simp[Region.wanted,e]
 rw[if_pos f];exact d
theorem K1{P:Pg}{o:Oper}{a:Act}{w:Wd}{c:Act->Wd->Prop}{Q:Exit->Act->Wd->Prop}(ty:Ti)(x f:Operand)(k:o.op= .store ty x f)(g:Nat)(t:Ti)(cur cs:Array Va)(l:a.eval x=K g)(m:a.eval f=Ag cs)
 (j:e7 w g t cur) (n:cs.size=cur.size) (hi:(P.info? ty).map (·.size)=So cs.size) (i:∀v∈cs.toList,v.oneCell'=Bt) (h:∀b,e7 b g t cs->w.grownBy b (So g)->c (a.put o.dst Un) b):o.wp P a w c Q:=by
 have d:e7 w g t cur.toList.toArray:=by rw[Array.toArray_toList];exact j
 have e:=setRow_heap w g _ (splice cur.toList 0 cs.toList).toArray t _ d;rw[K3 _ _ G6,Array.toArray_toList]at e;unfold Oper.wp execOp;simp only[k,l,m,Instr.storeAt,Instr.sureAddr,Sem.run_bind,Sem.run_pure,Result.andThen_ok,Y0 w g 0 t ty cur.toList cs d G6 hi i];rw[K3 _ _ G6,Array.toArray_toList];exact h _ e (H0 w g _)
theorem a4M{l:Type}{P:Pg}{o:Oper}{a:Act}{w:Wd}{m:Act->Wd->Prop}{Q:Exit->Act->Wd->Prop}(s x:Operand)(t e:Ti)(H:o.op= .call {callee:= .builtin .append,args:= #[s,x],argTypes:= #[t,t]}){z:Va}{b:Nat}{E:s7 l}(d:kZ P t e z E.k b)
 (base:Nat) (v:Va) (xs:List l) (N:a.eval s=v) (h:c7 w base e E v xs) (u:Va) (b2:Nat) (ys:List l) (T:a.eval x=u) (S:c7 w b2 e E u ys) (R:D xs+D ys<=1000000) (C:base<=w)
 (y:∀v' c,c7 c base e E v' (xs++ys)->w.grownBy c v.ownBlock->m (a.put o.dst v') c):o.wp P a w m Q:=by
 obtain⟨i,hi,f⟩:=Option.map_eq_some_iff.1 d.i;simp only[Prod.mk.injEq]at f;obtain⟨f,G,B⟩:=f;obtain⟨r,n,rfl,p⟩:=S;have key:∃v' c,(Builtin.append_ #[t,t] o.type #[v,Z r (D ys) n]).run P w= .ok v' c/\c7 c base e E v' (xs++ys)/\w.grownBy c v.ownBlock:=by
  rcases p.2 with⟨k,A⟩|⟨g,cap,cur,k,_⟩
  have W:ys=[]:=List.eq_nil_of_length_eq_zero A;subst W;rw[k];exact⟨v,w,dY (P:=P) w base t o.type e i E.k d.u hi v (D xs) (E.row xs) h.to 0,by rw[List.append_nil];exact h,World.grownBy.refl _ _⟩;cases k;obtain⟨v',c,ac,q,ad,_⟩:=run_append_own (P:=P) w base t o.type e i z E.k b d.u hi f G B d.zs d.k0 v (D xs) (E.row xs) h.to ⟨g,0,J⟩ (D ys) n (E.row ys) (E.row_length ys) (λj u F=>(wI p).add F) (E.row_oneCell ys) (by unfold maxLen;omega) (b6 (Nat.mul_le_mul R d.b0) e6) C;rw[<-E.row_append,<-g1]at q;exact⟨v',c,ac,.of q,ad⟩
 obtain⟨v',c,L,aa,ab⟩:=key;unfold Oper.wp;simp[execOp,H,resolve,invoke,builtin,N,T,L,Result.andThen];exact y v' c aa ab
theorem ES(ca:p1)(c:Nat)(l:List m8)(w:Wd)(et:D l<=100000)(cx:i5 w ca (z8.row l))(av:∀a∈l,a.val.size<=50000)(em:z5 l<=900000):
 Ca prog 30 #[Z ca (D l) c] w λe bw=>∃F G H L m,e=X (Tp #[Ag (i7 (i8 l).1 F G H L),m])/\m7 bw w (i8 l).1 F G H L/\c7 bw w 49 h9 m (i8 l).2/\a9 w bw:=by
 obtain⟨R,ar⟩:∃R,R=i8 l:=⟨_,rfl⟩;rw[<-ar];unfold i8 at ar;obtain⟨ad,dk,di,dp,dq,t⟩:=dK cx (λk=>a4c (l.take k) (A5 2147483648,[]) (bC _)) (λk=>qV l k) (λk(au:k<D l)=>show(l.take (k+1)).foldl a33 (A5 2147483648,[])=a33 ((l.take k).foldl a33 (A5 2147483648,[])) l[k] by rw[g2 au,List.foldl_append];rfl) (λk(au:k<D l)=>av _ (g3 au)) ar;have cu:=λbm=>e7.new w 36 bm
 have df:=λbm=>(a9.refl w).alloc (U bm 36)
 clear cx av ar;go_in;go_wp2_with fail;refine l4 (a3A _) λbx br=>?_;have ao:=(cu _).h br;have ap:=(df _).trans br;clear cu df br;have jX:∀v∈(i7 (A5 2147483648) r8 r8 r8 r8).toList,v.oneCell'=Bt:=by simp[i7,A5,Value.oneCell']
 go_wp2_with(refine q6 (e7.new bx _ _) ?_ (hx1q:=jX);intro ew ck bp);have cm:=(ao.h ((a9.refl bx).alloc (U _ 36))).grown bp (λe=>by have:=ao.lt;injection e with e;omega);have cp:=(ap.alloc _).f bp (λk e=>by cases e;exact ap.size);have eu:=ap.size;have db:=ao.lt;obtain⟨dn,dr,dm⟩:=r6 cm cp ck;generalize eg:bx.heap.size=P at*;clear ao ap cm cp ck bp jX eg;go_wp2;go_loopg [5,13] (D l) (λef ej ei wr=>∃(k:Nat)(F G H L m:Va),k<=D l/\D l-k<=ef/\ei=I M k/\m=ej/\e7 wr P 36 (i7 ((l.take k).foldl a33 (A5 2147483648,[])).1 F G H L)/\m7 wr w ((l.take k).foldl a33 (A5 2147483648,[])).1 F G H L/\c7 wr w 49 h9 m ((l.take k).foldl a33 (A5 2147483648,[])).2/\a9 w wr/\(∃cs,e7 wr w 36 cs/\cs.size=13));exact⟨0,r8,r8,r8,r8,_,c6 _,a8,rfl,rfl,dm.O,⟨c7.nil _ _ _ _,c7.nil _ _ _ _,c7.nil _ _ _ _,c7.nil _ _ _ _⟩,c7.nil _ _ _ _,dr.O,⟨_,dn.O,g6⟩⟩;obtain⟨k,F,G,H,L,m,au,er,rfl,rfl,ah,aq,Q,n,af⟩:=hrel;obtain⟨ai,eh⟩:=dk k;rw[List.length_nil,Nat.zero_add]at eh;have eo:=di k;by_cases S:k<D l
 ·obtain⟨b,o,rfl,el⟩:=(ad.h n).rows e6 a8;have dt:=(ad.h n).l S (r:=0) rfl;have du:=(ad.h n).l S (r:=1) rfl;have dv:=(ad.h n).l S (r:=2) rfl;have dw:=(ad.h n).l S (r:=3) rfl;have dx:=(ad.h n).l S (r:=4) rfl;have bq:=dp k S;have av:=dq k S;have ep:=xK ai l[k];simp only[z8,j8]at dt du dv dw dx;generalize l[k]=a at*;generalize(l.take k).foldl a33 (A5 2147483648,[])=σ at*;obtain⟨p,y⟩:=σ;dsimp only at*;have en:z5 (l.take k)<=900000:=a8;have xa:=(a9.refl wr).alloc (U #[Y a.file,I M a.line,Y a.sec,Y a.key,Y a.val] 89);have cb:=e7.new wr 89 #[Y a.file,I M a.line,Y a.sec,Y a.key,Y a.val];have cc:=a6 (show Ca prog 51 #[Ag (i7 p F G H L),Ag #[Y a.file,I M a.line,Y a.sec,Y a.key,Y a.val]] (wr.alloc (U #[Y a.file,I M a.line,Y a.sec,Y a.key,Y a.val] 89)) _ from a5k p a F G H L _ ai.small av ⟨ai.fm,ai.lm⟩ (by have:=ai.lens;omega) w (b6 n.size xa.size) (aq.h xa));have cv:a33 (p,y) a=((lX p a).1,y++(lX p a).2):=rfl;rw[cv]at bq;generalize lX p a=q at*;obtain⟨aa,bs⟩:=q;dsimp only at*;have bi:=ah.h xa;have ci:=Q.h xa;have bk:=n.trans xa;have RA:∃cs,e7 (wr.alloc (U #[Y a.file,I M a.line,Y a.sec,Y a.key,Y a.val] 89)) w 36 cs/\cs.size=13:=let⟨cs,q,z⟩:=af;⟨cs,q.h xa,z⟩;obtain⟨dz,ea,eb,ec,ed⟩:=cb.c5;have dc:m.ownBlock≠So P:=Q.ne ah e6;have ae:=a6 bq;have es:(k:Int)<D l:=a8;clear ah aq Q n af xa cb bq cv;go_wp2_with(refine D1 bi underlying36 ?_);apply cc.mono;rintro e N⟨A,B,C,E,ak,rfl,bt,aw,f⟩;have bg:=bi.h f;have ch:=ci.h f;have cq:=bk.trans f;have cn:∃cs,e7 N w 36 cs/\cs.size=13:=let⟨cs,q,z⟩:=RA;⟨cs,q.h f,z⟩;replace aw:=aw.mono bk.size;have bu:=bt.one;clear bi ci bk RA f dz ea eb ec ed cc;go_wp2_with(refine q6 (e7.new N _ _) ?_ (hx1q:=bu);intro s ax x);have ac:=(a9.refl N).alloc (U _ 36)|>.f x (λk e=>by cases e;exact a7 _)
  have bh:=bg.h ac;have bd:=ch.h ac;have cr:=cq.trans ac;have cj:=bt.h ac;have bc:=aw.h ac;have co:∃cs,e7 s w 36 cs/\cs.size=13:=let⟨cs,q,z⟩:=cn;⟨cs,q.h ac,z⟩;have cw:N≠P:=by have:=bg.lt;omega
  have cy:m.ownBlock≠So N.heap.size:=bd.ne ax e6;have cz:ak.ownBlock≠So P:=bc.ne bh e6;obtain⟨ba,j,bb,an,dj,cf⟩:=dK bh bd cr cj bc co;obtain⟨az,am⟩:=j0 ax (And.intro cw (And.intro dc (And.intro cy cz)));clear bg ch cq bt aw cn ac bh bd cr cj bc co ax x cw dc cy cz;generalize N.heap.size=bn at*;go_wp2_with fail;have ds:e7 s.drew bn 36 (i7 aa A B C E):=az.drew;have ev:e7 s.drew P 36 _:=ba.drew;have de:c7 s.drew w 49 h9 m y:=j.h (a9.refl _).drew;have dd:c7 s.drew w 49 h9 ak bs:=dj.h (a9.refl _).drew;have dg:w<=s.drew.heap.size:=bb.size;refine wp_region_any g6 ?_;change wpAny _ _ _ _ _ _ _ (World.drew _);refine wpAny_take (i:=1) (v:=m) rfl g6 g6 g6 (λ_ _ _ bo=>bo) (Or.inl ⟨by rfl,λw=>by go_simp⟩) ?_;refine wpAny_take (i:=2) (v:=ak) rfl g6 g6 g6 (λ_ _ _ bo=>bo) (Or.inl ⟨by rfl,λw=>by go_simp⟩) ?_;refine wpAny_ready (rs:=[0,3]) g6 i3 ?_;refine AllReady.cons rfl (λh d=> ?_) (AllReady.cons rfl (λh d=> ?_) AllReady.nil)
  ·refine aT rfl (wp_load_row 36 (Tm 8) rfl bn rfl 36 _ (0,0) _ ds underlying36 rfl g6 ?_);refine d _ _ ?_;clear d h;refine wpAny_ready (rs:=[3]) g6 i3 ?_;refine AllReady.cons rfl (λh d=> ?_) AllReady.nil;refine aT rfl (a4M (Tm 24) (Tm 25) 38 49 rfl P0 w m y rfl de ak w bs rfl dd a8 dg ?_);intro ek bz aj g;have ct:=az.drew.grown g (λe=>am.2.2.1 e.symm);have W:=ba.drew.grown g (λe=>am.2.1 e.symm);refine d _ _ ?_;clear d h;refine wpAny_ready (rs:=[4]) g6 i3 ?_;refine AllReady.cons rfl (λh d=> ?_) AllReady.nil;refine aT rfl (K1 36 (Tm 4) (Tm 23) rfl P 36 _ _ rfl rfl W (by rfl) g6 an.one ?_);intro ab bv u;refine d _ _ ?_;clear d h;refine wpAny_ready (rs:=[5]) g6 i3 ?_;refine AllReady.cons rfl (λh d=> ?_) AllReady.nil;go_simp
   refine d _ _ ?_;clear d h;refine wpAny_done g6 ?_ _;have bj:∃cs,e7 ab w 36 cs/\cs.size=13:=let⟨cs,q,z⟩:=cf.O;⟨cs,(q.drew.grown g (λe=>j.ne q e6 e.symm)).grown u (λe=>by have:=db;injection e with e;omega),z⟩;have bf:m7 ab w aa A B C E:=((λk=>⟨k.a.apart j e6 g,k.f.apart j e6 g,k.l.apart j e6 g,k.m.apart j e6 g⟩:m7 s.drew w aa A B C E->m7 bz w aa A B C E) (an.h (a9.refl _).drew)).grown W e6 u;have be:=aj.kept u (.inr (aj.ne W e6));have bl:a9 w ab:=(bb.drew.f g (λk e=>(j.lt e).1)).f u (λk e=>by cases e;omega);go_wp2;go_roundg (D l-(k+1));exact⟨k+1,A,B,C,E,_,a8,a8,o3,rfl,by rw[ae.O];exact bv,by rw[ae.O];exact bf,by rw[ae.O];exact be,bl,bj⟩;omega
  refine aT rfl (a4M (Tm 24) (Tm 25) 38 49 rfl P0 w m y rfl de ak w bs rfl dd a8 dg ?_);intro ek bz aj g;have ct:=az.drew.grown g (λe=>am.2.2.1 e.symm);have W:=ba.drew.grown g (λe=>am.2.1 e.symm);refine d _ _ ?_;clear d h;refine wpAny_ready (rs:=[0]) g6 i3 ?_;refine AllReady.cons rfl (λh d=> ?_) AllReady.nil;refine aT rfl (wp_load_row 36 (Tm 8) rfl bn rfl 36 _ (0,0) _ ct underlying36 rfl g6 ?_);refine d _ _ ?_;clear d h;refine wpAny_ready (rs:=[4]) g6 i3 ?_;refine AllReady.cons rfl (λh d=> ?_) AllReady.nil;refine aT rfl (K1 36 (Tm 4) (Tm 23) rfl P 36 _ _ rfl rfl W (by rfl) g6 an.one ?_);intro ab bv u;refine d _ _ ?_;clear d h;refine wpAny_ready (rs:=[5]) g6 i3 ?_;refine AllReady.cons rfl (λh d=> ?_) AllReady.nil;go_simp
  refine d _ _ ?_;clear d h;refine wpAny_done g6 ?_ _;have bj:∃cs,e7 ab w 36 cs/\cs.size=13:=let⟨cs,q,z⟩:=cf.O;⟨cs,(q.drew.grown g (λe=>j.ne q e6 e.symm)).grown u (λe=>by have:=db;injection e with e;omega),z⟩;have bf:m7 ab w aa A B C E:=((λk=>⟨k.a.apart j e6 g,k.f.apart j e6 g,k.l.apart j e6 g,k.m.apart j e6 g⟩:m7 s.drew w aa A B C E->m7 bz w aa A B C E) (an.h (a9.refl _).drew)).grown W e6 u;have be:=aj.kept u (.inr (aj.ne W e6));have bl:a9 w ab:=(bb.drew.f g (λk e=>(j.lt e).1)).f u (λk e=>by cases e;omega);go_wp2;go_roundg (D l-(k+1));exact⟨k+1,A,B,C,E,_,a8,a8,o3,rfl,by rw[ae.O];exact bv,by rw[ae.O];exact bf,by rw[ae.O];exact be,bl,bj⟩;omega
 obtain rfl:k=D l:=a8;rw[List.take_length]at*;have T:=t.O;unfold P8 at T;generalize l.foldl a33 (A5 2147483648,[])=σ at*;obtain⟨p,y⟩:=σ;dsimp only at*;obtain⟨dh,dy,rfl⟩:=Q.b;obtain⟨cd,dl,ce,al,cg⟩:=Y2 (jV dh (D y) dy y wr rfl a8 Q.i.1) ah aq Q n;obtain⟨cs,af,da⟩:=af;have ag:=a6 af;generalize p8 y=ee at*;clear ah aq Q n af;rcases ee with _|_
 ·rw[if_neg e6]at T;have t:=a6 T;clear T;go_wp2_with fail;refine l4 cd λN f=>?_;have bu:=ce.one;go_wp2_with(first|(refine D1 (dl.h f) underlying36 ?_)|(refine j1 rfl 36 (Tm 2) (Tm 32) rfl w _ cs _ rfl rfl (ag.h f) (by rw[da];rfl) g6 bu ?_;intro s ay x));exact s0 rfl ay underlying36 ⟨_,_,_,_,_,by rw[t.O],by rw[t.O];exact(ce.h f).grown (ag.h f) e6 x,by rw[t.O];exact(al.h f).kept x (.inr ((al.h f).ne (ag.h f) e6)),(cg.trans f).f x (λk e=>by cases e;exact a7 _)⟩
 rw[if_pos rfl]at T;have t:=a6 T;have jX:∀v∈(i7 (A5 0) r8 r8 r8 r8).toList,v.oneCell'=Bt:=by simp[i7,A5,Value.oneCell']
 clear T;go_wp2_with fail;refine l4 cd λN f=>?_;go_wp2_with(refine j1 rfl 36 (Tm 2) (Tm 30) rfl w _ cs (i7 (A5 0) r8 r8 r8 r8) rfl rfl (ag.h f) (by rw[da];rfl) g6 jX ?_;intro s ay x);exact s0 rfl ay underlying36 ⟨_,_,_,_,_,by rw[t.O],by rw[t.O];exact⟨c7.nil _ _ _ _,c7.nil _ _ _ _,c7.nil _ _ _ _,c7.nil _ _ _ _⟩,by rw[t.O];exact(al.h f).kept x (.inr ((al.h f).ne (ag.h f) e6)),(cg.trans f).f x (λk e=>by cases e;exact a7 _)⟩
theorem cM:∀a b:List (Nat×g4),L7 (a++b)=L7 a+L7 b
 |[],b=>by simp[L7]
 |x::a,b=>by simp only[List.cons_append,L7,cM a b];omega
theorem uQ(n:Nat)(t:g4):L7 (H7 n t)<=t.size+1:=by unfold H7;split;exact c6 _;have:=fO t;simp only[L7];omega
theorem LH(σ:KJ)(x:Nat×g4):L7 (C6 σ x).1+(C6 σ x).2.2.size<=L7 σ.1+σ.2.2.size+(x.2.size+1):=by unfold C6;split;omega;split;have:=eF x.2;dsimp only;simp only[ByteArray.size_append];have:(⟨#[32]⟩:g4).size=1:=rfl;omega;have:=uQ (rZ σ x) (σ.2.2++x.2);rw[ByteArray.size_append]at this;dsimp only;rw[cM];have:(⟨#[]⟩:g4).size=0:=rfl;omega
theorem uH:∀(l:List (Nat×g4))(σ:KJ),L7 (l.foldl C6 σ).1+(l.foldl C6 σ).2.2.size<=L7 σ.1+σ.2.2.size+L7 l
 |[],σ=>by simp[L7]
 |x::r,σ=>by have a:=LH σ x;have b:=uH r (C6 σ x);simp only[List.foldl_cons,L7];omega
theorem DW(s:g4):L7 (T2 s)<=s.size+2:=by have a:=uH (o0 s) ([],0,⟨#[]⟩);have b:=fP s.size 1 s;change L7 (o0 s)<=_ at b;change L7 (s3 (o0 s)).1+(s3 (o0 s)).2.2.size<=0+0+L7 (o0 s)at a;have c:=uQ (s3 (o0 s)).2.1 (s3 (o0 s)).2.2;unfold T2;rw[cM];omega
theorem DV(s:g4):L7 (y9 s).1<=s.size+2:=by unfold y9;split;exact c6 _;split;exact c6 _;exact DW s
theorem jC(s:g4):(x1 s).2.1.size<=s.size:=by unfold x1;dsimp only;split;exact b6 (fO _) (aD s 61).2;exact c6 _
theorem iW(a b:List m8):z5 (a++b)=z5 a+z5 b:=by simp[z5]
theorem FK(a:g4)(σ:US)(l:Nat×g4):z5 (a3H a σ l).all<=z5 σ.all+2*(l.2.size+1):=by unfold a3H;split;exact Nat.le_add_right _ _;split;have:=jC l.2;dsimp only;rw[iW];simp[z5];omega;exact Nat.le_add_right _ _
theorem qH(a:g4):∀(b:List (Nat×g4))(σ:US),z5 (b.foldl (a3H a) σ).all<=z5 σ.all+2*L7 b
 |[],σ=>by simp[L7]
 |x::r,σ=>by have c:=FK a σ x;have d:=qH a r (a3H a σ x);simp only[List.foldl_cons,L7];omega
theorem FJ(d:g4)(σ:US)(l:Nat×g4)(B:Nat)(e:l.2.size<=B)(c:∀a∈σ.all,a.val.size<=B):∀a∈(a3H d σ l).all,a.val.size<=B:=by
 unfold a3H;split;exact c;split;intro a b;rcases List.mem_append.1 b with b|b
 exact c a b;rw[List.mem_singleton.1 b];exact b6 (jC l.2) e;exact c
theorem qG(b:g4)(B:Nat):∀(c:List (Nat×g4))(σ:US),(∀x∈c,x.2.size<=B)->(∀a∈σ.all,a.val.size<=B)->∀a∈(c.foldl (a3H b) σ).all,a.val.size<=B
 |[],σ,_,h=>h
 |x::r,σ,hl,h=>qG b B r _ (λe d=>hl e (List.mem_cons_of_mem _ d)) (FJ b σ x B (hl x List.mem_cons_self) h)
theorem AB(f b:g4):z5 (v6 f b).1<=2*(b.size+2):=by have a:=qH f (y9 b).1 ⟨⟨#[]⟩,Bf,[],[]⟩;have d:=DV b;have c:z5 ([]:List m8)=0:=rfl;unfold v6;dsimp only;split;split;simp[z5];dsimp only at a⊢;omega;simp[z5]
theorem vR(b:g4):∀x∈(y9 b).1,x.2.size<=b.size+1:=by unfold y9;split;intro x a;cases a;split;intro x a;cases a;exact gZ b
theorem AA(f b:g4):∀a∈(v6 f b).1,a.val.size<=b.size+1:=by have d:=qG f (b.size+1) (y9 b).1 ⟨⟨#[]⟩,Bf,[],[]⟩ (vR b) aL;unfold v6;dsimp only;split;split;intro a c;cases c;exact d;intro a c;cases c
def m6(l:List g9):Nat:=(l.map λf=>D f.data).sum
theorem cP(xs:o5):(Sn xs).size=D xs:=by simp[Sn,ByteArray.size]
theorem lP:∀l:List g9,z5 (C3 l)<=2*m6 l+4*D l
 |[]=>a7 _
 |f::l=>by
  have c:=lP l;have b:=AB f.name (Sn f.data);rw[cP]at b;have e:C3 (f::l)=(v6 f.name (Sn f.data)).1++C3 l:=by simp[C3]
  have a:m6 (f::l)=D f.data+m6 l:=by simp[m6]
  rw[e,iW,a,i4];omega
theorem M7(f:g9)(l:List g9):m6 (f::l)=D f.data+m6 l:=by simp[m6]
theorem K5(a b:List g9):m6 (a++b)=m6 a+m6 b:=by simp[m6]
theorem tD:∀(l:List g9),∀f∈l,D f.data<=m6 l
 |x::l,f,hf=>by
  rw[M7];rcases List.mem_cons.1 hf with h|h
  rw[h];omega;have:=tD l f h;omega
theorem EB{a b:List g9}(h:a.Perm b):m6 a=m6 b:=(h.map λf:g9=>D f.data).sum_nat
theorem tB:∀(l:List g9)(i:Nat)(x:g9),m6 (l.set i x)<=m6 l+D x.data
 |[],_,x=>by simp[m6]
 |y::l,0,x=>by simp only[List.set_cons_zero,M7];omega
 |y::l,i+1,x=>by have:=tB l i x;simp only[List.set_cons_succ,M7];omega
theorem tC(l:List g9)(x:g9):m6 (O8 g9.name l x)<=m6 l+D x.data:=by unfold O8;split;rw[K5];simp[m6];exact tB _ _ _
theorem EA(l:List g9)(x:g9):m6 (L9 l x)<=m6 l+D x.data:=by unfold L9;split;exact tC l x;split;exact tC l x;omega
theorem lF:∀(ds l:List g9),m6 (ds.foldl L9 l)<=m6 l+m6 ds
 |[],l=>by simp[m6]
 |x::ds,l=>by have a:=EA l x;have b:=lF ds (L9 l x);simp only[List.foldl_cons,M7];omega
theorem zC(u:g9)(ds:List g9):m6 (r1 u ds).1<=D u.data+m6 ds:=by unfold r1;split;simp[m6];split;simp[m6];have a:=EB (D3 _ (jK g9.name) (z7 ds));have b:=lF ds [];show m6 (u::lE (z7 ds))<=_;rw[M7];unfold lE;rw[a];have:m6 ([]:List g9)=0:=rfl;unfold z7;omega
theorem AQ(l:List g9):∀a∈C3 l,a.val.size<=m6 l+1:=λa c=>by obtain⟨f,d,b⟩:=List.mem_flatMap.1 c;have:=AA _ _ a b;rw[cP]at this;have:=tD l f d;omega
theorem fX(u:g9)(ds:List g9):D (l5 u ds).1<=17017/\z5 (l5 u ds).1<=2*(D u.data+m6 ds)+68/\∀a∈(l5 u ds).1,a.val.size<=D u.data+m6 ds+1:=by have d:=zC u ds;have e:=bA u ds;have f:=Z7 (r1 u ds).1;have g:=lP (r1 u ds).1;have b:=AQ (r1 u ds).1;unfold l5;split;exact⟨c6 _,by simp[z5],aL⟩;split;exact⟨c6 _,by simp[z5],aL⟩;exact⟨by dsimp only;omega,by dsimp only;omega,λa c=>by have:=b a c;omega⟩
def KA(a:Bool)(u:g9)(ds:List g9):List Q5×List i6:=
 if(l5 u ds).2.length=0 then
  if p8 (i8 (l5 u ds).1).2 then([],(i8 (l5 u ds).1).2)
  else if F0 (i8 (l5 u ds).1).1 then(bN a (i8 (l5 u ds).1).1,(i8 (l5 u ds).1).2)
  else([],(i8 (l5 u ds).1).2++[⟨u.name,0,2,⟨#[]⟩⟩])
 else([],(l5 u ds).2)
structure PR where
 p:Q5
 A:p1
 c:Nat
def PR.v(x:PR):Va:=Z x.A (D x.p.ins) x.c
def iA:s7 PR:=⟨3,λx=>[I M x.p.d,I M x.p.a,x.v],λ_=>rfl,by simp[Value.oneCell',PR.v]⟩
instance :Inhabited PR:=⟨⟨⟨0,0,[]⟩,J,0⟩⟩
structure eV(w:Wd)(v:Va)(l:List Q5):Prop where
 ex:∃xs:List PR,B4 w 76 iA v xs/\(∀x∈xs,B4 w 141 gC x.v x.p.ins)/\xs.map (·.p)=l
theorem eV.h{w a:Wd}{v:Va}{l:List Q5}(b:eV w v l)(x:a9 w a):eV a v l:=let⟨xs,h1,h2,h3⟩:=b.ex;⟨xs,h1.h x,λd c=>(h2 d c).h x,h3⟩
def XM(p:Q5):Prop:=p.d=0/\p.a=6\/(0<p.d/\p.d<8)/\0<=p.a/\p.a<6
theorem yY(a:p1)(n c:Nat)(xs:o5)(u:Wd)(d:D xs=n)(g:n<=1000)(b:i5 u a (l8 V xs)):
 Ca prog 27 #[Z a n c] u λe h=>e=X (I V (lY xs))/\a9 u h:=by
 have f:=a6 (a4L a n c xs u d g b);clear b d;go_in;go_wp2_with fail;refine l4 f λj i=>?_;go_wp2;go_ret;exact⟨rfl,i⟩
theorem ZW(xs:o5):F4.row xs=l8 V xs:=s2 V F4 (λ_=>rfl) xs
section
theorem uT(A B:p1)(n m c f:Nat)(w:Wd):Ca prog 108 #[Z A n c,I M 0,Z B m f,I M 0] w λe i=>e=X (Tp #[if n<m then Z A n c else Z B m f,I M 0])/\w=i:=by
 by_cases b:n<m
 ·rw[if_pos b];have h:Dc (n<m)=Bt:=by simpa using b
  clear b;go_wp2;go_ret2;exact⟨rfl,rfl⟩
 rw[if_neg b];have h:Dc (n<m)=Bf:=by simpa using b
 clear b;go_wp2;go_ret2;exact⟨rfl,rfl⟩
theorem Wk.end_{W0 W1 w:Wd}{g:Nat}{a d:Int}{vr i j f v:Va}(h:Wk W0 W1 g a d vr i j f w)(b:w.cell? ⟨g,5,J⟩=So v):v=f:=by
 have e:w.cell? ⟨g,5,J⟩=So f:=h.b.cell 5;rw[e]at b;injection b with b
 exact b.symm
abbrev LJ(b g:Nat):Va:=Fc (.func b) #[K g] #[]
def SA(W0 W1:Wd)(g gf:Nat)(a d:Int)(vr b:Va)(cs:Array Va)(r:List Sy)(k:Nat)(W:Wd):Prop:=
 e7 W gf 184 cs/\match k with
 |0=>Wk W0 W1 g a d vr b (Z J 0 0) (Z J 0 0) W
 |1=>∃v,Wk W0 W1 g a d vr b v (Z J 0 0) W/\B4 W 417 aR v r
 |_=>∃v e,Wk W0 W1 g a d vr b v e W/\B4 W 141 gC e (aW r)
def SB(W0 W1:Wd)(g gf:Nat)(a:Nat)(d:Int)(vr b:Va)(cs:Array Va)(e:List r9)(k:Nat)(W:Wd):Prop:=
 e7 W gf 184 cs/\match k with
 |0=>Wk W0 W1 g a d vr b (Z J 0 0) (Z J 0 0) W
 |1=>∃h i f,Wk W0 W1 g a d (Z h (D (f:List RR)) i) b (Z J 0 0) (Z J 0 0) W/\cI W (Z h (D f) i) f/\f.map (·.p)=e
 |2=>∃u v,Wk W0 W1 g a d u b v (Z J 0 0) W/\B4 W 417 aR v (O5 (eZ ⟨a,d,e⟩))
 |3=>∃u v,Wk W0 W1 g a d u b v (Z J 0 0) W/\B4 W 417 aR v (Y1 (O5 (eZ ⟨a,d,e⟩)))
 |_=>∃u v j,Wk W0 W1 g a d u b v j W/\B4 W 141 gC j (aW (Y1 (O5 (eZ ⟨a,d,e⟩))))
def SC(W0 W1:Wd)(g gf:Nat)(vr b:Va)(cs:Array Va)(r:List Sy)(k:Nat)(W:Wd):Prop:=
 e7 W gf 184 cs/\match k with
 |0=>Wk W0 W1 g 0 0 vr b (Z J 0 0) (Z J 0 0) W
 |1=>∃v,Wk W0 W1 g 0 0 vr b v (Z J 0 0) W/\B4 W 417 aR v r
 |2=>∃v,Wk W0 W1 g 0 0 vr b v (Z J 0 0) W/\B4 W 417 aR v (Y1 r)
 |_=>∃v e,Wk W0 W1 g 0 0 vr b v e W/\B4 W 141 gC e (aW (Y1 r))
section
variable {W0 W1 w:Wd} {g gf a:Nat} {d:Int} {A:Option Ad} {c:Nat} {rs:List RR}
theorem a5W(H:gf≠g)(s:a<6)(n:eT ⟨a,d,rs.map (·.p)⟩)(m:Va)(r:∀W,Tv W0 WK W0 W->cI W (Z A (D rs) c) rs)
 (o:Wk W0 W1 g a d (Z A (D rs) c) m (Z J 0 0) (Z J 0 0) w) (t:e7 w gf 184 #[LJ 109 g,LJ 106 g]):
 Ca prog 104 #[K g,Z gf 2 2] w λe j=>∃v h,e=X (Tp #[h,I M 0])/\Wk W0 W1 g a d (Z A (D rs) c) m v h j/\B4 j 141 gC h (aW (O5 (eZ ⟨a,d,rs.map (·.p)⟩))):=by
 obtain⟨F,-⟩:=uK n;refine(xR g gf 2 2 (SA W0 W1 g gf a d (Z A (D rs) c) m _ (O5 (eZ ⟨a,d,rs.map (·.p)⟩))) w e6 ⟨t,o⟩ (λk x W f=> ?_) (λW f=> ?_)).mono ?_
 ·obtain⟨l,f⟩:=f;match k,x with
  |0,_=>exact⟨_,l.cell 0,Eo func109 g6 rfl,(XY f s n (r W f.t)).mono λe j⟨b,v,i,p,q⟩=>⟨b,q.blk l (.inr e6),v,i,p⟩⟩
  |1,_=>
   obtain⟨v,b,i⟩:=f
   exact⟨_,l.cell 1,Eo func106 g6 rfl,(iY b F i).mono λe j⟨z,u,B,C,E⟩=>⟨z,E.blk l (.inr e6),v,u,B,C⟩⟩
 obtain⟨-,v,h,b,-⟩:=f;exact⟨h,b.b.cell 5⟩;rintro e j⟨h,rfl,y,-,v,G,b,i⟩;rw[b.end_ y];exact⟨v,G,rfl,b,i⟩
theorem a5V(H:a<6)(s:eT ⟨a,d,rs.map (·.p)⟩)(t:Va)(G:∀W,Tv W0 WK W0 W->cI W (Z A (D rs) c) rs)
 (C:Wk W0 W1 g a d (Z A (D rs) c) t (Z J 0 0) (Z J 0 0) w) (L:e7 w gf 184 #[LJ 110 g,LJ 109 g,LJ 107 g,LJ 106 g]):
 Ca prog 104 #[K g,Z gf 4 4] w λe j=>∃u v l,e=X (Tp #[l,I M 0])/\Wk W0 W1 g a d u t v l j/\B4 j 141 gC l (aW (Y1 (O5 (eZ (W9 ⟨a,d,rs.map (·.p)⟩))))):=by
 obtain⟨-,q⟩:=uK s;have z:eT ⟨a,d,m3 d rs⟩:=UL s;replace q:bZ (O5 (eZ ⟨a,d,m3 d rs⟩)):=q;refine(xR g gf 4 4 (SB W0 W1 g gf a d (Z A (D rs) c) t _ (m3 d rs)) w e6 ⟨L,C⟩ (λk N W h=> ?_) (λW h=> ?_)).mono ?_
 ·obtain⟨i,h⟩:=h;match k,N with
  |0,_=>exact⟨_,i.cell 0,Eo func110 g6 rfl,(XX h s (G W h.t)).mono λe j⟨b,x,y,B,f,r,E,F⟩=>⟨b,F.blk i (.inr e6),x,y,B,f,r,E⟩⟩
  |1,_=>
   obtain⟨x,y,B,b,f,r⟩:=h
   rw[<-r]at z⊢
   exact⟨_,i.cell 1,Eo func109 g6 rfl,(XY b H z f).mono λe j⟨m,v,n,o,p⟩=>⟨m,p.blk i (.inr e6),_,v,n,o⟩⟩
  |2,_=>
   obtain⟨u,v,b,f⟩:=h
   exact⟨_,i.cell 2,Eo func107 g6 rfl,(CN b q f).mono λe j⟨m,v',n,o,p⟩=>⟨m,p.blk i (.inr e6),u,v',n,o⟩⟩
  |3,_=>
   obtain⟨u,v,b,f⟩:=h
   exact⟨_,i.cell 3,Eo func106 g6 rfl,(iY b q.opt f).mono λe j⟨m,v',n,o,p⟩=>⟨m,p.blk i (.inr e6),u,v,v',n,o⟩⟩
 obtain⟨-,u,v,l,b,-⟩:=h;exact⟨l,b.b.cell 5⟩;rintro e j⟨l,rfl,P,-,u,v,Q,b,f⟩;rw[b.end_ P];exact⟨u,v,Q,rfl,b,f⟩
end
section
variable {W0 W1 w:Wd} {g gf:Nat} {A:Option Ad} {c:Nat} {ar:List Int} {vr:Va}
theorem a5U(n:0<D ar)(y:D ar<=1000)(s:∀x∈ar,0<=x/\x<6)(q:∀W,Tv W0 WK W0 W->i5 W A (l8 M ar))
 (m:Wk W0 W1 g 0 0 vr (Z A (D ar) c) (Z J 0 0) (Z J 0 0) w) (r:e7 w gf 184 #[LJ 105 g,LJ 106 g]):
 Ca prog 104 #[K g,Z gf 2 2] w λe j=>∃v h,e=X (Tp #[h,I M 0])/\Wk W0 W1 g 0 0 vr (Z A (D ar) c) v h j/\B4 j 141 gC h (aW (O5 (xC (R3 ar)))):=by
 have G:=a2y (BG ar);refine(xR g gf 2 2 (SA W0 W1 g gf 0 0 vr (Z A (D ar) c) _ (O5 (xC (R3 ar)))) w e6 ⟨r,m⟩ (λk t W f=> ?_) (λW f=> ?_)).mono ?_
 ·obtain⟨l,f⟩:=f;match k,t with
  |0,_=>exact⟨_,l.cell 0,Eo func105 g6 rfl,(lZ f n y s (q W f.t)).mono λe j⟨b,v,i,o,p⟩=>⟨b,p.blk l (.inr e6),v,i,o⟩⟩
  |1,_=>
   obtain⟨v,b,i⟩:=f
   exact⟨_,l.cell 1,Eo func106 g6 rfl,(iY b G i).mono λe j⟨B,u,C,E,F⟩=>⟨B,F.blk l (.inr e6),v,u,C,E⟩⟩
 obtain⟨-,v,h,b,-⟩:=f;exact⟨h,b.b.cell 5⟩;rintro e j⟨h,rfl,z,-,v,H,b,i⟩;rw[b.end_ z];exact⟨v,H,rfl,b,i⟩
theorem a5T(s:0<D ar)(F:D ar<=1000)(C:∀x∈ar,0<=x/\x<6)(z:∀W,Tv W0 WK W0 W->i5 W A (l8 M ar))
 (r:Wk W0 W1 g 0 0 vr (Z A (D ar) c) (Z J 0 0) (Z J 0 0) w) (B:e7 w gf 184 #[LJ 105 g,LJ 107 g,LJ 106 g]):
 Ca prog 104 #[K g,Z gf 3 3] w λe l=>∃v j,e=X (Tp #[j,I M 0])/\Wk W0 W1 g 0 0 vr (Z A (D ar) c) v j l/\B4 l 141 gC j (aW (Y1 (O5 (xC (R3 ar))))):=by
 have q:=a2y (BG ar);refine(xR g gf 3 3 (SC W0 W1 g gf vr (Z A (D ar) c) _ (O5 (xC (R3 ar)))) w e6 ⟨B,r⟩ (λk E W f=> ?_) (λW f=> ?_)).mono ?_
 ·obtain⟨i,f⟩:=f;match k,E with
  |0,_=>exact⟨_,i.cell 0,Eo func105 g6 rfl,(lZ f s F C (z W f.t)).mono λe l⟨b,v,h,t,y⟩=>⟨b,y.blk i (.inr e6),v,h,t⟩⟩
  |1,_=>
   obtain⟨v,b,h⟩:=f
   exact⟨_,i.cell 1,Eo func107 g6 rfl,(CN b q h).mono λe l⟨m,u,n,o,p⟩=>⟨m,p.blk i (.inr e6),u,n,o⟩⟩
  |2,_=>
   obtain⟨v,b,h⟩:=f
   exact⟨_,i.cell 2,Eo func106 g6 rfl,(iY b q.opt h).mono λe l⟨m,u,n,o,p⟩=>⟨m,p.blk i (.inr e6),v,u,n,o⟩⟩
 obtain⟨-,v,j,b,-⟩:=f;exact⟨j,b.b.cell 5⟩;rintro e l⟨j,rfl,G,-,v,H,b,h⟩;rw[b.end_ G];exact⟨v,H,rfl,b,h⟩
end
def CgR(w:Wd)(P:List B7)(e:Ending)(b:Wd):Prop:=∃v,e=X (Tp #[v,I M 0])/\B4 b 141 gC v P/\a9 w b
end
theorem Wk.new{b w:Wd}{g:Nat}{a c:Int}{e d:Va}(i:a9 b w)(f:e7 w g 182 #[I M a,e,I V c,d,Z J 0 0,Z J 0 0])(h:b<=g):Wk b w g a c e d (Z J 0 0) (Z J 0 0) w:=
 ⟨f,.f i,h,j4 (a9.refl w) _⟩
theorem Wk.more{c d w:Wd}{g b:Nat}{a l f h:Int}{s p q r j i:Va}(k:Wk c d g a l s p q r w)(m:e7 d b 182 #[I M f,j,I V h,i,Z J 0 0,Z J 0 0])(o:g≠b)(n:c<=b):Wk c w b f h j i (Z J 0 0) (Z J 0 0) w:=
 ⟨m.grown k.f (λe=>o (by injection e with e;exact e.symm)),k.t,n,j4 (a9.refl w) _⟩
theorem PK(a:Nat)(d:Int)(f:p1)(c:Nat)(rs:List RR)(l:Bool)(w:Wd)(am:a<6)(Q:eT ⟨a,d,rs.map (·.p)⟩)(al:cI w (Z f (D rs) c) rs):
 Ca prog 55 #[Ag #[I M a,Z f (D rs) c,I V d],O l] w (CgR w (mB l (O5 (eZ ⟨a,d,rs.map (·.p)⟩)) (O5 (eZ (W9 ⟨a,d,rs.map (·.p)⟩))))):=by
 have au:=(a9.refl w).alloc (U #[I M a,Z f (D rs) c,I V d] 114);have u:=e7.new w 114 #[I M a,Z f (D rs) c,I V d];have ac:=a6 (λW(t:Tv w WK w W)=>al.tv t e6 e6);obtain⟨h,G⟩:∃P,P=aW (O5 (eZ ⟨a,d,rs.map (·.p)⟩)):=⟨_,rfl⟩;obtain⟨i,H⟩:∃P,P=aW (Y1 (O5 (eZ (W9 ⟨a,d,rs.map (·.p)⟩)))):=⟨_,rfl⟩;have an:mB l (O5 (eZ ⟨a,d,rs.map (·.p)⟩)) (O5 (eZ (W9 ⟨a,d,rs.map (·.p)⟩)))=if l then(if D h<D i then h else i)else h:=by rw[G,H];rfl
 obtain⟨R,L⟩:∃R,R=if l then(if D h<D i then h else i)else h:=⟨_,rfl⟩
 rw[an,<-L];have z:=a6 L;clear L;obtain⟨m,n⟩:=j0 (λE W g gf bc(F:Wk w E g a d (Z f (D rs) c) (Z J 0 0) (Z J 0 0) (Z J 0 0) W) N=>a5W (gf:=gf) bc am Q _ ac F N) (λE W g gf(F:Wk w E g a d (Z f (D rs) c) (Z J 0 0) (Z J 0 0) (Z J 0 0) W) N=>a5V (gf:=gf) am Q _ ac F N);rw[<-G]at m;rw[<-H]at n;clear an G H Q al;go_in;obtain⟨bf,bg,bh⟩:=u.c3;obtain⟨af,o⟩:=j0 au u;clear au u;dsimp only[LJ]at m n;have ad:=a6 (show∀C,e7 ((((w.alloc (U #[I M a,Z f (D rs) c,I V d] 114)).alloc (U C 182)).alloc (U C 182)).drew) (w+1) 182 C/\e7 ((((w.alloc (U #[I M a,Z f (D rs) c,I V d] 114)).alloc (U C 182)).alloc (U C 182)).drew) (w+1+1) 182 C/\a9 w ((((w.alloc (U #[I M a,Z f (D rs) c,I V d] 114)).alloc (U C 182)).alloc (U C 182)).drew)from λC=>⟨((e7.b i3).alloc _).drew,(e7.b i3).drew,((af.alloc _).alloc _).drew⟩);go_upto_region 1 with fail;go_cut [6,7] (λbi bj S=>∃g j,bi=K (So ⟨g,0,J⟩)/\bj=K (So ⟨j,0,J⟩)/\g≠j/\e7 S g 182 #[I M a,Z f (D rs) c,I V d,Z J 0 0,Z J 0 0,Z J 0 0]/\e7 S j 182 #[I M a,Z f (D rs) c,I V d,Z J 0 0,Z J 0 0,Z J 0 0]/\w.heap.size<=g/\w.heap.size<=j/\a9 w S)
 ·go_region
  all_goals
   go_wp2;go_meet;obtain⟨ap,aq,ar⟩:=ad.O #[I M a,Z f (D rs) c,I V d,Z J 0 0,Z J 0 0,Z J 0 0];first
    |exact⟨_,_,rfl,rfl,a8,ap,aq,a8,a8,ar⟩
    |exact⟨_,_,rfl,rfl,a8,aq,ap,a8,a8,ar⟩
 obtain⟨g,j,rfl,rfl,ao,x,T,bd,be,aj⟩:=hcut;obtain⟨aa,y⟩:=j0 (m wc _ g wc (by have:=x.lt;omega) ((Wk.new aj x bd).h ((a9.refl wc).alloc _)) (e7.new wc _ _)) T;clear m ad bf bg bh af o x T aj;go_wp2_with fail;apply aa.mono;rintro e s⟨v,bk,rfl,p,B⟩;cases l;·go_wp2;go_ret2;exact⟨bk,rfl,by rw[z.O];exact B,p.t.b (a9.refl w) (a7 _)⟩
 have ab:=a6 (y.grown p.f (λe=>ao (by injection e with e;exact e.symm)));obtain⟨o,ae⟩:=j0 (n s _ j s ((p.more y ao be).h ((a9.refl s).alloc _)) (e7.new s _ _)) B;obtain⟨av,ba,rfl,-,-⟩:=B;clear n y aa p;go_wp2_with fail;apply o.mono;rintro e bl⟨bm,bn,bo,rfl,A,ai⟩;have ah:=ae.kept λb cs k=>k.grown A.f (λe=>by injection e with e;exact k.ne ab e6 e)
 have ak:=A.t.b (a9.refl w) (a7 _);obtain⟨az,ay⟩:=j0 ai ah;obtain⟨aw,bb,rfl,-,-⟩:=ai;obtain⟨ax,ag⟩:=j0 (uT av aw (D h) (D i) ba bb bl) ak;clear A ah ak o ab ae;go_wp2_with fail;apply ax.mono;rintro e bp⟨rfl,rfl⟩;by_cases r:D h<D i;·simp only[if_pos r];go_wp2;go_ret2;exact⟨_,rfl,by have q:=z.O;rw[if_pos trivial,if_pos r]at q;rw[q];exact ay.O,ag.O⟩
 simp only[if_neg r];go_wp2;go_ret2;exact⟨_,rfl,by have q:=z.O;rw[if_pos trivial,if_neg r]at q;rw[q];exact az.O,ag.O⟩
theorem a1K(a:p1)(c:Nat)(ar:o5)(h:Bool)(w:Wd)(ae:0<D ar)(ah:D ar<=1000)(E:∀x∈ar,0<=x/\x<6)(af:i5 w a (l8 M ar)):
 Ca prog 54 #[Z a (D ar) c,O h] w (CgR w (mB h (O5 (xC (R3 ar))) (O5 (xC (R3 ar))))):=by
 have Q:=a6 (λW(t:Tv w WK w W)=>af.h (t.b (a9.refl w) (a7 _)));obtain⟨d,z⟩:∃P,P=aW (O5 (xC (R3 ar))):=⟨_,rfl⟩;obtain⟨f,A⟩:∃P,P=aW (Y1 (O5 (xC (R3 ar)))):=⟨_,rfl⟩;have ag:mB h (O5 (xC (R3 ar))) (O5 (xC (R3 ar)))=if h then(if D d<D f then d else f)else d:=by rw[z,A];rfl
 obtain⟨R,B⟩:∃R,R=if h then(if D d<D f then d else f)else d:=⟨_,rfl⟩
 rw[ag,<-B];have p:=a6 B;clear B;obtain⟨i,j⟩:=j0 (λu W g gf(y:Wk w u g 0 0 (Z J 0 0) (Z a (D ar) c) (Z J 0 0) (Z J 0 0) W) C=>a5U (gf:=gf) ae ah E Q y C) (λu W g gf(y:Wk w u g 0 0 (Z J 0 0) (Z a (D ar) c) (Z J 0 0) (Z J 0 0) W) C=>a5T (gf:=gf) ae ah E Q y C);rw[<-z]at i;rw[<-A]at j;dsimp only[LJ]at i j;clear ag z A af E;go_in;have ac:=((a9.refl w).alloc (U #[I M 0,Z J 0 0,I V 0,Z a (D ar) c,Z J 0 0,Z J 0 0] 182)).alloc (U #[I M 0,Z J 0 0,I V 0,Z a (D ar) c,Z J 0 0,Z J 0 0] 182);have F:=(e7.new w 182 #[I M 0,Z J 0 0,I V 0,Z a (D ar) c,Z J 0 0,Z J 0 0]).alloc (U #[I M 0,Z J 0 0,I V 0,Z a (D ar) c,Z J 0 0,Z J 0 0] 182);have G:e7 ((w.alloc (U #[I M 0,Z J 0 0,I V 0,Z a (D ar) c,Z J 0 0,Z J 0 0] 182)).alloc (U #[I M 0,Z J 0 0,I V 0,Z a (D ar) c,Z J 0 0,Z J 0 0] 182)) (w+1) 182 #[I M 0,Z J 0 0,I V 0,Z a (D ar) c,Z J 0 0,Z J 0 0]:=e7.b i3;have ai:((w.alloc (U #[I M 0,Z J 0 0,I V 0,Z a (D ar) c,Z J 0 0,Z J 0 0] 182)).alloc (U #[I M 0,Z J 0 0,I V 0,Z a (D ar) c,Z J 0 0,Z J 0 0] 182)).heap.size=w.heap.size+2:=i3;obtain⟨H,o⟩:=j0 (i _ _ w (w+2) ((Wk.new ac F (a7 _)).h ((a9.refl _).alloc _)) (e7.b ai.symm)) G;clear i ac F G ai;go_wp2_with fail;apply H.mono;rintro e n⟨v,aq,rfl,l,s⟩;cases h;·go_wp2;go_ret2;exact⟨aq,rfl,by rw[p.O];exact s,l.t.b (a9.refl w) (a7 _)⟩
 have N:=a6 (o.grown l.f (λe=>by injection e with e;omega));obtain⟨L,S⟩:=j0 (j n _ (w+1) n ((l.more o a8 a8).h ((a9.refl n).alloc _)) (e7.new n _ _)) s;obtain⟨aj,ao,rfl,-,-⟩:=s;clear j o H l;go_wp2_with fail;apply L.mono;rintro e au⟨av,aw,rfl,r,ab⟩;have aa:=S.kept λb cs k=>k.grown r.f (λe=>by injection e with e;exact k.ne N e6 e)
 have ad:=r.t.b (a9.refl w) (a7 _);obtain⟨an,am⟩:=j0 ab aa;obtain⟨ak,ap,rfl,-,-⟩:=ab;obtain⟨al,T⟩:=j0 (uT aj ak (D d) (D f) ao ap au) ad;clear r aa ad L N S;go_wp2_with fail;apply al.mono;rintro e ax⟨rfl,rfl⟩;by_cases m:D d<D f;·simp only[if_pos m];go_wp2;go_ret2;exact⟨_,rfl,by have q:=p.O;rw[if_pos trivial,if_pos m]at q;rw[q];exact am.O,T.O⟩
 simp only[if_neg m];go_wp2;go_ret2;exact⟨_,rfl,by have q:=p.O;rw[if_pos trivial,if_neg m]at q;rw[q];exact an.O,T.O⟩
section
attribute [local go_sem] Oper.semAt_some
theorem pC{c:Func}{p q:Tmp}{d e:Ti}{P:Pg}(h:c.results= #[.cell p d,.cell q e])(tmps:Array Va)(w:Wd)(a b:Nat)(f g:Va)
 (i:tmps.getD p Un=K a) (k:tmps.getD q Un=K b) (m:(loadVar d ⟨a,0,J⟩).run P w= .ok f w) (n:(loadVar e ⟨b,0,J⟩).run P w= .ok g w):
 (results c tmps).run P w= .ok (Tp #[f,g]) w:=by
 have j:tmps[p]?.getD Un=K a:=by simpa using i
 have l:tmps[q]?.getD Un=K b:=by simpa using k
 simp[results,h,j,l,asAddr,m,n]
theorem VO(w:Wd)(g:Nat)(v:Va)(h:w.cell? ⟨g,0,J⟩=So v):(loadVar 47 ⟨g,0,J⟩).run prog w= .ok v w:=by simp[loadVar,go_sem,h]
theorem AX(w:Wd)(g:Nat)(v:Va)(h:w.cell? ⟨g,0,J⟩=So v):(loadVar 37 ⟨g,0,J⟩).run prog w= .ok v w:=by simp[loadVar,go_sem,isAgg37,h]
theorem DU(p:j2)(a b c d:Va)(f:Bool)(w:Wd)(B:p.small)(z:0<=p.fm/\0<=p.lm)(v:R7 w p a b c d)(x:F0 p=Bf):
 Ca prog 31 #[Ag (i7 p a b c d),O f] w λe C=>e=X (Tp #[Z J 0 0,I M 2])/\a9 w C:=by
 have r:=a6 (λt(A:a9 w t)=>ET p a b c d t B z (v.h A));rw[x]at r;have y:=((((a9.refl w).alloc (U (i7 p a b c d) 36)).alloc (U #[O f] 4)).alloc (U #[Z J 0 0] 37)).alloc (U #[I M 0] 47);have j:=(((e7.new w 36 (i7 p a b c d)).alloc (U #[O f] 4)).alloc (U #[Z J 0 0] 37)).alloc (U #[I M 0] 47);have l:e7 ((((w.alloc (U (i7 p a b c d) 36)).alloc (U #[O f] 4)).alloc (U #[Z J 0 0] 37)).alloc (U #[I M 0] 47)) (w+1+1) 37 #[Z J 0 0]:=(e7.b i3).alloc _;have m:e7 ((((w.alloc (U (i7 p a b c d) 36)).alloc (U #[O f] 4)).alloc (U #[Z J 0 0] 37)).alloc (U #[I M 0] 47)) (w+1+1+1) 47 #[I M 0]:=e7.b i3;obtain⟨s,q⟩:=j0 y (And.intro l m);clear v x y l m;unfold i7 at*;obtain⟨G,H,Q,R,S,T,W,aa,ab⟩:=(j).c9;obtain⟨ac,L,N,P⟩:=(j).d4 9 10 11 12;clear j;go_in;go_wp2_with fail;refine l4 (r _ s.O) λad i=>?_;have g:=q.1.h i;have h:=q.2.h i;have E:=g.frozen 0;have F:=h.frozen 0;have k2:=g.cell 0;have k3:=h.cell 0;have n:=(g.f 0 (Z J 0 0)).far (p:=⟨w+1+1+1,0,J⟩) (by show w+1+1≠w.heap.size+1+1+1;omega) (I M 2);have o:=(h.far (p:=⟨w+1+1,0,J⟩) (by show w+1+1+1≠w.heap.size+1+1;omega) (Z J 0 0)).f 0 (I M 2);have u:=((s.trans i).set (p:=⟨w+1+1,0,J⟩) (by show w<=w.heap.size+1+1;omega) (Z J 0 0)).set (p:=⟨w+1+1+1,0,J⟩) (by show w<=w.heap.size+1+1+1;omega) (I M 2);have k:=a6 (And.intro n (And.intro o u));clear g h n o u i;go_wp2_with fail;exact Bp (pC rfl _ _ _ _ _ _ rfl rfl (AX _ _ _ (k.1.cell 0)) (VO _ _ _ (k.2.1.cell 0))) rfl ⟨rfl,k.2.2⟩
end
section
attribute [local go_sem] Oper.semAt_some
theorem a2o:kZ prog 37 76 (Ag #[I M 0,I M 0,Z J 0 0]) 3 40:=⟨underlying37,g6,rfl,e6,e6⟩
def WBd:List Ti:=[37,76]
def pgV(a:Bool)(p:j2)(x:jF):Q5:=⟨x.d,x.a,WI a p x⟩
structure BdI(w:Wd)(zo base:Nat)(opt:Bool)(p:j2)(cs:Array Va)(z:Nat)(pre:List PX)(W:Wd):Prop where
 ou:∃v xs,e7 W zo 37 #[v]/\c7 W base 76 iA v xs/\(∀x∈xs,B4 W 141 gC x.v x.p.ins)/\xs.map (·.p)=(pre.map PX.p).map (pgV opt p)
 b0:e7 W w 36 cs
 b1:e7 W (w+1) 4 #[O opt]
 b2:e7 W (w+1+1) 37 #[Z J 0 0]
 b3:e7 W (w+1+1+1) 47 #[I M 0]
 x:a9 w W
 z:z<=W
theorem a2b(w:Wd)(B base:Nat)(q:Bool)(p:j2)(cs:Array Va)(z:Nat)(o:w<=z):OwnFrom z (BdI w B base q p cs z):=λpre W W' row⟨⟨v,xs,h,i,j,l⟩,s,u,y,A,g,m⟩ d f=>
 have a:=λ{b:Nat}{t:Ti}{c:Array Va}(k:e7 W b t c)=>i2 k d λr e=>(f r e).2
 ⟨⟨v,xs,a h,i.r d λr e=>(f r e).2,λx n=>(j x n).kept λb cs k=>a k,l⟩,a s,a u,a y,a A,Below.grown g d g.size (λr e=>b6 o (f r e).1),b6 m d.size⟩
def bdF(w b:Nat)(cs:Array Va)(a:Bool)(l:Va)(g:Nat)(x:PX):Act:=
 {tmps:= #[Ag cs,O a,K w,K (w+1:Nat),K (w+1+1:Nat),K (w+1+1+1:Nat),K b,K g,Un,Un,Ag cs,O Bt,O Bf,Ag cs,l,x.v,Un,Un,Un,Un,Un,Un,Un,Un,Un,Un,Un,Un,Un,Un,Un,Un,Un,Un,Un,Un,Un,Un,Un,Un,Un,Un,Un,Un,Un],defers:=[]}
def bdA(w d:Nat)(cs:Array Va)(b:Bool)(l:Va)(x:PX)(c:Nat)(a:Act)(W:Wd):Prop:=∃g,c<=g/\a=bdF w d cs b l g x/\e7 W g 116 #[I M x.d,I M x.a,I M x.fa,Z x.A (D x.rs) x.c,I V x.df]
theorem cI.put{W:Wd}{v:Va}{rs:List RR}{l:Nat}{o d:Obj}(a:cI W v rs)(g:W.heap[l]? =So o)(f:o.isCells=Bf):cI (W.putObj l d) v rs:=
 have k:=λ{b:Nat}{t:Ti}{c:Array Va}(q:e7 W b t c)=>i2 q (grownBy_putObj' W l d) (λr e=>by cases e;exact⟨o,g,f⟩)
 ⟨a.r.kept λb cs q=>k q,λr h=>(a.t r h).kept λb cs q=>k q⟩
theorem XZ(p:j2)(Q u y z:Va)(h:Bool)(w:Wd)(dt:p.small)(dm:0<=p.fm/\0<=p.lm)(dq:∀x∈p.ar,0<=x/\x<6)(fq:D p.ar<=6)(cd:R7 w p Q u y z)(cf:F0 p=Bt):
 Ci .wide 3 prog 31 #[Ag (i7 p Q u y z),O h] w λe cy=>∃v,e=X (Tp #[v,I M 0])/\eV cy v (bN h p)/\a9 w cy:=by
 have dg:=a6 (λdk(ep:a9 w dk)=>ET p Q u y z dk dt dm (cd.h ep));rw[cf]at dg;have dw:=((((a9.refl w).alloc (U (i7 p Q u y z) 36)).alloc (U #[O h] 4)).alloc (U #[Z J 0 0] 37)).alloc (U #[I M 0] 47);have be:=(((e7.new w 36 (i7 p Q u y z)).alloc (U #[O h] 4)).alloc (U #[Z J 0 0] 37)).alloc (U #[I M 0] 47);have cz:e7 ((((w.alloc (U (i7 p Q u y z) 36)).alloc (U #[O h] 4)).alloc (U #[Z J 0 0] 37)).alloc (U #[I M 0] 47)) (w+1) 4 #[O h]:=((e7.b i3).alloc _).alloc _;have da:e7 ((((w.alloc (U (i7 p Q u y z) 36)).alloc (U #[O h] 4)).alloc (U #[Z J 0 0] 37)).alloc (U #[I M 0] 47)) (w+1+1) 37 #[Z J 0 0]:=(e7.b i3).alloc _;have db:e7 ((((w.alloc (U (i7 p Q u y z) 36)).alloc (U #[O h] 4)).alloc (U #[Z J 0 0] 37)).alloc (U #[I M 0] 47)) (w+1+1+1) 47 #[I M 0]:=e7.b i3;obtain⟨dj,aq,dh,eb⟩:=F6 dw (And.intro be (And.intro cz (And.intro da db))) cd dq;clear cd dw cz da db dq;obtain⟨Aa,N,ev,cc,-⟩:=dh.a;have ec:=a6 (show i5 w Aa (l8 M p.ar) by rw[s2 M B6 (λ_=>rfl)]at cc;exact cc);clear cc;subst ev;unfold i7 at*;obtain⟨ci,cj,co,cp,cq,cr,ct,cu,cv⟩:=(be).c9;obtain⟨cw,ck,cm,cn⟩:=(be).d4 9 10 11 12;clear be;refine Cm func31 rfl trivial ?_ rfl;simp only[ntmps31,uE,Nat.reduceAdd,Nat.reduceSub];gi_wp2_with(first
  |(refine⟨trivial,?_⟩;gi_at_call 52;refine C0 ((Cw (n:=2)).2 (dg _ dj.O)) λd R=>?_;clear ci cj co cp cq cr ct cu cv cw ck cm cn;have m:=(aq.1.h R).alloc (U #[Z J 0 0] 37);have ci:=m.cell 0;have cj:=m.cell 1;have co:=m.cell 2;have cp:=m.cell 3;have cq:=m.cell 4;have cr:=m.cell 5;have ct:=m.cell 6;have cu:=m.cell 7;have cv:=m.cell 8;have cw:=m.cell 9;have ck:=m.cell 10;have cm:=m.cell 11;have cn:=m.cell 12;clear m)
  |(refine⟨trivial,?_⟩;gi_at_call 53;apply(TQ p (Z Aa (D p.ar) N) u y z _).mono;unfold i7;rintro e cy⟨rfl,rfl⟩))
 have dn:(#[Z Aa (D p.ar) N,I U8 p.fm,u,I V p.dy,I U8 p.lm,y,z,I U8 p.am,I U6 p.sp,O p.we,O p.pe,O p.rt,O p.np]:Array Va)[0]? =So (Z Aa (D p.ar) N):=rfl;have er:i7 p (Z Aa (D p.ar) N) u y z= #[Z Aa (D p.ar) N,I U8 p.fm,u,I V p.dy,I U8 p.lm,y,z,I U8 p.am,I U6 p.sp,O p.we,O p.pe,O p.rt,O p.np]:=rfl;clear ci cj co cp cq cr ct cu cv cw ck cm cn;generalize(#[Z Aa (D p.ar) N,I U8 p.fm,u,I V p.dy,I U8 p.lm,y,z,I U8 p.am,I U6 p.sp,O p.we,O p.pe,O p.rt,O p.np]:Array Va)=cs at*;have ft:w+4<=d.heap.size:=by have:=R.size;simpa using this
 have dc:=((aq.1.h R).alloc (U #[Z J 0 0] 37)).alloc (U cs 36);have dd:=((aq.2.1.h R).alloc (U #[Z J 0 0] 37)).alloc (U cs 36);have de:=((aq.2.2.1.h R).alloc (U #[Z J 0 0] 37)).alloc (U cs 36);have df:=((aq.2.2.2.h R).alloc (U #[Z J 0 0] 37)).alloc (U cs 36);have dl:=(e7.new d 37 #[Z J 0 0]).alloc (U cs 36);have bv:e7 ((d.alloc (U #[Z J 0 0] 37)).alloc (U cs 36)) (d+1) 36 cs:=e7.b i3;have bu:=((dj.trans R).alloc (U #[Z J 0 0] 37)).alloc (U cs 36);have fv:((d.alloc (U #[Z J 0 0] 37)).alloc (U cs 36)).heap.size=d.heap.size+2:=i3;generalize(d.alloc (U #[Z J 0 0] 37)).alloc (U cs 36)=w0 at*;rw[<-er]at bv;have dz:=a6 dn;clear dn R;refine A4 rfl e6 (gf:=101) (lb:= #[K (d+1:Nat)]) rfl trivial (Eo func101 g6 rfl)
  (zZ (d+1) p (Z Aa (D p.ar) N) u y z WBd e6 e6 dt dm cf w w0 dh bu bv)
  (λac k=>ac.trans k)
  (λW l o ag ay ac al ew=>⟨λq=>Below.trans q (belowK_b (w:=w0) a8 W l o ag ay ac al ew),λb t cs k bm=>i2 k (grownBy_putObj' W l ag) (λr e=>by cases e;exact⟨o,ac,al⟩)⟩) (Below.refl _ _) (λ_=>rfl)
  (λx W l o ag ca ay al=>⟨ca.1.put ay al,ca.2⟩)
  (BdI w d d h p cs w0) (a2b _ _ _ _ _ _ _ a8)
  ⟨⟨_,[],dl,c7.nil _ _ _ _,λx E=>(by cases E),rfl⟩,dc,dd,de,df,bu,a7 _⟩
  (bdA w d cs h (Fc (.func 101) #[] #[K (d+1:Nat)]))
  (λx ga ed W l o ag⟨g,el,em,en⟩ ay al=>⟨g,el,em,i2 en (grownBy_putObj' W l ag) (λr e=>by cases e;exact⟨o,ay,al⟩)⟩)
  (λx W W' ac e=>⟨ac.1.h e,ac.2⟩) (λW W' e=>⟨λq=>q.trans e,λb t cs k _=>k.h e⟩) ?Aa ?Ab ?Ac
 case Aa=>rintro l x W fg ca cb;unfold PX.v;gi_wp2;exact cb _ _ ((a9.refl W).alloc _) ⟨W,a7 _,rfl,e7.new _ _ _⟩
 case Ab=>
  rintro l pre x fh W ed-⟨⟨v,xs,af,ae,am,ad⟩,an,ao,H,L,E,az⟩⟨bz,et⟩⟨g,fw,rfl,bl⟩ eo fr;have eu:=TP p;have fu:D xs=D pre:=by have:=congrArg List.length ad;simpa using this
  have ee:=af.cell 0;obtain⟨dv,fx,fy,fz⟩:=bl.d4 0 2 3 4;have fi:=ao.cell 0;have fj:=(an.cell 0).trans dz.O;have bh:=a6 bl;obtain⟨P,ax⟩:∃P,P=WI h p x.p:=⟨_,rfl⟩;have di:=a6 (show(([x].map PX.p).map (pgV h p))=[⟨x.d,x.a,P⟩] by rw[ax];rfl);obtain⟨dx,du⟩:∃dx,dx=x.v:=⟨_,rfl⟩;have fs:=E.size;have dr:D xs+1<=1000000:=a8;have fn:d<=W.heap.size:=a8;clear dl bv dc dd de df bu eo eu;rcases et with⟨dp,ce,ek⟩|⟨fo,fp,ce,es,ds⟩
  ·have ar:=a6 (a1K Aa N p.ar h W ek a8 eb (ec.h E));rw[show mB h (O5 (xC (R3 p.ar))) (O5 (xC (R3 p.ar)))=P by rw[ax];unfold WI;rw[if_pos (show x.p.d=0 from dp)]]at ar;have ei:((x.d:Int)==0)=Bt:=by simp[dp]
   generalize(x.d:Int)=xd at*;generalize(x.a:Int)=xa at*;clear ax bz du;obtain⟨T,aa,br,G,bq,bp⟩:=dK ae af am (And.intro an (And.intro ao (And.intro H L))) ad E;have bt:=a6 az;clear ae af am an ao H L ad E az bl;unfold bdF;gi_wp2_with(first
    |(refine⟨trivial,?_⟩;gi_at_call 54;refine(CallsIn.inRound l ((Cw (n:=0)).2 ar.O)).mono ?_;rintro e ai⟨fd,rfl,av,C⟩;have bs:=a6 av;obtain⟨ap,aw,rfl,-,-⟩:=av;have B:=a6 C;have dv:=(bh.h C).cell 0;have ey:=(bh.h C).cell 1;have ef:=(aa.h C).cell 0;clear C)
    |(gi_at_builtin;go_loud (refine a2F rfl (Tm 35) (Tm 42) 37 76 rfl a2o d v xs rfl (T.h (B.alloc _)) ai 1 1 [⟨⟨xd,xa,P⟩,ap,aw⟩] rfl rfl (cF rfl rfl) dr (by have:=B.size;simp;omega) ?_;intro fe bc ah ab k7 cg A;obtain⟨j,ch,s,rfl⟩:=ah.f;have F:=(aa.h (B.alloc (U #[I M xd,I M xa,Z ap (D P) aw] 76))).grown ab (λe=>T.ne aa e6 e.symm);have ej:=F.frozen 0;have eh:bc.cell? ⟨d,0,J⟩=So v:=F.cell 0;have S:=a6 F;have au:=a6 ah;have bo:=a6 ab;clear F ah ab k7 cg)))
   have ba:Tv d WBd ai (bc.setCell ⟨d,0,J⟩ (Z j ch s)):=((Tv.f ((a9.refl ai).alloc _)).trans (.ofOwn (T.h (B.alloc _)) bo (a7 _) e6)).trans (.r S (a7 _) e6 0 _);have f:=(Tv.f B.O).trans ba;have bd:=f.b bp a8;refine⟨f.from,⟨λ_=>bd,λb t cs k bm=>f.blk k (.inr bm)⟩,⟨⟨_,_,S.f 0 _,au.kept (c8 _ d 0 _) (.inr (au.ne S e6)),λaj i=> ?_,?_⟩,f.blk G.1 (.inl a8),f.blk G.2.1 (.inl a8),f.blk G.2.2.1 (.inl a8),f.blk G.2.2.2 (.inl a8),bd,b6 bt f.size⟩⟩;rcases List.mem_append.1 i with i|i
   exact(br aj i).tv f e6;rw[List.mem_singleton.1 i];exact bs.tv ba e6;rw[List.map_append,List.map_append,List.map_append,bq.O,di.O];rfl
  obtain⟨bw,a,fa,bx,dy,eg,cx⟩:=x;dsimp only[PX.p]at*;subst es;have ar:=a6 (PK fa bx dy eg cx h W ce (NK cf ce ds) bz);rw[show mB h (O5 (eZ ⟨fa,bx,cx.map (·.p)⟩)) (O5 (eZ (W9 ⟨fa,bx,cx.map (·.p)⟩)))=P by rw[ax];unfold WI;rw[if_neg (a8:¬bw=0)]]at ar;have ei:((bw:Int)==0)=Bf:=by simp;omega
  generalize(bw:Int)=xd at*;generalize(fa:Int)=xa at*;clear ax bz du ds;obtain⟨T,aa,br,G,bq,bp⟩:=dK ae af am (And.intro an (And.intro ao (And.intro H L))) ad E;have bt:=a6 az;clear ae af am an ao H L ad E az bl;unfold bdF;gi_wp2_with(first
   |(refine⟨trivial,?_⟩;gi_at_call 55;refine(CallsIn.inRound l ((Cw (n:=0)).2 ar.O)).mono ?_;rintro e ai⟨fd,rfl,av,C⟩;have bs:=a6 av;obtain⟨ap,aw,rfl,-,-⟩:=av;have B:=a6 C;have dv:=(bh.h C).cell 0;have ey:=(bh.h C).cell 1;have ef:=(aa.h C).cell 0;clear C)
   |(gi_at_builtin;go_loud (refine a2F rfl (Tm 35) (Tm 42) 37 76 rfl a2o d v xs rfl (T.h (B.alloc _)) ai 1 1 [⟨⟨xd,xa,P⟩,ap,aw⟩] rfl rfl (cF rfl rfl) dr (by have:=B.size;simp;omega) ?_;intro fe bc ah ab k7 cg A;obtain⟨j,ch,s,rfl⟩:=ah.f;have F:=(aa.h (B.alloc (U #[I M xd,I M xa,Z ap (D P) aw] 76))).grown ab (λe=>T.ne aa e6 e.symm);have ej:=F.frozen 0;have eh:bc.cell? ⟨d,0,J⟩=So v:=F.cell 0;have S:=a6 F;have au:=a6 ah;have bo:=a6 ab;clear F ah ab k7 cg)))
  have ba:Tv d WBd ai (bc.setCell ⟨d,0,J⟩ (Z j ch s)):=((Tv.f ((a9.refl ai).alloc _)).trans (.ofOwn (T.h (B.alloc _)) bo (a7 _) e6)).trans (.r S (a7 _) e6 0 _);have f:=(Tv.f B.O).trans ba;have bd:=f.b bp a8;refine⟨f.from,⟨λ_=>bd,λb t cs k bm=>f.blk k (.inr bm)⟩,⟨⟨_,_,S.f 0 _,au.kept (c8 _ d 0 _) (.inr (au.ne S e6)),λaj i=> ?_,?_⟩,f.blk G.1 (.inl a8),f.blk G.2.1 (.inl a8),f.blk G.2.2.1 (.inl a8),f.blk G.2.2.2 (.inl a8),bd,b6 bt f.size⟩⟩;rcases List.mem_append.1 i with i|i
  exact(br aj i).tv f e6;rw[List.mem_singleton.1 i];exact bs.tv ba e6;rw[List.map_append,List.map_append,List.map_append,bq.O,di.O];rfl
 rintro bn ys W fm ex⟨⟨v,xs,af,ae,am,ad⟩,an,ao,H,L,E,az⟩ cb;obtain⟨j,A,s,rfl⟩:=ae.f;have ee:=af.cell 0;have fk:=H.frozen 0;have k2:=H.cell 0;have fl:=(L.far (p:=⟨w+1+1,0,J⟩) (by show w+1+1+1≠w.heap.size+1+1;omega) (Z j A s)).frozen 0;have k3:=(L.far (p:=⟨w+1+1,0,J⟩) (by show w+1+1+1≠w.heap.size+1+1;omega) (Z j A s)).cell 0;have bf:=(H.f 0 (Z j A s)).far (p:=⟨w+1+1+1,0,J⟩) (by show w+1+1≠w.heap.size+1+1+1;omega) (I M 0);have bg:=(L.far (p:=⟨w+1+1,0,J⟩) (by show w+1+1+1≠w.heap.size+1+1;omega) (Z j A s)).f 0 (I M 0);have bb:Tv w [37,47] W ((W.setCell ⟨w+1+1,0,J⟩ (Z j A s)).setCell ⟨w+1+1+1,0,J⟩ (I M 0)):=(Tv.r H a8 e6 0 (Z j A s)).trans (.r (L.far (p:=⟨w+1+1,0,J⟩) (by show w+1+1+1≠w.heap.size+1+1;omega) (Z j A s)) a8 e6 0 (I M 0));have ak:=bb.keep bn _ cb (.inr rfl);have bj:=bb.b E (a7 _);have bi:eV ((W.setCell ⟨w+1+1,0,J⟩ (Z j A s)).setCell ⟨w+1+1+1,0,J⟩ (I M 0)) (Z j A s) (bN h p):=⟨xs,ae.ty.tv bb e6,λaj i=>(am aj i).tv bb e6,by rw[ad,ex];rfl⟩;have ea:=a6 (And.intro bf (And.intro bg (And.intro ak (And.intro bj bi))));clear bf bg ak bj bi bb;gi_wp2;obtain⟨bf,bg,ak,bj,bi⟩:=ea.O;have bk:=λ{b:Nat}{t:Ti}{c:Array Va}(k:e7 ((W.setCell ⟨w+1+1,0,J⟩ (Z j A s)).setCell ⟨w+1+1+1,0,J⟩ (I M 0)) b t c)(ag:Obj)=>i2 k (grownBy_putObj' _ bn ag) (λr e=>by cases e;exact⟨_,ak,rfl⟩)
 refine⟨i3,.inl ⟨_,_,rfl,run_takeDeferred ak,?_⟩⟩;obtain⟨ff,ez,fb,fc⟩:=bi.ex;exact⟨_,pC rfl _ _ _ _ _ _ rfl rfl (AX _ _ _ ((bk bf _).cell 0)) (VO _ _ _ ((bk bg _).cell 0)),_,rfl,⟨ff,ez.kept λb cs k=>bk k _,λaj i=>(fb aj i).kept λb cs k=>bk k _,fc⟩,Below.trans bj (belowK_b (w:=w) (a7 _) _ bn _ _ a8 ak rfl rfl)⟩
theorem yZ(p:j2)(b c d f:Va)(a:Bool)(w:Wd)(m:p.small)(h:0<=p.fm/\0<=p.lm)(j:∀x∈p.ar,0<=x/\x<6)(k:D p.ar<=6)(i:R7 w p b c d f)(l:F0 p=Bt):
  Ca prog 31 #[Ag (i7 p b c d f),O a] w λe g=>∃v,e=X (Tp #[v,I M 0])/\eV g v (bN a p)/\a9 w g:=callsIn_wide.1 (XZ p b c d f a w m h j k i l)
end
def bE(p:j2)(b e f g i h:Va)(u:s8)(d:Va)(a:Bool)(c:Va):Array Va:=
 #[b,I U8 p.fm,e,I V p.dy,I U8 p.lm,f,g,I U8 p.am,I U6 p.sp,O p.we,O p.pe,O p.rt,O p.np,i,h,Y u.name,I M u.dir,Z u.A u.n u.c,d,O a,c]
theorem K7(l:List m8):D (i8 l).2<=z5 l:=by
 have h:=(a4c l (A5 2147483648,[]) (bC _)).2;have e:(i8 l).2=(P8 l).2:=by unfold i8;split<;>rfl
 rw[e];rw[List.length_nil,Nat.zero_add]at h;exact h
theorem EN(g:Nat)(p:j2)(B E F G H t:Va)(u:s8)(C:Va)(A:Bool)(j:p1)(c:Nat)(l:List m8)(w:Wd)(Q:e7 w g 60 (bE p B E F G H t u C A (Z j (D l) c)))
 (ar:D l<=100000) (ag:i5 w j (z8.row l)) (z:∀a∈l,a.val.size<=50000) (af:z5 l<=900000):
 Ca prog 16 #[K g] w λe W=>∃B E F G t,e=X (O (!p8 (i8 l).2))/\e7 W g 60 (bE (i8 l).1 B E F G H t u C A (Z j (D l) c))/\m7 W w (i8 l).1 B E F G/\c7 W w 49 h9 t (i8 l).2/\w.grownBy W (So g):=by
 have ap:=a6 (ES j c l w ar ag z af);have be:=b6 (K7 l) af;generalize i8 l=R at*;obtain⟨q,T⟩:=R;dsimp only at*;have ak:=a6 Q;have ba:w.cell? ⟨g,20,J⟩=So (Z j (D l) c):=Q.cell 20;have bd:=Q.lt;clear ag z af Q;go_in;go_wp2_with fail;apply ap.mono;rintro e bg⟨k,m,n,o,h,rfl,d,S,ai⟩;have r:=ak.h ai;obtain⟨aa,ad,aq,_,_,bf⟩:=S.inM;have au:k.oneCell'=Bt:=by obtain⟨_,_,_,e⟩:=d.a.f;rw[e];rfl
 have of:m.oneCell'=Bt:=by obtain⟨_,_,_,e⟩:=d.f.f;rw[e];rfl
 have av:n.oneCell'=Bt:=by obtain⟨_,_,_,e⟩:=d.l.f;rw[e];rfl
 have aw:o.oneCell'=Bt:=by obtain⟨_,_,_,e⟩:=d.m.f;rw[e];rfl
 have one:∀v∈(i7 q k m n o).toList,v.oneCell'=Bt:=by intro v z;simp only[i7,List.mem_cons,List.not_mem_nil,or_false]at z;rcases z with b|b|b|b|b|b|b|b|b|b|b|b|b<;>first|(rw[b];assumption)|(rw[b];rfl)
 go_wp2_with(refine D2 rfl 36 (Tm 15) (Tm 11) rfl g 0 60 (bE p B E F G H t u C A (Z j (D l) c)).toList (i7 q k m n o) rfl rfl r (by simp[bE,i7]) g6 one ?_;intro x f y;replace f:e7 x g 60 (bE q k m n o H t u C A (Z j (D l) c)):=f;have bc:=f.frozen 14;have ay:x.cell? ⟨g,14,J⟩=So t:=f.cell 14);have ab:=S.kept y (.inr (S.ne r e6));have i:m7 x w q k m n o:=⟨d.a.kept y (.inr (d.a.ne r e6)),d.f.kept y (.inr (d.f.ne r e6)),d.l.kept y (.inr (d.l.ne r e6)),d.m.kept y (.inr (d.m.ne r e6))⟩;have L:e7 (x.setCell ⟨g,14,J⟩ h) g 60 (bE q k m n o H h u C A (Z j (D l) c)):=f.f 14 h;have P:=ab.kept (c8 _ g 14 h) (.inr (ab.ne f e6));have ac:m7 (x.setCell ⟨g,14,J⟩ h) w q k m n o:=⟨i.a.kept (c8 _ g 14 h) (.inr (i.a.ne f e6)),i.f.kept (c8 _ g 14 h) (.inr (i.f.ne f e6)),i.l.kept (c8 _ g 14 h) (.inr (i.l.ne f e6)),i.m.kept (c8 _ g 14 h) (.inr (i.m.ne f e6))⟩;have ae:=((j4 ai (So g)).trans y).trans (c8 x g 14 h);have ah:=P.inM;rw[aq]at ah L P ac ae;obtain⟨ax,bb,ev,_,_,aj⟩:=ah;cases ev;have am:=a6 (jV aa (D T) ad T _ rfl a8 aj);have az:(x.setCell ⟨g,14,J⟩ (Z aa (D T) ad)).cell? ⟨g,14,J⟩=So (Z aa (D T) ad):=L.cell 14;obtain⟨al,ao,N,an⟩:=F6 L P ac ae;clear L P ac ae ab i S d r aj one au of av aw;go_wp2_with fail;refine l4 am λbh s=>?_;go_wp2;go_ret;exact⟨k,m,n,o,_,rfl,al.h s,⟨N.a.h s,N.f.h s,N.l.h s,N.m.h s⟩,ao.h s,an.trans (j4 s (So g))⟩
end Go.Proofs.YtcljlejgllkcjaaGreat
