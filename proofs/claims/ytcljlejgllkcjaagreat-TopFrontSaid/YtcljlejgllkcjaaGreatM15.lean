/- A part of the proof of TopFront: lemmas on the walks of its calls. -/
import Derived.Test.YtcljlejgllkcjaaGreatM13
import Derived.Test.YtcljlejgllkcjaaGreatM14
set_option maxHeartbeats 12000000
set_option linter.all false
set_option maxRecDepth 100000
namespace Go.Proofs.YtcljlejgllkcjaaGreat
open Go.RowKit Go.ChangeShapes Go.WideShapes Tryz
open Bool renaming and_eq_true→j3,true→Bt,false→Bf
open Decidable renaming decide→Dc
open Ending renaming returned→X
open Go renaming World→Wd,Value→Va,Calls→Ca,TypeId→Ti,callsIn_of_wp→Co,CallsIn→Ci
open Go.Proofs renaming enters_of→Eo
open IntKind renaming i64→M,u32→V,u64→U6
open IntWalk renaming i64_in→h7
open List renaming getD_eq_getElem?_getD→b9,getElem?_eq_getElem→e9,length_append→g1,getElem_mem→g3,take_succ_eq_append_getElem→g2,length_map→i1,length_cons→i4,range→m9,length_take→m4,replicate→p4,append_assoc→p6,length→D
open Nat renaming le_refl→a7,le_trans→b6,zero_le→c6,add_zero→j8
open Obj renaming cells→U
open Operand renaming tmp→Tm
open Option renaming none→J,some→So
open Value renaming int→I,slice→Z,string→Y,pointer→K,bool→O,func→Fc,tuple→Tp,agg→Ag
theorem pX{x:Int}(b:kn x)(W:Wd):Ca prog 322 #[I V x] W λe a=>e=X (O Bt)/\a9 W a:=
 (YT x W).mono λe a⟨c,d⟩=>⟨by rw[c,b.2];rfl,d⟩
theorem OA(t:p3)(i:a4x t)(w:Wd):Ca prog 408 #[Ag #[I M t.arg,I U6 t.mask,I U6 t.value,I V t.act]] w λe l=>e=X (O Bt)/\a9 w l:=by obtain⟨arg,f,g,a⟩:=t;obtain⟨⟨b,c⟩,_,_,o,d⟩:=i;dsimp only at*;have m:Dc (0<=arg)=Bt:=decide_eq_true b;have n:Dc (arg<6)=Bt:=decide_eq_true c;have h:=a6 (pX d);have B:=e7.new w 435 #[I M arg,I U6 f,I U6 g,I V a];have j:=(a9.refl w).alloc (U #[I M arg,I U6 f,I U6 g,I V a] 435);clear b c d;go_in;go_wp2_with fail;refine l4 (h _) λp k=>?_;go_wp2;go_ret;exact⟨rfl,j.trans k⟩
theorem FT(t:p3)(a:a4x t)(w:Wd):Ca prog 407 (#[Ag (y4.c t).toArray]++ #[]) w λe d=>e=X (O Bf)/\a9 w d:=by have H:=a6 (OA t a);show Ca prog _ #[Ag #[I M t.arg,I U6 t.mask,I U6 t.value,I V t.act]] w _;have b:=(a9.refl w).alloc (U #[I M t.arg,I U6 t.mask,I U6 t.value,I V t.act] 435);clear a;go_in;go_wp2_with fail;refine l4 (H _) λf c=>?_;go_wp2;go_ret;exact⟨rfl,b.trans c⟩
theorem a34{a:Type}(xs:List a)(i:Nat):Q0 (λ_=>Bf) xs i= -1:=by
 induction xs generalizing i with
 |nil=>rfl
 |cons x r ih=>exact ih (i+1)
theorem a1n(a:p1)(n c:Nat)(xs:List p3)(w:Wd)(s:D xs=n)(y:n<=1000)(g:∀t∈xs,a4x t)(h:i5 w a (y4.row xs)):
 Ca prog 406 #[Z a n c,Fc (.func 407) #[] #[]] w λe d=>e=X (Tp #[Ag #[I M 0,I U6 0,I U6 0,I V 0],O Bf])/\a9 w d:=by
 have f:=a6 (λ(b:Wd)(q:a9 w b)=>show Ca prog 330 #[Z a n c,Fc (.func 407) #[] #[]] b λe d=>e=X (I M (Q0 (λ_=>Bf) xs 0))/\a9 b d from
  hX JG y4 e6 isAgg435 sizeOf435 (λ_=>Bf) 407 #[] (Eo func407 g6 rfl) a n c xs b (λx u W _=>FT x (g x u) W) s a8 (h.h q))
 rw[a34]at f;have j:=(a9.refl w).alloc (U #[I M 0,I U6 0,I U6 0,I V 0] 435);have l:=e7.new w 435 #[I M 0,I U6 0,I U6 0,I V 0];clear h g;go_in;go_wp2_with fail;refine l4 (f _ j) λz i=>?_;have m:=l.h i;have o:=m.alloc (U #[I M 0,I U6 0,I U6 0,I V 0] 435);have v:=(j.trans i).alloc (U #[I M 0,I U6 0,I U6 0,I V 0] 435);go_wp2_with(refine q6 o ?_;intro A p r);exact s0 rfl p underlying435 ⟨rfl,v.grown r (λk e=>by cases e;exact a7 _)⟩
theorem OB(r:RR)(a:VC r.p)(w:Wd)(h:B4 w 435 y4 r.v r.p.tests):
 Ca prog 323 #[Ag #[I V r.p.nr,r.v,I V r.p.act]] w λe s=>e=X (O Bt)/\a9 w s:=by
 obtain⟨⟨k,ts,g⟩,b,c⟩:=r;dsimp only[RR.v]at*;have B:=e7.new w 254 #[I V k,Z b (D ts) c,I V g];have i:=(a9.refl w).alloc (U #[I V k,Z b (D ts) c,I V g] 254);obtain⟨m,d⟩:=j0 (λf(o:a9 w f)=>a1n b (D ts) c ts f rfl (by have:=a.len;dsimp only at this;omega) a.ts (h.h o).mem) (pX a.act);have v:(D ts:Int)<=32:=by have:=a.len;dsimp only at this;omega
 have u:Dc (D ts<=32)=Bt:=by simp;omega
 have n:=B.cell 1;clear a h;dsimp only at d;go_in;go_wp2_with fail;refine l4 (m _ i) λx j=>?_;have l:=(B.h j).alloc (U #[I M 0,I U6 0,I U6 0,I V 0] 435);obtain⟨n,t⟩:=l.d2 1 2;go_wp2_with fail;refine l4 (d _) λy p=>?_;have q:=((i.trans j).alloc (U #[I M 0,I U6 0,I U6 0,I V 0] 435)).trans p;go_wp2;go_ret;exact⟨rfl,q⟩
theorem zI:∀(a:o5)(lo:Int)(k:Nat)(b:k+1<D a),Y8 lo a->a[k]<a[k+1]
 |n::m::r,lo,0,_,h=>by have:=h.2.2.1;show n<m;omega
 |n::r,lo,k+1,b,h=>zI r (n+1) k (by simpa using b) h.2.2
theorem a2w(a:Int)(g:Int)(p:p1)(c:Nat)(rs:List RR)(w:Wd)(u:eT ⟨a,g,rs.map (·.p)⟩)(L:i5 w p (B8.row rs))(N:∀r∈rs,B4 w 435 y4 r.v r.p.tests):
 Ca prog 251 #[Ag #[I M a,Z p (D rs) c,I V g]] w λe ap=>e=X (O Bt)/\a9 w ap:=by
 obtain⟨⟨bb,bc⟩,P,T,W,al,_⟩:=u;dsimp only at*;rw[i1]at al;have B:=e7.new w 114 #[I M a,Z p (D rs) c,I V g];have an:=(a9.refl w).alloc (U #[I M a,Z p (D rs) c,I V g] 114);have ay:Dc (a<0)=Bf:=by simp;omega
 have az:Dc (6<=a)=Bf:=by simp;omega
 have ba:Dc (400<D rs)=Bf:=by simp;omega
 obtain⟨ag,F,ai⟩:=r6 (pX P) L (λ(r:RR)(o:r∈rs)(f:Wd)(d:a9 w f)=>OB r (T _ (List.mem_map_of_mem o)) f ((N r o).h d));have ah:=a6 (λ(k:Nat)(Q:k+1<D rs)=>show rs[k].p.nr<rs[k+1].p.nr by have:=zI _ 0 k (by simpa using Q) W;simpa using this)
 clear L N T W P;go_in;obtain⟨aw,ak,ax⟩:=B.c3;go_wp2_with fail;refine l4 (ag _) λae af=>?_;have q:=an.trans af;have C:=B.h af;have ak:=C.cell 1;go_wp2;go_loopw [28] (λi wr=>∃k:Nat,k<=D rs/\i=I M k/\a9 ae wr) (λi _=>D rs-(intOf i).toNat);exact⟨0,c6 _,rfl,a9.refl _⟩;obtain⟨k,Q,rfl,y⟩:=hrel;by_cases n:k<D rs
 ·have l:=F.h (q.trans y);obtain⟨b,ao,rfl,_⟩:=l.rows e6 a8;have ab:=l.l n (r:=0) rfl;have ac:=l.l n (r:=1) rfl;have ad:=l.l n (r:=2) rfl;simp only[B8,j8]at ab ac ad;have o:=ai _ (g3 n);have S:∀m,k=m+1->∀f,a9 w f->f.cell? ⟨b,ao+m*3,J⟩=So (I V (rs.getD m ⟨⟨0,[],0⟩,J,0⟩).p.nr)/\Dc (rs[k].p.nr<=(rs.getD m ⟨⟨0,[],0⟩,J,0⟩).p.nr)=Bf:=λm e f d=>by subst e;have R:m<D rs:=a8;have am:=(F.h d).l R (r:=0) rfl;have be:=ah m n;rw[b9,e9 R];exact⟨am,by simp;omega⟩
  generalize rs[k]=x at*;obtain⟨⟨aa,ts,G⟩,A,H⟩:=x;dsimp only[RR.v]at*;have h:=e7.new wr 254 #[I V aa,Z A (D ts) H,I V G];have j:=y.alloc (U #[I V aa,Z A (D ts) H,I V G] 254);obtain⟨E,s,t⟩:=r6 o S q;clear o S l q;rcases k with _|m
  ·simp only[Nat.zero_mul,j8]at ab ac ad;go_wp2_with fail;refine gP ?_;repeat(apply D7;focus (intro x f d;simp only[g0,o7,uV];(repeat intro g;try simp only[g]);have ar:=(h.h d).cell 0;have au:=(h.h d).cell 1;have av:=(h.h d).cell 2;first|(refine a2B ?_ ?_;(first|decide|(intro u;cases u)|simp[I1]);first|rfl|trivial)|((try refine a2E eX ?_);go_wp2_with(go_at_call 323;refine l4 (E f (t.trans (j.trans d))) λaq v=>?_);exact dn rfl rfl (by first|exact v|exact a9.refl _))))
   intro x f d;simp only[n9,g0,o7,uV];repeat(intro g;try simp only[g];clear g)
   have z:=j.trans d;go_wp2;go_roundw;exact⟨1,a8,o3,z⟩;simp[intOf];omega
  have ae:IntKind.i64.wrap (((m+1:Nat):Int)-1)=(m:Int):=by rw[h7 _ a8];omega
  have bf:(m:Int)<(D rs:Int):=a8;have bd:=(s m rfl w (a9.refl w)).2;have aj:=a6 (λf d=>(s m rfl f d).1);clear s;generalize(rs.getD m ⟨⟨0,[],0⟩,J,0⟩).p.nr=pn at*;go_wp2_with fail;refine gP ?_;repeat(apply D7;focus (intro x f d;simp only[g0,o7,uV];(repeat intro g;try simp only[g]);have ar:=(h.h d).cell 0;have au:=(h.h d).cell 1;have av:=(h.h d).cell 2;have bg:=(C.h (j.trans d)).cell 1;have bh:=aj f (t.trans (j.trans d));(try refine a2E eX ?_);go_wp2_with(go_at_call 323;refine l4 (E f (t.trans (j.trans d))) λaq v=>?_);exact dn rfl rfl (by first|exact v|exact a9.refl _)))
  intro x f d;simp only[n9,g0,o7,uV];repeat(intro g;try simp only[g];clear g)
  have z:=j.trans d;go_wp2;go_roundw;exact⟨m+1+1,a8,o3,z⟩;simp[intOf];omega
 obtain rfl:k=D rs:=a8;go_wp2;go_ret;exact⟨rfl,q.trans y⟩
theorem GD:∀(f:Nat)(l:List v8)(i:Nat),0<D l->D l<=f->D (gr f l i)+1<=2*D l
 |0,l,i,h,hf=>a8
 |f+1,l,i,h,hf=>by
  unfold gr;split;simp;omega;have a:D (l.take (D l/2))=D l/2:=by rw[m4];omega
  have b:D (l.drop (D l/2))=D l-D l/2:=List.length_drop;have c:=GD f (l.take (D l/2)) (i+1) a8 a8;have d:=GD f (l.drop (D l/2)) (i+1+D (gr f (l.take (D l/2)) (i+1))) a8 a8;rw[i4,g1];omega
theorem WU:∀(f:Nat)(l:List v8)(i:Nat),0<D l->D l<=f->∀x∈gr f l i,(x.leaf=Bt->∃s∈l,x.way=s.way)/\(x.leaf=Bf->((i:Int)<x.less/\x.less<i+D (gr f l i))/\(i:Int)<x.more/\x.more<i+D (gr f l i))
 |0,l,i,h,hf,x,a=>a8
 |f+1,l,i,h,hf,x,a=>by
  unfold gr at a⊢;split at a;rename_i c;rw[if_pos c];rw[List.mem_singleton.1 a];exact⟨λ_=>⟨l[0],g3 h,by rw[B1 h]⟩,λq=>by cases q⟩;rename_i c;rw[if_neg c];have j:D (l.take (D l/2))=D l/2:=by rw[m4];omega
  have k:D (l.drop (D l/2))=D l-D l/2:=List.length_drop;have m:=GB f (l.take (D l/2)) (i+1) a8;have n:=GB f (l.drop (D l/2)) (i+1+D (gr f (l.take (D l/2)) (i+1))) a8;have d:=WU f (l.take (D l/2)) (i+1) a8 a8;have g:=WU f (l.drop (D l/2)) (i+1+D (gr f (l.take (D l/2)) (i+1))) a8 a8;rw[i4,g1];generalize gr f (l.take (D l/2)) (i+1)=b at*;generalize gr f (l.drop (D l/2)) (i+1+D b)=B at*;rcases List.mem_cons.1 a with rfl|a
  exact⟨λq=>(by cases q),λ_=>⟨⟨by show(i:Int)<((i+1:Nat):Int);omega,by show((i+1:Nat):Int)<_;omega⟩,by show(i:Int)<((i+1+D b:Nat):Int);omega,by show((i+1+D b:Nat):Int)<_;omega⟩⟩;rcases List.mem_append.1 a with a|a
  obtain⟨k1,k2⟩:=d x a;exact⟨λq=>let⟨s,hs,e⟩:=k1 q;⟨s,List.mem_of_mem_take hs,e⟩,λq=>by have:=k2 q;omega⟩;obtain⟨k1,k2⟩:=g x a;exact⟨λq=>let⟨s,hs,e⟩:=k1 q;⟨s,List.mem_of_mem_drop hs,e⟩,λq=>by have:=k2 q;omega⟩
theorem a3M{f:J7}(a:kO f):∀x∈jG f,a6f (jG f) (1+D f.rules) x:=λx h=>by
 have b:=DY f a.ri;obtain⟨c,d⟩:=WU _ _ 0 b (a7 _) x h;refine⟨λq=> ?_,λq=> ?_⟩;obtain⟨s,g,e⟩:=c q;rw[e];rcases wG _ _ _ e6 s g with k|k
 rw[i1]at k;omega;rw[k];omega;have:=d q;change((((0:Nat):Int)<x.less/\x.less<((0:Nat):Int)+D (jG f))/\((0:Nat):Int)<x.more/\x.more<((0:Nat):Int)+D (jG f))at this;omega
theorem St.new{w b:Wd}{g:Nat}(a:a9 w b)(c:e7 b g 324 #[Z J 0 0,Z J 0 0])(d:w<=g)(h:Nat->Nat):St b g w [] h 0:=
 ⟨⟨_,_,⟨c,c7.nil _ _ _ _,d,a.size⟩,⟨[],rfl,c7.nil _ _ _ _,λz f=>(by cases f)⟩,λx a=>absurd a (Nat.not_lt_zero _),λx i a=>absurd a (Nat.not_lt_zero _)⟩,⟨λx a=>(by cases a),λj e=>(by cases e)⟩⟩
theorem a1o(n:Nat):(madeCells #[I M 0] n).toList=B6.row (p4 n 0):=by
 rw[pR];induction n with
 |zero=>rfl
 |succ n ih=>rw[List.replicate_succ,List.replicate_succ,ih];rfl
theorem ZX(n:Nat):(madeCells #[I V 0] n).toList=F4.row (p4 n 0):=by
 rw[pR];induction n with
 |zero=>rfl
 |succ n ih=>rw[List.replicate_succ,List.replicate_succ,ih];rfl
theorem FV:(prog.info? 3).map (λi=>(i.zero,i.size,i.bytes))=So (So (I M 0),1,8):=g6
theorem FU:(prog.info? 32).map (λi=>(i.zero,i.size,i.bytes))=So (So (I V 0),1,4):=g6
theorem a6E:kZ prog 347 325 (K J) 1 8:=⟨underlying347,g6,rfl,e6,e6⟩
structure Ems(u:Wd)(A1 A2:p1)(c1 c2 n:Nat)(ns:o5)(k:Nat)(wl:R8)(vl:Va)(wr:Wd):Prop where
 a:c7 wr u 32 F4 (Z A1 n c1) (ns.take k++p4 (n-k) 0)
 b:c7 wr u 3 B6 (Z A2 n c2) (Q1 k++p4 (n-k) 0)
 c:c7 wr u 325 MG vl wl
 l:∀b∈wl,e7 wr b 327 #[I M 0]/\u<=b
 n:wl.Nodup
 m:D wl=k+1
 x:a9 u wr
theorem c7.alloc'{a:Type}{w:Wd}{base:Nat}{e:Ti}{E:s7 a}{v:Va}{xs:List a}(b:c7 w base e E v xs)(o:Obj):c7 (w.alloc o) base e E v xs:=b.h ((a9.refl w).alloc o)
theorem eD(n:Nat):D (Q1 n)=n:=by simp[Q1]
theorem DK(k:Nat):Q1 (k+1)=Q1 k++[(k:Int)+1]:=by unfold Q1;rw[List.range_succ,List.map_append];rfl
theorem IY(a:Nat)(p:Nat->Nat):∀(l:List v9)(i:Nat),r0 (bW a p i l)<=D l
 |[],_=>a7 _
 |x::l,i=>by show r0 (MX a p i x++bW a p (i+1) l)<=_;have:=IY a p l (i+1);have:=wP a p i x;rw[l7,i4];omega
theorem a1M(a:Nat)(l:List v9):r0 (DD a l)<=1+D l:=by have:=IY a (λj=>AN a j (l.getD j QF)) l 0;unfold DD;rw[l7];split;simp only[r0,It.n];omega;simp only[r0];omega
theorem XT(a:Nat)(ih:a<6)(h:Int)(ae:p1)(c:Nat)(rs:List RR)(w:Wd)(Q:eT ⟨a,h,rs.map (·.p)⟩)(ct:B4 w 254 B8 (Z ae (D rs) c) rs)(s:∀r∈rs,B4 w 435 y4 r.v r.p.tests):
 Ca prog 164 #[Ag #[I M a,Z ae (D rs) c,I V h]] w λe gg=>∃v,e=X (Tp #[v,I M 0])/\c7 gg w 417 aR v (O5 (eZ ⟨a,h,rs.map (·.p)⟩))/\a9 w gg:=by
 have kf:D rs<=40:=by have:=Q.len;simpa using this
 have kg:∀W:Wd,(Instr.makeSlice 33 (I M (D rs:Int)) (I M (D rs:Int))).run prog W= .ok (Z W (D rs) (D rs)) (W.alloc (U (madeCells #[I V 0] (D rs)) 32)):=λW=>
  J3 33 32 (I V 0) 4 underlying33 FU rfl M M (D rs) (D rs) (a7 _) a8 e6 W
 have kh:∀W:Wd,(Instr.makeSlice 28 (I M (D rs:Int)) (I M (D rs:Int))).run prog W= .ok (Z W (D rs) (D rs)) (W.alloc (U (madeCells #[I M 0] (D rs)) 3)):=λW=>
  J3 28 3 (I M 0) 8 underlying28 FV rfl M M (D rs) (D rs) (a7 _) a8 e6 W
 have ca:=(a9.refl w).alloc (U #[I M a,Z ae (D rs) c,I V h] 114);have gp:=e7.new w 114 #[I M a,Z ae (D rs) c,I V h];obtain⟨ej,gz,ek,hj,ai⟩:=Y2 (a2w a h ae c rs _ Q (ct.h ca).mem (λr ir=>(s r ir).h ca)) Q ct s Q.ok;obtain⟨f,cw⟩:∃f:J7,f=⟨a,h,rs.map (·.p)⟩:=⟨_,rfl⟩;rw[<-cw]at ai⊢;obtain⟨aj,ho,eb⟩:=r6 cw ca gp;clear Q ct s cw ca;go_in;go_wp2_with fail;refine l4 ej λad dq=>?_;have bi:=ho.trans dq;have ar:=(bi.alloc (U #[Z J 0 0,Z J 0 0] 324)).alloc (U #[I M 0] 327);have es:=St.new (bi.alloc (U #[Z J 0 0,Z J 0 0] 324)) (e7.new ad _ _) bi.size (λ_=>0);have et:=es.label ((a9.refl _).alloc (U #[I M 0] 327)) (b:=ad+1) (e7.b i3) i3;have L:=a6 (a4Q et a ih (s9 _ 0 _));have cc:=(((eb.h dq).alloc (U #[Z J 0 0,Z J 0 0] 324)).alloc (U #[I M 0] 327));have hx:=cc.cell 0;clear es ej eb;go_wp2_with fail;apply L.mono;rintro e l⟨rfl,bt,H⟩;have cd:=H.tv.blk cc (.inr e6);have fc:bt 0=ad+1:=H.old 0 e6;have cm:=(Tv.f (B:=w) (S:=W4) ar).trans H.tv;have S3:=H.st;have fz:w<=l.heap.size:=cm.size;have bj:=cd.cell 1;obtain⟨el,en,gx⟩:=r6 S3 cm fc;clear et L cc hx S3 cm fc H ar dq bi;go_wp2_with fail;refine gP ?_;repeat
  first
   |(apply D7;focus (intro x g m;simp only[g0,o7,uV];(repeat intro h;try simp only[h]);have jo:=(cd.h m).cell 1;go_wp2_with fail;exact dn rfl rfl (a9.refl _)))
   |(refine r7 ((VP.ownR l 32 F4 (p4 (D rs) 0))) ?_ ?_
     ·intro x g m
      simp only[g0,o7,uV,VP.ownR]
      intro A A
      simp only[A]
      go_wp2_with fail
      refine e8 ?_ rfl ((a9.refl g).alloc _)
      exact c7.new m.size (ZX _) i3 a8)
   |(refine r7 ((VP.ownR l 3 B6 (p4 (D rs) 0))) ?_ ?_
     ·intro x g m
      simp only[g0,o7,uV,VP.ownR]
      intro au au
      simp only[au]
      go_wp2_with fail
      refine e8 ?_ rfl ((a9.refl g).alloc _)
      exact c7.new m.size (a1o _) i3 a8)
   |(refine r7 ((VP.ownR l 32 F4 (p4 (D rs) 0))) ?_ ?_
     ·intro x g m
      simp only[g0,o7,uV,VP.ownR]
      rintro di
      go_wp2_with fail
      refine e8 ?_ rfl (a9.refl _)
      exact di)
   |(refine r7 ((VP.ownR l 3 B6 (p4 (D rs) 0))) ?_ ?_
     ·intro x g m
      simp only[g0,o7,uV,VP.ownR]
      rintro dj
      go_wp2_with fail
      refine e8 ?_ rfl (a9.refl _)
      exact dj)
 intro x g m;simp only[n9,g0,o7,uV];rintro ez am A di fa fb au dj bw bx;simp only[ez,am,A,fa,fb,au];clear ez am A fa fb au;obtain⟨bc,cp,bk⟩:=bw.b;obtain⟨bd,cq,bl⟩:=bx.b;rw[List.length_replicate]at bk bl;rw[bk]at bw;rw[bl]at bx;have aa:=((cd.h m).alloc (U #[I M 0] 327)).alloc (U #[K g] 325);have gm:=(m.alloc (U #[I M 0] 327)).alloc (U #[K g] 325);have dw:Ems l bc bd cp cq (D rs) (rs.map (·.p.nr)) 0 [g.heap.size] (Z (g+1:Nat) 1 1) ((g.alloc (U #[I M 0] 327)).alloc (U #[K g] 325)):=by refine⟨(bw.alloc' _).alloc' _,(bx.alloc' _).alloc' _,?_,λb o=> ?_,List.nodup_cons.2 ⟨List.not_mem_nil,.nil⟩,rfl,gm⟩;have:=c7.new (w:=g.alloc (U #[I M 0] 327)) (base:=l) (e:=325) (E:=MG) (xs:=[g.heap.size]) (cs:= #[K g]) (b6 m.size i3) rfl rfl i3;rwa[World.size_alloc]at this;rw[List.mem_singleton.1 o];exact⟨(e7.new g _ _).alloc _,m.size⟩
 have bj:=aa.cell 1;have ex:a9 w l:=en.b (a9.refl w) (a7 _);have hq:=a6 ex;clear bw bx di dj ex;simp only[bk,bl];go_wp2_with fail;generalize(g.alloc (U #[I M 0] 327)).alloc (U #[K g] 325)=ji at*;go_loopw [8,43] (λja iz wr=>∃(k:Nat)(d:R8),k<=D rs/\iz=I M k/\Ems l bc bd cp cq (D rs) (rs.map (·.p.nr)) k d ja wr/\e7 wr w 114 #[I M a,Z ae (D rs) c,I V h]) (λ_ i _=>D rs-(intOf i).toNat);exact⟨0,[g.heap.size],c6 _,rfl,dw,aa⟩;clear dw aa gm bj;obtain⟨k,d,fr,rfl,R,aa⟩:=hrel;obtain⟨gn,hz,ic⟩:=R.c.b;subst ic;have gk:=hq.trans R.x;by_cases j:k<D rs
 ·have ip:(k:Int)<(D rs:Int):=a8;have br:=(ek.h gk).mem;obtain⟨hv,ix,rfl,_⟩:=br.rows e6 a8;have az:=br.l j (r:=0) rfl;have ba:=br.l j (r:=1) rfl;have bb:=br.l j (r:=2) rfl;simp only[B8,j8]at az ba bb;have T:(rs.map (·.p.nr)).take (k+1)=(rs.map (·.p.nr)).take k++[rs[k].p.nr]:=by rw[g2 (by simpa using j)];simp
  have bs:D ((rs.map (·.p.nr)).take k)=k:=by rw[m4,i1];omega
  generalize rs[k]=x at*;obtain⟨⟨n,ts,p⟩,G,P⟩:=x;dsimp only[RR.v]at az ba bb T;have fx:p4 (D rs-k) (0:Int)=0::p4 (D rs-(k+1)) 0:=by rw[(a8:D rs-k=(D rs-(k+1))+1),List.replicate_succ]
  obtain⟨aw,ax,bq,fi,ig,fj,fk⟩:=R;rw[fx]at aw ax;obtain⟨bm,jv,jr,rfl,-,il,bo,-⟩:=aw.blk G6;obtain⟨bn,jw,js,rfl,-,im,bp,-⟩:=ax.blk G6;have iv:bm<wr.heap.size:=(aw.lt rfl).2;have km:bn<wr.heap.size:=(ax.lt rfl).2;have F:=(a9.refl wr).alloc (U #[I V n,Z G (D ts) P,I V p] 254);have cf:=e7.new wr 254 #[I V n,Z G (D ts) P,I V p];have jf:IntKind.i64.wrap ((k:Int)+1)=((k+1:Nat):Int):=by rw[h7 _ a8];omega
  have kq:=cf.cell 0;obtain⟨O1,y,jx,am⟩:=(aw.h F).setN k G6 rfl (I V n) n rfl;rw[nF _ _ _ _ _ bs]at O1;rw[World.setCell_alloc_past _ _ _ _ iv]at O1 y;simp only[List.getElem_append_right (Nat.le_of_eq bs),bs,Nat.sub_self,List.getElem_cons_zero]at am;replace am:=am.trans (show(F4.c 0)[0]? =So (I V 0)from rfl);have fw:bm≠bn:=bo.ne bp e6;obtain⟨bh,ag,jy,A⟩:=((ax.h F).kept y (.inr (λe=>fw (by injection e with e;exact e.symm)))).setN k (by simp[eD]) rfl (I M ((k:Int)+1)) ((k:Int)+1) rfl;rw[nF _ _ _ _ _ (eD k),<-DK]at bh;rw[World.setCell_alloc_past _ _ _ _ G6]at bh ag;simp only[List.getElem_append_right (Nat.le_of_eq (eD k)),eD,Nat.sub_self,List.getElem_cons_zero]at A;replace A:=A.trans (show(B6.c 0)[0]? =So (I M 0)from rfl);have O1:=O1.kept ag (.inr (λe=>fw (by injection e)));have dx:=λ(b:Nat)(t:Ti)(cs:Array Va)(q:e7 wr b t cs)(an:t≠32)(av:t≠3)=>((q.h F).grown y (λe=>by injection e with e;exact q.ne bo an e)).grown ag (λe=>by injection e with e;exact q.ne bp av e)
  have er:=((bq.h F).kept y (.inr (bq.ne bo e6))).kept ag (.inr (bq.ne bp e6));have ar:=((fk.trans F).grown y (λk e=>by cases e;exact il)).grown ag (λk e=>by cases e;exact im);have ds:(((wr.setCell ⟨bm,k,J⟩ (I V n)).setCell ⟨bn,k,J⟩ (I M ((k:Int)+1))).alloc (U #[I V n,Z G (D ts) P,I V p] 254)).heap.size=wr.heap.size+1:=i3;generalize iu:((wr.setCell ⟨bm,k,J⟩ (I V n)).setCell ⟨bn,k,J⟩ (I M ((k:Int)+1))).alloc (U #[I V n,Z G (D ts) P,I V p] 254)=jn at*;obtain⟨ab,hf,hg,eh,hp,ed⟩:=dK ((er.alloc' (U #[I M 0] 327)).alloc' (U #[K (wr+1:Nat)] 325)) ((O1.alloc' (U #[I M 0] 327)).alloc' (U #[K (wr+1:Nat)] 325)) ((bh.alloc' (U #[I M 0] 327)).alloc' (U #[K (wr+1:Nat)] 325)) (λb t cs q an av=>((dx b t cs q an av).alloc (U #[I M 0] 327)).alloc (U #[K (wr+1:Nat)] 325)) ((ar.alloc (U #[I M 0] 327)).alloc (U #[K (wr+1:Nat)] 325)) (show e7 ((jn.alloc (U #[I M 0] 327)).alloc (U #[K (wr+1:Nat)] 325)) (wr.heap.size+1) 327 #[I M 0]from(e7.b ds.symm).alloc _);obtain⟨eg,eo,he⟩:=r6 fi iu T;clear O1 bh er dx ar y ag aw ax bq fi bo bp fx T;have fv:D d+1<=1000000:=a8;have ka:l<=wr.heap.size:=fk.size;have kk:=eo.O;have gy:=a6 fj;clear eo fj bk bl;go_wp2_with(at_builtin;go_loud (refine h8 rfl (Tm 58) (Tm 61) 347 325 rfl a6E l _ d rfl ab _ 1 1 [wr.heap.size+1] rfl rfl (cF (by simp[ds]) rfl) fv (by simp[ds];omega) ?_;intro ks jm gb kl ao jz;obtain⟨dt,kp,ey,rfl⟩:=gb.f));go_roundw;refine⟨k+1,d++[wr.heap.size+1],a8,o3,⟨?_,?_,gb,λb o=> ?_,?_,by rw[g1,gy.O];rfl,?_⟩,?_⟩;rw[he.O];exact hf.apart ab e6 ao;exact hg.apart ab e6 ao;rcases List.mem_append.1 o with o|o
  obtain⟨k1,k2⟩:=eg b o;have k3:=eh b _ _ k1 e6 e6;exact⟨k3.grown ao (λe=>ab.ne k3 e6 e.symm),k2⟩;rw[List.mem_singleton.1 o];exact⟨ed.grown ao (λe=>ab.ne ed e6 e.symm),a8⟩;refine List.nodup_append.2 ⟨ig,List.nodup_cons.2 ⟨List.not_mem_nil,.nil⟩,λx dg gl dh e=> ?_⟩;have:=(eg x dg).1.lt;rw[List.mem_singleton.1 dh]at e;omega;exact hp.grown ao (λk e=>(ab.lt e).1);have k3:=eh _ _ _ aa e6 e6;exact k3.grown ao (λe=>ab.ne k3 e6 e.symm);simp[intOf];omega
 obtain rfl:k=D rs:=a8;obtain⟨u,T⟩:∃u,u=rs.map (·.p.nr):=⟨_,rfl⟩;have cx:f.rules.map (·.nr)=u:=by rw[T,aj.O];exact List.map_map ..
 have da:D u=D rs:=by rw[T,i1]
 have fy:Y8 0 u:=by rw[<-cx];exact ai.ri
 rw[<-T]at R;have fm:i5 wr bc (l8 V u):=by have:=R.a.i.1;rwa[Nat.sub_self,List.replicate_zero,List.append_nil,List.take_of_length_le a8,s2 V F4 (λ_=>rfl)]at this
 have fn:i5 wr bd (l8 M (Q1 (D u))):=by have:=R.b.i.1;rwa[Nat.sub_self,List.replicate_zero,List.append_nil,s2 M B6 (λ_=>rfl),<-da]at this
 have ak:=a3d bc bd cp cq u a8 fy wr fm fn;rw[da]at ak;have de:cJ 0 u 1=DZ f:=by rw[<-cx];rfl
 rw[de]at ak;have ak:=a6 ak;have ki:D (DZ f)<=2*D rs+1:=by rw[<-de,<-da];exact wH u 0 1
 have dd:=DY f ai.ri;have fp:=IQ _ 0 1 ai.ri e6;have io:=GD (D (DZ f)) (DZ f) 0 dd (a7 _);obtain⟨z,gw,ef⟩:=r6 R aa fp;clear T cx fy fm fn de R aa fp gk;go_wp2_with fail;apply ak.mono;rintro e jj⟨jc,rfl,iy,gh⟩;have ec:=a6 (KV _ 0 jc (DZ f) jj a8 dd ef iy a8);go_wp2_with fail;apply ec.mono;rintro e jk⟨kr,rfl,ga,gj⟩;have dr:a9 l jk:=(z.x.trans gh).trans gj;have cb:=gh.trans gj;have ev:=(el.h dr).labels d (λb o=>⟨(z.l b o).1.h cb,b6 fz (z.l b o).2,λgl dh e=>by obtain⟨jd,je,q⟩:=el.ex;have:=(q.labs gl dh).1.lt;have:=(z.l b o).2;omega⟩) z.n
 have cy:∀i(hi:i<D d),fZ bt 3 d (3+i)=d[i]:=λi hi=>by unfold fZ;rw[if_neg a8,Nat.add_sub_cancel_left,B1 hi]
 have ay:fZ bt 3 d 0=ad+1:=gx.O;have dc:D f.rules=D rs:=by rw[aj.O];exact i1 ..
 have df:D d=1+D f.rules:=by rw[dc,z.m];omega
 have ii:r0 (mN a)<=4:=by unfold mN;split;simp[r0,It.n];split<;>simp[r0,It.n]
 have bs:D (jG f)+1<=2*D (DZ f):=io;obtain⟨dt,ey,ib⟩:=ga.b;subst ib;obtain⟨ee,bg,ep,ei,ha⟩:=Y2 (QN ev dt gn ey hz (jG f) d ga.ty ((z.c.h cb).ty) rfl cy (λx dg=>by rw[df];exact a3M ai x dg) (GB _ _ 0 dd) a8 (by rw[List.nil_append];omega) (b6 fz dr.size)) dc df cy ay;clear dc df cy ay ev;generalize fZ bt 3 d=kn at*;have cn:=(z.c.h cb).ty;have hk:=a6 (en.h dr);have du:=gw.h cb;go_wp2_with fail;apply ee.mono;rintro e jl⟨rfl,bu,ah⟩;have fv:D d=D rs+1:=z.m;have hn:=a6 cn;have co:=cn.tv ah.tv e6;obtain⟨hw,dl,rfl,_⟩:=co.mem.rows e6 a8;have ia:jl.cell? ⟨hw,dl,J⟩=So (K (d[0]' a8:Nat)):=by rw[(i3:dl=dl+0*MG.k+0)];exact co.mem.l (a8:0<D d) (r:=0) rfl
 have ke:(0:Int)<D d:=a8;have ea:=a6 (C8 ah.st 3 a8 ((ah.old 3 a8).trans (ei 0 a8)));have dv:=ah.tv.blk du (.inr e6);clear ec ee ak ef cn;go_wp2_with fail;apply ea.mono;rintro e jm⟨rfl,fh,dp⟩;have ch:=ah.step fh dp;have ce:=dp.blk dv (.inr e6);have hy:=ce.cell 2;have ij:r0 ([]++mN a++(DD (3+D d) (jG f)++[.here 3]))<=1000:=by have an:r0 (DD (3+D d) (jG f))<=1+D (jG f):=a1M _ _;simp only[l7,r0,It.n,List.nil_append];omega
 have dz:=a6 (sY ch.st h a8);clear ea fh dp;go_wp2_with fail;apply dz.mono;rintro e jg⟨rfl,fd,dm⟩;have af:=ch.step fd dm;have gq:=dm.blk ce (.inr e6);have bj:=gq.cell 1;clear dz fd dm hy ch ah;have eu:=af.st;have hs:=a6 (hn.tv af.tv e6);have s:=hk.trans af.tv;have ft:bu 0=ad+1:=(af.old 0 a8).trans ha.O;have fu:∀k,k<D rs->∀Q:k+1<D d,bu (4+k)=d[k+1]:=λk fr Q=>by rw[(a8:4+k=3+(k+1)),af.old _ a8];exact ei (k+1) Q
 have ik:r0 ([]++mN a++(DD (3+D d) (jG f)++[.here 3]++[.put ⟨6,h,0,0⟩]))<=1001:=by rw[<-p6,l7];simp only[r0,It.n];omega
 obtain⟨em,bf,hc,hb⟩:=F6 s (J9.refl eu) fu ft;have cr:3+D d+D (jG f)=4+D f.rules+D (jG f):=by rw[ep.O];omega
 obtain⟨ew,cu⟩:∃hr,hr=[]++mN a++(DD (3+D d) (jG f)++[.here 3]++[.put ⟨6,h,0,0⟩]):=⟨_,rfl⟩;rw[<-cu]at ik bf;obtain⟨hm,jq⟩:=j0 cu cr;rw[cr]at bf;clear s eu fu ft cu cr ij af co ia du dv ce ii;generalize fo:4+D f.rules+D (jG f)=ck at*;have ap:=a6 fo;clear fo;go_wp2;go_loopw [91] (λjb wr=>∃(k N:Nat)(al:List It)(bv:Nat->Nat),k<=D rs/\jb=I M k/\r0 al<=64*k/\J9 jg ad w ew bu ck al N bv wr/\al++vV N (4+k) (f.rules.drop k)=vV ck 4 f.rules) (λi _=>D rs-(intOf i).toNat);exact⟨0,ck,[],bu,c6 _,rfl,a7 _,bf.O,rfl⟩;clear bf bj;obtain⟨k,N,al,bv,fr,rfl,kc,C,ac⟩:=hrel;by_cases j:k<D rs
 ·have s:=em.trans C.tv;have aq:=ek.tv s e6;obtain⟨hv,ix,rfl,_⟩:=aq.mem.rows e6 a8;have az:=aq.mem.l j (r:=0) rfl;have ba:=aq.mem.l j (r:=1) rfl;have bb:=aq.mem.l j (r:=2) rfl;simp only[B8,j8]at az ba bb;have ip:(k:Int)<(D rs:Int):=a8;have cv:=(hj _ (g3 j)).tv s e6;have cz:=gz.rs _ (List.mem_map_of_mem (g3 j));have db:=(ai.rs (rs[k].p) (by rw[aj.O];exact List.mem_map_of_mem (g3 j))).ts;have fq:f.rules.drop k=rs[k].p::f.rules.drop (k+1):=by
   have an:k<D f.rules:=by rw[bg.O];exact j
   have av:f.rules[k]=rs[k].p:=by simp only[aj.O,List.getElem_map]
   rw[List.drop_eq_getElem_cons an,av]
  rw[fq]at ac;generalize rs[k]=x at*;obtain⟨⟨n,ts,p⟩,G,P⟩:=x;dsimp only[RR.v]at az ba bb cv cz db;change al++ .here (4+k)::(zH N ts p++vV (lI N ts) (4+k+1) (f.rules.drop (k+1)))=_ at ac;have kj:D ts<=9:=cz.len;have fs:k+1<D d:=a8;have cj:=(hs.tv C.tv e6).mem.l fs (r:=0) rfl;simp only[MG,Nat.mul_one,j8]at cj;have jf:IntKind.i64.wrap ((k:Int)+1)=((k+1:Nat):Int):=by rw[h7 _ a8];omega
  have kd:((k:Int)+1)<(D d:Int):=a8;have fl:bv (4+k)=d[k+1]:=(C.old (4+k) (by rw[ap.symm,bg.O];omega)).trans (hc k j fs);have F:=(a9.refl wr).alloc (U #[I V n,Z G (D ts) P,I V p] 254);have cf:=e7.new wr 254 #[I V n,Z G (D ts) P,I V p];have y:=C.h F;have jt:=F.cell cj;have L:=a6 (C8 y.st (4+k) (by have:=C.le;rw[ap.symm,bg.O]at this;omega) fl);generalize d[k+1]=ko at*;obtain⟨ci,hl,hh⟩:=r6 ac cv db;clear ac cv db fq fl aq s cz cj;go_wp2_with fail;apply L.mono;rintro e l⟨rfl,fg,bz⟩;have H:=y.step fg bz;have gr:=bz.blk cf (.inr e6);obtain⟨jo,kv,kw⟩:=gr.c3;have be:=a6 (a2R H.st n p G P ts ((hl.h F).tv bz e6) hh (by rw[l7,l7];simp only[r0,It.n];omega));clear L fg bz;go_wp2_with fail;apply be.mono;rintro e ji⟨rfl,iw,gs⟩;have gu:=H.trans gs;have kb:=EI ts N p;go_wp2;go_roundw;refine⟨k+1,lI N ts,_,iw,a8,o3,?_,gu,?_⟩;rw[l7,l7];simp only[r0,It.n];omega;rw[<-ci.O,(a8:4+(k+1)=4+k+1)];simp;simp[intOf];omega
 obtain rfl:k=D rs:=a8;rw[show f.rules.drop (D rs)=[] by rw[<-bg.O];exact List.drop_length,show vV N (4+D rs) []=[]from rfl,List.append_nil]at ac;have ay:bv 0=ad+1:=(C.old 0 (by rw[ap.symm];omega)).trans hb.O;obtain⟨L,ci⟩:=j0 (C8 C.st 0 (by have:=C.le;rw[ap.symm]at this;omega) ay) ac;clear ac ay;go_wp2_with fail;apply L.mono;rintro e kt⟨rfl,fe,gd⟩;have dy:=C.step fe gd;have be:=a6 (sY dy.st 2147418112 (by rw[l7,l7];simp only[r0,It.n];omega));clear L fe gd;go_wp2_with fail;apply be.mono;rintro e jh⟨rfl,ff,gf⟩;have cg:=dy.step ff gf;obtain⟨jd,je,gc⟩:=cg.st.ex;have gv:=a6 (QM gc cg.st.ok (by rw[l7,l7,l7];simp only[r0,It.n];omega));clear be ff gf;go_wp2_with fail;apply gv.mono;rintro e ku⟨rfl,dk,ie⟩;have ht:a9 w jh:=(em.trans cg.tv).b (a9.refl w) (a7 _);have iq:=gc.wri.o;have hu:=ht.grown ie (λk e=>(iq.lt e).1);have it:ew++(al++[.here 0]++[.put ⟨6,2147418112,0,0⟩])=eZ f:=by rw[ci.O,hm.O,<-ap.O,ep.O,(a8:3+(1+D f.rules)=4+D f.rules)];unfold eZ;rw[show f.arch=(a:Int) by rw[aj.O],show f.dflt=h by rw[aj.O]];simp
 rw[it]at dk;obtain⟨jp,ju,rfl⟩:=dk.b;go_wp2;go_ret2;exact⟨_,rfl,dk,hu⟩
def OI:s7 Int:=⟨1,λx=>[I M x],λ_=>rfl,λx u a=>by simp at a;rw[a];rfl⟩
theorem a5L:kZ prog 28 3 (I M 0) 1 8:=⟨underlying28,g6,rfl,e6,e6⟩
def mH(k:Nat):o5:=(m9 k).map Int.ofNat
theorem KP(k:Nat):mH (k+1)=mH k++[(k:Int)]:=by unfold mH;rw[List.range_succ,List.map_append];rfl
theorem QX(k:Nat):D (mH k)=k:=by simp[mH]
theorem KH(W:Wd):Ca prog 102 #[] W λe g=>∃v,e=X v/\c7 g W 3 OI v (mH 6)/\a9 W g:=by
 obtain⟨h,b⟩:=j0 KP QX;generalize mH=c at*;go_wp2;go_loopw [1,3] (λn i wr=>∃k:Nat,k<=6/\i=I M k/\c7 wr W 3 OI n (c k)/\a9 W wr) (λ_ i _=>6-(intOf i).toNat);exact⟨0,e6,rfl,by have:=b 0;rw[List.eq_nil_of_length_eq_zero this];exact c7.nil _ _ _ _,a9.refl W⟩;obtain⟨k,q,rfl,f,a⟩:=hrel;by_cases s:k<6;·have r:=b k;have d:=h k;generalize c k=xs at*;have j:=a6 d;clear d;go_wp2_with(at_builtin;refine h8 rfl (Tm 6) (Tm 8) 28 3 rfl a5L W _ xs rfl (f.h ((a9.refl _).alloc _)) _ 1 1 [(k:Int)] rfl rfl (cF i3 rfl) a8 (a.alloc _).size ?_;intro t u l m p o);go_roundw;exact⟨k+1,a8,o3,by rw[j.O];exact l,m W (a.alloc _) (a7 _)⟩;simp[intOf];omega
 obtain rfl:k=6:=a8;go_wp2;go_ret;exact⟨_,rfl,f,a⟩
abbrev fL:=g4×Int
def vA:s7 fL:=⟨2,λa=>[Y a.1,I V a.2],λ_=>rfl,λx u b=>by simp at b;rcases b with rfl|rfl<;>rfl⟩
theorem a4K(a:fL)(s:g4)(g:Nat)(W:Wd)(b:W.cell? ⟨g,0,J⟩=So (Y s)):
 Ca prog 377 (#[Ag (vA.c a).toArray]++ #[K g]) W λe d=>e=X (O (a.1.toList==s.toList))/\a9 W d:=by
 obtain⟨n,t⟩:=a;have c:=(a9.refl W).alloc (U #[Y n,I V t] 231);have f:=c.cell b;have h:g≠W.heap.size:=Nat.ne_of_lt (block_lt_of_cell b);show Ca prog 377 #[Ag #[Y n,I V t],K g] W _;go_in;go_wp2;go_ret;exact⟨rfl,c⟩
theorem YP(p:fL->Bool)(g:Nat)(lb:Array Va)(n:∀args w,(callFunc g args).run prog w= .ok (.enter g args) w)(W:Wd)(u:V4 prog g lb (λx=>Ag (vA.c x).toArray) p W r2):
 Ca prog 376 #[Fc (.func g) #[] lb] W λe a=>e=X (I M (Q0 p r2 0))/\a9 W a:=by
 have i:=a6 kW;have s:∀v∈rI.toList,v.oneCell'=Bt:=vA.row_oneCell r2;have j:=a6 (λw G c(y:a9 W w)(q:i5 w (So ⟨G,0,J⟩) (vA.row r2))=>(hX a1e vA e6 isAgg231 sizeOf231 p g lb n _ 6 c r2 w (u.h y) rfl e6 q:Ca prog 423 #[Z (So ⟨G,0,J⟩) 6 c,Fc (.func g) #[] lb] w λe a=>e=X (I M (Q0 p r2 0))/\a9 w a));have o:rI.toList=vA.row r2:=rfl;generalize rI=m at*;generalize r2=l at*;generalize Q0 p l 0=A at*;go_in;go_wp2_with fail;refine l4 (i _) λb d=>?_;have r:∀x:Array Va,e7 (b.alloc (U x 232)) b 232 x:=λx=>e7.new _ _ _
 go_wp2_with(refine j1 rfl 232 (Tm 3) (Tm 4) rfl b 232 _ m rfl rfl (r _) g6 g6 s ?_;intro C h t);have f:=(d.alloc (U _ 232)).grown t (λk e=>by cases e;exact d.size);refine l4 (j _ _ 6 f (i5.f h o)) λB z=>?_;go_wp2;go_ret;exact⟨rfl,f.trans z⟩
def m5(s:g4):Int×Int:=if s.toList==[110,97,116,105,118,101]then(0,0)else
 let i:=Q0 (λa:fL=>a.1.toList==s.toList) r2 0
 if i<0 then(0,80)else(i,0)
theorem PS(s:g4)(W:Wd):Ca prog 287 #[Y s] W λe o=>e=X (Tp #[I M (m5 s).1,I M (m5 s).2])/\a9 W o:=by
 have i:=(a9.refl W).alloc (U #[Y s] 9);have k:=a6 (YP (λc=>c.1.toList==s.toList) 377 #[K W] (Eo func377 g6 rfl) (W.alloc (U #[Y s] 9)) (λc _ W2 l=>a4K c s W W2 (l.cell i3)));obtain⟨R,b⟩:∃R,R=m5 s:=⟨_,rfl⟩;rw[<-b];unfold m5 at b;dsimp only at b;generalize Q0 _ r2 0=d at*;have f:=a6 b;clear b;have p:(⟨#[110,97,116,105,118,101]⟩:g4).toList=[110,97,116,105,118,101]:=g6;rcases g:s.toList==[110,97,116,105,118,101]with _|_
 ·obtain⟨r,h,m⟩:∃r,R=r/\(d<0/\r=(0,80)\/¬d<0/\r=(d,0)):=by refine⟨_,rfl,?_⟩;rw[f.O,g];by_cases a:d<0;exact .inl ⟨a,by simp[a]⟩;exact .inr ⟨a,by simp only[Bool.false_eq_true,if_false,if_neg a]⟩
  have j:=a6 h;clear h f;rcases m with⟨a,rfl⟩|⟨a,rfl⟩
  all_goals go_in;go_wp2_with fail;refine l4 k λq n=>?_;go_wp2;go_ret2;exact⟨by rw[j.O];rfl,i.trans n⟩
 go_wp2;go_ret2;exact⟨by rw[f.O,g];rfl,i⟩
def R3(ar:o5):List Bool:=(m9 6).map λa:Nat=>ar.contains (a:Int)
theorem BG(ar:o5):D (R3 ar)=6:=by simp[R3]
theorem a4e(ar:o5){a:Nat}(h:a<6):fH (R3 ar) a=ar.contains (a:Int):=by unfold fH R3;simp[b9,h]
theorem qE(c:List Bool):∀k,2<=fG c k
 |0=>a7 _
 |k+1=>b6 (qE c k) (Nat.le_add_right _ _)
theorem L1(c:List Bool):∀k,r0 (QH c k)<=1+k
 |0=>a7 _
 |k+1=>by have:=L1 c k;unfold QH;rw[l7];split<;>simp only[r0,It.n]<;>omega
theorem a4d(c:List Bool):sG c 6= -1\/sG c 6=0\/sG c 6=2:=by
 have h:∀k,sG c k= -1\/sG c k=0\/sG c k=2:=λk=>by
  induction k with
  |zero=>exact .inl rfl
  |succ k ih=>
   unfold sG
   split
   ·rename_i h
    simp only[j3,Bool.or_eq_true,beq_iff_eq]at h
    omega
   ·exact ih
 exact h 6
theorem GV(a:Int)(w:Wd)(b:0<=a/\a<6):Ca prog 240 #[I M a] w λe c=>e=X (O Bf)/\a9 w c:=by
 have d:Dc (a<0)=Bf:=by simp;omega
 have f:Dc (6<=a)=Bf:=by simp;omega
 clear b;go_wp2;go_ret;exact⟨rfl,a9.refl w⟩
theorem a4n(ar:o5)(d:p1)(c:Nat)(a:Nat)(g:a<6)(b:Wd)(j:D ar<=1000)(f:i5 b d (l8 M ar)):Ca prog 229 #[Z d (D ar) c,I M a] b λe h=>e=X (O (fH (R3 ar) a))/\b=h:=by rw[a4e ar g,List.contains_eq_any_beq];exact ctE VU (I M) (λx i=>x==i) (EqlAt.int _ _ _) d (D ar) c ar (a:Int) b rfl a8 f
theorem nY{c:List Bool}{k:Nat}(h:yE c k=Bf):QH c (k+1)=QH c k/\fG c (k+1)=fG c k:=by constructor;show QH c k++(if yE c k=Bt then _ else [])=QH c k;rw[h];exact List.append_nil _;show fG c k+(if yE c k=Bt then 1 else 0)=fG c k;rw[h];rfl
theorem WV{c:List Bool}{k:Nat}(h:yE c k=Bt):QH c (k+1)=QH c k++[.jmp 21 (J5 k) 1 (fG c k)]++[.here (fG c k)]/\fG c (k+1)=fG c k+1:=by constructor;show QH c k++(if yE c k=Bt then [.jmp 21 (J5 k) 1 (fG c k),.here (fG c k)]else [])=_;rw[h,p6];rfl;show fG c k+(if yE c k=Bt then 1 else 0)=_;rw[h];rfl
theorem GF{c:List Bool}{k:Nat}(h:(fH c k&&(k==0||k==2)&& !(fH c 0&&fH c 2))=Bf):sG c (k+1)=sG c k:=by
 conv=>lhs;unfold sG
 rw[h,if_neg e6]
theorem JS{c:List Bool}{k:Nat}(h:(fH c k&&(k==0||k==2)&& !(fH c 0&&fH c 2))=Bt):sG c (k+1)=k:=by
 conv=>lhs;unfold sG
 rw[h,if_pos rfl]
theorem PH(A:p1)(c:Nat)(ar:o5)(w:Wd)(dp:0<D ar)(cz:D ar<=1000)(cg:∀x∈ar,0<=x/\x<6)(aw:i5 w A (l8 M ar)):
 Ca prog 161 #[Z A (D ar) c] w λe t=>∃v,e=X (Tp #[v,I M 0])/\c7 t w 417 aR v (O5 (xC (R3 ar)))/\a9 w t:=by
 have ae:=a6 (λa(f:a<6) o(ab:a9 w o)=>a4n ar A c a f o cz (aw.h ab));obtain⟨bm,bn⟩:=j0 (show∀o,a9 w o->Ca prog 229 #[Z A (D ar) c,I M 0] o λe t=>e=X (O (fH (R3 ar) 0))/\o=t from λo ab=>ae 0 e6 o ab) (show∀o,a9 w o->Ca prog 229 #[Z A (D ar) c,I M 2] o λe t=>e=X (O (fH (R3 ar) 2))/\o=t from λo ab=>ae 2 e6 o ab);have bq:=a6 (show Ca prog 239 #[Z A (D ar) c,Fc (.func 240) #[] #[]] w λe t=>e=X (O Bf)/\a9 w t from by have:=cfE a32 (I M) isAgg3 sizeOf3 (λ_=>Bf) 240 #[] (Eo func240 g6 rfl) A (D ar) c ar w (λx bb W _=>GV x W (cg x bb)) rfl a8 aw;rwa[(i3:ar.any (λ_=>Bf)=Bf)]at this)
 have ag:=a6 (λ(k:Nat)(ba:k<6) W=>show Ca prog 242 #[I M k] W λe t=>e=X (Tp #[I V (J5 k),I M 0])/\a9 W t from by
  have cy:J5 (k:Int)=r2[k].2:=by unfold J5;rw[Int.toNat_natCast,B1 (show k<D r2 from ba)];exact rfl
  exact(jD k ba W).mono λe t⟨da,bb⟩=>⟨da.trans (by rw[cy]),bb⟩)
 have dn:((D ar:Int)==0)=Bf:=beq_eq_false_iff_ne.2 a8;generalize R3 ar=cs at*;generalize D ar=n at*;clear aw cg;go_in;go_wp2_with fail;refine l4 bq λm bg=>?_;have bi:=bg.alloc (U #[Z J 0 0,Z J 0 0] 324);have bv:=St.new bi (e7.new m _ _) bg.size (λ_=>0);have bw:=bv.label ((a9.refl _).alloc (U #[I M 0] 327)) (b:=m+1) (e7.b i3) i3;have ah:=bw.label ((a9.refl _).alloc (U #[I M 0] 327)) (b:=m+2) (e7.b i3) i3;have bu:=a6 ((bi.alloc (U #[I M 0] 327)).alloc (U #[I M 0] 327));obtain⟨S,al⟩:∃S,S=aP (aP (λ_=>0) 0 (m+1)) 1 (m+2):=⟨_,rfl⟩;obtain⟨aa,af⟩:=j0 (show S 0=m+1 by rw[al];rfl) (show S 1=m+2 by rw[al];rfl);rw[show 0+1=1 from rfl,<-al]at ah;obtain⟨h,bs⟩:=j0 (jM ah 4 e6) ah;clear bv bw ah bi bg bq al;go_wp2_with fail;apply h.mono;rintro e bf⟨rfl,cb,bc⟩;have bj:=a6 ((J9.refl bs.O).step cb bc);have aj:=bc.b bu (a7 _);clear h cb bc bs;go_upto_region 5 with fail;go_cut [7] (λdd dh=>dd=O (fH cs 0&&fH cs 2)/\dh=bf)
 ·have k0:=bm bf aj;have k2:=bn bf aj;rcases ak:fH cs 0 with _|_
  ·rw[ak]at k0;go_wp2_with(apply k0.mono;rintro e ck⟨rfl,rfl⟩);go_meet;exact⟨by rw[ak];rfl,rfl⟩
  rw[ak]at k0;go_wp2_with(first|(apply k0.mono;rintro e ck⟨rfl,rfl⟩)|(apply k2.mono;rintro e ck⟨rfl,rfl⟩));go_meet;exact⟨by rw[ak,Bool.true_and],rfl⟩
 obtain⟨rfl,rfl⟩:=hcut;obtain⟨bo,az⟩:∃bo,bo=(fH cs 0&&fH cs 2):=⟨_,rfl⟩;rw[<-az];obtain⟨P,bt⟩:=j0 az aj;clear az aj bm bn;go_wp2_with fail;apply(KH _).mono;rintro e df⟨dr,rfl,an,bh⟩;obtain⟨dj,dm,rfl⟩:=an.b;have bk:=bj.h bh;obtain⟨br,ct,bp⟩:=r6 an.ty (bt.trans bh) bk;clear an bh bk bj bt;go_wp2;go_loopw [8,40] (λde dc wr=>∃(k:Nat)(ad:Nat->Nat),k<=6/\dc=I M k/\de=I M (sG cs k)/\J9 _ m w [] S 2 (QH cs k) (fG cs k) ad wr/\Tv w W4 df wr) (λ_ i _=>6-(intOf i).toNat);exact⟨0,S,e6,rfl,rfl,bp.O,.refl _ _ _⟩;clear bp;obtain⟨k,ad,ba,rfl,rfl,G,ai⟩:=hrel;have bx:=ai.b ct (a7 _);by_cases am:k<6
 ·have ax:=(br.tv ai e6).mem;obtain⟨dk,an,rfl,_⟩:=ax.rows e6 e6;have db:=ax.l (j:=k) (by simpa[mH]using am) (r:=0) rfl;simp only[OI,mH,List.getElem_map,List.getElem_range,Nat.mul_one,j8]at db;have T:=ae k am wr bx;obtain⟨g,au⟩:=j0 G ai;have dq:(k:Int)<6:=a8;clear G ai ax bx;rcases E:fH cs k with _|_
  ·rw[E]at T;have ce:yE cs k=Bf:=by unfold yE;rw[E];rfl
   have cf:sG cs (k+1)=sG cs k:=GF (by rw[E];rfl);have ao:=a6 (And.intro ce cf);clear ce cf E;go_wp2_with fail;apply T.mono;rintro e cm⟨rfl,rfl⟩;go_wp2;go_roundw;exact⟨k+1,ad,a8,o3,by rw[ao.2],by rw[(nY ao.1).1,(nY ao.1).2];exact g.O,au.O⟩;simp[intOf];omega
  rw[E]at T;have L:=a6 E;clear E;by_cases p:k=0;rotate_left
  focus
   have cv:((k:Int) !=0)=Bt:=by simp[p]
   have cw:((k:Int)==0)=Bf:=by simp[p]
   by_cases z:k=2;rotate_left
   focus
    have cx:((k:Int) !=2)=Bt:=by simp;omega
    obtain⟨C,Q⟩:=j0 (show yE cs k=Bt by unfold yE;rw[L.O];simp[p,z]) (show(fH cs k&&(k==0||k==2)&& !(fH cs 0&&fH cs 2))=Bf by simp[p,z]);clear p z
   rotate_right
   have cx:((k:Int) !=2)=Bf:=by simp[z]
   have C:=a6 (show yE cs k=Bf by unfold yE;rw[L.O];simp[z]);cases bo;rotate_left
   focus have Q:=a6 (GF (show(fH cs k&&(k==0||k==2)&& !(fH cs 0&&fH cs 2))=Bf by rw[<-P.O];simp));clear p z
   rotate_right
   have Q:=a6 (show sG cs (k+1)=k from JS (by rw[L.O,<-P.O];simp[z]));clear p z
  rotate_right
  have cv:((k:Int) !=0)=Bf:=by simp[p]
  have cw:((k:Int)==0)=Bt:=by simp[p]
  rcases Bool.eq_false_or_eq_true bo with rfl|rfl
  obtain⟨C,Q⟩:=j0 (show yE cs k=Bt by unfold yE;rw[L.O,<-P.O];simp[p]) (show(fH cs k&&(k==0||k==2)&& !(fH cs 0&&fH cs 2))=Bf by rw[<-P.O];simp);clear p;rotate_left
  obtain⟨C,Q⟩:=j0 (show yE cs k=Bf by unfold yE;rw[L.O,<-P.O];simp[p]) (show sG cs (k+1)=k from JS (by rw[L.O,<-P.O];simp[p]));clear p;rotate_right 2
  iterate 2 focus go_wp2_with fail;apply T.mono;rintro e cm⟨rfl,rfl⟩;go_wp2_with fail;refine l4 (ag k am _) λF u=>?_;have B:=g.h u;have q:=B.label ((a9.refl _).alloc (U #[I M 0] 327)) (b:=F) (e7.new _ _ _) (a7 _);obtain⟨ap,av,H⟩:=r6 q ((au.h u).h ((a9.refl _).alloc (U #[I M 0] 327))) (I5 q.st 21 (J5 k) 1 (fG cs k) (by have:=qE cs k;omega) (Nat.lt_succ_self _) (by have:=L1 cs k;rw[List.nil_append];omega) (ta:=m+2) ((F7 _ _ (by have:=qE cs k;omega)).trans ((B.old 1 e6).trans af.O)) (pe:=So ⟨F,0,J⟩) (by rw[s9];exact T7 e6 _));clear B q g;go_wp2_with fail;apply H.mono;rintro e du⟨rfl,cc,bd⟩;have s:=ap.step cc bd;obtain⟨l,aq⟩:=j0 (C8 s.st (fG cs k) (Nat.lt_succ_self _) (xa:=F) (s9 _ _ _)) s;clear H cc s;go_wp2_with fail;apply l.mono;rintro e dv⟨rfl,cd,be⟩;obtain⟨cq,cr⟩:=j0 (aq.step cd be) ((av.trans bd).trans be);clear cd bd be l;go_wp2;go_roundw;exact⟨k+1,_,a8,o3,by rw[GF Q.O],by rw[(WV C.O).1,(WV C.O).2];exact cq.O,cr.O⟩;simp[intOf];omega
  all_goals go_wp2_with fail;apply T.mono;rintro e cm⟨rfl,rfl⟩;go_wp2_with fail;refine l4 (ag k am _) λF u=>?_;have B:=g.h u;have q:=B.label ((a9.refl _).alloc (U #[I M 0] 327)) (b:=F) (e7.new _ _ _) (a7 _);obtain⟨ap,av,aq⟩:=r6 q ((au.h u).h ((a9.refl _).alloc (U #[I M 0] 327))) (B.h ((a9.refl _).alloc (U #[I M 0] 327)));clear B q ap;go_wp2;go_roundw;exact⟨k+1,_,a8,o3,by rw[Q.O],by rw[(nY C.O).1,(nY C.O).2];exact aq.O,av.O⟩;simp[intOf];omega
 obtain rfl:k=6:=a8;clear ae br;rcases a4d cs with R|R|R<;>rw[R]
 have ay:=a6 (show BN cs=[] by unfold BN;rw[R];rfl);rotate_left
 focus have q:=G.label ((a9.refl _).alloc (U #[I M 0] 327)) (b:=wr) (e7.new _ _ _) (a7 _);have y:=(F7 ad (N:=fG cs 6) wr (show 0<fG cs 6 by have:=qE cs 6;omega)).trans ((G.old 0 e6).trans aa.O);have g:=a6 q;clear G q;go_wp2_with fail;refine l4 (ag 0 e6 _) λF u=>?_;have s:=g.h u;obtain⟨h,g⟩:=j0 (I5 s.st 21 (J5 (0:Nat)) (fG cs 6) 0 (Nat.lt_succ_self _) a8 (by have:=L1 cs 6;simp only[List.nil_append,l7,r0,It.n];omega) (s9 _ _ _) (pe:=So ⟨m+1,0,J⟩) (by rw[y];exact T7 e6 _)) s;clear s u;go_wp2_with fail;apply h.mono;rintro e cn⟨rfl,f,ta⟩;have d:=g.step f ta;obtain⟨l,g⟩:=j0 (C8 d.st (fG cs 6) (Nat.lt_succ_self _) (s9 _ _ _)) d;clear h f ta d;go_wp2_with fail;apply l.mono;rintro e co⟨rfl,f,ta⟩;have d:=g.step f ta;obtain⟨h,g⟩:=j0 (jM d.st 0 (by have:=L1 cs 6;simp only[List.nil_append,l7,r0,It.n];omega)) d;clear l f ta d;go_wp2_with fail;apply h.mono;rintro e cp⟨rfl,f,ta⟩;have d:=g.step f ta;have ac:=(d.old 1 e6).trans af.O;have y:=(d.old 0 e6).trans aa.O;obtain⟨l,g⟩:=j0 (I5 d.st 69 1073741824 0 1 (by have:=d.le;omega) (by have:=d.le;omega) (by have:=L1 cs 6;simp only[List.nil_append,l7,r0,It.n];omega) (y) (pe:=So ⟨m+1+1,0,J⟩) (by rw[ac];exact T7 e6 _)) d;clear h f ta d y ac;go_wp2_with fail;apply l.mono;rintro e dg⟨rfl,f,ta⟩;have G:=g.step f ta;have ay:=a6 (show BN cs=[.jmp 21 (J5 (0:Nat)) (fG cs 6) 0,.here (fG cs 6),.put ⟨32,0,0,0⟩,.jmp 69 1073741824 0 1] by unfold BN;rw[R];rfl);clear l f ta g
 rotate_left
 focus have q:=G.label ((a9.refl _).alloc (U #[I M 0] 327)) (b:=wr) (e7.new _ _ _) (a7 _);have y:=(F7 ad (N:=fG cs 6) wr (show 0<fG cs 6 by have:=qE cs 6;omega)).trans ((G.old 0 e6).trans aa.O);have g:=a6 q;clear G q;go_wp2_with fail;refine l4 (ag 2 e6 _) λF u=>?_;have s:=g.h u;obtain⟨h,g⟩:=j0 (I5 s.st 21 (J5 (2:Nat)) (fG cs 6) 0 (Nat.lt_succ_self _) a8 (by have:=L1 cs 6;simp only[List.nil_append,l7,r0,It.n];omega) (s9 _ _ _) (pe:=So ⟨m+1,0,J⟩) (by rw[y];exact T7 e6 _)) s;clear s u;go_wp2_with fail;apply h.mono;rintro e cn⟨rfl,f,ta⟩;have d:=g.step f ta;obtain⟨l,g⟩:=j0 (C8 d.st (fG cs 6) (Nat.lt_succ_self _) (s9 _ _ _)) d;clear h f ta d;go_wp2_with fail;apply l.mono;rintro e co⟨rfl,f,ta⟩;have d:=g.step f ta;obtain⟨h,g⟩:=j0 (jM d.st 0 (by have:=L1 cs 6;simp only[List.nil_append,l7,r0,It.n];omega)) d;clear l f ta d;go_wp2_with fail;apply h.mono;rintro e cp⟨rfl,f,ta⟩;have d:=g.step f ta;have ac:=(d.old 1 e6).trans af.O;have y:=(d.old 0 e6).trans aa.O;obtain⟨l,g⟩:=j0 (I5 d.st 69 1073741824 1 0 (by have:=d.le;omega) (by have:=d.le;omega) (by have:=L1 cs 6;simp only[List.nil_append,l7,r0,It.n];omega) (ac) (pe:=So ⟨m+1+0,0,J⟩) (by rw[y];exact T7 e6 _)) d;clear h f ta d y ac;go_wp2_with fail;apply l.mono;rintro e dg⟨rfl,f,ta⟩;have G:=g.step f ta;have ay:=a6 (show BN cs=[.jmp 21 (J5 (2:Nat)) (fG cs 6) 0,.here (fG cs 6),.put ⟨32,0,0,0⟩,.jmp 69 1073741824 1 0] by unfold BN;rw[R];rfl);clear l f ta g
 all_goals obtain⟨h,g⟩:=j0 (C8 G.st 0 (by have:=G.le;omega) (xa:=m+1) ((G.old 0 e6).trans aa.O)) G;clear G;go_wp2_with fail;apply h.mono;rintro e cn⟨rfl,f,ta⟩;have d:=g.step f ta;obtain⟨l,g⟩:=j0 (sY d.st 2147483648 (by have:=L1 cs 6;simp only[List.nil_append,l7,r0,It.n];omega)) d;clear h f ta d;go_wp2_with fail;apply l.mono;rintro e co⟨rfl,f,ta⟩;have d:=g.step f ta;obtain⟨h,g⟩:=j0 (C8 d.st 1 (by have:=d.le;omega) (xa:=m+2) ((d.old 1 e6).trans af.O)) d;clear l f ta d;go_wp2_with fail;apply h.mono;rintro e cp⟨rfl,f,ta⟩;have d:=g.step f ta;obtain⟨l,g⟩:=j0 (sY d.st 2147418112 (by have:=L1 cs 6;simp only[List.nil_append,l7,r0,It.n];omega)) d;clear h f ta d;go_wp2_with fail;apply l.mono;rintro e we⟨rfl,f,ta⟩;have d:=g.step f ta;obtain⟨ds,dt,cj⟩:=d.st.ex;have bl:=a6 (QM cj d.st.ok (by have:=L1 cs 6;simp only[List.nil_append,l7,r0,It.n];omega));have bz:=d.tv.b bu (a7 _);have ch:=cj.wri.o;clear l f ta d;go_wp2_with fail;apply bl.mono;rintro e wf⟨rfl,ci,ca⟩;have cu:=bz.grown ca (λk e=>(ch.lt e).1);obtain⟨di,dl,rfl⟩:=ci.b;clear ch bz ca bl;go_wp2;go_ret2;refine⟨_,rfl,?_,cu⟩;unfold xC;rw[ay.O];simpa using ci
section
attribute [local go_sem] Oper.semAt_some
theorem PN(l s n c B:Nat)(d:p1)(a:o5)(C:D a=n)(ac:n<=1000000)(Jq:R8->Wd->Prop)(w:AbidesFrom B Jq)
 (y:∀pre x W,Jq pre W->x<n->D pre<n->YieldAt .wide 1 prog l #[I M (x:Nat),I V (a.getD x 0)] W λe W'=>e=X (O Bt)/\Jq (pre++[x]) W'/\ZO s d n c (l8 V a) W W')
 (W:Wd) (g:W.cell? ⟨s,0,J⟩=So (Z d n c)) (b:i5 W d (l8 V a)) (t:Jq [] W):
 Ci .wide 2 prog 130 #[Fc (.yield l) #[] #[],K s] W λe W'=>(∃v,e=X v)/\∃xs:R8,xs=(m9 n).reverse/\Jq xs W':=by
 have H:=a6 C;have F:IntKind.i64.wrap ((n:Int)-1)=(n:Int)-1:=h7 _ a8;clear C;refine Co func130 rfl trivial ?_ rfl;simp only[ntmps130,uE,Nat.reduceAdd,Nat.reduceSub];gi_wp2;gi_loopw [3] (λi wr=>∃(k:Nat)(f:Int),k<=n/\f=(k:Int)-1/\i=I M f/\Jq ((m9 n).reverse.take (n-k)) wr/\wr.cell? ⟨s,0,J⟩=So (Z d n c)/\i5 wr d (l8 V a)) (λi _=>(intOf i+1).toNat);exact⟨n,_,a7 _,rfl,rfl,by rw[Nat.sub_self];exact t,g,b⟩;clear g b t;obtain⟨k,f,ad,m,rfl,h,g,b⟩:=hrel;rcases k with _|j
 ·have q:f= -1:=a8;subst q;rw[Nat.sub_zero,List.take_of_length_le i3]at h;clear m F;gi_wp2;go_end0;exact⟨⟨_,rfl⟩,_,rfl,h⟩
 have q:f=j:=a8;subst q;have o:j<n:=a8;have p:j<D a:=by rw[H.O];exact o
 obtain⟨b1,ae,rfl,-,L⟩:=b.at_ (k:=j) (by simpa using p);rw[List.getElem_map]at L;have R:=a6 (kU n j o);have A:a.getD j 0=a[j]:=by rw[b9,e9 p];rfl
 have z:=a6 (λ(W:Wd)(Q:Jq ((m9 n).reverse.take (n-(j+1))) W)=>y _ j W Q o (by rw[m4];simp;omega));rw[A]at z;generalize a[j]=E at*;have b3:(0:Int)<=j:=a8;have b4:(j:Int)<n:=a8;have af:IntKind.i64.wrap ((j:Int)-1)=(j:Int)-1:=h7 _ a8;obtain⟨r,S,G⟩:=r6 (And.intro g b) w h;clear p y m A F b w h;gi_wp2_with fail;obtain⟨ab,tmps,T,aa,m,P⟩:=z _ G.O;rw[m];gi_wp2;apply P.mono;rintro e W3⟨rfl,N,u⟩;gi_wp2;go_roundw;exact⟨j,_,a8,rfl,rfl,by rw[R.O];exact N,u.1 r.1,u.2 r.2⟩;first|(simp[intOf];done)|(simp[intOf];omega)
theorem YD(a:p1)(n c:Nat)(w:Wd):
 Ci .wide 2 prog 72 #[Z a n c] w λe b=>e=X (Fc (.func 130) #[] #[K w])/\b=w.alloc (U #[Z a n c] 33):=by
 refine Co func72 rfl trivial ?_ rfl;simp only[ntmps72,uE,Nat.reduceAdd,Nat.reduceSub];gi_wp2;go_ret;exact⟨rfl,rfl⟩
theorem CT(s n c:Nat)(b:p1)(a:o5)(t:D a=n)(o:n<=1000000)(w:Wd)(u:s<w)
 (f:w.cell? ⟨s,0,J⟩=So (Z b n c)) (j:i5 w b (l8 V a)):
 aH .wide 2 prog 130 #[K s] (λi:Nat=> #[I M i,I V (a.getD i 0)]) (λx _=>x<n) (ZO s b n c (l8 V a)) (λxs=>xs=(m9 n).reverse) n w:=λl Jq W d h m e=>by
 have g:=(d.cell (p:=⟨s,0,J⟩) u).trans f;have k:i5 W b (l8 V a):=j.h d;exact PN l s n c W b a t o Jq h (λpre x W q v r=>m pre x W q v r) W g k e
end
end Go.Proofs.YtcljlejgllkcjaaGreat
