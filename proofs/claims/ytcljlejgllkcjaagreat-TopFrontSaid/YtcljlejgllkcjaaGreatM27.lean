/- A part of the proof of TopFront: lemmas on the walks of its calls. -/
import Derived.Test.YtcljlejgllkcjaaGreatM26
set_option maxHeartbeats 12000000
set_option linter.all false
set_option maxRecDepth 100000
namespace Go.Proofs.YtcljlejgllkcjaaGreat
open Go.RowKit Go.ChangeShapes Go.WideShapes Tryz
open Bool renaming and_eq_true→j3,true→Bt,false→Bf
open Decidable renaming decide→Dc
open Ending renaming returned→X
open Go renaming World→Wd,Value→Va,Calls→Ca,callsIn_wide→Cw,TypeId→Ti
open IntKind renaming i64→M,u32→V,u64→U6,u8→U8
open IntWalk renaming i64_in→h7
open List renaming getElem_mem→g3,take_succ_eq_append_getElem→g2,length_cons→i4,length→D
open Nat renaming le_refl→a7,le_trans→b6,zero_le→c6
open Obj renaming cells→U
open Operand renaming tmp→Tm
open Option renaming none→J,some→So
open Value renaming int→I,slice→Z,string→Y,bool→O,tuple→Tp,agg→Ag
theorem e7.l{g a:Nat}{t:Ti}{cs:Array Va}(b:g≠a):∀(l:List Va){w:Wd}{o:Nat},e7 w g t cs->e7 (jO w a o l) g t cs
 |[],_,_,h=>h
 |v::r,_,_,h=>e7.l b r (h.far (p:=⟨a,_,J⟩) b v)
theorem a11{w:Wd}{gb:Nat}{q post:List n0}{a x:n0}(b:i5 w gb (a2J.row (q++a::x::post))):w.cell? ⟨gb,D q*2,J⟩=So (Y a.1)/\w.cell? ⟨gb,D q*2+1,J⟩=So (I V a.2)/\w.cell? ⟨gb,(D q+1)*2,J⟩=So (Y x.1)/\w.cell? ⟨gb,(D q+1)*2+1,J⟩=So (I V x.2):=by
 have f:D q<D (q++a::x::post):=i3;have g:D q+1<D (q++a::x::post):=i3;have h:(q++a::x::post)[D q]=a:=i3;have i:(q++a::x::post)[D q+1]=x:=by simp[List.getElem_append_right]
 have c:=b.elt0 f (r:=0) rfl;have d:=b.elt0 f (r:=1) rfl;have e:=b.elt0 g (r:=0) rfl;have b1:=b.elt0 g (r:=1) rfl;rw[h]at c d;rw[i]at e b1;exact⟨c,d,e,b1⟩
theorem a3t(m:Int)(F:p1)(c:Nat)(xs:List n0)(s:g4)(a:Int)(w:Wd)(ah:D xs<=1000)(ax:A6 m xs=Bt)(av:i5 w F (a2J.row xs)):
 Ca prog 173 #[Ag #[I U8 m,Z F (D xs) c],Y s,I V a] w λe ca=>∃v,e=X (Ag #[I U8 m,v])/\c7 ca w 94 a2J v (fU m xs s a)/\a9 w ca:=by
 obtain⟨R,aw⟩:∃R,R=fU m xs s a:=⟨_,rfl⟩;rw[<-aw];have be:=a6 (λpre post(cq:DC s xs=pre++post) co cp=>aw.trans (IK ax cq co cp));have cu:D (DC s xs)<=D xs:=List.length_filter_le _ _;obtain⟨bf,bi⟩:=j0 (λW(E:a9 w W)=>SZ m F c xs W a8 ax (av.h E)) (λW(E:a9 w W)=>ID m F c xs s W a8 (av.h E));generalize DC s xs=b at*;obtain⟨aa,ac⟩:∃aa,aa=(w.alloc (U #[I U8 m,Z F (D xs) c] 31)).alloc (U #[I U8 0,Z J 0 0] 31):=⟨_,rfl⟩;have bz:a9 w aa:=by rw[ac];exact((a9.refl w).alloc _).alloc _
 have ar:e7 aa w 31 #[I U8 m,Z F (D xs) c]:=by rw[ac];exact(e7.new w _ _).alloc _
 have bm:e7 aa (w+1) 31 #[I U8 0,Z J 0 0]:=by rw[ac];exact e7.b i3
 obtain⟨ag,bc,d⟩:=r6 bz ar bm;obtain⟨cg,ch⟩:=ar.c2;have dd:=a6 cu;clear ax av bz ar bm aw;go_in;go_upto_region 1 with fail;rw[<-ac];clear ac;go_wp2_with fail;refine l4 (bf _ ag.O) λae z=>?_;obtain⟨ci,cj⟩:=(bc.h z).c2;obtain⟨aq,an⟩:=j0 (ag.trans z) (d.h z);have S:=a6 (ag.trans z).size;clear z cg ch ag d bc bf;go_wp2_with fail;apply(bi _ aq.O).mono;rintro e y⟨v,rfl,u,H⟩;obtain⟨L,ab,rfl⟩:=u.b;have ak:=e7.new y 31 #[I U8 m,Z L (D b) ab];obtain⟨ck,bn⟩:=ak.c2;obtain⟨g,h,bj,ao⟩:=F6 (ak.alloc (U #[Y s,I V a] 94)) (u.h (((a9.refl y).alloc (U #[I U8 m,Z L (D b) ab] 31)).alloc (U #[Y s,I V a] 94))) ((((aq.trans H).alloc (U #[I U8 m,Z L (D b) ab] 31))).alloc (U #[Y s,I V a] 94)) (((an.h H).alloc (U #[I U8 m,Z L (D b) ab] 31)).alloc (U #[Y s,I V a] 94));have bu:=h.ne g e6;have bv:=h.ne ao e6;have A:=a6 (And.intro bu bv);have cv:D b+1<=1000000:=a8;have br:ae<=((y.alloc (U #[I U8 m,Z L (D b) ab] 31)).alloc (U #[Y s,I V a] 94)).heap.size:=by have:=H.size;simp;omega
 have P:=a6 (And.intro S H.size);have bg:=a6 (an.h H).lt;clear ak u H ci cj an aq bu bv;go_upto_region 5 with(at_builtin;refine h8 rfl (Tm 17) (Tm 21) 29 94 rfl PY ae _ b rfl h _ 1 1 [(s,a)] rfl rfl (i5.f (t:=94) (cs:= #[Y s,I V a]) (e7.b i3) rfl) cv br ?_;intro dp cz ad cx ai cr;obtain⟨l,cy,j,rfl⟩:=ad.f;obtain rfl:cy=D b+1:=ad.n_eq.trans i3;have N:=g.grown ai A.1.symm;have bk:=ao.grown ai A.2.symm;have bl:=bj.grown ai (λk e=>b6 S (h.lt e).1);have cm:=N.frozen 1;have cn:=N.cell 1);obtain⟨g,d,T,h⟩:=F6 (N.f 1 (Z l (D b+1) j)) (bk.far (p:=⟨y,1,J⟩) (by have:=bg.O;show w+1≠y.heap.size;omega) (Z l (D b+1) j)) (bl.set (p:=⟨y,1,J⟩) (b6 P.1 P.2) (Z l (D b+1) j)) (ad.kept (c8 _ y 1 (Z l (D b+1) j)) (.inr (ad.ne N e6)));have b1:=g.cell 1;generalize cz.setCell ⟨y,1,J⟩ (Z l (D b+1) j)=dq at*;have de:=a6 (b6 P.1 P.2);generalize y.heap.size=G at*;have da:IntKind.i64.wrap (((D b+1:Nat):Int)-1)=D b:=by rw[(a8:((D b+1:Nat):Int)-1=D b)];exact h7 _ a8
 clear N bk bl cm cn ai cx cr ad ck bn ao bj A br;clear P bg bi;go_wp2;go_loopw [8] (λk wr=>∃pre post:List n0,b=pre++post/\k=I M (D pre)/\(∀x∈post,s.toList<ky x)/\e7 wr G 31 #[I U8 m,Z l (D b+1) j]/\c7 wr ae 94 a2J (Z l (D b+1) j) (pre++(s,a)::post)/\e7 wr (w+1) 31 #[I U8 0,Z J 0 0]/\a9 w wr) (λk _=>(intOf k).toNat);exact⟨b,[],i3,by first|rfl|exact congrArg _ da,λx C=>(nomatch C),g.O,h.O,d.O,T.O⟩;obtain⟨pre,post,bx,rfl,bw,au,bp,bo,bq⟩:=hrel;replace g:=a6 au;replace h:=a6 bp;replace d:=a6 bo;replace T:=a6 bq;obtain⟨af,ap⟩:=j0 bx bw;have b1:=au.cell 1;clear au bp bo bq bx bw;rcases List.eq_nil_or_concat pre with rfl|⟨q,f,rfl⟩
 ·have al:=a6 (be _ _ af ap λq f e=>by simp at e);obtain⟨az,z⟩:=g.c2;obtain⟨ba,bb⟩:=d.c2;have db:=d.frozen 0;have dc:=d.frozen 1;obtain⟨Q,am⟩:=j0 (λr=>I3.put (m:=m) (d.drewN r) (h.h ((a9.refl _).drewN r))) (λr=>((T.drewN r).set (p:=⟨w+1,0,J⟩) (Nat.le_succ _) (I U8 m)).set (p:=⟨w+1,1,J⟩) (Nat.le_succ _) (Z l (D b+1) j));go_wp2_with fail;go_quiet (fail)
  go_wp2_with fail;exact F9 (Q _).b underlying31 ⟨_,rfl,by rw[al.O];exact(Q _).o.mono S.O,am _⟩
 rw[List.concat_eq_append]at*;have u:c7 wr ae 94 a2J (Z l (D b+1) j) (q++f::(s,a)::post):=by simpa using h.O
 obtain⟨gb,cs,-,e,-,ct,B,-⟩:=u.blk G6;subst e;obtain⟨ba,bb,az,z⟩:=a11 u.i.1;have bh:=a6 (yS q post f (s,a));obtain⟨n,aj⟩:∃n,D q=n:=⟨_,rfl⟩;have cw:n+1<D b+1:=by have:=congrArg List.length af.O;simp at this;omega
 have bt:n+1<D (q++f::(s,a)::post):=by simp;omega
 have bs:n<D (q++f::(s,a)::post):=by simp;omega
 rw[aj]at ba bb az z bh;rw[show(q++[f]).length=n+1 by simp[aj]];have cf:=a6 aj;have df:(0:Int)<=n:=a8;have dg:(n:Int)<((D b+1:Nat):Int):=a8;have dh:((n+1:Nat):Int)<((D b+1:Nat):Int):=a8;have di:(0:Int)<=((n+1:Nat):Int):=a8;have bn:Dc (0<n+1)=Bt:=i3;have ae:IntKind.i64.wrap (((n+1:Nat):Int)-1)=n:=by rw[(a8:((n+1:Nat):Int)-1=n)];exact h7 _ a8
 clear aj cw;rcases ah:Op.bytesLess s.toList f.1.toList with _|_
 ·have al:=a6 (be _ _ af ap λdj dr e=>by obtain⟨-,e⟩:=List.append_inj' e rfl;cases e;rw[E7]at ah;exact of_decide_eq_false ah)
  clear B u;obtain⟨az,z⟩:=g.c2;obtain⟨ba,bb⟩:=d.c2;have db:=d.frozen 0;have dc:=d.frozen 1;obtain⟨Q,am⟩:=j0 (λr=>I3.put (m:=m) (d.drewN r) (h.h ((a9.refl _).drewN r))) (λr=>((T.drewN r).set (p:=⟨w+1,0,J⟩) (Nat.le_succ _) (I U8 m)).set (p:=⟨w+1,1,J⟩) (Nat.le_succ _) (Z gb (D b+1) j));go_wp2_with fail;go_quiet (fail)
  go_wp2_with fail;exact F9 (Q _).b underlying31 ⟨_,rfl,by rw[al.O];exact(Q _).o.mono S.O,am _⟩
 have cd:=a6 (of_decide_eq_true ((E7 _ _).symm.trans ah));have bd:=a6 (λW(E:a9 wr W)=>((u.h E).setE bt f).setE (i:=n) (by rw[List.length_set];exact bs) (s,a));rw[bh.O]at bd;have ay:=b6 S ct;have ce:=a6 (λW(E:a9 w W)=>T4 ay (a2J.c (s,a)) (o:=n*2) (T4 ay (a2J.c f) (o:=(n+1)*2) E));have cb:G≠gb:=λe=>by have C:=g.O;rw[e]at C;exact C.ne B e6 rfl
 have cc:w+1≠gb:=λe=>by have C:=d.O;rw[e]at C;exact C.ne B e6 rfl
 have A:=a6 (And.intro cb cc);have dk:=B.frozen (n*2);have dl:=B.frozen (n*2+1);have dm:=B.frozen ((n+1)*2);have dn:=B.frozen ((n+1)*2+1);clear B u bt bs ay cb cc;go_wp2_with fail;go_quiet (fail)
 go_wp2_with fail;go_region
 go_wp2;go_roundw;exact⟨q,f::post,by rw[af.O];simp,by rw[cf.O],List.forall_mem_cons.2 ⟨cd.O,ap.O⟩,e7.l A.1 (a2J.c (s,a)) (o:=n*2) (e7.l A.1 (a2J.c f) (o:=(n+1)*2) (g.drewN _)),bd _ ((a9.refl _).drewN _),e7.l A.2 (a2J.c (s,a)) (o:=n*2) (e7.l A.2 (a2J.c f) (o:=(n+1)*2) (d.drewN _)),ce _ (T.drewN _)⟩;simp[intOf]
section
theorem a1u{b a:Type}(g:a->b->a)(l:List b)(k:Nat)(c:k<D l)(x:a):(l.drop k).foldl g x=(l.drop (k+1)).foldl g (g x l[k]):=by rw[List.drop_eq_getElem_cons c];rfl
theorem VB(s:g4):D (I8 s)<=8:=by
 unfold I8;rcases h:p2 s with _|l
 exact c6 _;exact a4k h
theorem VN(p:Nat->Prop)(a:∃n,p n):∃n,p n/\∀m,p m->n<=m:=by
 obtain⟨n,d⟩:=a;induction n using Nat.strongRecOn with
 |_ n ih=>
  by_cases a:∃m,m<n/\p m
  ·obtain⟨m,b,e⟩:=a
   exact ih m b e
  ·exact⟨n,d,λm b=>Nat.le_of_not_lt λc=>a ⟨m,c,b⟩⟩
open Classical in
noncomputable def ND(p:Nat->Prop):Nat:=if h:∃n,p n then(VN p h).choose else 0
theorem a0V{p:Nat->Prop}{n:Nat}(h:p n):p (ND p):=by unfold ND;rw[dif_pos ⟨n,h⟩];exact(VN p ⟨n,h⟩).choose_spec.1
theorem a0U{p:Nat->Prop}{n:Nat}(h:p n):ND p<=n:=by unfold ND;rw[dif_pos ⟨n,h⟩];exact(VN p ⟨n,h⟩).choose_spec.2 n h
theorem a3v(s:g4)(W:Wd):Ca prog 258 #[Y s] W λe w'=>∃d c,e=X (Z d (D (I8 s)) c)/\i5 w' d (x4.row (I8 s))/\(∀a,d=So a->W<=a.block)/\a9 W w':=by
 apply(pG s W).mono;rintro e w'⟨v,rfl,b,g⟩;unfold I8;rcases f:p2 s with _|l
 rw[f]at b;obtain rfl:=b;exact⟨J,0,rfl,λj u k=>by simp[s7.row]at k,λa e=>(nomatch e),g⟩;rw[f]at b;obtain⟨G,rfl,i,h⟩:=b;exact⟨_,_,rfl,h,λa e=>(by cases e;exact i),g⟩
theorem i5.grownB{w w':Wd}{c:p1}{xs:List Va}{row:Option Nat}(e:i5 w c xs)(g:w.grownBy w' row)(f:∀a,c=So a->So a.block≠row):i5 w' c xs:=λj u h=>by obtain⟨b,i,rfl,d⟩:=e j u h;exact⟨b,i,rfl,by rw[World.cell?_of_block (g.block b (block_lt_of_cell d) (f _ rfl))];exact d⟩
structure KI(w:Wd)(B:Nat)(o t:Va)(td out:C2):Prop where
 ow:c7 w B 9 x4 o out
 vw:YV w B t td
 ap:∀b,t.ownBlock=So b->o.ownBlock≠So b
section
variable {w w':Wd} {B:Nat} {o o' t t':Va} {td td' out out':List ByteArray}
theorem KI.h(h:KI w B o t td out)(x:a9 w w'):KI w' B o t td out:=⟨h.ow.h x,h.vw.h x,h.ap⟩
theorem KI.pushed(a:KI w B o t td out)(d:YV w' B t' td')(g:w.grownBy w' t.ownBlock)(q:t'.ownBlock=t.ownBlock\/∀b,t'.ownBlock=So b->w.heap.size<=b):KI w' B o t' td' out:=by
 refine⟨a.ow.kept g ?_,d,λb c=> ?_⟩
 ·cases c:o.ownBlock with
  |none=>exact .inl rfl
  |some b=>exact .inr λe=>a.ap b e.symm c
 rcases q with q|q
 exact a.ap b (q▸c);intro e;have:=(a.ow.lt e).2;have:=q b c;omega
theorem KI.puts(c:KI w B o t td out)(x:a9 w w')(Oq:c7 w' w 9 x4 o' out')(a:B<=w):KI w' B o' t td out':=⟨Oq.mono a,c.vw.h x,λb a e=>by have:=(Oq.lt e).1;have:=(c.vw.lt a).2;omega⟩
end
theorem VA{s:g4}{l:C2}(a:p2 s=So l):0<D (I8 s):=by have c:(y1.all λg=> !g.2.isEmpty)=Bt:=yA;obtain⟨g,d,rfl⟩:=P1 a;have:=List.all_eq_true.1 c g d;unfold I8;rw[a];show 0<D g.2;cases b:g.2;rw[b]at this;exact absurd this e6;simp
theorem MD(s:g4)(W:Wd):Ca prog 171 #[Y s] W λe w'=>∃v,e=X (Tp #[v,I M (D0 s).2])/\c7 w' W 9 x4 v (D0 s).1/\a9 W w':=by
 obtain⟨N,bm⟩:=j0 a3v (II 8 a8 s (gK s));have an:=qO s;obtain⟨R,u⟩:∃R,R=D0 s:=⟨_,rfl⟩;rw[<-u];unfold D0 at u;rcases ab:p2 s with _|l
 ·rw[ab]at u;have cx:D (I8 s)=0:=by unfold I8;rw[ab];rfl
  subst u;clear an;go_in;go_wp2_with fail;apply(N _ _).mono;rintro e ch⟨bj,c,rfl,bb,-,C⟩;go_wp2;go_ret2;exact⟨_,rfl,c7.nil _ _ _ _,C⟩
 rw[ab]at u;dsimp only at u;have cx:=VA ab;have dp:((D (I8 s):Int)==0)=Bf:=by rw[beq_eq_false_iff_ne];omega
 by_cases ak:4<y6 8 s;·rw[if_pos ak]at u;subst u;clear an;go_in;go_wp2_with fail;apply(N _ _).mono;rintro e ch⟨bj,c,rfl,bb,-,C⟩;go_wp2_with fail;refine l4 (bm _) λdf ao=>?_;go_wp2;go_ret2;exact⟨_,rfl,c7.nil _ _ _ _,C.trans ao⟩
 rw[if_neg ak]at u;obtain⟨bt,bu⟩:=an l ab ak;rw[<-bt]at u;obtain⟨aw,ck⟩:=j0 u bu;obtain⟨L,y⟩:∃L,L=iI 40 [s] []:=⟨_,rfl⟩;rw[<-y]at aw;have cm:=a6 y;clear an bt bu u y;have dr:Dc ((4:Int)<y6 8 s)=Bf:=decide_eq_false ak;go_in;go_wp2_with fail;apply(N _ _).mono;rintro e ch⟨bj,c,rfl,bb,-,C⟩;go_wp2_with fail;refine l4 (bm _) λdf ao=>?_;replace C:=C.trans ao;have ax:=a6 C;clear bb C ao;generalize y6 8 s=dm at*;go_wp2;go_loopw [4,5] (λo t wr=>∃(f:Nat)(td out:C2),D td<=1000/\D out<=1000/\L=iI f td out/\hU f td out=Bt/\KI wr W o t td out/\a9 W wr) (λo t wr=>ND λf=>∃(td out:C2),D td<=1000/\D out<=1000/\L=iI f td out/\hU f td out=Bt/\KI wr W o t td out/\a9 W wr);exact⟨40,[s],[],i3,i3,cm.O,ck.O,⟨c7.nil _ _ _ _,⟨_,1,rfl,i3,by simp[maxLen],λa e=>(by cases e;exact⟨ax.size,(e7.new _ _ _).lt⟩),.inr ⟨_,0,#[Y s],rfl,e7.new _ _ _,i3,λj bg=>by simp at bg;subst bg;rfl⟩⟩,λb _ e=>nomatch e⟩,ax.alloc _⟩;obtain⟨dn,hrel⟩:=hrel;have cd:=a0V (p:=λf=>∃(td out:C2),D td<=1000/\D out<=1000/\L=iI f td out/\hU f td out=Bt/\KI wr W _ _ td out/\a9 W wr) hrel;generalize ce:ND _=f at cd;have cn:=a6 ce;clear ce hrel;obtain⟨td,out,de,dt,y,cb,P,ay⟩:=cd;rcases td with _|⟨d,td⟩
 ·have y:L=out:=by rw[y];cases f<;>rfl
  obtain⟨cu,c,rfl,-,-,-⟩:=P.vw;have af:=a6 y;clear y;go_wp2;go_ret2;exact⟨_,by rw[aw.O];rfl,by rw[aw.O,af.O];exact P.ow,ay⟩
 have ar:=a6 P;obtain⟨cu,c,rfl,bf,da,bd,bx⟩:=P.vw;obtain⟨g,o,cs,rfl,B,dd,bh⟩:=bx.resolve_left λd=>by have:=d.1;simp at bf;omega
 have G:=bh 0 i3;rw[<-B.cell]at G;change wr.cell? ⟨g,o,J⟩=So (Y d)at G;simp only[i4]at bf;have db:1<=c:=a8;clear P bx;go_wp2_with fail;apply(N _ _).mono;rintro e dg⟨ap,dj,rfl,bw,bz,ac⟩;go_upto_region 10 with fail;obtain⟨Q,aj⟩:∃Q:Va,Q=Z (if c=1 then So ⟨g,o,J⟩else So ⟨g,o+1,J⟩) (D td) (c-1):=⟨_,rfl⟩;have bc:Q.ownBlock=So g:=by rw[aj];split<;>rfl
 have bq:KI dg W _ Q td out:=⟨ar.ow.h ac,by
  rw[aj];have E:=bd _ rfl;by_cases e:c=1;subst e;exact⟨_,0,rfl,a8,i3,λa e=>(by cases e;exact⟨E.1,Nat.lt_of_lt_of_le E.2 ac.size⟩),.inl ⟨rfl,rfl⟩⟩;rw[if_neg e];exact⟨_,c-1,rfl,a8,a8,λa e=>(by cases e;exact⟨E.1,Nat.lt_of_lt_of_le E.2 ac.size⟩),.inr ⟨g,o+1,cs,rfl,B.h ac,a8,λj bg=>by have:=bh (j+1) G6;rw[(a8:o+1+j=o+(j+1))];simpa using this⟩⟩,λb S=>by
  rw[bc]at S;exact ar.ap b S⟩
 have bl:=a6 bq;have bs:=ay.trans ac;have E:=(bd _ rfl).2;have bn:=a6 (show∀a b,ap=So a->Q.ownBlock=So b->a.block≠b from λa b H S=>by rw[bc]at S;cases S;have:=bz a H;exact λe=>by rw[e]at this;change g<_ at E;omega)
 have ds:=VB d;obtain⟨cq,bo,af,bp⟩:=F6 (λk al p=>a1u cR (I8 d) k al p) bw y cb;rw[<-aj];clear bw bz y cb aj bc bq G bf da db dd bh B ay ax ar bd E;go_wp2;go_loopw [4,5,7] (λo' t' i DH=>∃(k:Nat)(r h:C2),k<=D (I8 d)/\i=I M k/\(I8 d).foldl cR (td,out)=((I8 d).drop k).foldl cR (r,h)/\D r<=1000+k/\D h<=1000+k/\KI DH W o' t' r h/\i5 DH ap (x4.row (I8 d))/\(∀a b,ap=So a->t'.ownBlock=So b->a.block≠b)/\a9 W DH) (λ_ _ i _=>D (I8 d)-(intOf i).toNat);exact⟨0,td,out,c6 _,rfl,rfl,by simp at de;omega,a8,bl.O,bo.O,bn.O,bs⟩;obtain⟨k,r,h,al,rfl,bv,dw,du,ag,br,bk,ah⟩:=hrel;obtain⟨x,ae,au,aq⟩:=F6 bv ag br bk;clear bv bs bl bo bn br bk;obtain⟨cj,dx,co,rfl⟩:=ag.ow.f;obtain⟨di,dl,rfl,-⟩:=ag.vw;clear ag;by_cases aa:k<D (I8 d)
 ·obtain⟨b,dy,cy,G⟩:=H9 au aa;subst cy;have x:=a6 (x.trans (cq k aa _));have ca:=block_lt_of_cell G;generalize dc:(I8 d)[k]=m at*;have k0:(0:Int)<=k:=a8;have k1:(k:Int)<D (I8 d):=a8;go_wp2_with fail;apply(N _ _).mono;rintro e ci⟨dh,dk,rfl,-,-,ad⟩;have av:=a6 (au.h ad);obtain⟨b2,dz,cz,cv⟩:=H9 av aa;cases cz;rw[dc]at cv;have ai:=ah.trans ad;have F:=a6 (ae.h ad);have dq:b<ci.heap.size:=Nat.lt_of_lt_of_le ca ad.size;clear G ah au ae ad ca;by_cases cc:0<D (I8 m)
  ·have cf:(0:Int)<D (I8 m):=a8;have x:=a6 (x.trans (congrArg (λz=>((I8 d).drop (k+1)).foldl cR z) (show cR (r,h) m=(r++[m],h) by unfold cR;rw[if_pos cc])));go_wp2_with(at_builtin;refine YV.push rfl (Tm 39) (Tm 44) rfl W r (F.vw.h ((a9.refl _).alloc _)) _ 1 m rfl i3 a8 (ai.alloc _).size ?_;intro ec ee ct ba cg);go_roundw;exact⟨k+1,r++[m],h,aa,o3,x.O,by simp;omega,a8,(F.h ((a9.refl _).alloc _)).pushed ct ba cg,(av.h ((a9.refl _).alloc _)).grownB ba (λa H e=>aq a _ H e.symm rfl),λa az H be=>by
   rcases cg with q|q
   rw[q]at be;exact aq a az H be;have:=q az be;cases H;simp at this;show b≠az;omega,(ai.alloc _).grown ba λk al=>(F.vw.lt al).1⟩
   simp[intOf];omega
  have cf:¬(0:Int)<D (I8 m):=a8;have ea:Dc ((0:Int)<D (I8 m))=Bf:=decide_eq_false cf;have x:=a6 (x.trans (congrArg (λz=>((I8 d).drop (k+1)).foldl cR z) (show cR (r,h) m=(r,mL m h) by unfold cR;rw[if_neg cc])));obtain rfl:=F.ow.n_eq;have cp:=a6 (a3u cj co h m a8 ci F.ow.i.1);have dv:=zQ m h;go_wp2_with fail;apply cp.mono;rintro e ed⟨eb,rfl,cr,bi⟩;go_wp2;go_roundw;exact⟨k+1,r,mL m h,aa,o3,x.O,a8,a8,F.puts bi cr ai.size,av.h bi,aq.O,ai.trans bi⟩;simp[intOf];omega
 obtain rfl:k=D (I8 d):=a8;have k1:¬(D (I8 d):Int)<D (I8 d):=a8;have x:=a6 (x.trans (by rw[List.drop_length]));have T:=bp.O;obtain⟨f,rfl⟩:∃cw,f=cw+1:=by
  cases f with
  |zero=>cases T
  |succ f=>exact⟨f,rfl⟩
 have am:=af.O;simp only[hU,j3,decide_eq_true_eq]at T;simp only[iI]at am;rw[x.O]at T am;have A:=a6 (And.intro am T);clear am T af bp;go_wp2;go_roundw;exact⟨f,r,h,A.2.1.1,A.2.1.2,A.1,A.2.2,ae.O,ah⟩;exact Nat.lt_of_le_of_lt (a0U (n:=f) ⟨r,h,A.2.1.1,A.2.1.2,A.1,A.2.2,ae.O,ah⟩) (by rw[cn.O];exact Nat.lt_succ_self f)
end
section
def S16:List Ti:=[31,49,268]
structure rO(base:Nat)(w0 wc w:Wd)(m:Int)(v:Va)(xs:List n0)(vn:Va)(ns:List i6):Prop where
 b:e7 w w0 31 #[I U8 m,v]
 z:e7 w (w0+1) 31 #[I U8 0,Z J 0 0]
 l:c7 w base 94 a2J v xs
 bs:base<=w0
 k:A6 m xs=Bt
 n:c7 w w0 49 h9 vn ns
 t:Tv w0 S16 wc w
 x:a9 w0 w
section
variable {base:Nat} {w0 wc w w':Wd} {m:Int} {v v':Va} {xs ys:List n0} {vn vn':Va} {ns ns':List i6}
theorem rO.h(h:rO base w0 wc w m v xs vn ns)(x:a9 w w'):rO base w0 wc w' m v xs vn ns:=⟨h.b.h x,h.z.h x,h.l.h x,h.bs,h.k,h.n.h x,h.t.h x,h.x.trans x⟩
theorem rO.tv(h:rO base w0 wc w m v xs vn ns)(v':Va):Tv w0 [31] w ((w.setCell ⟨w0,0,J⟩ (I U8 m)).setCell ⟨w0,1,J⟩ v'):=
 (Tv.r h.b (a7 _) e6 0 _).trans (.r (h.b.f 0 _) (a7 _) e6 1 _)
theorem rO.put(h:rO base w0 wc w m v xs vn ns)(o:c7 w base 94 a2J v' ys)(k:A6 m ys=Bt):rO base w0 wc ((w.setCell ⟨w0,0,J⟩ (I U8 m)).setCell ⟨w0,1,J⟩ v') m v' ys vn ns:=
 have L:=I3.put (m:=m) h.b o;have t:=h.tv v'
 ⟨L.b,(h.z.far (p:=⟨w0,0,J⟩) (Nat.succ_ne_self _) _).far (p:=⟨w0,1,J⟩) (Nat.succ_ne_self _) _,L.o,h.bs,k,t.own h.n e6,
  h.t.trans ((Tv.r h.b (a7 _) e6 0 _).trans (.r (h.b.f 0 _) (a7 _) e6 1 _)),t.b h.x (a7 _)⟩
theorem rO.push(h:rO base w0 wc w m v xs vn ns)(o:c7 w' w0 49 h9 vn' ns')(g:w.grownBy w' vn.ownBlock):rO base w0 wc w' m v xs vn' ns':=
 ⟨h.b.grown g (h.n.ne h.b e6).symm,h.z.grown g (h.n.ne h.z e6).symm,h.l.apart h.n e6 g,h.bs,h.k,o,h.t.trans (.ofOwn h.n g (a7 _) e6),h.x.grown g λk e=>(h.n.lt e).1⟩
theorem rO.fin(a:rO base w0 wc w m v xs vn ns)(b c:Va):e7 ((w.setCell ⟨w0+1,0,J⟩ b).setCell ⟨w0+1,1,J⟩ c) (w0+1) 31 #[b,c]/\c7 ((w.setCell ⟨w0+1,0,J⟩ b).setCell ⟨w0+1,1,J⟩ c) base 94 a2J v xs/\c7 ((w.setCell ⟨w0+1,0,J⟩ b).setCell ⟨w0+1,1,J⟩ c) w0 49 h9 vn ns/\a9 w0 ((w.setCell ⟨w0+1,0,J⟩ b).setCell ⟨w0+1,1,J⟩ c):=by have x:=(a.x.set (p:=⟨w0+1,0,J⟩) (Nat.le_succ _) b).set (p:=⟨w0+1,1,J⟩) (Nat.le_succ _) c;have d:=c8 w (w0+1) 0 b;have e:=c8 (w.setCell ⟨w0+1,0,J⟩ b) (w0+1) 1 c;exact⟨(a.z.f 0 b).f 1 c,(a.l.kept d (.inr (a.l.ne a.z e6))).kept e (.inr (a.l.ne a.z e6)),(a.n.kept d (.inr (a.n.ne a.z e6))).kept e (.inr (a.n.ne a.z e6)),x⟩
theorem rO.ent(a:rO base w0 wc w m v xs vn ns){g:Nat}{cs:Array Va}(k:e7 w g 268 cs)(b:w0<=g)(i:Nat)(u:Va):rO base w0 wc (w.setCell ⟨g,i,J⟩ u) m v xs vn ns:=
 have e:=c8 w g i u
 ⟨a.b.grown e (λq=>by cases q;exact k.ne a.b e6 rfl),a.z.grown e (λq=>by cases q;exact k.ne a.z e6 rfl),a.l.kept e (.inr (a.l.ne k e6)),a.bs,a.k,a.n.kept e (.inr (a.n.ne k e6)),a.t.trans (.r k b e6 i u),a.x.set b u⟩
end
theorem pP{m:Int}{xs:List n0}(a:A6 m xs=Bt)(c:0<=m)(t:Bool):(I2 m t=1\/I2 m t=2)/\A6 (I2 m t) xs=Bt:=by
 have b:I2 m t=1\/I2 m t=2:=by unfold A6 at a;unfold I2;split at a;cases a;split;split<;>simp;omega
 exact⟨b,wS b (R2 a)⟩
def OD(m:Int)(a b:Bool):Bool:=(m==1&&(!a||b))||(m==2&&a)
def erT(y:g4):Int:=if(r3 y).2=0 then(J2 (r3 y).1.name).2 else(r3 y).2
def HD(a b:Bool)(c:g4):Bool:=(r3 c).1.has&&(!a|| !b)
def RU(m:Int)(b c:Bool)(σ:List n0×List i6)(a:g4):List n0×List i6:=
 if erT a=0 then((J2 (r3 a).1.name).1.foldl (L5 m (OD m b (if HD c b a then Bf else(r3 a).1.has)) (if HD c b a then 0 else(r3 a).1.act)) σ.1,if HD c b a then σ.2++[cX 161 a]else σ.2)
 else(σ.1,σ.2++[cX (erT a) a])
theorem vP{m:Int}(f:m=1\/m=2)(a c:Bool)(σ:List n0×List i6)(b:g4):cC m a c σ b=RU m a c σ b:=by
 unfold cC RU erT HD;by_cases d:(r3 b).2=0;simp only[d,if_true];by_cases e:(J2 (r3 b).1.name).2=0;simp only[e,if_true];have g:OD m a Bf=kJ m a:=by unfold OD kJ;rcases f with rfl|rfl<;>cases a<;>rfl
 have h:OD m Bt Bt=Bt:=by unfold OD;rcases f with rfl|rfl<;>rfl
 cases(r3 b).1.has<;>cases c<;>cases a<;>simp[g,h];simp only[e,if_false];simp only[d,if_false]
theorem RT{m:Int}(c:m=1\/m=2){inn:Bool}{a:Int}{xs:List n0}(d:x2 a=Bt)(n:g4)(e:w7 n=Bt)(b:A6 m xs=Bt):A6 m (L5 m inn a xs n)=Bt:=by unfold L5;split;exact JD c b e d;unfold oN;rw[if_pos b];exact AR c b n
end
theorem IE(m:Int)(dj:0<=m)(ax:p1)(c:Nat)(xs:List n0)(s:g4)(ad:Bool)(w:Wd)(ht:s.size<=100000)(A:A6 m xs=Bt)(base:Nat)(dm:base<=w)(dl:c7 w base 94 a2J (Z ax (D xs) c) xs):
 Ca prog 114 #[Ag #[I U8 m,Z ax (D xs) c],Y s,O ad] w λe eb=>∃v co,e=X (Tp #[Ag #[I U8 (B5 m xs s ad).1,v],co])/\c7 eb base 94 a2J v (B5 m xs s ad).2.1/\c7 eb w 49 h9 co (B5 m xs s ad).2.2/\a9 w eb:=by
 obtain⟨R,am⟩:∃R,R=B5 m xs s ad:=⟨_,rfl⟩;rw[<-am];unfold B5 at am;have ga:=a6 dl;have ar:=dl.i.1;have hp:=Z9 A;obtain⟨er,db,bp⟩:=r6 (λW(gk:a9 w W)=>SZ m ax c xs W a8 A (ar.h gk)) hZ (jU s a8);obtain⟨bq,bu⟩:∃bq,bq=(w.alloc (U #[I U8 m,Z ax (D xs) c] 31)).alloc (U #[I U8 0,Z J 0 0] 31):=⟨_,rfl⟩;have fk:a9 w bq:=by rw[bu];exact((a9.refl w).alloc _).alloc _
 have dd:e7 bq w 31 #[I U8 m,Z ax (D xs) c]:=by rw[bu];exact(e7.new w _ _).alloc _
 have ev:e7 bq (w+1) 31 #[I U8 0,Z J 0 0]:=by rw[bu];exact e7.b i3
 obtain⟨H,z,F⟩:=r6 fk dd ev;obtain⟨gd,gf⟩:=dd.c2;clear ar dl fk dd ev;go_in;go_upto_region 1 with fail;rw[<-bu];clear bu;go_wp2_with fail;refine l4 (er _ H.O) λie ca=>?_;replace H:=a6 (H.trans ca);replace z:=a6 (z.h ca);replace F:=a6 (F.h ca);clear er ca gd gf;rw[if_pos A]at am;have fw:=a6 A;have hw:=x7 s;clear A;go_wp2_with fail;apply(db s a8 _).mono;rintro e ig⟨u,rfl,bl,cb⟩;obtain⟨hb,hh,rfl⟩:=bl.b;replace H:=a6 (H.trans cb);replace z:=a6 (z.h cb);replace F:=a6 (F.h cb);clear bl cb;by_cases bm:D (l3 s)=0
 ·have ai:=a6 (am.trans (if_pos bm));have gp:((D (l3 s):Int)==0)=Bt:=by rw[bm];rfl
  obtain⟨gy,fn⟩:=F.c2;have fo:=F.frozen 0;have gz:=F.frozen 1;obtain⟨bg,fv⟩:=j0 ((F.f 0 (I U8 0)).f 1 (Z J 0 0)) ((H.set (p:=⟨w+1,0,J⟩) (Nat.le_succ _) (I U8 0)).set (p:=⟨w+1,1,J⟩) (Nat.le_succ _) (Z J 0 0));clear am bm;go_wp2_with fail;exact s0 rfl bg underlying31 ⟨_,_,by rw[ai.O];rfl,by rw[ai.O];exact c7.nil _ _ _ _,by rw[ai.O];exact c7.nil _ _ _ _,fv.O⟩
 replace am:=am.trans (if_neg bm);have gp:((D (l3 s):Int)==0)=Bf:=by simpa using bm
 have hv:=C1 s;obtain⟨fh,fi⟩:=pP fw dj (j6 s).2;obtain⟨ce,ep,em⟩:=r6 fh fi (show I2 m (j6 s).2=if m=0 then(if(j6 s).2 then 2 else 1)else m from rfl);generalize(j6 s).2=tu at*;generalize(j6 s).1=rest at*;generalize(l3 s).length=wl at*;generalize I2 m tu=a at*;have ai:=a6 am;clear am bm fh fi;go_wp2_with fail;apply ZG (bp _);have ew:=z.cell 0;have di:=z.frozen 0;go_upto_if 34 with fail;go_cut [] (λl=>e7 l w 31 #[I U8 a,Z ax (D xs) c]/\e7 l (w+1) 31 #[I U8 0,Z J 0 0]/\a9 w l)
 ·have bk:=em.O;by_cases bi:m=0
  ·have Q:(m==0)=Bt:=by simp[bi]
   rw[if_pos bi]at bk;have cv:=a6 bk;clear bk bi;cases tu;all_goals go_wp2;go_meet;exact⟨by rw[cv.O];first|exact z.f 0 _|exact(z.f 0 (I U8 1)).f 0 _,by first|exact F.far (p:=⟨w,0,J⟩) (Nat.succ_ne_self _) _|exact(F.far (p:=⟨w,0,J⟩) (Nat.succ_ne_self _) (I U8 1)).far (p:=⟨w,0,J⟩) (Nat.succ_ne_self _) _,by first|exact H.set (p:=⟨w,0,J⟩) (a7 _) _|exact(H.set (p:=⟨w,0,J⟩) (a7 _) (I U8 1)).set (p:=⟨w,0,J⟩) (a7 _) _⟩
  have Q:(m==0)=Bf:=by simp[bi]
  rw[if_neg bi]at bk;have cv:=a6 bk;clear bk bi;go_wp2;go_meet;exact⟨by rw[cv.O];exact z.O,F.O,H.O⟩
 obtain⟨k1,k2,k3⟩:=hcut;replace z:=a6 k1;replace F:=a6 k2;replace H:=a6 k3;have hx:=x7 rest;clear k1 k2 k3 ew di em bp;go_wp2_with fail;apply(db rest a8 _).mono;rintro e aw⟨u,rfl,bl,cc⟩;obtain⟨f,gc⟩:=j0 (show rO base w aw aw a (Z ax (D xs) c) xs (Z J 0 0) []from⟨z.h cc,F.h cc,ga.h (H.trans cc),dm,ep.O,c7.nil _ _ _ _,.refl _ _ _,H.trans cc⟩) (lA rest);generalize l3 rest=S at*;obtain⟨hc,hi,rfl⟩:=bl.b;obtain⟨fx,gb⟩:=j0 bl (λk(bd:k<D S)=>show(S.take (k+1)).foldl (cC a tu ad) (xs,[])=cC a tu ad ((S.take k).foldl (cC a tu ad) (xs,[])) S[k] by rw[g2 bd,List.foldl_append];rfl);clear bl cc z F H ep db;go_wp2;go_loopw [10,12] (λco i wr=>∃(k:Nat)(v:Va)(ys:List n0)(y:List i6),k<=D S/\i=I M k/\(S.take k).foldl (cC a tu ad) (xs,[])=(ys,y)/\D y<=k/\rO base w aw wr a v ys co y) (λ_ i _=>D S-(intOf i).toNat);exact⟨0,_,xs,[],c6 _,rfl,rfl,a7 _,f.O⟩;obtain⟨k,v,ys,y,bd,rfl,ff,hs,dk⟩:=hrel;obtain⟨z,ac⟩:=j0 ff dk;obtain⟨cr,B,dg,rfl⟩:=dk.n.f;clear ff dk f;by_cases bx:k<D S
 ·obtain⟨b,ia,rfl,Q⟩:=H9 (ac.t.own fx e6).i.1 bx;have dt:=gb k bx;rw[z.O,vP ce.O]at dt;have hu:=gc _ (g3 bx);generalize S[k]=d at*;have k0:(0:Int)<=k:=a8;have k9:(k:Int)<D S:=a8;have aa:=a6 dt;clear dt z;go_upto_if 52 with fail;go_cut [13] (λt l=>t=Y (j9 d)/\l=wr)
  ·by_cases fb:60<d.size;·have gr:(60:Int)<d.size:=a8;have hz:(60:Int)<=d.size:=a8;have cu:=a6 (show j9 d=d.extract 0 60 by unfold j9;rw[(a8:min d.size 60=60)]);clear fb;go_wp2;go_meet;exact⟨by rw[cu.O],rfl⟩
   have gr:¬(60:Int)<d.size:=a8;have cu:=a6 (show j9 d=d by unfold j9;rw[(a8:min d.size 60=d.size),ByteArray.extract_zero_size]);clear fb;go_wp2;go_meet;exact⟨by rw[cu.O],rfl⟩
  obtain⟨rfl,rfl⟩:=hcut;have an:=a6 (a0u d a8);have fj:= @vZ d;unfold RU HD erT at aa;have es:=a6 (show∀e,cX e d=⟨⟨#[]⟩,0,e,j9 d⟩from λe=>rfl);generalize r3 d=q at*;obtain⟨⟨nm,ap,af⟩,E⟩:=q;dsimp only[QE.val]at*;have cy:=a6 fj;clear fj;go_wp2_with fail;refine l4 (an _) λec ee=>?_;go_upto_region 20 with fail;obtain⟨r,o⟩:=j0 (ac.h (ee.alloc (U #[Y nm,I V ap,O af] 268))) (e7.new ec 268 #[Y nm,I V ap,O af]);have gl:=(ac.x.trans ee).size;generalize ec.alloc (U #[Y nm,I V ap,O af] 268)=ih at*;generalize ec.heap.size=aj at*;clear ee ac an Q;have bc:E=0->0<nm.size:=λab=>(cy ab).1
  obtain⟨eu,fe⟩:∃b:Bool,b=(Dc (E=0)&&p5 nm 0==64):=⟨_,rfl⟩;have az:=a6 fe;clear fe;go_cut [70] (λb l=>b=O eu/\e7 l aj 268 #[Y nm,I V ap,O af]/\rO base w aw l a v ys (Z cr B dg) y)
  ·have ez:=o.cell 0;by_cases h:E=0
   ·obtain⟨hj,an,ac⟩:=a0n (bc h);have ak:(E==0)=Bt:=by simp[h]
    have G:=az.O;rw[decide_eq_true h,an.O,Bool.true_and]at G;have ct:=a6 G;clear G h bc;go_wp2;go_meet;exact⟨by rw[ct.O],o.O,r.O⟩
   have ak:(E==0)=Bf:=by simp[h]
   have G:=az.O;rw[decide_eq_false h,Bool.false_and]at G;have ct:=a6 G;clear G h bc;go_wp2;go_meet;exact⟨by rw[ct.O],o.O,r.O⟩
  obtain⟨rfl,k1,k2⟩:=hcut;replace o:=a6 k1;replace r:=a6 k2;clear k1 k2;obtain⟨bo,ek⟩:=j0 (zO nm) (MD nm);obtain⟨ao,ar⟩:∃ao,ao=J2 nm:=⟨_,rfl⟩;obtain⟨T,en,eo⟩:=r6 ar (show∀n∈ao.1,w7 n=Bt from λn ab=>pO (by rw[ar]at ab;exact ab)) (show D ao.1<=1000 by rw[ar];exact tS nm);rw[<-ar]at aa;clear ar;go_upto_if 70 with fail;go_cut [15,16] (λe gs l=>∃L,e=I M (if E=0 then ao.2 else E)/\c7 l aj 9 x4 gs L/\(E=0->L=ao.1)/\e7 l aj 268 #[Y nm,I V ap,O af]/\rO base w aw l a v ys (Z cr B dg) y)
  ·have ez:=o.cell 0;by_cases h:E=0
   ·have ak:(E==0)=Bt:=by simp[h]
    have cn:Lib.hasPrefix nm.data.toList [64]=(p5 nm 0==64):=(MH nm 64 (bc h)).1;have G:=az.O;rw[decide_eq_true h,Bool.true_and,<-cn]at G;have A:=T.O;unfold J2 at A;rw[<-G]at A;have ay:=a6 h;clear h bc G cn az T;cases eu
    ·rcases bd:w7 nm with _|_
     ·rw[bd]at A bo;have T:=a6 A;clear A bd;go_wp2_with fail;refine l4 (bo _) λfm ag=>?_;go_wp2;go_meet;exact⟨[],by rw[if_pos ay.O,T.O];rfl,c7.nil _ _ _ _,λ_=>by rw[T.O];rfl,o.h ag,r.h ag⟩
     rw[bd]at A bo;have T:=a6 A;clear A bd;go_wp2_with fail;refine l4 (bo _) λfm ag=>?_;have hl:=ag.cell ez;go_wp2;go_meet;exact⟨[nm],by rw[if_pos ay.O,T.O,ay.O];rfl,c7.new (by have:=ag.size;have:=o.lt;omega) rfl rfl e6,λ_=>by rw[T.O];rfl,o.h (ag.alloc _),r.h (ag.alloc _)⟩
    have T:=a6 (show ao=D0 nm from A);clear A;generalize D0 nm=he at*;go_wp2_with fail;apply(ek _).mono;rintro e fm⟨ic,rfl,gu,ag⟩;go_wp2;go_meet;exact⟨_,by rw[if_pos ay.O,T.O],by rw[T.O];exact gu.mono (Nat.le_of_lt o.lt),λ_=>rfl,o.h ag,r.h ag⟩
   have ak:(E==0)=Bf:=by simp[h]
   have G:=az.O;rw[decide_eq_false h,Bool.false_and]at G;have ay:=a6 h;clear h bc az;subst G;go_wp2;go_meet;exact⟨[],by rw[if_neg ay.O],c7.nil _ _ _ _,λab=>absurd ab ay.O,o.O,r.O⟩
  obtain⟨L,rfl,dz,fc,k1,k2⟩:=hcut;obtain⟨ef,ex,rfl⟩:=dz.b;obtain⟨bh,el⟩:=j0 dz fc;replace o:=a6 k1;replace r:=a6 k2;have et:=a6 gl;obtain⟨ae,ci⟩:∃ae,ae=if E=0 then ao.2 else E:=⟨_,rfl⟩
  obtain⟨bb,dp⟩:∃bb,bb=(af&&(!ad|| !tu)):=⟨_,rfl⟩;rw[<-ci,<-dp]at aa;rw[<-ci];obtain⟨eh,ej⟩:=j0 ci dp;clear dz fc k1 k2 ci dp T bo ek bc az;by_cases aq:ae=0;rotate_left
  ·have aa:=a6 (aa.trans (if_neg aq));have ba:(ae !=0)=Bt:=by simpa using aq
   have ds:D y+1<=1000000:=a8;have du:=(r.x.alloc (U #[Y ⟨#[]⟩,I M 0,I M ae,Y (j9 d)] 49)).size;have f:=a6 (r.h ((a9.refl _).alloc (U #[Y ⟨#[]⟩,I M 0,I M ae,Y (j9 d)] 49)));clear aq;go_wp2_with(at_builtin;refine h8 rfl (Tm 91) (Tm 95) 38 49 rfl P0 w _ y rfl f.n _ 1 1 [⟨⟨#[]⟩,0,ae,j9 d⟩] rfl rfl (i5.f (t:=49) (cs:= #[Y ⟨#[]⟩,I M 0,I M ae,Y (j9 d)]) (e7.new _ _ _) rfl) ds du ?_;intro ea ed dy gx bt gh);go_roundw;exact⟨k+1,_,ys,y++[⟨⟨#[]⟩,0,ae,j9 d⟩],bx,o3,by rw[aa.O,es.O],by simp;omega,f.push dy bt⟩;simp[intOf];omega
  have aa:=a6 (aa.trans (if_pos aq));have h:E=0:=by by_cases ab:E=0;exact ab;have:=eh.O;rw[if_neg ab]at this;omega
  have fu:=a6 (el h);have eg:=a6 (cy h).2.1;have ba:(ae !=0)=Bf:=by simp[aq]
  clear h aq cy el eh;go_upto_region 28 with fail;go_cut [106] (λb l=>b=O bb/\e7 l aj 268 #[Y nm,I V ap,O af]/\rO base w aw l a v ys (Z cr B dg) y/\c7 l aj 9 x4 (Z ef (D L) ex) L)
  ·have hk:=o.cell 2;cases af;rotate_left
   cases ad;rotate_left
   cases tu;all_goals go_wp2;go_meet;exact⟨by rw[ej.O];rfl,o.O,r.O,bh.O⟩
  obtain⟨rfl,k1,k2,k3⟩:=hcut;replace o:=a6 k1;replace r:=a6 k2;replace bh:=a6 k3;clear k1 k2 k3;obtain⟨C,cj⟩:∃gg,gg=if bb=Bt then 0 else ap:=⟨_,rfl⟩
  obtain⟨bv,dq⟩:∃aq,aq=if bb=Bt then Bf else af:=⟨_,rfl⟩
  obtain⟨bn,cm⟩:∃dx,dx=if bb=Bt then y++[cX 161 d]else y:=⟨_,rfl⟩
  rw[<-cj,<-dq,<-cm]at aa;have cz:=a6 (And.intro cj (And.intro dq cm));have fd:x2 C=Bt:=by rw[cj];split;rfl;exact eg.O
  have gn:D bn<=k+1:=by rw[cm];split;simp;omega;omega
  have fq:=a6 fd;clear cj dq cm fd eg ej;go_upto_if 106 with fail;go_cut [10] (λgw l=>e7 l aj 268 #[Y nm,I V C,O bv]/\rO base w aw l a v ys gw bn/\c7 l aj 9 x4 (Z ef (D L) ex) L)
  ·obtain⟨be,bf,av⟩:=cz.O;cases bb;·have be:C=ap:=be;have bf:bv=af:=bf;have av:bn=y:=av;subst be bf av;go_wp2;go_meet;exact⟨o.O,r.O,bh.O⟩
   have be:C=0:=be;have bf:bv=Bf:=bf;have av:bn=y++[cX 161 d]:=av;rw[es.O]at av;have an:=a6 (And.intro be (And.intro bf av));have ds:D y+1<=1000000:=a8;have du:=(r.x.alloc (U #[Y ⟨#[]⟩,I M 0,I M 161,Y (j9 d)] 49)).size;obtain⟨f,ei,fy⟩:=r6 (r.h ((a9.refl _).alloc (U #[Y ⟨#[]⟩,I M 0,I M 161,Y (j9 d)] 49))) (o.alloc (U #[Y ⟨#[]⟩,I M 0,I M 161,Y (j9 d)] 49)) (bh.h ((a9.refl _).alloc (U #[Y ⟨#[]⟩,I M 0,I M 161,Y (j9 d)] 49)));clear be bf av cz;go_wp2_with(at_builtin;refine h8 rfl (Tm 107) (Tm 110) 38 49 rfl P0 w _ y rfl f.n _ 1 1 [⟨⟨#[]⟩,0,161,j9 d⟩] rfl rfl (i5.f (t:=49) (cs:= #[Y ⟨#[]⟩,I M 0,I M 161,Y (j9 d)]) (e7.new _ _ _) rfl) ds du ?_;intro ea ed dy gx bt gh;have ah:=ei.grown bt (f.n.ne ei e6).symm;have fa:=ah.frozen 1;have hm:=ah.frozen 2;have fn:=ah.cell 1;have fo:=ah.cell 2;have cf:=a6 (And.intro (f.push dy bt) (fy.apart f.n e6 bt)));go_meet;exact⟨by rw[an.1,an.2.1];exact(ah.f 2 (O Bf)).f 1 (I V 0),by rw[an.2.2];exact(cf.1.ent ah et 2 (O Bf)).ent (ah.f 2 (O Bf)) et 1 (I V 0),(cf.2.kept (c8 _ aj 2 (O Bf)) (.inr (cf.2.ne ah e6))).kept (c8 _ aj 1 (I V 0)) (.inr (cf.2.ne ah e6))⟩
  obtain⟨k1,k2,k3⟩:=hcut;replace o:=a6 k1;replace r:=a6 k2;replace bh:=a6 k3;obtain⟨fp,dx,gj,rfl⟩:=k2.n.f;obtain⟨inn,dr⟩:∃inn,inn=OD a tu bv:=⟨_,rfl⟩;rw[<-dr]at aa;obtain⟨ft,fs⟩:=j0 dr (λj(fg:j<D L)=>show(L.take (j+1)).foldl (L5 a inn C) ys=L5 a inn C ((L.take j).foldl (L5 a inn C) ys) L[j] by rw[g2 fg,List.foldl_append];rfl);rw[<-fu.O]at en eo aa;have hq:=eo.O;clear k1 k2 k3 dr cz;go_wp2;go_loopw [17] (λi wr=>∃(j:Nat)(v':Va),j<=D L/\i=I M j/\rO base w aw wr a v' ((L.take j).foldl (L5 a inn C) ys) (Z fp dx gj) bn/\Tv w [31] wc wr) (λi _=>D L-(intOf i).toNat);exact⟨0,v,c6 _,rfl,r.O,.refl _ _ _⟩;obtain⟨j,v',fg,rfl,au,bj⟩:=hrel;obtain⟨f,bp,fr⟩:=r6 au bj (bj.blk o (.inr e6));obtain⟨ca,cb⟩:=(bj.blk o (.inr e6)).d2 1 2;obtain⟨hn,ho⟩:=au.b.c2;by_cases bw:j<D L
  ·obtain⟨hf,ib,e,fl⟩:=H9 (bj.own bh e6).i.1 bw;subst e;have ck:=fs j bw;have gm:=en _ (g3 bw);have hr:=Z9 au.k;generalize L[j]=B at*;generalize(L.take j).foldl (L5 a inn C) ys=zs at*;obtain⟨cd,cg,rfl⟩:=au.l.b;have hy:(0:Int)<=j:=a8;have gq:(j:Int)<D L:=a8;clear au bj;go_upto_region 35 with fail;go_cut [138] (λb l=>b=O inn/\l=wr)
   ·refine ce.elim (λab=> ?_) λab=> ?_
    all_goals subst ab;cases tu<;>cases bv;all_goals go_wp2;go_meet;exact⟨by rw[ft.O];rfl,rfl⟩
   obtain⟨rfl,rfl⟩:=hcut;cases inn
   ·have cw:=a6 (ck.trans (show L5 a Bf C zs B=DC B zs from if_pos f.k));obtain⟨cx,da⟩:=j0 (show A6 a (DC B zs)=Bt from AR ce f.k B) (λN(g:a9 _ N)=>ID a cd cg zs B N a8 (f.h g).l.i.1);clear ck;go_wp2_with fail;refine wpIn_wide.1 (aO (n:=1) ?_);iterate 5 (apply D7;focus (intro x N g;simp only[g0,g5,uV];(repeat intro dh;try simp only[dh]);have dj:=(f.h g).b.cell 0;have h:=(f.h g).b.cell 1;have ha:=g.cell fl;gi_wp2_with fail;exact dn rfl rfl (a9.refl _)))
    refine r7 ((VP.list a base 94 a2J (DC B zs))) ?_ ?_;·intro x N g;simp only[g0,g5,uV,VP.list];intro Q al;simp only[Q,al];gi_wp2_with(refine⟨trivial,?_⟩;gi_at_call 174;apply((Cw (n:=0)).2 (da N g)).mono;rintro e ed⟨ea,rfl,bz,dv⟩;obtain⟨cq,df,rfl⟩:=bz.b);refine e8 ?_ rfl (dv);exact⟨cq,df,rfl,bz.mono (b6 dm (f.h g).x.size)⟩
    intro x N g;simp only[n9,g0,o7,uV];rintro Q ak ba br al⟨cp,de,bs,dw⟩;simp only[Q,ak,ba,br,al,bs];clear Q ak ba br al bs;have P:=f.h g;have di:=P.b.frozen 0;have fa:=P.b.frozen 1;obtain⟨gv,cn⟩:=P.b.c2;obtain⟨dc,KT⟩:=j0 (P.put dw cx.O) ((bp.h g).trans (P.tv (Z cp (D (DC B zs)) de)));gi_wp2_with fail;go_wp2;go_roundw;exact⟨j+1,_,bw,o3,by rw[cw.O];exact dc.O,KT.O⟩;simp[intOf];omega
   have cw:=a6 (ck.trans (show L5 a Bt C zs B=fU a zs B C from rfl));obtain⟨cx,da⟩:=j0 (JD ce f.k gm fq.O) (λN(g:a9 _ N)=>a3t a cd cg zs B C N a8 f.k (f.h g).l.i.1);clear ck;go_wp2_with fail;refine wpIn_wide.1 (aO (n:=1) ?_);iterate 7 (apply D7;focus (intro x N g;simp only[g0,g5,uV];(repeat intro dh;try simp only[dh]);have dj:=(f.h g).b.cell 0;have h:=(f.h g).b.cell 1;have ha:=g.cell fl;have ii:=(fr.h g).cell 1;gi_wp2_with fail;exact dn rfl rfl (a9.refl _)))
   refine r7 ((VP.list a base 94 a2J (fU a zs B C))) ?_ ?_;·intro x N g;simp only[g0,g5,uV,VP.list];intro Q al ch;simp only[Q,al,ch];gi_wp2_with(refine⟨trivial,?_⟩;gi_at_call 173;apply((Cw (n:=0)).2 (da N g)).mono;rintro e ed⟨ea,rfl,bz,dv⟩;obtain⟨cq,df,rfl⟩:=bz.b);refine e8 ?_ rfl (dv);exact⟨cq,df,rfl,bz.mono (b6 dm (f.h g).x.size)⟩
   intro x N g;simp only[n9,g0,o7,uV];rintro Q ak ba br al ey ch⟨cp,de,bs,dw⟩;simp only[Q,ak,ba,br,al,ey,ch,bs];clear Q ak ba br al ey ch bs;have P:=f.h g;have di:=P.b.frozen 0;have fa:=P.b.frozen 1;obtain⟨gv,cn⟩:=P.b.c2;obtain⟨dc,KT⟩:=j0 (P.put dw cx.O) ((bp.h g).trans (P.tv (Z cp (D (fU a zs B C)) de)));gi_wp2_with fail;go_wp2;go_roundw;exact⟨j+1,_,bw,o3,by rw[cw.O];exact dc.O,KT.O⟩;simp[intOf];omega
  obtain rfl:j=D L:=a8;have gq:¬(D L:Int)<D L:=a8;rw[List.take_length]at au;have fz:=a6 au;clear au bj f;go_wp2;go_roundw;exact⟨k+1,v',_,bn,bx,o3,aa.O,gn,fz.O⟩;simp[intOf];omega
 obtain rfl:k=D S:=a8;have k9:¬(D S:Int)<D S:=a8;have ai:=a6 (show R=(a,ys,y) by have:=z.O;rw[List.take_length]at this;rw[ai.O,this]);obtain⟨cd,cg,rfl⟩:=ac.l.b;obtain⟨ew,hg⟩:=ac.b.c2;obtain⟨gy,fn⟩:=ac.z.c2;have fo:=ac.z.frozen 0;have gz:=ac.z.frozen 1;have bg:=a6 (ac.fin (I U8 a) (Z cd (D ys) cg));go_wp2_with fail;exact s0 rfl bg.1 underlying31 ⟨_,_,by rw[ai.O],by rw[ai.O];exact bg.2.1,by rw[ai.O];exact bg.2.2.1,bg.2.2.2⟩
section
structure PW(w W:Wd)(c:Array Va)(file:g4)(line:Int)(sec key val:g4):Prop where
 x:a9 w W
 p:e7 W w 36 c
 a:e7 W (w+1) 89 #[Y file,I M line,Y sec,Y key,Y val]
 r:e7 W (w+2) 36 #[Z J 0 0,I U8 0,Z J 0 0,I V 0,I U8 0,Z J 0 0,Z J 0 0,I U8 0,I U6 0,O Bf,O Bf,O Bf,O Bf]
section
variable {w W W':Wd} {c:Array Va} {file:ByteArray} {line:Int} {sec key val:ByteArray}
theorem PW.new:PW w (((w.alloc (U c 36)).alloc (U #[Y file,I M line,Y sec,Y key,Y val] 89)).alloc (U #[Z J 0 0,I U8 0,Z J 0 0,I V 0,I U8 0,Z J 0 0,Z J 0 0,I U8 0,I U6 0,O Bf,O Bf,O Bf,O Bf] 36)) c file line sec key val:=
 ⟨(((a9.refl w).alloc _).alloc _).alloc _,((e7.new w _ _).alloc _).alloc _,(e7.b i3).alloc _,e7.b i3⟩
theorem PW.ex(w:Wd)(c:Array Va)(file:g4)(line:Int)(sec key val:g4):∃a,a=((w.alloc (U c 36)).alloc (U #[Y file,I M line,Y sec,Y key,Y val] 89)).alloc (U #[Z J 0 0,I U8 0,Z J 0 0,I V 0,I U8 0,Z J 0 0,Z J 0 0,I U8 0,I U6 0,O Bf,O Bf,O Bf,O Bf] 36)/\PW w a c file line sec key val:=⟨_,rfl,PW.new⟩
theorem PW.h(h:PW w W c file line sec key val)(x:a9 W W'):PW w W' c file line sec key val:=⟨h.x.trans x,h.p.h x,h.a.h x,h.r.h x⟩
theorem PW.set(h:PW w W c file line sec key val)(i:Nat)(u:Va):PW w (W.setCell ⟨w,i,J⟩ u) (c.setIfInBounds i u) file line sec key val:=⟨h.x.set (p:=⟨w,i,J⟩) (a7 _) u,h.p.f i u,h.a.far (p:=⟨w,i,J⟩) i3 u,h.r.far (p:=⟨w,i,J⟩) i3 u⟩
theorem PW.push{d:Type}{base:Nat}{e:Ti}{E:s7 d}{v:Va}{xs:List d}(a:PW w W c file line sec key val)(o:c7 W base e E v xs)(f:w<=base)(b:e≠36/\e≠89)(g:W.grownBy W' v.ownBlock):PW w W' c file line sec key val:=
 ⟨a.x.grown g λk q=>b6 f (o.lt q).1,a.p.grown g (o.ne a.p b.1).symm,a.a.grown g (o.ne a.a b.2).symm,a.r.grown g (o.ne a.r b.1).symm⟩
end
structure a4z(p:j2):Prop where
 f:A6 p.fm p.fc=Bt
 l:A6 p.lm p.lc=Bt
 f0:0<=p.fm
 l0:0<=p.lm
def a1z(p:j2)(a:m8):j2×List i6:=
 if a.key==kF then({p with fm:=(B5 p.fm p.fc a.val Bt).1,fc:=(B5 p.fm p.fc a.val Bt).2.1},(B5 p.fm p.fc a.val Bt).2.2)
 else if a.key==kE then({p with lm:=(B5 p.lm p.lc a.val Bf).1,lc:=(B5 p.lm p.lc a.val Bf).2.1},(B5 p.lm p.lc a.val Bf).2.2)
 else if a.key==kG then({p with dy:=iQ p.dy a.val},fI a.val)else(p,[])
theorem a1y(p:j2)(a:m8):y8 p a=((a1z p a).1,G9 a (a1z p a).2):=by unfold y8 a1z;split;rfl;split;rfl;split<;>rfl
def LY{g n:Nat}{T:Ti}{fin:Array Va}(base:Nat)(xs:List i6):VR (GS g T n fin):=
 ⟨λu aa=>c7 aa base 49 h9 u xs/\u.ownBlock≠So g,λ_ _ _⟨o,q⟩ r=>⟨o.kept r.gr (.inr q),q⟩⟩
theorem a3r(p:j2)(a:m8)(N bm bn P:Va)(w:Wd)(bj:a4z p)(cq:a.val.size<=50000)(base:Nat)(bi:base<=w)(ak:m7 w base p N bm bn P):
 Ca prog 60 #[Ag (i7 p N bm bn P),Ag (z8.c a).toArray] w λe aw=>∃va' m o vm' Q,e=X (Tp #[Ag (i7 (y8 p a).1 va' m o vm'),Q])/\m7 aw base (y8 p a).1 va' m o vm'/\c7 aw w 49 h9 Q (y8 p a).2/\a9 w aw:=by
 obtain⟨R,d⟩:∃R,R=y8 p a:=⟨_,rfl⟩;rw[<-d];rw[a1y]at d;unfold a1z at d;obtain⟨bb,ay,bs,ba,az,H⟩:=dK (And.intro (Y5 p.fm p.fc a.val Bt).1 (Y5 p.lm p.lc a.val Bf).1) (SX a.val a8) (hY a.val) (show fI a.val=if(v7 a.val).2=0 then []else [⟨⟨#[]⟩,0,(v7 a.val).2,j9 a.val⟩]from rfl) (show iQ p.dy a.val=if(v7 a.val).2=0 then(v7 a.val).1 else p.dy from rfl) ak;have af:=a6 bj;obtain⟨ar,fm,fc,dy,lm,lc,fa,am,sp,we,pe,rt,np⟩:=p;obtain⟨file,line,sec,key,val⟩:=a;rw[show(key==kF)=(key.toList==a1Q)from A9 _ _,show(key==kE)=(key.toList==a1P)from A9 _ _,show(key==kG)=(key.toList==a1R)from A9 _ _]at d;obtain⟨ad,ag,rfl⟩:=ak.f.b;obtain⟨ae,ah,rfl⟩:=ak.l.b;dsimp only[i7,z8]at*;obtain⟨bd,bh,aq⟩:=PW.ex w #[N,I U8 fm,Z ad (D fc) ag,I V dy,I U8 lm,Z ae (D lc) ah,P,I U8 am,I U6 sp,O we,O pe,O rt,O np] file line sec key val;clear ak bj;show Ca prog 60 #[Ag #[N,I U8 fm,Z ad (D fc) ag,I V dy,I U8 lm,Z ae (D lc) ah,P,I U8 am,I U6 sp,O we,O pe,O rt,O np],Ag #[Y file,I M line,Y sec,Y key,Y val]] w _;go_in;go_upto_region 1 with fail;rw[<-bh];clear bh;obtain⟨k3,k4⟩:=aq.a.d2 3 4;obtain⟨g,j⟩:=j0 aq (H.h aq.x);go_upto_block 0 with fail;go_cut [6] (λQ ax=>∃(F:List i6)(p':j2)(va' m o vm':Va),R=(p',G9 ⟨file,line,sec,key,val⟩ F)/\PW w ax (i7 p' va' m o vm') file line sec key val/\m7 ax base p' va' m o vm'/\c7 ax w 49 h9 Q F/\D F<=500000)
 ·rcases k1:key.toList==a1Q with _|_
  rotate_left
  ·rw[k1,if_pos rfl]at d;have t:=a6 d;have cc:=bb.1;have ao:=a6 (IE fm af.f0 ad ag fc val Bt bd a8 af.f base (b6 bi g.x.size) j.f);generalize B5 fm fc val Bt=q at*;obtain⟨l,au,cf⟩:=q;dsimp only at*;have ck:=g.p.cell 1;have cm:=g.p.cell (1+1);clear d;go_wp2_with fail;apply ao.mono;rintro e r⟨v,Q,rfl,G,s,f⟩;have b:=g.h f;have bw:=b.p.frozen 1;have bx:=b.p.frozen (1+1);have ci:=b.p.cell 1;have cj:=b.p.cell (1+1);have z:m7 r base ⟨ar,l,au,dy,lm,lc,fa,am,sp,we,pe,rt,np⟩ N v (Z ae (D lc) ah) P:=⟨j.a.h f,G,j.l.h f,j.m.h f⟩;obtain⟨B,E,C,rfl⟩:=G.f;obtain⟨u,h,ap⟩:=r6 ((b.set 1 (I U8 l)).set (1+1) (Z B E C)) ((z.grown b.p e6 (c8 r w 1 (I U8 l))).grown (b.p.f 1 (I U8 l)) e6 (c8 _ w (1+1) (Z B E C))) (((s.mono g.x.size).kept (c8 r w 1 (I U8 l)) (.inr (s.ne b.p e6))).kept (c8 _ w (1+1) (Z B E C)) (.inr (s.ne b.p e6)));clear b z s G;go_wp2;go_meet;exact⟨_,_,_,_,_,_,t.O,u.O,h.O,ap.O,a8⟩
  rcases k2:key.toList==a1P with _|_
  rotate_left
  ·rw[k1,if_neg e6,k2,if_pos rfl]at d;have t:=a6 d;have cc:=bb.2;have ao:=a6 (IE lm af.l0 ae ah lc val Bf bd a8 af.l base (b6 bi g.x.size) j.l);generalize B5 lm lc val Bf=q at*;obtain⟨l,au,cf⟩:=q;dsimp only at*;have ck:=g.p.cell 4;have cm:=g.p.cell (4+1);clear d;go_wp2_with fail;apply ao.mono;rintro e r⟨v,Q,rfl,G,s,f⟩;have b:=g.h f;have bw:=b.p.frozen 4;have bx:=b.p.frozen (4+1);have ci:=b.p.cell 4;have cj:=b.p.cell (4+1);have z:m7 r base ⟨ar,fm,fc,dy,l,au,fa,am,sp,we,pe,rt,np⟩ N (Z ad (D fc) ag) v P:=⟨j.a.h f,j.f.h f,G,j.m.h f⟩;obtain⟨B,E,C,rfl⟩:=G.f;obtain⟨u,h,ap⟩:=r6 ((b.set 4 (I U8 l)).set (4+1) (Z B E C)) ((z.grown b.p e6 (c8 r w 4 (I U8 l))).grown (b.p.f 4 (I U8 l)) e6 (c8 _ w (4+1) (Z B E C))) (((s.mono g.x.size).kept (c8 r w 4 (I U8 l)) (.inr (s.ne b.p e6))).kept (c8 _ w (4+1) (Z B E C)) (.inr (s.ne b.p e6)));clear b z s G;go_wp2;go_meet;exact⟨_,_,_,_,_,_,t.O,u.O,h.O,ap.O,a8⟩
  rcases k5:key.toList==a1R with _|_
  ·rw[k1,if_neg e6,k2,if_neg e6,k5,if_neg e6]at d;have t:=a6 d;clear d;go_wp2;go_meet;exact⟨[],_,_,_,_,_,t.O,g.O,j.O,c7.nil _ _ _ _,c6 _⟩
  rw[k1,if_neg e6,k2,if_neg e6,k5,if_pos rfl]at d;have t:=a6 d;clear d;generalize v7 val=q at*;obtain⟨av,al⟩:=q;dsimp only at*;generalize fI val=co at*;by_cases A:al=0
  ·have L:(al==0)=Bt:=by simp[A]
   have T:=a6 (And.intro (ba.trans (if_pos A)) (az.trans (if_pos A)));clear A;go_wp2_with fail;refine l4 (ay _) λr f=>?_;have b:=g.h f;have cp:=b.p.frozen 3;have ct:=b.p.cell 3;obtain⟨u,h⟩:=j0 (b.set 3 (I V av)) ((j.h f).grown b.p e6 (c8 r w 3 (I V av)));clear b;go_wp2;go_meet;exact⟨[],⟨ar,fm,fc,av,lm,lc,fa,am,sp,we,pe,rt,np⟩,_,_,_,_,by rw[t.O,T.1,T.2],u.O,⟨h.a,h.f,h.l,h.m⟩,c7.nil _ _ _ _,c6 _⟩
  have L:(al==0)=Bf:=by simp[A]
  have T:=a6 (And.intro (ba.trans (if_neg A)) (az.trans (if_neg A)));clear A;go_wp2_with fail;refine l4 (ay _) λr f=>?_;have b:=g.h f;have cu:=b.a.cell 4;obtain⟨u,h⟩:=j0 b (j.h f);clear b;go_wp2_with fail;apply ZG (bs _);go_wp2;go_meet;exact⟨[⟨⟨#[]⟩,0,al,j9 val⟩],⟨ar,fm,fc,dy,lm,lc,fa,am,sp,we,pe,rt,np⟩,_,_,_,_,by rw[t.O,T.1,T.2],u.h ((a9.refl _).alloc _),⟨h.a.h ((a9.refl _).alloc _),h.f.h ((a9.refl _).alloc _),h.l.h ((a9.refl _).alloc _),h.m.h ((a9.refl _).alloc _)⟩,c7.new u.x.size rfl rfl e6,i3⟩
 obtain⟨F,p',va',m,o,vm',bg,ab,bf,aa,cb⟩:=hcut;obtain⟨bo,bu,rfl⟩:=aa.b;obtain⟨an,S,bc,cn,bp,bq⟩:=dK bg ab bf aa (λYq(ac:GS (w+2) 36 13 (i7 p' va' m o vm') wc Yq)=>ab.p.grown ac.gr (λe=>by injection e with e;omega)) (λYq(ac:GS (w+2) 36 13 (i7 p' va' m o vm') wc Yq)=>ab.a.grown ac.gr (λe=>by injection e with e;omega));have br:=a6 (λYq(ac:GS (w+2) 36 13 (i7 p' va' m o vm') wc Yq)=>aa.kept ac.gr (.inr (aa.ne ab.r e6)));clear bg ab bf aa k3 k4 d;go_wp2_with fail;refine wpIn_wide.1 (vD (R:=(GS (w+2) 36 13 (i7 p' va' m o vm'))) (n:=1) ?_);iterate 3 (apply D7;focus (intro x y i;simp only[g0,g5,uV];(repeat intro bv;try simp only[bv]);gi_wp2_with(first|(refine o8 rfl 36 _ rfl w _ _ _ rfl (bp y i) underlying36 rfl g6 ?_)|(refine o8 rfl 89 _ rfl (w+1) _ _ _ rfl (bq y i) underlying89 rfl g6 ?_));exact dn rfl rfl (L6.refl _)))
 refine r7 ((LY w (G9 ⟨file,line,sec,key,val⟩ F))) ?_ ?_;·intro x y i;simp only[g0,g5,uV,LY];intro L aj;simp only[L,aj];gi_wp2_with(refine⟨trivial,?_⟩;gi_at_call 116;apply((Cw (n:=0)).2 (MC bo bu F ⟨file,line,sec,key,val⟩ y cb (br y i).i.1)).mono;rintro e ch⟨v,rfl,z,cd⟩);refine e8 ?_ rfl (GS.f cd);exact⟨z.mono (b6 S.x.size i.gr.size),λe=>by have:=(z.lt e).1;have:=S.r.lt;have:=i.gr.size;omega⟩
 refine r7 (BV) ?_ ?_;·intro x y i;simp only[g0,g5,uV,LY];intro ai;simp only[ai];obtain⟨cs,bt,bz⟩:=i.sz _ S.r g6;gi_wp2_with(refine q5 rfl 36 _ _ rfl (w+2) 36 cs _ rfl rfl bt (by rw[bz];rfl) g6 bc.one ?_;intro ch be ca);refine e8 ?_ rfl (GS.store ca be rfl);exact be
 refine r7 ((LY w (G9 ⟨file,line,sec,key,val⟩ F))) ?_ ?_;·intro x y i;simp only[g0,g5,uV,LY];rintro⟨bk,bl⟩;gi_wp2_with fail;refine e8 ?_ rfl (L6.refl _);exact⟨bk,bl⟩
 intro x y i;simp only[n9,g0,g5,uV,LY];rintro ai L aj⟨bk,bl⟩ ce⟨cg,cr⟩;simp only[ai,L,aj];clear ai L aj;go_wp2_with fail;exact s0 rfl ce underlying36 ⟨_,_,_,_,_,by rw[an.O];rfl,by rw[an.O];exact bc.grown S.r e6 i.gr,by rw[an.O];exact cg,S.x.f i.gr (λk e=>by cases e;omega)⟩
end
end Go.Proofs.YtcljlejgllkcjaaGreat
