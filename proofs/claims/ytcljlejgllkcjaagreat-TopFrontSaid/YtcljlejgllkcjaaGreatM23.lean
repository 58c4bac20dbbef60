/- A part of the proof of TopFront: lemmas on the walks of its calls. -/
import Derived.Test.YtcljlejgllkcjaaGreatM22
set_option maxHeartbeats 12000000
set_option linter.all false
set_option maxRecDepth 100000
namespace Go.Proofs.YtcljlejgllkcjaaGreat
open Go.RowKit Go.ChangeShapes Go.WideShapes Tryz
open Bool renaming true→Bt,false→Bf
open Decidable renaming decide→Dc
open Ending renaming returned→X
open Go renaming World→Wd,Value→Va,Calls→Ca,callsIn_wide→Cw,undef→Un,TypeId→Ti,Addr→Ad,results_none→Rz,callsIn_of_wp_marks→Cm,callsIn_of_wp→Co,CallsIn→Ci
open Go.Proofs renaming enters_of→Eo
open IntKind renaming i64→M,u32→V,u64→U6,u16→U1,u8→U8
open IntWalk renaming i64_in→h7
open List renaming getD_eq_getElem?_getD→b9,getElem?_eq_getElem→e9,length_append→g1,getElem_mem→g3,take_succ_eq_append_getElem→g2,length_map→i1,length_take→m4,replicate→p4,append_assoc→p6,length→D
open Nat renaming le_refl→a7,le_trans→b6,zero_le→c6,add_zero→j8
open Obj renaming cells→U
open Operand renaming tmp→Tm
open Option renaming none→J,some→So
open Value renaming int→I,slice→Z,pointer→K,bool→O,func→Fc,tuple→Tp,agg→Ag
section
attribute [local go_sem] Oper.semAt_some
theorem a3N(i:B7)(a b:Int)(w:Wd):
 Ci .wide 2 prog 341 #[i.val,I M a,I M b] w λe c=>e=X (Fc (.func 414) #[] #[K w,K (w+1:Nat),K (w+2:Nat)])/\
 c=((w.alloc (U i.cells 141)).alloc (U #[I M a] 3)).alloc (U #[I M b] 3):=by
 obtain⟨co,f,d,k⟩:=i;simp only[B7.val,B7.cells];refine Co func341 rfl trivial ?_ rfl;simp only[ntmps341,uE,Nat.reduceAdd,Nat.reduceSub];gi_wp2;go_ret;exact⟨rfl,rfl⟩
theorem UU(n:Nat):madeCells #[I U1 0] n=wR (p4 n 0):=by apply Array.toList_inj.1;rw[toList_madeCells_one];simp[wR]
theorem OE:(prog.info? 139).map (λi=>(i.zero,i.size,i.bytes))=So (So (I U1 0),1,2):=g6
structure PZ(w:Wd)(n gS gR bS bR bc g7 g8 k:Nat)(P:Array Va)(Ds:R8)(pre:o5)(W:Wd):Prop where
 x:a9 w W
 sb:YY n gS gR bS bR W
 fc:e7 W bc 375 #[Fc (.func 340) #[] #[K bR,K bS]]
 b7:e7 W g7 3 #[I M k]
 b8:e7 W g8 141 P
 marks:bF Ds W
theorem tT{Ds:R8}{W W':Wd}(a:bF Ds W)(x:a9 W W'):bF Ds W':=⟨a.1,λb c=>(x.block (Array.getElem?_eq_some_iff.1 (a.2 b c)).1).trans (a.2 b c)⟩
theorem VE{B:Nat}{S:List Ti}{Ds:R8}{W W':Wd}(b:bF Ds W)(t:Tv B S W W'):bF Ds W':=⟨b.1,λa c=>t.keep a _ (b.2 a c) (.inr rfl)⟩
section
variable {w W W':Wd} {n gS gR bS bR bc g7 g8 k:Nat} {P:Array Va} {Ds:List Nat} {pre qre:List Int}
theorem PZ.h(h:PZ w n gS gR bS bR bc g7 g8 k P Ds pre W)(x:a9 W W'):PZ w n gS gR bS bR bc g7 g8 k P Ds qre W':=⟨h.x.trans x,h.sb.h x,h.fc.h x,h.b7.h x,h.b8.h x,tT h.marks x⟩
theorem PZ.tv(h:PZ w n gS gR bS bR bc g7 g8 k P Ds pre W)(s:YY n gS gR bS bR W')(t:Tv w [139,4] W W'):PZ w n gS gR bS bR bc g7 g8 k P Ds qre W':=⟨t.b h.x (a7 _),s,t.blk h.fc (.inr e6),t.blk h.b7 (.inr e6),t.blk h.b8 (.inr e6),VE h.marks t⟩
theorem PZ.own{B:Nat}(t:w<=B)(u:∀i∈Ds,i<B):OwnFrom B (PZ w n gS gR bS bR bc g7 g8 k P Ds):=λpre W W' row g d j=>by
 have h:∀r,row=So r->∃o:Obj,W.heap[r]? =So o/\o.isCells=Bf:=λr e=>(j r e).2
 obtain⟨⟨l,a,b⟩,⟨m,c,s⟩,e,f⟩:=g.sb;refine⟨g.x.grown d (λk e=>b6 t (j k e).1),⟨⟨l,a,i2 b d h⟩,⟨m,c,i2 s d h⟩,i2 e d h,i2 f d h⟩,i2 g.fc d h,i2 g.b7 d h,i2 g.b8 d h,g.marks.1,λi q=> ?_⟩;have p:=g.marks.2 i q;exact(d.block i (Array.getElem?_eq_some_iff.1 p).1 (λe=>by have:=(j i e.symm).1;have:=u i q;omega)).trans p
end
theorem a5o(u:p1)(n c:Nat)(al:List B7)(en:D al=n)(hg:n<=4096)(cc:∀i∈al,i.ok/\QV i/\((dV i.code).1.cls==2)=Bf)
 (C:Nat) (lb:Array Va) (ev:∀args w,(callFunc C args).run prog w= .ok (.enter C args) w) (w:Wd)
 (bx:∀(k:Nat)(s:Int) W,k<n->a9 w W->Ca prog C (#[I M k,I U1 s]++lb) W λe W'=>e=X (Tp #[])/\a9 W W')
 (eg:i5 w u (pc al)):
 Ci .wide 3 prog 267 #[Z u n c,Fc (.func C) #[] lb] w λe bl=>(∃v,e=X v)/\a9 w bl:=by
 have gz:¬(4096:Int)<n:=a8;have dp:=a6 en;have ft:∀w:Wd,(Instr.makeSlice 444 (I M (n:Int)) (I M (n:Int))).run prog w= .ok (Z w n n) (w.alloc (U (G3 (p4 n Bf)) 4)):=λw=>by rw[<-uX];exact J3 444 4 (O Bf) 1 underlying444 tY rfl M M n n (a7 _) a8 e6 w
 have fu:∀w:Wd,(Instr.makeSlice 443 (I M (n:Int)) (I M (n:Int))).run prog w= .ok (Z w n n) (w.alloc (U (wR (p4 n 0)) 139)):=λw=>by rw[<-UU];exact J3 443 139 (I U1 0) 2 underlying443 OE rfl M M n n (a7 _) a8 e6 w
 clear en;refine Cm func267 rfl trivial ?_ rfl;simp only[ntmps267,uE,Nat.reduceAdd,Nat.reduceSub];gi_wp2_with fail;refine wpIn_mono (Q:=λe ai bl=>e= .normal/\∃gS gR bS bR,ai= {tmps:= #[Z u n c,Fc (.func C) #[] lb,Un,Un,K (So ⟨bS,0,J⟩),K (So ⟨bR,0,J⟩),Un,Un,Un,Un,Z u n c,I M n,O Bf,Z u n c,I M n,Z (So ⟨gS,0,J⟩) n n,Z u n c,I M n,Z (So ⟨gR,0,J⟩) n n,Un,Un,Un,Un,Un,Un,Un,Un,Un,Un,Un,Un,Un,Un,Un,Un,Un,Un,Un,Un,Un,Un,Un,Un,Un,Un,Un,Un,Un,Un,Un,Un,Un,Un,Un,Un,Un,Un,Un,Un,Un],defers:=[]}/\
   a9 w bl/\(w.heap.size<=gS/\w.heap.size<=gR)/\YY n gS gR bS bR bl) ?Aa ?Al
 case Aa=>
  clear eg bx ev cc dp;refine wpIn_wide.2 ?_;go_region
  all_goals
   refine⟨rfl,_,_,_,_,rfl,(((((a9.refl w).alloc _).alloc _).alloc _).alloc _).drew,⟨a8,a8⟩,⟨p4 n 0,List.length_replicate,?_⟩,⟨p4 n Bf,List.length_replicate,?_⟩,?_,?_⟩;all_goals first
    |exact e7.drew (e7.b i3)
    |exact e7.drew ((e7.b i3).alloc _)
    |exact e7.drew (((e7.b i3).alloc _).alloc _)
    |exact e7.drew ((((e7.b i3).alloc _).alloc _).alloc _)
 rintro e ai am⟨rfl,gS,gR,bS,bR,rfl,eo,el,ek⟩;have dg:=e7.new am 375 #[Fc (.func 340) #[] #[K (So ⟨bR,0,J⟩),K (So ⟨bS,0,J⟩)]];have ep:=eo.alloc (U #[Fc (.func 340) #[] #[K (So ⟨bR,0,J⟩),K (So ⟨bS,0,J⟩)]] 375);have ej:=ek.h ((a9.refl am).alloc (U #[Fc (.func 340) #[] #[K (So ⟨bR,0,J⟩),K (So ⟨bS,0,J⟩)]] 375));clear ft fu ek;gi_wp2_with fail;generalize am.alloc (U #[Fc (.func 340) #[] #[K (So ⟨bR,0,J⟩),K (So ⟨bS,0,J⟩)]] 375)=gp at*;generalize am.heap.size=bc at*;clear eo am;refine wpIn_loop (λa wr=>∃(ds:List Deferred)(fe ff df cj fa fb fc fd av aw ax ay ck cm cn cp cq cr ct cu cv cw cx cy cz da db dc dd de az ba bb bd be bf bg bh bi bj bk:Va),(∃k:Nat,k<=n/\cj=I M k/\a9 w wr/\YY n gS gR bS bR wr/\e7 wr bc 375 #[Fc (.func 340) #[] #[K (So ⟨bR,0,J⟩),K (So ⟨bS,0,J⟩)]]/\∃Ds:R8,ds=Ds.map a3U/\bF Ds wr/\∀H∈Ds,w.heap.size<=H)/\a= {tmps:= #[Z u n c,Fc (.func C) #[] lb,Un,Un,K (So ⟨bS,0,J⟩),K (So ⟨bR,0,J⟩),K bc,fe,ff,df,Z u n c,I M n,O Bf,Z u n c,I M n,Z (So ⟨gS,0,J⟩) n n,Z u n c,I M n,Z (So ⟨gR,0,J⟩) n n,Fc (.func 340) #[] #[K (So ⟨bR,0,J⟩),K (So ⟨bS,0,J⟩)],Z u n c,I M n,cj,fa,fb,fc,fd,av,aw,ax,ay,ck,cm,cn,cp,cq,cr,ct,cu,cv,cw,cx,cy,cz,da,db,dc,dd,de,az,ba,bb,bd,be,bf,bg,bh,bi,bj,bk],defers:=ds})
  (λa _=>n-(intOf (a.tmps.getD 22 Un)).toNat) ?Ab ?Am
 case Ab=>
  refine⟨[],?_⟩;repeat apply Exists.intro
  exact⟨⟨0,c6 _,rfl,ep,ej,dg,[],rfl,⟨List.nodup_nil,aL⟩,aL⟩,rfl⟩
 clear ep ej dg gp;rintro a wr⟨ds,fe,ff,df,cj,fa,fb,fc,fd,av,aw,ax,ay,ck,cm,cn,cp,cq,cr,ct,cu,cv,cw,cx,cy,cz,da,db,dc,dd,de,az,ba,bb,bd,be,bf,bg,bh,bi,bj,bk,⟨k,he,rfl,A,ei,eb,Ds,rfl,bs,br⟩,rfl⟩;by_cases cb:k<n
 ·have em:k<D al:=by rw[dp.O];exact cb
  have bv:=eg.h A;obtain⟨p,r,rfl,_⟩:=S1 bv a8;obtain⟨eu,ew,ex,ey⟩:=a4f bv em;have k1:(0:Int)<=k:=a8;have k2:(k:Int)<n:=a8;obtain⟨fq,fv,fp⟩:=cc _ (g3 em);have dq:=a6 (λs W=>bx k s W cb);clear bv bx cc;generalize al[k]=P at*;obtain⟨co,g,f,kk⟩:=P;dsimp only at eu ew ex ey;refine wpIn_seq_k λgv ed=> ?_
  have dk:=a6 ed;clear ed;gi_wp2;refine dk _ _ ?_;refine wpIn_seq_k λgw ee=> ?_
  have dl:=a6 ee;clear ee;gi_wp2;refine dl _ _ ?_;clear dk dl;refine wpIn_seq_k λgx fn=> ?_
  refine wpIn_block ?_;refine wpIn_seq_k λgy ef=> ?_
  have dm:=a6 ef;clear ef;gi_wp2;refine dm _ _ ?_;clear dm eu ew ex ey;have ak:=((a9.refl wr).alloc (U #[I M k] 3)).alloc (U #[I U1 co,I U8 g,I U8 f,I V kk] 141);have bq:e7 ((wr.alloc (U #[I M k] 3)).alloc (U #[I U1 co,I U8 g,I U8 f,I V kk] 141)) wr 3 #[I M k]:=(e7.new wr _ _).alloc _;have dw:e7 ((wr.alloc (U #[I M k] 3)).alloc (U #[I U1 co,I U8 g,I U8 f,I V kk] 141)) (wr+1) 141 #[I U1 co,I U8 g,I U8 f,I V kk]:=e7.b i3;have q:PZ w n gS gR bS bR bc wr (wr+1) k #[I U1 co,I U8 g,I U8 f,I V kk] Ds [] _:=⟨A.trans ak,ei.h ak,eb.h ak,bq,dw,tT bs ak⟩;generalize(wr.alloc (U #[I M k] 3)).alloc (U #[I U1 co,I U8 g,I U8 f,I V kk] 141)=wa at*;generalize hc:wr.heap.size+1=g8 at*;generalize hb:wr.heap.size=g7 at*;clear ak bs A ei eb dw;refine wpIn_seq ?_;obtain⟨ao,eh⟩:∃ao:Exit->Act->Wd->Prop,ao=λe ai W=>e= .normal/\∃av aw ax ay,ai= {tmps:= #[Z (So ⟨p,r,J⟩) n c,Fc (.func C) #[] lb,Un,Un,K (So ⟨bS,0,J⟩),K (So ⟨bR,0,J⟩),K bc,K g7,K g8,df,Z (So ⟨p,r,J⟩) n c,I M n,O Bf,Z (So ⟨p,r,J⟩) n c,I M n,Z (So ⟨gS,0,J⟩) n n,Z (So ⟨p,r,J⟩) n c,I M n,Z (So ⟨gR,0,J⟩) n n,Fc (.func 340) #[] #[K (So ⟨bR,0,J⟩),K (So ⟨bS,0,J⟩)],Z (So ⟨p,r,J⟩) n c,I M n,I M k,O Bt,I M k,K (So ⟨p,r+k*4,J⟩),.agg #[I U1 co,I U8 g,I U8 f,I V kk],av,aw,ax,ay,ck,cm,cn,cp,cq,cr,ct,cu,cv,cw,cx,cy,cz,da,db,dc,dd,de,az,ba,bb,bd,be,bf,bg,bh,bi,bj,bk],defers:=Ds.map a3U}/\PZ w n gS gR bS bR bc g7 g8 k #[I U1 co,I U8 g,I U8 f,I V kk] Ds [] W:=⟨_,rfl⟩
  have an:=a6 eh;clear eh;refine wpIn_mono (Q:=ao) ?Ac ?An
  case Ac=>
   clear fn;have ho:=bq.cell 0;by_cases fs:k=0;·subst fs;have hn:=q.fc.cell 0;have bn:=a6 (show Ca prog 340 #[I M 0,I U1 0,K (So ⟨bR,0,J⟩),K (So ⟨bS,0,J⟩)] wa _ from a2r 0 n gS gR bS bR w.heap.size 0 wa q.sb cb el);gi_wp2_with(refine⟨trivial,?_⟩;gi_at_call 340;apply((Cw (n:=2)).2 bn.O).mono;rintro e hr⟨⟨v,rfl⟩,dx⟩;have dh:=a6 dx;clear dx);rw[an.O];exact⟨rfl,_,_,_,_,rfl,q.tv dh.1 dh.2⟩
   have ha:¬(k:Int)=0:=a8;gi_wp2;rw[an.O];exact⟨rfl,_,_,_,_,rfl,q⟩
  rw[an.O];clear an ao q bq;rintro e ai W⟨rfl,gk,gl,gm,gn,rfl,q⟩;simp only[Exit.then];obtain⟨⟨ss,hj,ac⟩,⟨rs,P5,ag⟩,ab,af⟩:=q.sb;have ga:=af.cell 0;have ce:=q.b7.cell 0;have gb:=(ag.cell k).trans (L3 rs k a8);have cd:=(ac.cell k).trans (wQ ss k a8);generalize rs[k]' a8=gc at*;generalize ss[k]' a8=es at*;cases gc with
  |false=>
   clear af ab ag ac cd
   have L:=a6 q
   clear q
   gi_wp2
   refine⟨?Ad,?Ae⟩
   case Ad=>
    repeat apply Exists.intro
    refine⟨?Ao,rfl⟩
    exact⟨k+1,a8,o3,L.x,L.sb,L.fc,Ds,rfl,L.marks,br⟩
   case Ae=>simp[intOf];omega
  |true=>
   obtain⟨dr,fh⟩:=j0 (dq es) ab
   clear dq af ag ac ab
   gi_wp2_with fail
   refine aO ?_
   repeat(apply D7;focus (intro x ah d;simp only[g0,g5,uV];(repeat intro B;try simp only[B]);have gq:=(q.b7.h d).cell 0;have gr:=(fh.h d).cell 0;have gs:=d.cell cd;gi_wp2_with fail;exact dn rfl rfl (a9.refl _)))
   intro x ah d
   simp only[n9,g0,o7,uV]
   repeat(intro B;try simp only[B];clear B)
   have L:=a6 (q.h (qre:=[]) d)
   have dt:=a6 (dr ah L.x)
   clear ga ce gb cd q d dr
   have bo:=a6 (λW=>a3N ⟨co,g,f,kk⟩ k n W)
   simp only[B7.val,B7.cells]at bo
   gi_wp2_with(first|(refine⟨trivial,?_⟩;gi_at_call 341;refine C0 (bo _) λT R=>?_;have di:=a6 R;clear R)|(refine⟨trivial,?_⟩;refine C0 ((Cw (n:=2)).2 dt.O) λF fg=>?_;have aa:=a6 (L.h (qre:=[]) fg);have ce:=aa.b7.cell 0;have gd:=aa.b8.cell 0;have gg:=aa.b8.cell 1;have gh:=aa.b8.cell 2;have gj:=aa.b8.cell 3;clear fg))
   clear ce gd gg gh gj bo dt
   have R:=di.O
   have er:a9 F T:=by rw[R];exact(((a9.refl F).alloc _).alloc _).alloc _
   have aq:e7 T F 141 #[I U1 co,I U8 g,I U8 f,I V kk]:=by rw[R];exact((e7.new F _ _).alloc _).alloc _
   have ar:e7 T (F+1) 3 #[I M k]:=by rw[R];exact(e7.b i3).alloc _
   have au:e7 T (F+1+1) 3 #[I M n]:=by rw[R];exact e7.b i3
   have ad:=aa.h (qre:=[]) er
   clear R di aa L er
   have hl:w<=T.heap.size:=ad.x.size
   have ea:∀H∈Ds,H<T.heap.size:=λH dz=>(Array.getElem?_eq_some_iff.1 (ad.marks.2 H dz)).1
   generalize F.heap.size+1+1=ch at*
   generalize F.heap.size+1=cg at*
   generalize F.heap.size=cf at*
   have bp:=a6 (λW=>a0P co g f kk fp W)
   unfold bH at bp
   refine G8 rfl e6 (gf:=414) (lb:= #[K cf,K cg,K ch]) rfl trivial (Eo func414 g6 rfl)
    (encs:=λx:Int=> #[I M x]) (G:=λx _=>(k:Int)<x/\x<n) (Kp:=KT) (Bd:=λ_=>True) (S:=λ_=>True) (N:=2) (w0:=T)
    (λl Jq W bz fl _ fo fj=>a3O l cf cg ch W ⟨co,g,f,kk⟩ fq fv k n a8 Jq fl (λpre x W fr ca A=>fo pre x W fr A ca) W (aq.below bz aq.lt) (ar.below bz ar.lt) (au.below bz au.lt) fj)
    (λy k b t cs j aj=>k b t cs (y b t cs j aj) aj)
    (λW l o et ca y ap hk b t cs j aj=> ?Af) (Below.refl _ _) (λ_=>rfl)
    (λx W l o et ec ca ap=>ec)
    (PZ w n gS gR bS bR bc g7 g8 k #[I U1 co,I U8 g,I U8 f,I V kk] Ds) (λ_ _ _=>trivial) (PZ.own ad.x.size ea) ad
    (λae:Int=> {tmps:= #[Z (So ⟨p,r,J⟩) n c,Fc (.func C) #[] lb,Un,Un,K (So ⟨bS,0,J⟩),K (So ⟨bR,0,J⟩),K bc,K g7,K g8,I M ae,Z (So ⟨p,r,J⟩) n c,I M n,O Bf,Z (So ⟨p,r,J⟩) n c,I M n,Z (So ⟨gS,0,J⟩) n n,Z (So ⟨p,r,J⟩) n c,I M n,Z (So ⟨gR,0,J⟩) n n,Fc (.func 340) #[] #[K (So ⟨bR,0,J⟩),K (So ⟨bS,0,J⟩)],Z (So ⟨p,r,J⟩) n c,I M n,I M k,O Bt,I M k,K (So ⟨p,r+k*4,J⟩),.agg #[I U1 co,I U8 g,I U8 f,I V kk],gk,gl,gm,gn,Z (So ⟨gR,0,J⟩) n n,I M k,K (So ⟨gR,k,J⟩),O Bt,O Bf,Fc (.func C) #[] lb,I M k,Z (So ⟨gS,0,J⟩) n n,I M k,K (So ⟨gS,k,J⟩),I U1 es,Tp #[],.agg #[I U1 co,I U8 g,I U8 f,I V kk],I M k,Z (So ⟨p,r,J⟩) n c,I M n,Fc (.func 414) #[] #[K cf,K cg,K ch],I M ae,az,ba,bb,bd,be,bf,bg,bh,bi,bj,bk],defers:=[]}) ?Ag ?Ah ?Ai
   case Af=>
    exact j.grown (grownBy_putObj' W l et) (λe=>by injection e with e;subst e;unfold e7 at j;rw[y]at j;injection j with j;subst j;cases ap)
   case Ag=>
    intro l ae W gu fm
    gi_wp2
    exact fm
   case Ah=>
    clear ad aq ar au
    rintro l pre ae W2 h ec hf
    dsimp only
    obtain⟨z,rfl⟩:∃z:Nat,ae=(z:Int):=⟨ae.toNat,a8⟩
    obtain⟨⟨ez,hi,ac⟩,⟨hp,hh,ag⟩,ab,af⟩:=h.sb
    have dv:=(ac.cell k).trans (wQ ez k a8)
    generalize ez[k]' a8=hm at*
    refine wpIn_block ?_
    refine aO ?_
    repeat(apply D7;focus (intro x ah d;simp only[g0,g5,uV];(repeat intro B;try simp only[B]);have gq:=(h.fc.h d).cell 0;have gr:=(ab.h d).cell 0;have gs:=(h.b7.h d).cell 0;have hu:=d.cell dv;have hv:=(h.b8.h d).cell 0;have hw:=(h.b8.h d).cell 1;have hx:=(h.b8.h d).cell 2;have hy:=(h.b8.h d).cell 3;gi_wp2_with(refine⟨trivial,?_⟩;gi_at_call 342;refine(CallsIn.inRound l ((Cw (n:=0)).2 (bp _))).mono ?_;rintro e hs⟨rfl,fw⟩);exact dn rfl rfl (by first|exact fw|exact a9.refl _)))
    intro x ah d
    simp only[n9,g0,o7,uV]
    repeat(intro B;try simp only[B];clear B)
    have bu:=h.h (qre:=pre) d
    obtain⟨bn,dj⟩:=j0 (λm=>a2r z n gS gR bS bR w m ah bu.sb a8 el) (And.intro bu d)
    clear h bu d dv af ab ag ac
    obtain⟨du,bw⟩:∃du,du=oX T.heap.size KT (PZ w n gS gR bS bR bc g7 g8 k #[I U1 co,I U8 g,I U8 f,I V kk] Ds) (pre++[(z:Int)]) W2:=⟨_,rfl⟩
    rw[<-bw]
    have fi:=a6 bw;clear bw
    gi_wp2_with(refine⟨trivial,?_⟩;gi_at_call 340;refine(CallsIn.inRound l ((Cw (n:=0)).2 (bn _))).mono ?_;rintro e ht⟨⟨hq,rfl⟩,dy⟩;have bm:=a6 dy;clear dy)
    rw[fi.O]
    have ci:=(Tv.f dj.2).trans bm.2
    exact⟨⟨ci.size,λb o _ j ap=>ci.keep b o j (.inr (by cases o<;>first|rfl|cases ap))⟩,λb t cs j aj=>ci.blk j (.inr aj),dj.1.tv bm.1 bm.2⟩
   case Ai=>
    clear ad aq ar au bp
    rintro H xs W3 dz-h fk
    gi_wp2
    refine⟨?Aj,?Ak⟩
    case Aj=>
     repeat apply Exists.intro
     refine⟨?Ap,rfl⟩
     refine⟨k+1,a8,o3,h.x,h.sb,h.fc,H::Ds,rfl,⟨List.nodup_cons.2 ⟨λy=> ?_,h.marks.1⟩,λE bt=> ?_⟩,λE bt=> ?_⟩
     ·have:=ea H y;omega
     ·rcases List.mem_cons.1 bt with rfl|y
      ·exact fk
      ·exact h.marks.2 E y
     ·rcases List.mem_cons.1 bt with rfl|y
      ·omega
      ·exact br E y
    case Ak=>simp[intOf];omega
 obtain rfl:k=n:=a8;gi_wp2;obtain⟨fx,fy,fz⟩:=hT Ds wr;exact iJ Ds wr bs ⟨_,Rz rfl _ _ _,⟨_,rfl⟩,fx.trans A.os,fy.trans A.tape,fz.trans A.output,by rw[hQ];exact A.size,λb j=>(fB Ds wr b (λy=>by have:=br b y;omega)).trans (A.block j)⟩
end
def a38(i:B7)(left:Int):Prop:=i.ok/\(QV i/\((dV i.code).1.cls==2)=Bf)/\((i.code==96)=Bf/\(i.code==97)=Bf)/\jX i left=Bt
def HM(a:List B7):Prop:=(1<=D a/\D a<=1000)/\(∀k(b:k<D a),a38 a[k] ((D a:Int)-1-k))/\(dV (a.getD (D a-1) a39).code).1.cls=5
theorem HM.mem{a:List B7}(b:HM a){i:B7}(hi:i∈a):∃l,a38 i l:=by obtain⟨k,c,rfl⟩:=List.getElem_of_mem hi;exact⟨_,b.2.1 k c⟩
theorem a0Q(b:p1)(n c:Nat)(d:List B7)(w:Wd)(m:D d=n)(f:HM d)(l:i5 w b (pc d)):
 Ca prog 188 #[Z b n c] w λe y=>e=X (Z J 0 0)/\a9 w y:=by
 have g:=((a9.refl w).alloc (U #[Z b n c] 74)).alloc (U #[Z J 0 0] 28);have h:e7 ((w.alloc (U #[Z b n c] 74)).alloc (U #[Z J 0 0] 28)) w 74 #[Z b n c]:=(e7.new w _ _).alloc _;have p:e7 ((w.alloc (U #[Z b n c] 74)).alloc (U #[Z J 0 0] 28)) (w+1) 28 #[Z J 0 0]:=e7.b i3;have u:=h.cell 0;have r:=a6 (callsIn_wide.1 (a5o b n c d m (by have:=f.1;omega) (λi hi=>let⟨_,a⟩:=f.mem hi;⟨a.1,a.2.1⟩) 268 #[K w,K (w+1:Nat)] (Eo func268 g6 rfl) _
  (λk s W t x=>a3P b n c d m k t s _ _ (λi hi=>let⟨_,a⟩:=f.mem hi;a.2.2.1) W ((l.h g).h x) (h.h x)) (l.h g)))
 obtain⟨q,j⟩:=j0 p g;clear f l h p g m;go_in;go_wp2_with fail;apply r.mono;rintro e A⟨⟨v,rfl⟩,o⟩;have z:=(q.h o).cell 0;replace j:=a6 (j.trans o);clear o u r q;go_wp2;go_ret;exact⟨rfl,j.O⟩
theorem nAt(p:p1)(n c:Nat)(b:List B7)(w:Wd)(o:D b=n)(l:HM b)(v:i5 w p (pc b)):
 Ca prog 124 #[Z p n c] w λe ab=>e=X (Tp #[I M 0,I M 0])/\a9 w ab:=by
 have a:=a9.refl w;have Q:=l.1;have ad:¬(n:Int)<1:=a8;have ae:¬(4096:Int)<n:=a8;obtain⟨s,h,u,r⟩:=F6 v o (λW L=>a0Q p n c b W o l L) l;have S:IntKind.i64.wrap ((n:Int)-1)=(n:Int)-1:=h7 _ a8;rw[o]at Q;clear o l v;go_wp2;go_loopw [23] (λi wr=>∃k:Nat,k<=n/\i=I M k/\a9 w wr) (λi _=>n-(intOf i).toNat);exact⟨0,a8,rfl,a⟩;clear a;obtain⟨k,af,rfl,a⟩:=hrel;by_cases R:k<n
 ·have x:k<D b:=by rw[h.O];exact R
  have f:=s.h a;obtain⟨H,aa,rfl,_⟩:=S1 f a8;obtain⟨g,E,F,G⟩:=a4f f x;have k1:(0:Int)<=k:=a8;have k2:(k:Int)<n:=a8;have ag:IntKind.i64.wrap ((n:Int)-1-k)=(n:Int)-1-k:=h7 _ a8;have hi:=r.2.1 k x;rw[h.O]at hi;have q:=a6 (λW=>a5p b[k] hi.1 ((n:Int)-1-k) a8 hi.2.2.2 W);clear hi f;generalize b[k]=P at*;obtain⟨co,C,B,kk⟩:=P;simp only[B7.val,B7.cells]at q;dsimp only at g E F G;have A:=a.alloc (U #[I U1 co,I U8 C,I U8 B,I V kk] 141);go_wp2_with fail;refine l4 (q _) λac d=>?_;have T:=A.trans d;clear a A d g E F G q;go_wp2;go_roundw;exact⟨k+1,a8,o3,T⟩;simp[intOf];omega
 obtain rfl:k=n:=a8;have y:k-1<D b:=by rw[h.O];omega
 have f:=s.h a;obtain⟨H,aa,rfl,_⟩:=S1 f (by rw[h.O];omega);obtain⟨g,_,_,_⟩:=a4f f y;have j:=a6 (K9 (b[k-1]).code);have t:=r.2.2;rw[b9,h.O,e9 y,Option.getD_some]at t;rw[t]at j;clear f t r;generalize b[k-1]=P at*;obtain⟨co,C,B,kk⟩:=P;dsimp only at g j;obtain⟨m,z⟩:∃m:Nat,m=k-1:=⟨_,rfl⟩;have N:(k:Int)-1=m:=a8;rw[<-z]at g;rw[N]at S;have ah:(0:Int)<=m:=a8;have ai:(m:Int)<k:=a8;clear z;go_wp2_with fail;refine l4 (j _) λac d=>?_;replace a:=a.trans d;clear d g;go_wp2_with fail;refine l4 (u _ (s.h a)) λaj d=>?_;replace a:=a.trans d;clear d j u;go_wp2;go_loopw [49] (λi wr=>i=I M 0/\a9 w wr) (λ_ _=>0);exact⟨rfl,a⟩;clear a;obtain⟨rfl,a⟩:=hrel;go_wp2;go_ret2;exact⟨rfl,a⟩
theorem a3S(b:p1)(n c:Nat)(a:List B7)(w:Wd)(g:D a=n)(d:HM a)(f:i5 w b (pc a)):
 Ca prog 67 #[Z b n c] w λe i=>e=X (I M 0)/\a9 w i:=by
 have H:=a6 (nAt b n c a w g d f);clear g d f;go_in;go_wp2_with fail;refine l4 H λj h=>?_;go_wp2;go_ret;exact⟨rfl,h⟩
def sN(b ar a:Int)(i:B7):Option (Int×Int×Bool×Int):=
 if i.code=32 then(if I6 i.k=Bt then So ((iS b ar).word i.k,0,Bf,0)else J)
 else if i.code=6 then So (a,i.k,Bt,0)
 else if i.code=21\/i.code=53 then So (a,0,Bf,if jd (i.code==21) a i.k then i.jt else i.jf)
 else J
theorem nDo(i:B7)(p ar a:Int)(hi:i.ok)(r:Int×Int×Bool×Int)(d:sN p ar a i=So r)(E:0<=a/\a<4294967296)(F:(iS p ar).ok)(g B:Nat)(w:Wd)(q:e7 w g 135 (mc a 0 Bf p ar))(L:B<=g):
 Ca prog 71 #[K g,i.val] w (MP g B w (mc r.1 r.2.1 r.2.2.1 p ar) (I M r.2.2.2)):=by
 obtain⟨C,s,t,x⟩:=hi;obtain⟨c,l,j,k⟩:=i;unfold sN at d;dsimp only at d C s t x;change Ca _ _ #[_,bH c l j k] _ _;by_cases z:c=32
 ·subst z;rw[if_pos rfl]at d;by_cases G:I6 k=Bt;·rw[if_pos G]at d;obtain rfl:=Option.some.inj d;have ae:=a6 (λW N=>a5r l j k a 0 p ar Bf ⟨G,x⟩ F g B W N L);have o:(dV 32).1.cls=1:=e6;clear d C s t x E F G;generalize(iS p ar).word k=y0 at*;unfold bH at*;obtain⟨n,h⟩:=j0 (e7.new w 141 #[I U1 32,I U8 l,I U8 j,I V k]) ((a9.refl w).alloc (U #[I U1 32,I U8 l,I U8 j,I V k] 141));have f:=a6 (q.h h.O);have y:=n.cell 0;clear q;go_in;go_wp2_with fail;generalize w.alloc (U #[I U1 32,I U8 l,I U8 j,I V k] 141)=w0 at*;refine l4 (K9 32 _) λac m=>?_;rw[o];obtain⟨y,R,T,aa⟩:=(n.h m).c4;replace h:=a6 (h.trans m);replace f:=a6 (f.h m);clear o;go_wp2_with fail;apply(ae _ f.O).mono;rintro e ag⟨rfl,u,ab⟩;have v:=a6 (And.intro u (Tv.trans (.f h.O) ab));clear u ab;go_wp2;go_ret;exact⟨rfl,v.O⟩
  rw[if_neg G]at d;cases d
 rw[if_neg z]at d;by_cases H:c=6;·subst H;rw[if_pos rfl]at d;obtain rfl:=Option.some.inj d;have o:(dV 6).1.cls=5:=e6;clear d C s t E F z;unfold bH mc at*;obtain⟨n,h⟩:=j0 (e7.new w 141 #[I U1 6,I U8 l,I U8 j,I V k]) ((a9.refl w).alloc (U #[I U1 6,I U8 l,I U8 j,I V k] 141));have f:=a6 (q.h h.O);have y:=n.cell 0;clear q;go_in;go_wp2_with fail;generalize w.alloc (U #[I U1 6,I U8 l,I U8 j,I V k] 141)=w0 at*;refine l4 (K9 6 _) λac m=>?_;rw[o];obtain⟨y,R,T,aa⟩:=(n.h m).c4;replace h:=a6 (h.trans m);replace f:=a6 (f.h m);have aj:=f.frozen 27;have ah:=f.cell 27;have ak:=f.frozen 28;have ai:=f.cell 28;have u:=f.f 27 (I V k);have v:=a6 (And.intro (u.f 28 (O Bt)) (Tv.trans (.f h.O) (.trans (Tv.r f L e6 27 (I V k)) (Tv.r u L (S:=[135]) e6 28 (O Bt)))));clear u o;go_wp2;go_ret;exact⟨rfl,v.O⟩
 rw[if_neg H]at d;by_cases A:c=21\/c=53
 ·rw[if_pos A]at d;obtain rfl:=Option.some.inj d;obtain⟨b,af,o⟩:∃b,c=jc b/\(c==21)=b:=by
   rcases A with rfl|rfl
   exact⟨Bt,rfl,rfl⟩;exact⟨Bf,rfl,rfl⟩
  rw[o];subst af;have ad:=a6 (λW N=>a5s b l j k a 0 p ar Bf x E ⟨s.1,s.2,t.1,t.2⟩ g W N);have Q:(dV (jc b)).1.cls=4:=by cases b<;>decide
  clear d C s t x E F z H A o;generalize(if jd b a k=Bt then l else j)=y0 at*;unfold bH at*;generalize jc b=c at*;obtain⟨n,h⟩:=j0 (e7.new w 141 #[I U1 c,I U8 l,I U8 j,I V k]) ((a9.refl w).alloc (U #[I U1 c,I U8 l,I U8 j,I V k] 141));have f:=a6 (q.h h.O);have y:=n.cell 0;clear q;go_in;go_wp2_with fail;generalize w.alloc (U #[I U1 c,I U8 l,I U8 j,I V k] 141)=w0 at*;refine l4 (K9 c _) λac m=>?_;rw[Q];obtain⟨y,R,T,aa⟩:=(n.h m).c4;replace h:=a6 (h.trans m);replace f:=a6 (f.h m);clear Q;go_wp2_with fail;refine l4 (ad _ f.O) λag P=>?_;have v:=a6 (And.intro (f.h P) (Tv.f (B:=B) (S:=[135]) (h.trans P)));clear P;go_wp2;go_ret;exact⟨rfl,v.O⟩
 rw[if_neg A]at d;cases d
theorem a5t(p q:Ad)(w:Wd):
 CallsD prog 68 #[K (So p),K (So q)] .returning w λe c d=>e=X (Tp #[])/\c= .returning/\d=w:=by
 refine callsD_of_wpS func68 rfl λa cs b=> ?_
 apply wpS_seq;apply wpS_region;simp[wpOpsS,go_sem,recoverD,b,ntmps68,Exit.thenS];apply wpS_seq;apply wpS_region;simp[wpOpsS,go_sem,Exit.thenS];refine wpS_cond (t:=Bf) (by simp[Act.eval,Array.replicate]) ?_;simp only[Bool.false_eq_true,if_false];refine wpS_of_wp (wp_skip ?_);cases a;simp_all [bodyPostS,results,results68]
def rN(b ar:Int)(c:List B7):Nat->Nat->Int->Option Int
 |0,_,_=>J
 |f+1,k,a=>match c[k]? with
  |none=>J
  |some i=>match sN b ar a i with
   |none=>J
   |some r=>if r.2.2.1 then So r.2.1 else rN b ar c f (k+1+r.2.2.2.toNat) r.1
theorem ZT{a:mY}(d:a.ok)(x:Int):0<=a.word x/\a.word x<4294967296:=by
 unfold mY.word;split;rename_i b;have c:(x/4).toNat<D a.words:=by have:D a.words=16:=rfl;unfold I6 at b;simp at b;omega
 rw[b9,e9 c];exact KN a d _ (g3 c);decide
theorem a5e{g ar a:Int}{i:B7}(hi:i.ok)(f:0<=a/\a<4294967296)(h:(iS g ar).ok){r:Int×Int×Bool×Int}(b:sN g ar a i=So r):(0<=r.1/\r.1<4294967296)/\0<=r.2.2.2/\r.2.2.2<256/\(r.2.2.1=Bf->r.2.1=0):=by obtain⟨j,c,d,k⟩:=hi;unfold sN at b;split at b;split at b;cases b;exact⟨ZT h _,(e6:(0:Int)<=0),(e6:(0:Int)<256),λ_=>rfl⟩;cases b;split at b;cases b;exact⟨f,(e6:(0:Int)<=0),(e6:(0:Int)<256),λe=>by cases e⟩;split at b;cases b;refine⟨f,?_,?_,λ_=>rfl⟩<;>dsimp only<;>split;exact c.1;exact d.1;exact c.2;exact d.2;cases b
theorem a6T(w:Wd)(a b c d:Ti)(x y z v:Array Va):a9 w ((((w.alloc (U x a)).alloc (U y b)).alloc (U z c)).alloc (U v d))/\w+4<=((((w.alloc (U x a)).alloc (U y b)).alloc (U z c)).alloc (U v d)).heap.size/\e7 ((((w.alloc (U x a)).alloc (U y b)).alloc (U z c)).alloc (U v d)) (w+1) b y/\e7 ((((w.alloc (U x a)).alloc (U y b)).alloc (U z c)).alloc (U v d)) (w+1+1) c z/\e7 ((((w.alloc (U x a)).alloc (U y b)).alloc (U z c)).alloc (U v d)) (w+1+1+1) d v:=
 ⟨((((a9.refl w).alloc _).alloc _).alloc _).alloc _,i3,((e7.b i3).alloc _).alloc _,(e7.b i3).alloc _,e7.b i3⟩
theorem a6z(aj:p1)(n c:Nat)(h:List B7)(bt:D h=n)(ba:∀i∈h,i.ok)(ay:n<=1000)(l ar:Int)(aw:(iS l ar).ok)(r:Int)(d:rN l ar h (n+1) 0 0=So r)(w:Wd)(au:i5 w aj (pc h)):
 Ca prog 45 #[Z aj n c,Ag #[I V l,I V ar,I U6 0,I U6 0,I U6 0,I U6 0,I U6 0,I U6 0,I U6 0]] w λe ca=>∃s bo,e=X (Tp #[I V r,I M s,bo,I M 0])/\a9 w ca:=by
 have ck:∀(aq:Fn)(first cap:Array Va)(w:Wd),(Instr.makeFunc aq first cap).run prog w= .ok (.func aq first cap) w:=λ_ _ _ _=>rfl
 subst bt;obtain⟨am,ak,bk,bl⟩:=F6 au aw ba d;clear au aw ba d;go_enter_defers func45,ntmps45
 go_wp2;go_loopw [5,6,9,10] (λbz bx bp T wr=>∃(f k F:Nat)(a t ap:Int)(o:Bool)(G:o5),bz=I M F/\bp=I M ap/\T=I M k/\c7 wr (w+4) 3 OI bx G/\(o=Bf/\t=0/\rN l ar h f k a=So r\/o=Bt/\t=r)/\(0<=a/\a<4294967296)/\(D G<=k/\F<=k/\k<=D h+300)/\a9 w wr/\w+4<=wr.heap.size/\e7 wr (w+1) 32 #[I V 0]/\e7 wr (w+1+1) 47 #[I M 0]/\e7 wr (w+1+1+1) 135 (mc a t o l ar))
  (λ_ _ _ T _=>D h+400-(intOf T).toNat)
 exact⟨D h+1,0,0,0,0,46,Bf,[],rfl,rfl,rfl,c7.nil _ _ _ _,.inl ⟨rfl,rfl,bl.O⟩,⟨e6,e6⟩,⟨a7 _,a7 _,c6 _⟩,a6T w _ _ _ _ _ _ _ _⟩;obtain⟨f,k,F,a,t,ap,o,G,rfl,rfl,rfl,aa,bu,av,ci,H,bb,y,A,x⟩:=hrel;rcases bu with⟨rfl,rfl,d⟩|⟨rfl,rfl⟩
 ·match f,d with
  |f+1,d=>
   unfold rN at d
   split at d
   ·cases d
   rename_i i hi
   split at d
   ·cases d
   rename_i q ac
   obtain⟨ax,rfl⟩:=List.getElem?_eq_some_iff.1 hi
   have ab:=bk _ (g3 ax)
   obtain⟨bv,bw,cr,bd⟩:=a5e ab av ak ac
   have al:=a6 (λW bn=>nDo h[k] l ar a ab q ac av ak (w+1+1+1) (w+3) W bn (a7 _))
   obtain⟨ch,cp,rfl,-⟩:=S1 am a8
   have R:=a6 (λW(bq:a9 w W)=>a4f (am.h bq) ax)
   have bh:wr.cell? ⟨w+1+1+1,28,J⟩=So (O Bf):=x.cell 28
   have k1:(0:Int)<=k:=a8
   have k2:¬(D h:Int)<=k:=a8
   have k3:(k:Int)<D h:=a8
   clear ac hi ab
   obtain⟨ao,ai,N,ct⟩:=q
   dsimp only at*
   obtain⟨m,rfl⟩:=Int.eq_ofNat_of_zero_le bw
   generalize h[k]=P at*
   obtain⟨co,cn,cm,kk⟩:=P
   simp only[B7.val,B7.cells]at al R
   have bi:=a6 (show N=Bf/\ai=0/\rN l ar h f (k+1+m) ao=So r\/N=Bt/\ai=r by
    cases N
    ·exact .inl ⟨rfl,bd rfl,d⟩
    ·exact .inr ⟨rfl,Option.some.inj d⟩)
   obtain⟨an,Q,C⟩:=r6 aa (And.intro y (And.intro A x)) (And.intro H bb)
   clear d bd aa y A x H bb
   have bm:=a6 (λ(j:Wd)(L:∀S,a9 S (wr.alloc (U #[I M k] 3))->S<=w.heap.size+4->a9 S j)(E:(wr.alloc (U #[I M k] 3)).grownBy j u6.ownBlock)=>
    have ad:∀{t:Ti}{cs:Array Va}{g:Nat},3≠t->e7 wr g t cs->e7 j g t cs:=λay b=>(b.alloc _).grown E λe=>an.ne b ay e.symm
    (⟨⟨L w (C.1.alloc _) a8,b6 C.2 (b6 i3 E.size)⟩,ad e6 Q.1,ad e6 Q.2.1,ad e6 Q.2.2⟩:(a9 w j/\w+4<=j.heap.size)/\e7 j (w+1) 32 #[I V 0]/\e7 j (w+1+1) 47 #[I M 0]/\e7 j (w+1+1+1) 135 (mc a 0 Bf l ar)))
   have bs:w+4<=(wr.alloc (U #[I M k] 3)).heap.size:=by have:=C.2;simp;omega
   go_wp2_with(at_builtin;refine h8 rfl (Tm 28) (Tm 30) 28 3 rfl a5L (w+4) _ G rfl (an.h ((a9.refl _).alloc _)) _ 1 1 [(k:Int)] rfl rfl (cF i3 rfl) a8 bs ?_;intro cv j az L E br;obtain⟨u,B⟩:=bm j L E;obtain⟨ae,af,ag,ah⟩:=R _ u.1;replace u:=a6 u;replace B:=a6 B;have bj:=a6 az;clear az L E br)
   clear ae af ag ah bh
   apply(K9 co _).mono
   rintro e cb⟨rfl,bf⟩
   generalize(dV co).1.cls=cq
   go_upto_if 38 with fail
   go_cut [9]from 15 to 47 (λb cc=>∃z:Int,b=I M z/\a9 cb cc)
   case first=>
    cases cj:(cq==4)
    ·go_wp2
     go_meet
     exact⟨_,rfl,.refl _⟩
    ·go_wp2
     go_meet
     exact⟨_,rfl,.refl _⟩
   case rest=>
    obtain⟨z,rfl,bg⟩:=hcut
    have p:=a6 (bf.trans bg)
    clear bf bg
    obtain⟨ae,af,ag,ah⟩:=R _ (u.1.trans p.O)
    go_wp2_with fail
    apply(al _ (B.2.2.h p.O)).mono
    rintro e cx⟨rfl,bc,be⟩
    clear ae af ag ah
    have v:=a6 (And.intro bc be)
    clear bc be
    go_wp2
    go_roundw
    case rel=>exact⟨f,k+1+m,F+1,ao,ai,z,N,G++[(k:Int)],o3,rfl,o3,v.2.own (bj.h p.O) e6,bi.O,bv,⟨by rw[g1];simp;omega,a8,a8⟩,v.2.b (u.1.trans p.O) a8,b6 (b6 u.2 p.size) v.2.size,v.2.blk (B.1.h p.O) (.inl a8),v.2.blk (B.2.1.h p.O) (.inl a8),v.1⟩
    case measure=>simp[intOf];omega
 have bh:wr.cell? ⟨w+1+1+1,28,J⟩=So (O Bt):=x.cell 28;have cy:wr.cell? ⟨w+1+1+1,27,J⟩=So (I V t):=x.cell 27;have cd:=y.cell 0;have ce:=y.frozen 0;have cf:=A.cell 0;have cg:=A.frozen 0;have C:=a6 H;clear H x y A aa;go_wp2_with fail;refine leaves_cons (f:=68) (args:= #[K (w+1:Nat),K (w+1+1:Nat)]) i3 (by simp[go_sem]) ?_;apply(a5t _ _ _).mono;rintro e cu cw⟨rfl,rfl,rfl⟩;refine⟨_,?_,F,u6,rfl,(C.set HW _).set HW _⟩;simp[settle,results,results45,go_sem,cd,ce,cf,cg]
theorem nVm(d:p1)(n c:Nat)(b:List B7)(l:D b=n)(k:∀i∈b,i.ok)(j:n<=1000)(a ar:Int)(h:(iS a ar).ok)(r:Int)(m:rN a ar b (n+1) 0 0=So r)(w:Wd)(g:i5 w d (pc b)):
 Ca prog 26 #[Z d n c,Ag #[I V a,I V ar,I U6 0,I U6 0,I U6 0,I U6 0,I U6 0,I U6 0,I U6 0]] w λe q=>∃s,e=X (Tp #[I V r,I M s,I M 0])/\a9 w q:=by
 have f:=(a9.refl w).alloc (U #[I V a,I V ar,I U6 0,I U6 0,I U6 0,I U6 0,I U6 0,I U6 0,I U6 0] 56);obtain⟨o,p⟩:=j0 (a6z d n c b l k j a ar h r m _ (g.h f)) f;clear l k j h m g f;go_in;go_wp2_with fail;apply o.mono;rintro e v⟨s,u,rfl,t⟩;go_wp2;go_ret3;exact⟨s,rfl,p.trans t⟩
def HK(p:Q5):Prop:=HM p.ins/\XM p
theorem a0S(x:PR)(w:Wd)(g:HK x.p)(l:B4 w 141 gC x.v x.p.ins):
 Ca prog 44 #[Ag (iA.c x).toArray] w λe o=>e=X (O Bt)/\a9 w o:=by
 obtain⟨⟨b,a,d⟩,f,c⟩:=x;show Ca prog _ #[Ag #[I M b,I M a,Z f (D d) c]] w _;obtain⟨g,m⟩:=g;dsimp only[PR.v,XM]at*;have B:=e7.new w 76 #[I M b,I M a,Z f (D d) c];have h:=(a9.refl w).alloc (U #[I M b,I M a,Z f (D d) c] 76);have j:=a6 (a3S f (D d) c d _ rfl g (l.h h).mem);obtain⟨q,r,s⟩:=B.c3;have k:=a6 h;generalize D d=n at*;clear g l h B;go_in;rcases m with⟨rfl,rfl⟩|⟨⟨A,C⟩,E,F⟩
 ·go_wp2_with fail;refine l4 j λp i=>?_;go_wp2;go_ret;exact⟨rfl,k.trans i⟩
 have t:(b==0)=Bf:=by simp;omega
 have u:Dc (b<0)=Bf:=by simp;omega
 have v:Dc (8<=b)=Bf:=by simp;omega
 have y:Dc (a<0)=Bf:=by simp;omega
 have z:Dc (6<=a)=Bf:=by simp;omega
 go_wp2_with fail;refine l4 j λp i=>?_;go_wp2;go_ret;exact⟨rfl,k.trans i⟩
theorem a5q(x:PR)(w:Wd)(i:HK x.p)(h:B4 w 141 gC x.v x.p.ins):
 Ca prog 43 (#[Ag (iA.c x).toArray]++ #[]) w λe l=>e=X (O Bf)/\a9 w l:=by
 have g:=λcs=>(a9.refl w).alloc (U cs 76)
 have j:=a6 (λcs=>a0S x _ i (h.h (g cs)));obtain⟨⟨d,a,f⟩,b,c⟩:=x;dsimp only[PR.v,iA]at*;show Ca prog _ #[Ag #[I M d,I M a,Z b (D f) c]] w _;have B:=e7.new w 76 #[I M d,I M a,Z b (D f) c];have k:=a6 (g #[I M d,I M a,Z b (D f) c]);obtain⟨n,o,p⟩:=B.c3;clear h g i B;go_in;go_wp2_with fail;refine l4 (j _) λq m=>?_;go_wp2;go_ret;exact⟨rfl,k.trans m⟩
theorem a6B(a:p1)(c:Nat)(xs:List PR)(w:Wd)(o:D xs<=43)(g:∀x∈xs,HK x.p)(d:i5 w a (iA.row xs))(f:∀x∈xs,B4 w 141 gC x.v x.p.ins):
 Ca prog 25 #[Z a (D xs) c] w λe b=>e=X (O Bt)/\a9 w b:=by
 have i:=a6 (show Ca prog 42 #[Z a (D xs) c,Fc (.func 43) #[] #[]] w λe b=>e=X (O Bf)/\a9 w b from by have:=cfQ a1i iA e6 isAgg76 sizeOf76 (λ_=>Bf) 43 #[] (Eo func43 g6 rfl) a (D xs) c xs w (λx h W j=>a5q x W (g x h) ((f x h).h j)) rfl a8 d;rwa[(i3:xs.any (λ_=>Bf)=Bf)]at this)
 have l:Dc (D xs<=48)=Bt:=by simp;omega
 have m:(D xs:Int)<=48:=a8;clear d f g;generalize D xs=n at*;go_in;go_wp2_with fail;refine l4 i λp k=>?_;go_wp2;go_ret;exact⟨rfl,k⟩
def DA(b ar:Int)(a:List B7):Option Int:=rN b ar a (D a+1) 0 0
theorem a5u(g f r:Int)(v:Va)(l:List Q5)(w:Wd)(ag:(iS g f).ok)(aj:D l<=43)(ak:∀p∈l,HK p)(al:∀p∈l,(DA g f p.ins).isSome=Bt)(ah:lY (l.map λp=>(DA g f p.ins).getD 0)=r)(ae:eV w v l):
 Ca prog 13 #[v,Ag #[I V g,I V f,I U6 0,I U6 0,I U6 0,I U6 0,I U6 0,I U6 0,I U6 0]] w λe H=>e=X (Tp #[I V r,I M 0])/\a9 w H:=by
 obtain⟨xs,bi,F,rfl⟩:=ae.ex;obtain⟨ax,c,rfl,E,-⟩:=bi;have bk:D xs<=43:=by simpa using aj
 rw[List.map_map]at ah;subst ah;have t:∀x∈xs,HK x.p:=λx d=>ak _ (List.mem_map_of_mem d)
 have W:=a6 (λ(x:PR)(d:x∈xs)(h:Wd)(q:a9 w h)=>show Ca prog 26 #[x.v,Ag #[I V g,I V f,I U6 0,I U6 0,I U6 0,I U6 0,I U6 0,I U6 0,I U6 0]] h λe H=>∃s,e=X (Tp #[I V ((DA g f x.p.ins).getD 0),I M s,I M 0])/\a9 h H from
  nVm x.A (D x.p.ins) x.c x.p.ins rfl (λi hi=>let⟨_,a⟩:=(t x d).1.mem hi;a.1) (t x d).1.1.2 g f ag _ (by
   obtain⟨cp,ap⟩:=Option.isSome_iff_exists.1 (al _ (List.mem_map_of_mem d))
   rw[ap]
   exact ap) h ((F x d).h q).mem)
 obtain⟨S,bb⟩:=j0 (λh(q:a9 w h)=>a6B ax c xs h bk t (E.h q) λx d=>(F x d).h q) E;obtain⟨b,C⟩:∃b:PR->Int,b=λx=>(DA g f x.p.ins).getD 0:=⟨_,rfl⟩
 have ad:((λp:Q5=>(DA g f p.ins).getD 0)∘λx:PR=>x.p)=b:=by rw[C];rfl
 rw[ad];have aa:∀x:PR,(DA g f x.p.ins).getD 0=b x:=λx=>by rw[C]
 simp only[aa]at W;have ao:=(a9.refl w).alloc (U #[I V g,I V f,I U6 0,I U6 0,I U6 0,I U6 0,I U6 0,I U6 0,I U6 0] 56);have af:=e7.new w 56 #[I V g,I V f,I U6 0,I U6 0,I U6 0,I U6 0,I U6 0,I U6 0,I U6 0];obtain⟨B,R⟩:=j0 ao af;clear E F aj ae C ad aa ao af ag t ak al;go_in;go_wp2_with fail;refine l4 (S _ B.O) λu L=>?_;obtain⟨z,az⟩:=j0 (B.trans L) (R.h L);clear L B R S;go_wp2;go_loopw [6,17] (λbr bq wr=>∃k:Nat,k<=D xs/\bq=I M k/\c7 wr u 32 F4 br ((xs.take k).map b)/\a9 u wr) (λ_ i _=>D xs-(intOf i).toNat);exact⟨0,c6 _,rfl,c7.nil _ _ _ _,a9.refl _⟩;obtain⟨k,bw,rfl,o,d⟩:=hrel;obtain⟨ay,bm,bh,rfl⟩:=o.f;have G:D ((xs.take k).map b)=k:=by rw[i1,m4];omega
 obtain rfl:k=bm:=G.symm.trans o.i.2;have T:=a6 o;by_cases n:k<D xs
 ·have j:=bb.h (z.trans d);obtain⟨bt,bx,rfl,_⟩:=j.rows e6 a8;have bn:=j.l n (r:=0) rfl;have bo:=j.l n (r:=1) rfl;have bp:=j.l n (r:=2) rfl;simp only[iA,PR.v,j8]at bn bo bp;have an:=W _ (g3 n);have am:(xs.take (k+1)).map b=(xs.take k).map b++[b xs[k]]:=by rw[g2 n,List.map_append];rfl
  have bc:=a6 am;generalize b xs[k]=bg at*;generalize xs[k]=x at*;obtain⟨⟨av,au,aq⟩,N,ac⟩:=x;dsimp only[PR.v]at*;have y:=(a9.refl wr).alloc (U #[I M av,I M au,Z N (D aq) ac] 76);have Q:=e7.new wr 76 #[I M av,I M au,Z N (D aq) ac];have bz:=Q.cell 2;have bd:=a6 (an _ (z.trans (d.trans y)));have P:=az.h (d.trans y);obtain⟨ca,cb,cc,cd,ce,cf,cg,ch,ci⟩:=(P).c9;obtain⟨be,ab⟩:=j0 y d;have bj:D ((xs.take k).map b)+1<=1000000:=a8;clear o G j an am y Q P d;go_wp2_with(first
   |(go_at_call 26;apply bd.mono;rintro e cm⟨cj,rfl,aw⟩;have A:=a6 (be.trans aw);clear aw)
   |(at_builtin;go_loud (refine h8 rfl (Tm 29) (Tm 31) 33 32 rfl RB u _ ((xs.take k).map b) rfl (T.h (A.alloc _)) _ 1 1 [bg] rfl rfl (cF i3 rfl) bj (ab.trans (A.alloc _)).size ?_;intro ck cn ar bl bv bu)))
  have bf:=bl u (ab.trans (A.alloc _)) (a7 _);rw[<-bc.O]at ar;go_roundw;exact⟨k+1,a8,o3,ar,bf⟩;simp[intOf];omega
 obtain rfl:k=D xs:=a8;have ai:(xs.take (D xs)).map b=xs.map b:=by rw[List.take_length]
 have m:=T.i.1;rw[ai,ZW]at m;have ba:=a6 (yY ay (D xs) bh (xs.map b) wr (by rw[i1]) a8 m);clear o G ai m;go_wp2_with fail;refine l4 ba λco bs=>?_;go_wp2;go_ret2;exact⟨rfl,z.trans (d.trans bs)⟩
def F8:g9:=⟨⟨#[102]⟩,0,[91,83,101,114,118,105,99,101,93,10,83,121,115,116,101,109,67,97,108,108,70,105,108,116,101,114,61,126,107,105,108,108,58,69,80,69,82,77,10,83,121,115,116,101,109,67,97,108,108,65,114,99,104,105,116,101,99,116,117,114,101,115,61,120,56,54,10]⟩
def tK:j2:=(i8 (l5 F8 []).1).1
theorem a4V:(l5 F8 []).2=[]:=g6
theorem a2f:(i8 (l5 F8 []).1).2=[]:=g6
theorem a4T:F0 tK=Bt:=g6
def HP:List Q5:=[⟨0,6,[⟨32,0,0,4⟩,⟨21,1,0,1073741827⟩,⟨6,0,0,2147483648⟩,⟨6,0,0,2147418112⟩]⟩,⟨1,1,[⟨32,0,0,4⟩,⟨21,0,4,1073741827⟩,⟨32,0,0,0⟩,⟨53,0,2,37⟩,⟨53,1,0,38⟩,⟨6,0,0,327681⟩,⟨6,0,0,2147418112⟩]⟩]
theorem a4W:bN Bt tK=HP:=g6
theorem a4U:∀p∈HP,HK p:=by unfold HK HM a38 XM QV B7.ok;decide+kernel
def a16(a ar r:Int):Prop:=(HP.all λp=>(DA a ar p.ins).isSome)=Bt/\lY (HP.map λp=>(DA a ar p.ins).getD 0)=r
theorem a4Z:a16 37 1073741827 327681:=⟨g6,g6⟩
theorem a4Y:a16 3 1073741827 2147418112:=⟨g6,g6⟩
theorem a4X:a16 3 1073741864 2147483648:=⟨g6,g6⟩
theorem evF(b a r:Int)(v:Va)(w:Wd)(f:(iS b a).ok)(c:a16 b a r)(d:eV w v HP):
  Ca prog 13 #[v,Ag #[I V b,I V a,I U6 0,I U6 0,I U6 0,I U6 0,I U6 0,I U6 0,I U6 0]] w λe g=>e=X (Tp #[I V r,I M 0])/\a9 w g:=
 a5u b a r v HP w f e6 a4U (List.all_eq_true.1 c.1) c.2 d
theorem d30{b a:Int}(c:0<=b/\b<4294967296:=by decide)(d:0<=a/\a<4294967296:=by decide):(iS b a).ok:=by constructor<;>first|exact c|exact d|exact(⟨e6,e6⟩:(0:Int)<=0/\(0:Int)<256^8)
theorem c30:fK Bt F8 []=(tK,HP,[]):=by
 have a:D (l5 F8 []).2=0:=by rw[a4V];rfl
 have b:¬p8 (i8 (l5 F8 []).1).2=Bt:=by rw[a2f];decide
 have c:F0 (i8 (l5 F8 []).1).1=Bt:=a4T;unfold fK KA tK;simp only[if_pos a,if_neg b,if_pos c];rw[a2f,<-a4W];rfl
theorem RF(w:Wd):Ca prog 4 #[] w λe au=>e=X (O Bt)/\a9 w au:=by
 have A:i5 (w.alloc (U (l8 U8 F8.data).toArray 5 (67,68))) w (l8 U8 F8.data):=λj u W=>⟨w,0,rfl,by rw[Nat.zero_add];refine(cell_of_row _ w j _ 5 _ (heap_alloc_new _ _)).trans ?_;simpa using W⟩
 have i:=pD (⟨⟨#[102]⟩,0,So ⟨w,0,J⟩,67,67⟩,F8.data) J 0 [] Bt _ (i5.nil _ _) ⟨rfl,A⟩ aL ⟨(e6:(1:Nat)<=_),(e6:(67:Nat)<=_)⟩ aL (c6 _) (e6:67+0<=40000);have B:=(a9.refl w).alloc (U (l8 U8 F8.data).toArray 5 (67,68));have C:=Lib.run_convert_bytes_const (P:=prog) w 22 5 (l8 U8 F8.data).toArray 67 67 underlying22 underlying5;rw[show(l8 U8 F8.data).toArray.size=67 from rfl]at C;rw[show j5 (⟨⟨#[102]⟩,0,So ⟨w,0,J⟩,67,67⟩,F8.data)=F8 from rfl,List.map_nil,c30]at i;unfold p7 at i;dsimp only[List.length_nil]at i;clear A;generalize w.alloc (U (l8 U8 F8.data).toArray 5 (67,68))=w0 at*;obtain⟨s,y⟩:=j0 i B;clear i B;go_in;go_wp2_with(first|(refine cA rfl 22 5 67 _ rfl (l8 U8 F8.data).toArray (I U8 0) 1 underlying22 g6 e6 e6 g6 ?_));apply s.mono;rintro e l⟨ao,ap,aq,ar,m,av,rfl,-,S,N,F,one⟩;obtain⟨n,c,rfl⟩:=N.b;obtain⟨H,Q,t,v,x⟩:=Y2 N.i.1 (y.trans F) (λd(h:a9 l d)=>evF 37 1073741827 327681 m d d30 a4Z (S.h h)) (λd(h:a9 l d)=>evF 3 1073741827 2147418112 m d d30 a4Y (S.h h)) (λd(h:a9 l d)=>evF 3 1073741864 2147483648 m d d30 a4X (S.h h));obtain⟨o,r,rfl⟩:∃o r,m=Z o 2 r:=by obtain⟨xs,⟨n,c,rfl,-,-⟩,-,T⟩:=S.ex;have:=congrArg List.length T;rw[i1]at this;exact⟨n,c,by rw[this];rfl⟩
 have L:=a6 (λd(h:a9 l d)=>zJ tK ao ap aq ar (Z o 2 r) n c [] d (c6 _) (N.i.1.h h));clear S N F C s y H;dsimp only at*;generalize tK=p at*;unfold a4E at*;go_wp2_with(refine q6 (e7.new _ _ _) ?_ (hx1q:=one);intro aw q z;have g:=q.cell 13;have a:=a6 q;have b:=a6 (((a9.refl l).alloc _).grown z (λk e=>by cases e;exact a7 _));clear q z one);refine l4 (t _ b.O) λE f=>?_;replace b:=a6 (b.trans f);replace a:=a6 (a.h f);clear f g t;have g:=a.cell 13;go_wp2_with fail;refine l4 (v _ b.O) λE f=>?_;replace b:=a6 (b.trans f);replace a:=a6 (a.h f);clear f g v;have g:=a.cell 13;go_wp2_with fail;refine l4 (x _ b.O) λE f=>?_;replace b:=a6 (b.trans f);replace a:=a6 (a.h f);clear f g x;obtain⟨aa,ab,ag,ah,ai,aj,ak,al,am⟩:=(a.O).c9;obtain⟨an,ac,ad,ae,g,af⟩:=(a.O).d6 9 10 11 12 13 14;go_wp2_with fail;refine l4 (L _ b.O) λax G=>?_;clear aa ab ag ah ai aj ak al am an ac ad ae g af;have g:=(a.h G).cell 13;have R:(!p8 [])=Bt:=rfl;rw[R];go_wp2;go_ret;exact⟨rfl,Q.trans (b.trans G)⟩
section
open Go.Lib
theorem a1I:∀x c:List UInt8,(compareBytes x c<0↔x<c)/\(compareBytes x c=0↔x=c)
 |[],[]=>by simp[compareBytes]
 |[],_::_=>by simp[compareBytes]
 |_::_,[]=>by simp[compareBytes]
 |a::x,b::c=>by
  have ih:=a1I x c;unfold compareBytes;rw[List.cons_lt_cons_iff];by_cases d:a<b;have g:a≠b:=λe=>UInt8.lt_irrefl b (e▸d)
  simp[d,g];by_cases f:b<a;have g:a≠b:=λe=>UInt8.lt_irrefl b (e▸f)
  simp[d,f,g];obtain rfl:a=b:=UInt8.le_antisymm (UInt8.not_lt.1 f) (UInt8.not_lt.1 d);simp[d,ih]
theorem tri(x a:List UInt8):x<a\/x=a\/a<x:=by by_cases b:x<a;exact .inl b;by_cases c:a<x;exact .inr (.inr c);exact .inr (.inl (List.le_antisymm (List.not_lt.1 c) (List.not_lt.1 b)))
theorem a4G(p:Nat->Bool)(n:Nat):∀f i j,(∀k,k<j->(p k=Bt↔k<n))->i<=n->n<=j->j-i<=f->CQ p f i j=n
 |0,i,j,_,h1,h2,h3=>by unfold CQ;omega
 |f+1,i,j,h,h1,h2,h3=>by
  unfold CQ;by_cases b:i<j;rw[if_pos b];have c:=h ((i+j)/2) a8;by_cases a:p ((i+j)/2)=Bt;rw[if_pos a];exact a4G p n f _ _ h (by have:=c.1 a;omega) h2 a8;rw[if_neg a];have:¬(i+j)/2<n:=λq=>a (c.2 q)
  exact a4G p n f _ _ (λk d=>h k a8) h1 a8 a8;rw[if_neg b];omega
abbrev ky(x:n0):List UInt8:=x.1.toList
theorem a1m{a b:g4}(h:a.toList=b.toList):a=b:=bytes_inj (by rw[<-toList_data,<-toList_data];exact h)
theorem DX(s:g4):∀xs:List n0,(xs.map ky).Pairwise (·<·)->∃L d G,xs=L++(d++G)/\(∀x∈L,ky x<s.toList)/\(∀x∈G,s.toList<ky x)/\(d=[]\/∃b,d=[(s,b)])
 |[],_=>⟨[],[],[],rfl,i3,i3,.inl rfl⟩
 |x::r,h=>by
  rw[List.map_cons,List.pairwise_cons]at h;obtain⟨i,j⟩:=h;have g:∀e∈r,ky x<ky e:=λe f=>i _ (List.mem_map_of_mem f)
  rcases tri (ky x) s.toList with q|q|q
  obtain⟨L,d,G,rfl,a,b,c⟩:=DX s r j;exact⟨x::L,d,G,rfl,List.forall_mem_cons.2 ⟨q,a⟩,b,c⟩;obtain⟨n,b⟩:=x;obtain rfl:n=s:=a1m q;exact⟨[],[(n,b)],r,rfl,i3,g,.inr ⟨b,rfl⟩⟩;exact⟨[],[],x::r,rfl,i3,List.forall_mem_cons.2 ⟨q,λe f=>List.lt_trans q (g e f)⟩,.inl rfl⟩
theorem qT{f:Type}(p:f->Prop):∀(d B C b:List f),d++B=C++b->(∀x∈d,p x)->(∀x∈B,¬p x)->(∀x∈C,p x)->(∀x∈b,¬p x)->d=C/\B=b
 |[],B,[],b,h,_,_,_,_=>⟨rfl,h⟩
 |[],B,c::C,b,h,_,hB,hC,_=>absurd (hC c List.mem_cons_self) (hB c (by rw[show B=c::C++b from h];exact List.mem_cons_self))
 |a::d,B,[],b,h,hA,_,_,hD=>absurd (hA a List.mem_cons_self) (hD a (by rw[<-show a::d++B=b from h];exact List.mem_cons_self))
 |a::d,B,c::C,b,h,hA,hB,hC,hD=>by
  injection h with h1 h2
  obtain⟨g,i⟩:=qT p d B C b h2 (λx e=>hA x (List.mem_cons_of_mem _ e)) hB (λx e=>hC x (List.mem_cons_of_mem _ e)) hD;exact⟨by rw[h1,g],i⟩
theorem tO(s:g4)(L a G:List n0)(h:∀x∈L,ky x<s.toList)(g:∀x∈G,s.toList<ky x)(i:a=[]\/∃b,a=[(s,b)]):(L++(a++G)).filter (λx=> !(x.1.toList==s.toList))=L++G:=by
 have d:L.filter (λx=> !(x.1.toList==s.toList))=L:=List.filter_eq_self.2 λx c=>by have:=h x c;simp only[Bool.not_eq_true',beq_eq_false_iff_ne];exact λe=>by rw[ky,e]at this;exact List.lt_irrefl _ this
 have f:G.filter (λx=> !(x.1.toList==s.toList))=G:=List.filter_eq_self.2 λx c=>by have:=g x c;simp only[Bool.not_eq_true',beq_eq_false_iff_ne];exact λe=>by rw[ky,e]at this;exact List.lt_irrefl _ this
 rw[List.filter_append,List.filter_append,d,f];rcases i with rfl|⟨b,rfl⟩
 rfl;simp
theorem a51(s:g4)(L a G:List n0)(m:∀x∈L,ky x<s.toList)(g:∀x∈G,s.toList<ky x)(h:a=[]\/∃b,a=[(s,b)]):QJ (L++(a++G)) s=D L/\dN (L++(a++G)) s= !a.isEmpty:=by
 have f:∀k(c:k<D (L++(a++G))),xQ (L++(a++G)) s k=compareBytes (ky (L++(a++G))[k]) s.toList:=λk c=>by unfold xQ;rw[e9 c];dsimp only[ky];rw[toList_data,toList_data]
 have i:QJ (L++(a++G)) s=D L:=by
  refine a4G _ _ _ _ _ (λk j=> ?_) (c6 _) i3 (a7 _);rw[decide_eq_true_iff,f k j,(a1I _ _).1];constructor;intro c;refine Nat.lt_of_not_le λo=> ?_
  rw[List.getElem_append_right o]at c;have p:=g3 (l:=a++G) (n:=k-D L) (by simp at j⊢;omega);rcases List.mem_append.1 p with q|q
  rcases h with rfl|⟨b,rfl⟩
  cases q;rw[List.mem_singleton.1 q]at c;exact List.lt_irrefl _ c;exact List.lt_irrefl _ (List.lt_trans c (g _ q));intro c;rw[List.getElem_append_left c];exact m _ (g3 c)
 refine⟨i,?_⟩;unfold dN;rw[i];rcases h with rfl|⟨b,rfl⟩
 ·cases G with
  |nil=>simp
  |cons x G=>
   rw[f (D L) i3]
   have d:compareBytes (ky x) s.toList≠0:=λe=>by
    have:=g x List.mem_cons_self
    rw[(a1I _ _).2.1 e]at this
    exact List.lt_irrefl _ this
   simpa using d
 rw[f (D L) i3];have d:compareBytes s.toList s.toList=0:=(a1I _ _).2.2 rfl;simpa using d
theorem IK{m:Int}{xs:List n0}{s:g4}{a:Int}{pre post:List n0}(k:A6 m xs=Bt)(f:xs.filter (λx=> !(x.1.toList==s.toList))=pre++post)(p:∀x∈post,s.toList<ky x)(r:∀q c,pre=q++[c]->¬s.toList<ky c):fU m xs s a=pre++(s,a)::post:=by
 obtain⟨L,l,G,rfl,i,h,j⟩:=DX s xs (K8 xs J (R2 k)).1;have n:((pre++post).map ky).Pairwise (·<·):=by rw[<-f];exact(K8 _ J (R2 k)).1.sublist (List.filter_sublist.map ky)
 rw[tO s L l G i h j]at f;have v:∀x∈pre,ky x<s.toList:=by
  rcases List.eq_nil_or_concat pre with rfl|⟨q,c,rfl⟩
  exact λx d=>nomatch d
  rw[List.concat_eq_append]at*;have o:ky c<s.toList:=by
   rcases tri (ky c) s.toList with d|d|d
   exact d;have:c∈L++G:=by rw[f];simp
   rcases List.mem_append.1 this with g|g
   exact i c g;have:=h c g;rw[d]at this;exact absurd this (List.lt_irrefl _);exact absurd d (r q c rfl)
  intro x e;rcases List.mem_append.1 e with g|g
  rw[p6,List.map_append,List.pairwise_append]at n;exact List.lt_trans (n.2.2 _ (List.mem_map_of_mem g) (ky c) i3) o;rw[List.mem_singleton.1 g];exact o
 obtain⟨rfl,rfl⟩:=qT (λx=>ky x<s.toList) _ _ _ _ f i (λx e q=>List.lt_irrefl _ (List.lt_trans q (h x e))) v λx e q=>List.lt_irrefl _ (List.lt_trans q (p x e))
 obtain⟨t,u⟩:=a51 s L l G i h j;unfold fU;rw[if_pos k,t,u];rcases j with rfl|⟨b,rfl⟩
 simp[P4];simp
theorem EZ:∀(xs:List n0)(p:Option g4),(xs.map ky).Pairwise (·<·)->(∀x∈xs,w7 x.1=Bt/\x2 x.2=Bt)->(∀q,p=So q->∀x∈xs,q.toList<ky x)->MS p xs=Bt
 |[],p,_,_,_=>rfl
 |x::r,p,h1,h2,h3=>by
  rw[List.map_cons,List.pairwise_cons]at h1;have b:=h2 x List.mem_cons_self;unfold MS;rw[b.1,b.2,EZ r (So x.1) h1.2 (λc a=>h2 c (List.mem_cons_of_mem _ a)) λq d c a=>by cases d;exact h1.1 _ (List.mem_map_of_mem a)];cases p with
  |none=>rfl
  |some q=>
   have:Op.bytesLess q.toList x.1.toList=Bt:=by rw[bytesLess_eq];exact decide_eq_true (h3 q rfl x List.mem_cons_self)
   simp[rM,this]
theorem wS{m:Int}{xs:List n0}(b:m=1\/m=2)(a:MS J xs=Bt):A6 m xs=Bt:=by unfold A6;rw[if_neg a8,if_neg a8,a]
theorem AR{m:Int}{xs:List n0}(b:m=1\/m=2)(a:A6 m xs=Bt)(s:g4):A6 m (xs.filter λx=> !(x.1.toList==s.toList))=Bt:=by obtain⟨c,d,-⟩:=K8 xs J (R2 a);exact wS b (EZ _ J (c.sublist (List.filter_sublist.map ky)) (λx e=>d x (List.mem_filter.1 e).1) λq a=>nomatch a)
theorem JD{m:Int}{xs:List n0}(r:m=1\/m=2)(c:A6 m xs=Bt){s:g4}{a:Int}(v:w7 s=Bt)(u:x2 a=Bt):A6 m (fU m xs s a)=Bt:=by
 obtain⟨l,n,-⟩:=K8 xs J (R2 c);obtain⟨L,p,G,rfl,j,i,t⟩:=DX s xs l;have o:=tO s L p G j i t;have d:((L++G).map ky).Pairwise (·<·):=by rw[<-o];exact l.sublist (List.filter_sublist.map ky)
 rw[IK c o i λq h e=>by subst e;exact λg=>List.lt_irrefl _ (List.lt_trans g (j h i3))];refine wS r (EZ _ J ?_ ?_ λq c=>nomatch c);rw[List.map_append,List.pairwise_append]at d;rw[List.map_append,List.pairwise_append,List.map_cons,List.pairwise_cons];refine⟨d.1,⟨λh b=> ?_,d.2.1⟩,λx f h b=> ?_⟩;obtain⟨z,k,rfl⟩:=List.mem_map.1 b;exact i z k;obtain⟨z,k,rfl⟩:=List.mem_map.1 f;rcases List.mem_cons.1 b with rfl|b
 exact j z k;exact d.2.2 _ f h b;intro x f;rcases List.mem_append.1 f with g|g
 exact n x (by simp[g]);rcases List.mem_cons.1 g with rfl|g
 exact⟨v,u⟩;exact n x (by simp[g])
end
end Go.Proofs.YtcljlejgllkcjaaGreat
