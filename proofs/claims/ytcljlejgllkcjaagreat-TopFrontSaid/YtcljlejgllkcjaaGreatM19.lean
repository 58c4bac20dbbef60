/- A part of the proof of TopFront: lemmas on the walks of its calls. -/
import Derived.Test.YtcljlejgllkcjaaGreatM18
set_option maxHeartbeats 12000000
set_option linter.all false
set_option maxRecDepth 100000
namespace Go.Proofs.YtcljlejgllkcjaaGreat
open Go.RowKit Go.ChangeShapes Go.WideShapes Tryz
open Bool renaming true→Bt,false→Bf
open Decidable renaming decide→Dc
open Ending renaming returned→X
open Go renaming World→Wd,Value→Va,Calls→Ca,callsIn_wide→Cw,undef→Un,bodyPost_ret→Bp,TypeId→Ti,Addr→Ad,Program→Pg,strOfNums→Sn,results_none→Rz,wpListIn→Wl,callsIn_of_wp→Co
open IntKind renaming i64→M,u32→V,u64→U6,u8→U8
open List renaming getD_eq_getElem?_getD→b9,getElem?_eq_getElem→e9,length_append→g1,getElem_mem→g3,take_succ_eq_append_getElem→g2,length_map→i1,length_cons→i4,length_take→m4,length→D
open Nat renaming le_refl→a7,le_trans→b6,zero_le→c6,add_zero→j8
open Obj renaming cells→U
open Operand renaming tmp→Tm
open Option renaming none→J,some→So
open Value renaming int→I,slice→Z,string→Y,pointer→K,bool→O,func→Fc,tuple→Tp,agg→Ag,nilFunc→Nf
section
open Go.Shelf Go.Sort Go.MapKept
attribute [local go_sem] Oper.semAt_some
def C3(l:List g9):List m8:=l.flatMap λf=>(v6 f.name (Sn f.data)).1
def E2(l:List g9):List i6:=l.flatMap λf=>(v6 f.name (Sn f.data)).2
def X9(ds:List g9):Int:=Q0 (λf:g9=> !P9 f.name) ds 0
def l5(u:g9)(ds:List g9):List m8×List i6:=
 if(r1 u ds).2≠0 then([],[⟨u.name,0,(r1 u ds).2,if(r1 u ds).2=140 then j9 (ds.getD (X9 ds).toNat default).name else⟨#[]⟩⟩])
 else if 0<D (E2 (r1 u ds).1) then([],E2 (r1 u ds).1)else(C3 (r1 u ds).1,[])
theorem fV(f b:g4):D (v6 f b).1<=1001/\D (v6 f b).2<=1001:=by unfold v6;have a:=kM f (y9 b).1 ⟨⟨#[]⟩,Bf,[],[]⟩;have c:=(jN b).1;simp only[List.length_nil,Nat.zero_add]at a;dsimp only;split;split;exact⟨c6 _,by dsimp only;omega⟩;exact⟨by dsimp only;omega,c6 _⟩;exact⟨c6 _,i3⟩
theorem lO(l:List g9)(f:g9):C3 (l++[f])=C3 l++(v6 f.name (Sn f.data)).1:=by simp[C3]
theorem lN(l:List g9)(f:g9):E2 (l++[f])=E2 l++(v6 f.name (Sn f.data)).2:=by simp[E2]
theorem Z7:∀l:List g9,D (C3 l)<=1001*D l/\D (E2 l)<=1001*D l
 |[]=>⟨a7 _,a7 _⟩
 |f::l=>by have a:=Z7 l;have b:=fV f.name (Sn f.data);simp only[C3,E2,List.flatMap_cons,g1,i4]at a⊢;omega
theorem WD{a:Type}(p:a->Bool):∀(l:List a)(i:Nat),0<=Q0 p l i->∃j,j<D l/\Q0 p l i=((i+j:Nat):Int)
 |[],i,h=>by simp[Q0]at h
 |x::l,i,h=>by unfold Q0 at h⊢;split;exact⟨0,i3,i3⟩;rename_i d;rw[if_neg d]at h;obtain⟨j,b,c⟩:=WD p l (i+1) h;exact⟨j+1,by simpa using b,by rw[c];congr 1;omega⟩
theorem bA(u:g9)(ds:List g9):D (r1 u ds).1<=17:=by unfold r1;split;simp;split;simp;have a:=cW _ (jK g9.name) (z7 ds);have b:=qQ ds;unfold lE;simp only[i4];omega
theorem AE(u:g9)(ds:List g9)(h:(r1 u ds).2=140):0<=X9 ds:=by unfold r1 at h;split at h;simp at h;split at h;assumption;simp at h
theorem PB(u:PF)(ai:p1)(c:Nat)(ds:List PF)(w:Wd)(cc:D ds<=1000000)(ar:i5 w ai (q9.row (ds.map (·.1))))(ch:L8 w u)(dp:QD u)(aw:∀p∈ds,L8 w p/\QD p):
 Ca prog 29 #[p7 u.1,Z ai (D ds) c] w λe bl=>∃L N,e=X (Tp #[L,N])/\c7 bl w 89 z8 L (l5 (j5 u) (ds.map j5)).1/\c7 bl w 49 h9 N (l5 (j5 u) (ds.map j5)).2/\a9 w bl:=by
 have aa:=(a9.refl w).alloc (U #[Y u.1.name,I M u.1.dir,Z u.1.A u.1.n u.1.c] 24);have bt:=e7.new w 24 (#[Y u.1.name,I M u.1.dir,Z u.1.A u.1.n u.1.c]);have an:=a6 (PA u ai c ds _ cc (ar.h aa) (ch.h aa) dp (λp af=>⟨(aw p af).1.h aa,(aw p af).2⟩));obtain⟨R,ad⟩:∃R,R=l5 (j5 u) (ds.map j5):=⟨_,rfl⟩;rw[<-ad];unfold l5 at ad;have aq:=AE (j5 u) (ds.map j5);have bg:fM (ds.map (·.1))=X9 (ds.map j5):=HL ds;have et:=bA (j5 u) (ds.map j5);generalize r1 (j5 u) (ds.map j5)=o at*;obtain⟨l,d⟩:=o;dsimp only at*;obtain⟨P,am,cs,bp,bn⟩:=Y2 ad ar aw aa bt;clear ad ar ch aa bt;unfold p7 at an⊢;go_in;go_wp2_with fail;apply an.mono;rintro e i⟨v,rs,rfl,ba,bb,ae,bh⟩;have br:=bn.h bh;have A:=bp.trans bh;have dz:=bh.size;simp at dz;by_cases au:d=0
 ·subst au;have a:=P.O;rw[if_neg i3]at a;have du:D rs=D l:=by rw[<-ae];simp
  obtain⟨el,bu,di,_,_,z⟩:=ba.inM;rw[di,i1];obtain⟨n,ab,cx,ct,bq⟩:=Y2 a z bb ae A;clear a P aq bg br ba z bb ae bn bp A an;go_wp2;go_loopg [10,11,46] (D rs) (λdk eh ei ej wr=>∃(k:Nat)(L N:Va),k<=D rs/\D rs-k<=dk/\eh=L/\ei=N/\ej=I M k/\c7 wr i 89 z8 L (C3 (l.take k))/\c7 wr i 49 h9 N (E2 (l.take k))/\a9 i wr);exact⟨0,_,_,c6 _,a8,rfl,rfl,rfl,c7.nil _ _ _ _,c7.nil _ _ _ _,a9.refl _⟩;obtain⟨k,L,N,es,ep,rfl,rfl,rfl,F,G,s⟩:=hrel;have cf:=Z7 (l.take k);have dv:D (l.take k)=k:=by rw[m4];omega
  rw[dv]at cf;by_cases ce:k<D rs
  ·have dt:(k:Int)<D rs:=a8;have az:k<D (rs.map (·.1)):=by simpa using ce
   obtain⟨b,o,rfl,dl⟩:=(ab.h s).rows e6 G6;have T:=(ab.h s).l az (r:=0) rfl;have bv:=(ab.h s).l az (r:=1) rfl;have ac:=(ab.h s).l az (r:=2) rfl;have bc:=cx _ (g3 ce);have cd:k<D l:=a8;have av:l[k]=j5 rs[k]:=by have e:=ct.O;subst e;simp
   have bd:C3 (l.take (k+1))=C3 (l.take k)++(v6 rs[k].1.name (Sn rs[k].2)).1:=by rw[g2 cd,lO,av];rfl
   have be:E2 (l.take (k+1))=E2 (l.take k)++(v6 rs[k].1.name (Sn rs[k].2)).2:=by rw[g2 cd,lN,av];rfl
   simp only[List.getElem_map]at T bv ac;clear av;generalize rs[k]=x at*;obtain⟨⟨nm,bz,B,m,bw⟩,xs⟩:=x;simp only[q9,j8]at T bv ac;dsimp only at bd be;have eu:=fV nm (Sn xs);have xa:=(a9.refl wr).alloc (U #[Y nm,I M bz,Z B m bw] 24);have cw:=a6 (KQ nm bz B m bw xs _ bc.1 ((bc.2.h s).h xa));generalize v6 nm (Sn xs)=q at*;obtain⟨ef,eg⟩:=q;dsimp only at*;obtain⟨cn,da,dc,cy,cz⟩:=Y2 (F.h xa) (G.h xa) (s.trans xa) bd be;have ev:=bq.size;have ew:=s.size;generalize C3 (l.take k)=cj at*;generalize E2 (l.take k)=bj at*;clear F G s xa bd be bc;go_wp2_with fail;apply cw.mono;rintro e fh⟨ff,fg,rfl,ee,cm,ag⟩;have aj:=cn.h ag;have db:=da.h ag;have ea:=ag.size;simp at ea;obtain⟨co,dg,rfl,_,_,eb⟩:=ee.inM;obtain⟨cp,dh,rfl,_,_,ez⟩:=cm.inM;go_wp2_with(first
    |(at_builtin;refine h8 rfl (Tm 55) (Tm 56) 58 89 rfl a1W i _ cj rfl aj _ _ _ ef rfl rfl eb a8 a8 ?_;intro fd fi ec dx ax en;have ck:=db.apart aj e6 ax;have dd:=dx i (dc.trans ag) (a7 _);have bk:=(cm.apart aj e6 ax).inM;obtain⟨_,_,dj,_,_,bk⟩:=bk;cases dj;have ex:=ax.size)
    |(at_builtin;refine h8 rfl (Tm 58) (Tm 59) 38 49 rfl P0 i _ bj rfl ck _ _ _ eg rfl rfl bk a8 a8 ?_;intro fe fj ed dy dq eo;have de:=dy i dd (a7 _)))
   go_roundg (D rs-(k+1));exact⟨k+1,_,_,a8,a8,rfl,rfl,o3,by rw[cy.O];exact ec.apart ck e6 dq,by rw[cz.O];exact ed,de⟩;omega
  obtain rfl:k=D rs:=a8;have dw:l.take (D rs)=l:=by rw[du,List.take_length]
  rw[dw]at F G cf;have dt:Dc ((D rs:Int)<D rs)=Bf:=i3;have bs:=bq.trans s;have ca:=F.mono (b2:=w) a8;have cb:=G.mono (b2:=w) a8;obtain⟨co,dg,rfl,_⟩:=F.inM;obtain⟨cp,dh,rfl,_⟩:=G.inM;obtain⟨cr,cv⟩:=j0 ca cb;clear F G ca cb s;generalize C3 l=cj at*;generalize E2 l=bj at*;by_cases H:0<D bj;·have bx:=decide_eq_true H;have a:=n.O;rw[if_pos H]at a;have Q:=a6 a;clear a n H;go_wp2;go_ret2;exact⟨_,_,rfl,by rw[Q.O];exact c7.nil _ _ _ _,by rw[Q.O];exact cv.O,bs⟩
  have bx:=decide_eq_false H;have a:=n.O;rw[if_neg H]at a;have Q:=a6 a;clear a n H;go_wp2;go_ret2;exact⟨_,_,rfl,by rw[Q.O];exact cr.O,by rw[Q.O];exact c7.nil _ _ _ _,bs⟩
 have bx:(d !=0)=Bt:=by simp[au]
 obtain⟨fa,fb,fc⟩:=br.c3;have a:=P.O;rw[if_pos au]at a;clear ba bb ae;by_cases E:d=140
 ·rw[if_pos E]at a;have C:(d==140)=Bt:=by simp[E]
  obtain⟨j,ay,ci⟩:=WD _ _ _ (aq E);rw[i1]at ay;have dr:j<D (ds.map (·.1)):=by simpa using ay
  obtain⟨b,o,rfl,dl⟩:=(am.h A).rows e6 G6;have cq:=e7.new i 49 #[Y u.1.name,I M 0,I M d,Y ⟨#[]⟩];have bm:=(a9.refl i).alloc (U #[Y u.1.name,I M 0,I M d,Y ⟨#[]⟩] 49);have bo:=a6 (uP (So ⟨b,o,J⟩) (D ds) c (ds.map (·.1)) _ i3 cc ((am.h A).h bm) (λf dm=>by obtain⟨p,af,rfl⟩:=List.mem_map.1 dm;exact(cs p af).2.1));have bf:X9 (ds.map j5)=(j:Int):=by have:X9 (ds.map j5)=((0+j:Nat):Int):=ci;rwa[Nat.zero_add]at this
  have cg:((ds.map j5).getD (X9 (ds.map j5)).toNat default).name=ds[j].1.name:=by rw[bf,Int.toNat_natCast,b9,e9 (by simpa using ay)];simp[j5]
  rw[cg]at a;rw[bg,bf]at bo;have n:=a6 a;have ao:=λW(x:a9 (i.alloc (U #[Y u.1.name,I M 0,I M d,Y ⟨#[]⟩] 49)) W)=>(((am.h A).h bm).h x).l dr (r:=0) rfl
  simp only[q9,j8,List.getElem_map]at ao;have er:(j:Int)<D ds:=a8;generalize ds[j].1.name=t at*;have z:0<=min (t.size:Int) 60:=a8;have ey:min (t.size:Int) 60<=t.size:=a8;have ah:(min (t.size:Int) 60).toNat=min t.size 60:=a8;have cu:=a6 ao;clear a P ci cg bf bg ao aq E;go_wp2_with fail;refine l4 bo λek bi=>?_;have T:=cu ek bi;have ak:=cq.h bi;have em:=ak.frozen 3;have k3:=ak.cell 3;have al:=ak.f 3 (Y (j9 t));have S:=(A.trans (bm.trans bi)).set (p:=⟨i,3,J⟩) (by have:=A.size;exact this) (Y (j9 t));go_wp2_with fail;refine gP ?_;refine r7 (.is (Ag #[Y u.1.name,I M 0,I M d,Y (j9 t)])) ?_ ?_;·intro x h g;simp only[g0,o7,uV,VP.ownR];obtain⟨T,bu,ac,df⟩:=(al.h g).c4;go_wp2_with fail;refine e8 ?_ rfl (a9.refl _);rfl
  refine r7 ((VP.ownR w 49 h9 [⟨u.1.name,0,d,(j9 t)⟩])) ?_ ?_;·intro x h g;simp only[g0,o7,uV,VP.ownR];intro y;simp only[y];go_wp2_with fail;refine e8 ?_ rfl ((a9.refl h).alloc _);exact c7.new (b6 S.size g.size) rfl rfl e6
  apply D7;focus (intro x h g;simp only[g0,o7,uV];(repeat intro ap;try simp only[ap]);go_wp2_with fail;exact dn rfl rfl (a9.refl _))
  refine r7 ((VP.ownR w 49 h9 [⟨u.1.name,0,d,(j9 t)⟩])) ?_ ?_;·intro x h g;simp only[g0,o7,uV,VP.ownR];rintro z;go_wp2_with fail;refine e8 ?_ rfl (a9.refl h);exact z
  intro x h g;simp only[n9,g0,o7,uV];rintro y z C ah;simp only[y,C];clear y C;go_wp2;go_ret2;exact⟨_,_,rfl,by rw[n.O];exact c7.nil _ _ _ _,by rw[n.O];exact ah,S.trans g⟩
 rw[if_neg E]at a;have C:(d==140)=Bf:=by simp[E]
 have n:=a6 a;clear a P;have al:=e7.new i 49 #[Y u.1.name,I M 0,I M d,Y ⟨#[]⟩];have S:=A.trans ((a9.refl i).alloc (U #[Y u.1.name,I M 0,I M d,Y ⟨#[]⟩] 49));go_wp2_with fail;refine gP ?_;refine r7 (.is (Ag #[Y u.1.name,I M 0,I M d,Y (⟨#[]⟩)])) ?_ ?_;·intro x h g;simp only[g0,o7,uV,VP.ownR];obtain⟨T,bu,ac,df⟩:=(al.h g).c4;go_wp2_with fail;refine e8 ?_ rfl (a9.refl _);rfl
 refine r7 ((VP.ownR w 49 h9 [⟨u.1.name,0,d,(⟨#[]⟩)⟩])) ?_ ?_;·intro x h g;simp only[g0,o7,uV,VP.ownR];intro y;simp only[y];go_wp2_with fail;refine e8 ?_ rfl ((a9.refl h).alloc _);exact c7.new (b6 S.size g.size) rfl rfl e6
 apply D7;focus (intro x h g;simp only[g0,o7,uV];(repeat intro ap;try simp only[ap]);go_wp2_with fail;exact dn rfl rfl (a9.refl _))
 refine r7 ((VP.ownR w 49 h9 [⟨u.1.name,0,d,(⟨#[]⟩)⟩])) ?_ ?_;·intro x h g;simp only[g0,o7,uV,VP.ownR];rintro z;go_wp2_with fail;refine e8 ?_ rfl (a9.refl h);exact z
 intro x h g;simp only[n9,g0,o7,uV];rintro y z C ah;simp only[y,C];clear y C;go_wp2;go_ret2;exact⟨_,_,rfl,by rw[n.O];exact c7.nil _ _ _ _,by rw[n.O];exact ah,S.trans g⟩
end
theorem JT(f:Nat)(b:Bool)(w:Wd):Ca prog 212 #[Fc (.func f) #[] #[],O b] w λe a=>e=X (Fc (.func 283) #[] #[K w,K (w+1:Nat)])/\a=(w.alloc (U #[Fc (.func f) #[] #[]] 308)).alloc (U #[O b] 4):=by go_wp2;go_ret;exact⟨rfl,rfl⟩
theorem XG(g:Nat)(w:Wd):Ca prog 213 #[K g] w λe a=>e=X (K (So ⟨g,1,J⟩))/\w=a:=by go_wp2;go_ret;exact⟨rfl,rfl⟩
theorem XF(g:Nat)(w:Wd):Ca prog 214 #[K g] w λe a=>e=X (K (So ⟨g,4,J⟩))/\w=a:=by go_wp2;go_ret;exact⟨rfl,rfl⟩
def kF:g4:=⟨#[83,121,115,116,101,109,67,97,108,108,70,105,108,116,101,114]⟩
def kE:g4:=⟨#[83,121,115,116,101,109,67,97,108,108,76,111,103]⟩
def kG:g4:=⟨#[83,121,115,116,101,109,67,97,108,108,69,114,114,111,114,78,117,109,98,101,114]⟩
def QI(a:Nat):Va:=Fc (.func 283) #[] #[K a,K (a+1:Nat)]
def fK3:Va:=Fc (.func 215) #[] #[]
structure vB(w:Wd)(g a c:Nat):Prop where
 m:H5 w g [(kF,QI a),(kE,QI c),(kG,fK3)]
 ba:e7 w a 308 #[Fc (.func 213) #[] #[]]
 bb:e7 w (a+1) 4 #[O Bt]
 bc:e7 w c 308 #[Fc (.func 214) #[] #[]]
 bd:e7 w (c+1) 4 #[O Bf]
theorem vB.h{w d:Wd}{g a c:Nat}(b:vB w g a c)(x:a9 w d):vB d g a c:=⟨b.m.h x,b.ba.h x,b.bb.h x,b.bc.h x,b.bd.h x⟩
theorem BX{w a:Wd}{f:Nat}{b:Bool}(c:a=(w.alloc (U #[Fc (.func f) #[] #[]] 308)).alloc (U #[O b] 4)):e7 a w 308 #[Fc (.func f) #[] #[]]/\e7 a (w+1) 4 #[O b]/\a9 w a:=by subst c;exact⟨(e7.new _ _ _).alloc _,e7.b i3,((a9.refl w).alloc _).alloc _⟩
theorem JU(w:Wd):Ca prog 145 #[] w λe A=>∃g a c,e=X (.map (So g))/\vB A g a c/\a9 w A:=by
 have R:= @run_makeMap prog;go_in;go_wp2_with fail;refine l4 (JT _ Bt _) λT x=>?_;obtain⟨j,b2,p⟩:=BX x;have z:=(H5.new (w:=w) rfl).h p;have C:=((a9.refl w).alloc (.map #[] 0)).trans p;have H:(w.alloc (.map #[] 0)).heap.size=w.heap.size+1:=i3;rw[H]at j b2⊢;have h:∀{k},k=w.heap.size+1\/k=w.heap.size+1+1->So k≠So w.heap.size:=λd e=>by injection e with e;omega
 clear x p;go_wp2_with(refine V6 rfl _ _ _ 218 9 216 (.inr rfl) underlying218 underlying9 _ _ rfl z _ rfl _ rfl ?_;intro i o l);have r:=j.grown l (h (.inl rfl));have b3:=b2.grown l (h (.inr rfl));have q:=C.f l (λk e=>by cases e;exact a7 _);refine l4 (JT _ Bf _) λB y=>?_;obtain⟨F,G,f⟩:=BX y;have L:=o.h f;have E:=r.h f;have b4:=b3.h f;have Q:=q.trans f;have S:=q.size;have v:∀{k},k=i.heap.size\/k=i.heap.size+1->So k≠So w.heap.size:=λd e=>by injection e with e;have:=o.lt;omega
 clear y f z j b2 C r b3 q o;go_wp2_with(first|(refine V6 rfl _ _ _ 218 9 216 (.inr rfl) underlying218 underlying9 _ _ rfl L _ rfl _ rfl ?_;intro W N m)|(refine V6 rfl _ _ _ 218 9 216 (.inr rfl) underlying218 underlying9 _ _ rfl N _ rfl _ rfl ?_;intro aa P n));go_ret;have s:=λ{k}(d:k=w.heap.size+1\/k=w.heap.size+1+1){t cs}(b:e7 B k t cs)=>(b.grown m (h d)).grown n (h d)
 have u:=λ{k}(d:k=i.heap.size\/k=i.heap.size+1){t cs}(b:e7 B k t cs)=>(b.grown m (v d)).grown n (v d)
 exact⟨_,rfl,⟨_,_,P,s (.inl rfl) E,s (.inr rfl) b4,u (.inl rfl) F,u (.inr rfl) G⟩,(Q.f m (λk e=>by cases e;exact a7 _)).f n (λk e=>by cases e;exact a7 _)⟩
theorem G2(s:g4)(a c:Nat):J4 [(kF,QI a),(kE,QI c),(kG,fK3)] s=if s==kF then So (QI a)else if s==kE then So (QI c)else if s==kG then So fK3 else J:=by unfold J4;simp only[cG];cases s==kF<;>cases s==kE<;>cases s==kG<;>rfl
def O4(s:g4):Bool:=s==kF||s==kE||s==kG
theorem a4h(s:g4)(w:Wd):Ca prog 87 #[Y s] w λe j=>e=X (O (O4 s))/\a9 w j:=by
 have d:=a6 (JU w);have b:∀a c,(J4 [(kF,QI a),(kE,QI c),(kG,fK3)] s).isSome=O4 s:=λa c=>by rw[G2];unfold O4;cases s==kF<;>cases s==kE<;>cases s==kG<;>rfl
 have f:=a6 b;clear b;go_in;go_wp2_with fail;apply d.mono;rintro e k⟨g,a,c,rfl,h,i⟩;go_wp2_with(refine D8 rfl _ _ 218 9 216 rfl underlying218 underlying9 Nf (by intro w;kernel_rfl) g _ rfl h.m s rfl ?_);go_ret;exact⟨by rw[f.O];rfl,i⟩
theorem a5O(ar:o5)(fm:Int)(fc:List n0)(dy lm:Int)(lc:List n0)(fa:o5)(am sp:Int)(we pe rt np:Bool)(r ac s t:Va)(a l base:Nat)(val:g4)(w:Wd)(an:val.size<=100000)(ak:0<=fm)(aj:D fc<=100000)
 (W:e7 w a 36 (i7 ⟨ar,fm,fc,dy,lm,lc,fa,am,sp,we,pe,rt,np⟩ r ac s t)) (o:m7 w base ⟨ar,fm,fc,dy,lm,lc,fa,am,sp,we,pe,rt,np⟩ r ac s t) (aa:base<=w)
 (ah:e7 w l 308 #[Fc (.func 213) #[] #[]]) (T:e7 w (l+1) 4 #[O Bt]):
 Ca prog 283 #[K a,Y val,K l,K (l+1:Nat)] w λe A=>∃v g,e=X g/\
 e7 A a 36 (i7 ⟨ar,(B5 fm fc val Bt).1,(B5 fm fc val Bt).2.1,dy,lm,lc,fa,am,sp,we,pe,rt,np⟩ r v s t)/\m7 A base ⟨ar,(B5 fm fc val Bt).1,(B5 fm fc val Bt).2.1,dy,lm,lc,fa,am,sp,we,pe,rt,np⟩ r v s t/\c7 A base 49 h9 g (B5 fm fc val Bt).2.2/\w.grownBy A (So a):=by
 obtain⟨ae,n,ao⟩:=o.f.b;subst ao;have Q:=a6 (λS(ai:a9 w S)=>BL fm ak ae n fc val Bt S an aj (o.f.h ai).i.1 o.f.spot);generalize B5 fm fc val Bt=q at*;obtain⟨f,ab,au⟩:=q;dsimp only[i7]at*;have az:=ah.cell 0;have ag:=T.cell 0;obtain⟨j,P⟩:=j0 W o;clear W o;go_in;go_wp2_with fail;apply(XG a w).mono;rintro e bj⟨rfl,rfl⟩;have ap:=j.cell 1;have aq:=j.cell (1+1);have xa:=(a9.refl w).alloc (U #[I U8 0,Z J 0 0] 31);have bh:=xa.cell ap;have bi:=xa.cell aq;have ba:=xa.cell ag;have bf:l+1≠w.heap.size:=by have:=T.lt;omega
 have bg:a≠w.heap.size:=by have:=j.lt;omega
 go_upto_region 2 with fail;go_cut [8,9] (λav aw C=>∃(gb:Nat)(v g:Va),av=K gb/\aw=g/\e7 C gb 31 #[I U8 f,v]/\c7 C w 94 a2J v ab/\c7 C w 49 h9 g au/\a9 w C)
 ·go_wp2_with fail;go_region_with (go_at_call 284;first
   |(apply(Q _ ((a9.refl w).alloc _).drew).mono;rintro e F⟨v,g,rfl,c,d,b⟩;have h:e7 F w 31 #[I U8 0,Z J 0 0]:=(e7.new w _ _).drew.h b;have ax:=h.cell 0;have ay:=h.cell 1;have bk:=h.frozen 0;have bl:=h.frozen 1;obtain⟨u,z,y,rfl⟩:=c.f)
   |(apply(Q _ (a9.refl _).drew).mono;rintro e F⟨v,g,rfl,c,d,b⟩;obtain⟨u,z,y,rfl⟩:=c.f))
  all_goals
   go_wp2;go_meet;first
    |(have L:=I3.put (m:=f) h c
      have E:=((((a9.refl w).alloc _).drew.trans b).set (p:=⟨w,0,J⟩) (a7 _) (I U8 f)).set (p:=⟨w,1,J⟩) (a7 _) (Z u z y)
      exact⟨_,_,_,rfl,rfl,L.b,L.o.mono i3,((d.kept (c8 _ w 0 _) (.inr (d.ne h e6))).kept (c8 _ w 1 _) (.inr (d.ne h e6))).mono i3,E⟩)
    |(have H:=(a9.refl F).alloc (U #[I U8 f,Z u z y] 31)
      exact⟨_,_,_,rfl,rfl,e7.new _ _ _,c.h H,d.h H,((a9.refl w).drew.trans b).trans H⟩)
 obtain⟨gb,v,g,rfl,rfl,af,c,d,b⟩:=hcut;have B:=j.h b;obtain⟨ax,ay⟩:=af.c2;have bd:=B.cell 1;have be:=B.cell (1+1);have bb:=B.frozen 1;have bc:=B.frozen (1+1);have N:=(B.f 1 (I U8 f)).f (1+1) v;have G:=(c8 wc a 1 (I U8 f)).trans (c8 _ a (1+1) v);have i:=λ{ad:Type}{e:Ti}{E:s7 ad}{v':Va}{xs:List ad}{b2:Nat}(k:c7 wc b2 e E v' xs)(al:e≠36)=>k.kept G (.inr (k.ne B al))
 have x:=P.h b;have R:=a6 (And.intro N (And.intro (show m7 ((wc.setCell ⟨a,1,J⟩ (I U8 f)).setCell ⟨a,1+1,J⟩ v) base ⟨ar,f,ab,dy,lm,lc,fa,am,sp,we,pe,rt,np⟩ r v s t from⟨i x.a e6,(i c e6).mono aa,i x.l e6,i x.m e6⟩) (And.intro ((i d e6).mono aa) ((y7 (j4 b J) (So a)).trans G))));obtain⟨u,z,y,rfl⟩:=c.f;clear B N G x i c d b j P;go_wp2;go_ret;exact⟨_,_,rfl,R.O⟩
theorem a5N(ar:o5)(fm:Int)(fc:List n0)(dy lm:Int)(lc:List n0)(fa:o5)(am sp:Int)(we pe rt np:Bool)(r s ac t:Va)(a l base:Nat)(val:g4)(w:Wd)(an:val.size<=100000)(ak:0<=lm)(aj:D lc<=100000)
 (W:e7 w a 36 (i7 ⟨ar,fm,fc,dy,lm,lc,fa,am,sp,we,pe,rt,np⟩ r s ac t)) (o:m7 w base ⟨ar,fm,fc,dy,lm,lc,fa,am,sp,we,pe,rt,np⟩ r s ac t) (aa:base<=w)
 (ah:e7 w l 308 #[Fc (.func 214) #[] #[]]) (T:e7 w (l+1) 4 #[O Bf]):
 Ca prog 283 #[K a,Y val,K l,K (l+1:Nat)] w λe A=>∃v g,e=X g/\
 e7 A a 36 (i7 ⟨ar,fm,fc,dy,(B5 lm lc val Bf).1,(B5 lm lc val Bf).2.1,fa,am,sp,we,pe,rt,np⟩ r s v t)/\m7 A base ⟨ar,fm,fc,dy,(B5 lm lc val Bf).1,(B5 lm lc val Bf).2.1,fa,am,sp,we,pe,rt,np⟩ r s v t/\c7 A base 49 h9 g (B5 lm lc val Bf).2.2/\w.grownBy A (So a):=by
 obtain⟨ae,n,ao⟩:=o.l.b;subst ao;have Q:=a6 (λS(ai:a9 w S)=>BL lm ak ae n lc val Bf S an aj (o.l.h ai).i.1 o.l.spot);generalize B5 lm lc val Bf=q at*;obtain⟨f,ab,au⟩:=q;dsimp only[i7]at*;have az:=ah.cell 0;have ag:=T.cell 0;obtain⟨j,P⟩:=j0 W o;clear W o;go_in;go_wp2_with fail;apply(XF a w).mono;rintro e bj⟨rfl,rfl⟩;have ap:=j.cell 4;have aq:=j.cell (4+1);have xa:=(a9.refl w).alloc (U #[I U8 0,Z J 0 0] 31);have bh:=xa.cell ap;have bi:=xa.cell aq;have ba:=xa.cell ag;have bf:l+1≠w.heap.size:=by have:=T.lt;omega
 have bg:a≠w.heap.size:=by have:=j.lt;omega
 go_upto_region 2 with fail;go_cut [8,9] (λav aw C=>∃(gb:Nat)(v g:Va),av=K gb/\aw=g/\e7 C gb 31 #[I U8 f,v]/\c7 C w 94 a2J v ab/\c7 C w 49 h9 g au/\a9 w C)
 ·go_wp2_with fail;go_region_with (go_at_call 284;first
   |(apply(Q _ ((a9.refl w).alloc _).drew).mono;rintro e F⟨v,g,rfl,c,d,b⟩;have h:e7 F w 31 #[I U8 0,Z J 0 0]:=(e7.new w _ _).drew.h b;have ax:=h.cell 0;have ay:=h.cell 1;have bk:=h.frozen 0;have bl:=h.frozen 1;obtain⟨u,z,y,rfl⟩:=c.f)
   |(apply(Q _ (a9.refl _).drew).mono;rintro e F⟨v,g,rfl,c,d,b⟩;obtain⟨u,z,y,rfl⟩:=c.f))
  all_goals
   go_wp2;go_meet;first
    |(have L:=I3.put (m:=f) h c
      have E:=((((a9.refl w).alloc _).drew.trans b).set (p:=⟨w,0,J⟩) (a7 _) (I U8 f)).set (p:=⟨w,1,J⟩) (a7 _) (Z u z y)
      exact⟨_,_,_,rfl,rfl,L.b,L.o.mono i3,((d.kept (c8 _ w 0 _) (.inr (d.ne h e6))).kept (c8 _ w 1 _) (.inr (d.ne h e6))).mono i3,E⟩)
    |(have H:=(a9.refl F).alloc (U #[I U8 f,Z u z y] 31)
      exact⟨_,_,_,rfl,rfl,e7.new _ _ _,c.h H,d.h H,((a9.refl w).drew.trans b).trans H⟩)
 obtain⟨gb,v,g,rfl,rfl,af,c,d,b⟩:=hcut;have B:=j.h b;obtain⟨ax,ay⟩:=af.c2;have bd:=B.cell 4;have be:=B.cell (4+1);have bb:=B.frozen 4;have bc:=B.frozen (4+1);have N:=(B.f 4 (I U8 f)).f (4+1) v;have G:=(c8 wc a 4 (I U8 f)).trans (c8 _ a (4+1) v);have i:=λ{ad:Type}{e:Ti}{E:s7 ad}{v':Va}{xs:List ad}{b2:Nat}(k:c7 wc b2 e E v' xs)(al:e≠36)=>k.kept G (.inr (k.ne B al))
 have x:=P.h b;have R:=a6 (And.intro N (And.intro (show m7 ((wc.setCell ⟨a,4,J⟩ (I U8 f)).setCell ⟨a,4+1,J⟩ v) base ⟨ar,fm,fc,dy,f,ab,fa,am,sp,we,pe,rt,np⟩ r s v t from⟨i x.a e6,i x.f e6,(i c e6).mono aa,i x.m e6⟩) (And.intro ((i d e6).mono aa) ((y7 (j4 b J) (So a)).trans G))));obtain⟨u,z,y,rfl⟩:=c.f;clear B N G x i c d b j P;go_wp2;go_ret;exact⟨_,_,rfl,R.O⟩
section
theorem q5{e:Fence}{n:Nat}{P:Pg}{w:Wd}{f:Array Oper}{rest:List Oper}{c:Oper}{a:Act}{Q:Exit->Act->Wd->Prop}(l:c.guard=J)(ty:Ti)(x d:Operand)(m:c.op= .store ty x d)
 (g:Nat) (t:Ti) (cur cs:Array Va) (o:a.eval x=K g) (p:a.eval d=Ag cs) (q:e7 w g t cur) (r:cs.size=cur.size)
 (hi:(P.info? ty).map (·.size)=So cs.size) (i:∀v∈cs.toList,v.oneCell'=Bt)
 (h:∀b,e7 b g t cs->w.grownBy b (So g)->Wl e n P f Q rest (a.put c.dst Un) b):Wl e n P f Q (c::rest) a w:=by
 refine D9 l ty x d m g 0 t cur.toList cs o p (by rwa[Array.toArray_toList]) G6 hi i λb j k=>h b ?_ k
 rwa[K3 _ _ G6,Array.toArray_toList]at j
theorem o8{e:Fence}{n:Nat}{P:Pg}{w:Wd}{h:Array Oper}{rest:List Oper}{d:Oper}{a:Act}{Q:Exit->Act->Wd->Prop}(o:d.guard=J)(ty:Ti)(x:Operand)(f:d.op= .load ty x)
 (g:Nat) (t:Ti) (cs:Array Va) (b:TypeDesc) (r:a.eval x=K g) (k:e7 w g t cs)
 (q:P.underlying ty=So b) (m:b.isRow=Bt) (hi:(P.info? ty).map (·.size)=So cs.size)
 (i:Wl e n P h Q rest (a.put d.dst (Ag cs)) w):Wl e n P h Q (d::rest) a w:=by
 refine wpListIn_plain o λs j=> ?_
 have p:=run_loadVar_row (P:=P) w g t ty cs (0,0) b k q (by cases b<;>first|rfl|(simp[TypeDesc.isRow]at m)) hi;unfold Oper.wpIn;refine⟨?_,?_⟩;simp[Oper.about,f,Sem.run_pure];rw[Oper.semAt_plain e _ _ (by rw[f];intro c l;cases l)];simp only[execOp,f,r,Instr.loadAt,Instr.sureAddr,asAddr,Sem.run_bind,Sem.run_pure,Result.andThen_ok,p];exact j _ _ i
theorem rV{P:Pg}(w:Wd)(a:Ad)(ty:Ti)(cs:Array Va)(b:TypeDesc)(e:i5 w (So a) cs.toList)
 (l:P.underlying ty=So b) (h:b.isRow=Bt) (hi:(P.info? ty).map (·.size)=So cs.size):(loadVar ty a).run P w= .ok (Ag cs) w:=by
 have d:(loadCells a (D cs.toList)).run P w= .ok cs.toList.toArray w:=run_loadCells_list (P:=P) w a cs.toList λj v m=>e.add m
 cases c:P.info? ty with
 |none=>simp[c]at hi
 |some i=>
  have k:i.size=cs.size:=by simpa[c]using hi
  have f:(isAgg ty).run P w= .ok Bt w:=by
   unfold isAgg
   rw[Sem.run_bind,run_underlying l w]
   cases b<;>first|(simp[TypeDesc.isRow]at h;done)|simp_all
  simp only[Array.length_toList,Array.toArray_toList]at d
  simp[loadVar,Sem.run_bind,f,sizeOf,typeInfo,c,k,d]
theorem bT{e:Fence}{n:Nat}{P:Pg}{w:Wd}{i:Array Oper}{rest:List Oper}{b:Oper}{a:Act}{Q:Exit->Act->Wd->Prop}(p:b.guard=J)(ty:Ti)(x:Operand)(h:b.op= .load ty x)
 (d:Ad) (cs:Array Va) (f:TypeDesc) (s:a.eval x=K (So d)) (l:i5 w (So d) cs.toList)
 (r:P.underlying ty=So f) (o:f.isRow=Bt) (hi:(P.info? ty).map (·.size)=So cs.size)
 (j:Wl e n P i Q rest (a.put b.dst (Ag cs)) w):Wl e n P i Q (b::rest) a w:=by
 refine wpListIn_plain p λt k=> ?_
 have q:=rV (P:=P) w d ty cs f l r o hi;unfold Oper.wpIn;refine⟨?_,?_⟩;simp[Oper.about,h,Sem.run_pure];rw[Oper.semAt_plain e _ _ (by rw[h];intro c m;cases m)];simp only[execOp,h,s,Instr.loadAt,Instr.sureAddr,asAddr,Sem.run_bind,Sem.run_pure,Result.andThen_ok,q];exact k _ _ j
structure GS(g:Nat)(T:Ti)(n:Nat)(fin:Array Va)(W W':Wd):Prop where
 gr:W.grownBy W' (So g)
 sz:∀cs,e7 W g T cs->cs.size=n->∃cs',e7 W' g T cs'/\cs'.size=n
 fin:e7 W g T fin->e7 W' g T fin
section
variable {g:Nat} {T:Ti} {n:Nat} {fin:Array Va} {W W':Wd}
theorem GS.h(a:W.grownBy W' J):GS g T n fin W W':=⟨y7 a _,λcs k b=>⟨cs,k.grown a i3,b⟩,λk=>k.grown a i3⟩
theorem GS.f(h:a9 W W'):GS g T n fin W W':= .h (j4 h J)
theorem GS.store(a:W.grownBy W' (So g))(k:e7 W' g T fin)(b:fin.size=n):GS g T n fin W W':=⟨a,λ_ _ _=>⟨fin,k,b⟩,λ_=>k⟩
instance (g:Nat)(T:Ti)(n:Nat)(fin:Array Va):L6 (GS g T n fin) where
 refl W:= .h ⟨rfl,rfl,rfl,a7 _,λ_ _ _=>rfl⟩
 trans a b c h k:=⟨h.gr.trans k.gr,λcs q f=>by obtain⟨d,i,e⟩:=h.sz cs q f;exact k.sz d i e,λq=>k.fin (h.fin q)⟩
 drew W:= .h (E4 W)
def BV:VR (GS g T n fin):=⟨λ_ aa=>e7 aa g T fin,λ_ _ _ h r=>r.fin h⟩
end
end
section
def rU(p:j2)(va vf vl vm vn:Va)(a:m8):Array Va:= #[va,I U8 p.fm,vf,I V p.dy,I U8 p.lm,vl,vm,I U8 p.am,I U6 p.sp,O p.we,O p.pe,O p.rt,O p.np,vn,Y a.file,I M a.line,Y a.sec,Y a.key,Y a.val]
def S4:List Ti:=[228,49]
structure C7(w:Wd)(g base:Nat)(p:j2)(ns:List i6)(a:m8)(va vf vl vm vn:Va):Prop where
 b:e7 w g 228 (rU p va vf vl vm vn a)
 o:m7 w base p va vf vl vm
 n:c7 w base 49 h9 vn ns
 hg:base<=g
 hs:base<=w
section
variable {w w':Wd} {g base:Nat} {p:j2} {ns:List i6} {a:m8} {va vf vl vm vn:Va}
theorem m7.tv{S:List Ti}{B:Nat}(b:m7 w base p va vf vl vm)(t:Tv B S w w')(c:S.contains 3=Bf/\S.contains 94=Bf/\S.contains 32=Bf):m7 w' base p va vf vl vm:=⟨t.own b.a c.1,t.own b.f c.2.1,t.own b.l c.2.1,t.own b.m c.2.2⟩
theorem C7.h(h:C7 w g base p ns a va vf vl vm vn)(x:a9 w w'):C7 w' g base p ns a va vf vl vm vn:=⟨h.b.h x,h.o.h x,h.n.h x,h.hg,b6 h.hs x.size⟩
theorem C7.set(b:C7 w g base p ns a va vf vl vm vn){i:Nat}{u:Va}{p':j2}{va' c d vm':Va}(e:(rU p va vf vl vm vn a).setIfInBounds i u=rU p' va' c d vm' vn a)(f:m7 w base p' va' c d vm'):
 C7 (w.setCell ⟨g,i,J⟩ u) g base p' ns a va' c d vm' vn/\Tv base S4 w (w.setCell ⟨g,i,J⟩ u):=by
 have t:=Tv.r b.b b.hg (S:=S4) e6 i u;exact⟨⟨by rw[<-e];exact b.b.f i u,f.tv t e6,b.n.kept (c8 _ g i u) (.inr (b.n.ne b.b e6)),b.hg,by have:=b.hs;have:=t.size;omega⟩,t⟩
end
def fD(a:m8)(e:Int)(t:g4):i6:=⟨a.file,a.line,e,j9 t⟩
theorem nH{w:Wd}{g base:Nat}{p:j2}{ns:List i6}{a:m8}{va vf vl vm vn:Va}(ak:C7 w g base p ns a va vf vl vm vn)(ar:D ns+1<=1000000)(e:Int)(t:g4):
 Ca prog 288 #[K g,I M e,Y t] w λap w'=>ap=X (Tp #[])/\∃bc,C7 w' g base p (ns++[fD a e t]) a va vf vl vm bc/\Tv base S4 w w':=by
 refine(Cw (n:=1)).1 ?_;obtain⟨h,j,sec,key,val⟩:=a;have H:=a6 ak;have v:∀c,GA 49 h9 vn.ownBlock base vn ns [⟨h,j,e,j9 t⟩] w c->e7 c g 228 (rU p va vf vl vm vn ⟨h,j,sec,key,val⟩):=λc d=>H.b.grown d.g (λe=>H.n.ne H.b e6 e.symm)
 have f:=a6 v;have bh:0<=min (t.size:Int) 60:=a8;have bi:min (t.size:Int) 60<=t.size:=a8;have bj:(min (t.size:Int) 60).toNat=min t.size 60:=a8;clear v ak;unfold fD;dsimp only[rU]at*;refine Co func288 rfl trivial ?_ rfl;simp only[ntmps288,uE,Nat.reduceAdd,Nat.reduceSub];gi_wp2_with fail;refine cB (R:=(GA 49 h9 vn.ownBlock base vn ns [⟨h,j,e,j9 t⟩])) ?_;iterate 22 (apply D7;focus (intro x c d;simp only[g0,g5,uV];(repeat intro r;try simp only[r]);have an:=(f c d).cell 13;have bd:=(f c d).cell 14;have be:=(f c d).cell 15;gi_wp2_with fail;exact dn rfl rfl (L6.refl _)))
 refine r7 ((q8 #[Y h,I M j,I M e,Y (j9 t)])) ?_ ?_;·intro x c d;simp only[g0,g5,uV,q8,q7];intro k;simp only[k];gi_wp2_with fail;refine e8 ?_ rfl (GA.f ((a9.refl c).alloc _));exact⟨c,rfl,e7.new _ _ _,λe=>by have:=((d.old H.n).lt e).2;omega⟩
 refine r7 ((q7 w)) ?_ ?_;·intro x c d;simp only[g0,g5,uV,q8,q7];rintro m⟨aj,l,al,av⟩;simp only[m,l];gi_wp2_with(gi_at_builtin;refine a2F rfl _ _ 38 49 rfl P0 base vn ns rfl (d.old H.n) aj 1 1 [⟨h,j,e,j9 t⟩] rfl rfl (i5.f al rfl) ar (b6 H.hs d.g.size) ?_;intro bk bl ax ay az ba bb);refine e8 ?_ rfl (⟨ay,λ_=>az,ba⟩);exact⟨ax,bb.imp id (λq b aq=>by have:=q b aq;have:=d.g.size;omega)⟩
 iterate 2 (apply D7;focus (intro x c d;simp only[g0,g5,uV];(repeat intro r;try simp only[r]);have an:=(f c d).cell 13;have bd:=(f c d).cell 14;have be:=(f c d).cell 15;gi_wp2_with fail;exact dn rfl rfl (L6.refl _)))
 intro x c d;simp only[n9,g0,g5,uV,q8,q7];rintro y z T ac m ad ae af ag ah A B C E F G L N P Q W k⟨aj,l,al,av⟩⟨o,aw⟩ aa ab;simp only[y,z,T,ac,m,ad,ae,af,ag,ah,A,B,C,E,F,G,L,N,P,Q,W,k,l,aa,ab];clear y z T ac m ad ae af ag ah A B C E F G L N P Q W k l aa ab;obtain⟨am,au,ao,ai⟩:=o.f;rw[ai]at o aw;have i:=f c d;have bf:=i.cell 13;have bg:=i.frozen 13;simp only[ai];gi_wp2_with fail;go_end0;have s:Tv base S4 w c:= .ofOwn H.n d.g (a7 _) e6;have u:=Tv.r i H.hg (S:=S4) e6 13 (Z am au ao);exact⟨rfl,_,⟨i.f 13 _,(H.o.tv s e6).tv u e6,o.kept (c8 _ g 13 _) (.inr (o.ne i e6)),H.hg,by have:=H.hs;have:=s.size;have:=u.size;omega⟩,s.trans u⟩
def E8(cur:Bool)(ns:List i6)(a:m8)(val:g4):Bool×List i6:=if val.toList==[]then(Bf,ns)else if(G4 val).2=0 then((G4 val).1,ns)else(cur,ns++[fD a (G4 val).2 val])
theorem nG{w:Wd}{g base:Nat}{p:j2}{ns:List i6}{a:m8}{va vf vl vm vn:Va}(v:C7 w g base p ns a va vf vl vm vn)(F:D ns+1<=1000000)(i:Nat)(f:Bool->j2)(cur:Bool)(x:∀b,(rU p va vf vl vm vn a).setIfInBounds i (O b)=rU (f b) va vf vl vm vn a)(hi:(rU p va vf vl vm vn a)[i]? =So (O cur))(z:f cur=p)
 (y:∀b W,m7 W base p va vf vl vm->m7 W base (f b) va vf vl vm) (val:g4):
 Ca prog 295 #[K g,Y val,K (So ⟨g,i,J⟩)] w λC w'=>C=X (Tp #[])/\∃o,C7 w' g base (f (E8 cur ns a val).1) (E8 cur ns a val).2 a va vf vl vm o/\Tv base S4 w w':=by
 have m:=a6 (a4N val);obtain⟨R,c⟩:∃R,R=E8 cur ns a val:=⟨_,rfl⟩;rw[<-c];unfold E8 at c;generalize G4 val=q at*;obtain⟨G,n⟩:=q;dsimp only at c m;obtain⟨t,s,H,A⟩:=F6 (λb W(k:C7 W g base p ns a va vf vl vm vn)=>k.set (x b) (y b W k.o)) (λW(k:C7 W g base p ns a va vf vl vm vn)=>show W.cell? ⟨g,i,J⟩=So (O cur)from by rw[k.b.cell];exact hi) v z;clear x hi y v z;go_in;rcases u:val.toList==[]with _|_
 ·rw[u,if_neg e6]at c;by_cases l:n=0;·rw[if_pos l]at c;have h:=a6 c;clear c;subst l;go_wp2_with fail;refine l4 (m _) λr d=>?_;have j:=a6 (t G r (H.h d));have B:=s r (H.h d);have E:=(H.h d).b.frozen i;go_wp2;go_end0;exact⟨rfl,_,by rw[h.O];exact j.1,(Tv.f d).trans j.2⟩
  rw[if_neg l]at c;have h:=a6 c;have L:(n !=0)=Bt:=by simp[l]
  clear c l;go_wp2_with fail;refine l4 (m _) λr d=>?_;go_wp2_with fail;apply(nH (H.h d) F n val).mono;rintro e N⟨rfl,o,k1,k2⟩;go_wp2_with fail;exact Bp (Rz rfl _ _ _) rfl ⟨rfl,o,by rw[h.O];dsimp only;rw[A.O];exact k1,(Tv.f d).trans k2⟩
 rw[u,if_pos rfl]at c;obtain⟨h,j⟩:=j0 c (t Bf w H.O);have B:=s w H.O;have E:=H.b.frozen i;clear c;go_wp2_with fail;exact Bp (Rz rfl _ _ _) rfl ⟨rfl,_,by rw[h.O];exact j.1,j.2⟩
theorem a46{w:Wd}{g base:Nat}{p:j2}{ns:List i6}{a:m8}{va vf vl vm vn:Va}(c:C7 w g base p ns a va vf vl vm vn)(e:D ns+1<=1000000)(val:g4):
 Ca prog 223 #[K g,Y val] w λd w'=>d=X (Tp #[])/\∃h,C7 w' g base {p with we:=(E8 p.we ns a val).1} (E8 p.we ns a val).2 a va vf vl vm h/\Tv base S4 w w':=by
 have H:=a6 (nG c e 9 (λb=> {p with we:=b}) p.we (λ_=>rfl) rfl rfl (λ_ _ k=>⟨k.a,k.f,k.l,k.m⟩) val);clear c;go_in;go_wp2_with fail;refine l4 H λi f=>?_;go_wp2;go_end0;exact⟨rfl,f⟩
theorem a48{w:Wd}{g base:Nat}{p:j2}{ns:List i6}{a:m8}{va vf vl vm vn:Va}(c:C7 w g base p ns a va vf vl vm vn)(e:D ns+1<=1000000)(val:g4):
 Ca prog 224 #[K g,Y val] w λd w'=>d=X (Tp #[])/\∃h,C7 w' g base {p with pe:=(E8 p.pe ns a val).1} (E8 p.pe ns a val).2 a va vf vl vm h/\Tv base S4 w w':=by
 have H:=a6 (nG c e 10 (λb=> {p with pe:=b}) p.pe (λ_=>rfl) rfl rfl (λ_ _ k=>⟨k.a,k.f,k.l,k.m⟩) val);clear c;go_in;go_wp2_with fail;refine l4 H λi f=>?_;go_wp2;go_end0;exact⟨rfl,f⟩
theorem a47{w:Wd}{g base:Nat}{p:j2}{ns:List i6}{a:m8}{va vf vl vm vn:Va}(c:C7 w g base p ns a va vf vl vm vn)(e:D ns+1<=1000000)(val:g4):
 Ca prog 225 #[K g,Y val] w λd w'=>d=X (Tp #[])/\∃h,C7 w' g base {p with rt:=(E8 p.rt ns a val).1} (E8 p.rt ns a val).2 a va vf vl vm h/\Tv base S4 w w':=by
 have H:=a6 (nG c e 11 (λb=> {p with rt:=b}) p.rt (λ_=>rfl) rfl rfl (λ_ _ k=>⟨k.a,k.f,k.l,k.m⟩) val);clear c;go_in;go_wp2_with fail;refine l4 H λi f=>?_;go_wp2;go_end0;exact⟨rfl,f⟩
theorem a49{w:Wd}{g base:Nat}{p:j2}{ns:List i6}{a:m8}{va vf vl vm vn:Va}(c:C7 w g base p ns a va vf vl vm vn)(e:D ns+1<=1000000)(val:g4):
 Ca prog 226 #[K g,Y val] w λd w'=>d=X (Tp #[])/\∃h,C7 w' g base {p with np:=(E8 p.np ns a val).1} (E8 p.np ns a val).2 a va vf vl vm h/\Tv base S4 w w':=by
 have H:=a6 (nG c e 12 (λb=> {p with np:=b}) p.np (λ_=>rfl) rfl rfl (λ_ _ k=>⟨k.a,k.f,k.l,k.m⟩) val);clear c;go_in;go_wp2_with fail;refine l4 H λi f=>?_;go_wp2;go_end0;exact⟨rfl,f⟩
end
def s5(a:m8)(σ:o5×List i6)(w:g4):o5×List i6:=if(m5 w).2=0 then(withT σ.1 (m5 w).1 Bt,σ.2)else(σ.1,σ.2++[fD a (m5 w).2 w])
def B3(ar:o5)(b:List i6)(a:m8)(val:g4):o5×List i6:=(l3 val).foldl (s5 a) (if(l3 val).length=0 then []else ar,b)
theorem dO{b:Type}(f:o5×List i6->b->o5×List i6)(a:∀σ w,D (f σ w).1<=D σ.1+1/\D (f σ w).2<=D σ.2+1):∀(l:List b)(σ:o5×List i6),D (l.foldl f σ).1<=D σ.1+D l/\D (l.foldl f σ).2<=D σ.2+D l
 |[],σ=>⟨a7 _,a7 _⟩
 |x::l,σ=>by have c:=a σ x;have d:=dO f a l (f σ x);simp only[List.foldl_cons,i4];omega
theorem mF(a:m8)(σ:o5×List i6)(w:g4):D (s5 a σ w).1<=D σ.1+1/\D (s5 a σ w).2<=D σ.2+1:=by have:=eC σ.1 (m5 w).1 Bt;unfold s5;split;exact⟨this,Nat.le_succ _⟩;exact⟨Nat.le_succ _,i3⟩
theorem LU{w:Wd}{g base:Nat}{p:j2}{d:List i6}{a:m8}{ca N P Q an:Va}(ax:C7 w g base p d a ca N P Q an)(val:g4)(cq:val.size<=50000)(co:D d+val.size+2<=1000000)(cp:D p.ar+val.size+2<=100000):
 Ca prog 220 #[K g,Y val] w λbr bc=>br=X (Tp #[])/\∃va' E,C7 bc g base {p with ar:=(B3 p.ar d a val).1} (B3 p.ar d a val).2 a va' N P Q E/\Tv base S4 w bc:=by
 obtain⟨bm,bi⟩:=j0 (S8 val a8) (λs W=>PS s W);have cr:=x7 val;obtain⟨R,A⟩:∃R,R=B3 p.ar d a val:=⟨_,rfl⟩;rw[<-A];unfold B3 at A;generalize l3 val=b at*;obtain⟨ar,fm,fc,dy,lm,lc,fa,am,sp,we,pe,rt,np⟩:=p;dsimp only at*;obtain⟨f,L⟩:∃f,f=if D b=0 then []else ar:=⟨_,rfl⟩
 have cm:D f<=D ar:=by rw[L];split<;>simp
 rw[<-L]at A;obtain⟨bj,aa,H,bh,bk⟩:=Y2 A L ax (λk=>dO (s5 a) (mF a) (b.take k) (f,d)) (λk(ac:k<D b)=>show(b.take (k+1)).foldl (s5 a) (f,d)=s5 a ((b.take k).foldl (s5 a) (f,d)) b[k] by rw[g2 ac,List.foldl_append];rfl);clear A L ax;go_in;go_wp2_with fail;apply(bm _).mono;rintro e cb⟨v,rfl,ae,ba⟩;obtain⟨cc,c,rfl⟩:=ae.b;obtain⟨aq,h⟩:=j0 ae (H.h ba);clear ae;go_upto_if 13 with fail;go_cut [] (λbe=>∃al,C7 be g base ⟨f,fm,fc,dy,lm,lc,fa,am,sp,we,pe,rt,np⟩ d a al N P Q an/\Tv base S4 cb be)
 ·have bp:=h.b.cell 0;have cj:=h.b.frozen 0;by_cases n:D b=0
  ·have aw:((D b:Int)==0)=Bt:=by simp[n]
   have x:=aa.O;rw[if_pos n]at x;clear n;have F:=a6 (h.set (i:=0) (u:=Z J 0 0) (p':=⟨f,fm,fc,dy,lm,lc,fa,am,sp,we,pe,rt,np⟩) (va':=Z J 0 0) rfl ⟨by rw[x];exact c7.nil _ _ _ _,h.o.f,h.o.l,h.o.m⟩);go_wp2;go_meet;exact⟨_,F.O⟩
  have aw:((D b:Int)==0)=Bf:=by simpa using n
  have x:=aa.O;rw[if_neg n]at x;clear n;go_wp2;go_meet;exact⟨_,by rw[x];exact h.O,.refl _ _ _⟩
 obtain⟨al,ay,ak⟩:=hcut;obtain⟨bg,bl,bu⟩:=r6 ay ((Tv.f (B:=base) (S:=S4) ba).trans ak) (ak.own aq e6);clear ay ak h aq H aa;go_wp2;go_loopg [20] (D b) (λbs bz DH=>∃(k:Nat)(va' E:Va),k<=D b/\D b-k<=bs/\bz=I M k/\C7 DH g base ⟨((b.take k).foldl (s5 a) (f,d)).1,fm,fc,dy,lm,lc,fa,am,sp,we,pe,rt,np⟩ ((b.take k).foldl (s5 a) (f,d)).2 a va' N P Q E/\Tv base S4 wc DH);exact⟨0,al,an,c6 _,a8,rfl,bg.O,.refl _ _ _⟩;obtain⟨k,va',E,ac,cn,rfl,z,G⟩:=hrel;by_cases az:k<D b
 ·have ad:=G.own bu e6;obtain⟨bt,ch,ce,rfl,-,-,-,-,-,-,-⟩:=ad.blk a8;have aw:wr.cell? ⟨bt,k,J⟩=So (Y b[k]):=by have:=ad.i.1.elt0 az (r:=0) rfl;rwa[show k*x4.k+0=k from Nat.mul_one k]at this
  have m:=bk k az;have bv:=bh k;rw[m4,Nat.min_eq_left ac]at bv;generalize b[k]=j at*;generalize(b.take k).foldl (s5 a) (f,d)=σ at*;obtain⟨t,ag⟩:=σ;dsimp only at*;rw[show s5 a (t,ag) j=if(m5 j).2=0 then(withT t (m5 j).1 Bt,ag)else(t,ag++[fD a (m5 j).2 j])from rfl]at m;have au:=a6 (bi j);generalize m5 j=q at*;obtain⟨ai,aj⟩:=q;dsimp only at*;have ap:=a6 z;have cs:(k:Int)<D b:=a8;have av:=a6 G;clear z ad G;by_cases C:aj=0;·rw[if_pos C]at m;have ab:=a6 m;subst C;clear m;go_wp2_with fail;refine l4 (au _) λT o=>?_;have y:=ap.h o;have bp:T.cell? ⟨g,0,J⟩=So va':=y.b.cell 0;have bn:=a6 (show Ca prog 289 #[va',I M ai,O Bt] T _ from SQ va' t ai Bt T a8 y.o.a.rd);obtain⟨bf,bx,bq,rfl⟩:=y.o.a.f;have ao:=a6 y;clear y;go_wp2_with fail;apply bn.mono;rintro e bd⟨bb,rfl,ah,af⟩;have l:=ao.h af;have ck:=l.b.frozen 0;have cf:bd.cell? ⟨g,0,J⟩=So (Z bf bx bq):=l.b.cell 0;obtain⟨F,bo⟩:=j0 (l.set (i:=0) (u:=bb) (p':=⟨withT t ai Bt,fm,fc,dy,lm,lc,fa,am,sp,we,pe,rt,np⟩) (va':=bb) rfl ⟨ah.mono (by have:=ao.hs;omega),l.o.f,l.o.l,l.o.m⟩) (o.trans af);obtain⟨cd,ct,cg,rfl⟩:=ah.f;clear l ah o af;go_wp2;go_roundg (D b-(k+1));exact⟨k+1,_,_,a8,a8,o3,by rw[ab.O];exact F.1,(av.h bo.O).trans F.2⟩;omega
  rw[if_neg C]at m;have ab:=a6 m;have ci:(aj !=0)=Bt:=by simp[C]
  clear m C;go_wp2_with fail;refine l4 (au _) λT o=>?_;go_wp2_with fail;apply(nH (ap.h o) a8 aj j).mono;rintro e bd⟨rfl,cu,k1,k2⟩;go_wp2;go_roundg (D b-(k+1));exact⟨k+1,_,_,a8,a8,o3,by rw[ab.O];exact k1,(av.h o).trans k2⟩;omega
 obtain rfl:k=D b:=a8;rw[List.take_length]at z;have bw:=bj.O;rw[<-bw]at z;go_wp2;go_end0;exact⟨rfl,va',E,z,bl.trans G⟩
def isNone(a:C2):Bool:=Dc (D a=1)&&(a.getD 0 ⟨#[]⟩).toList==[110,111,110,101]
def R6(a:m8)(inn:Bool)(σ:o5×List i6)(w:g4):o5×List i6:=if(p0 j7 w 180).2=0 then(withT σ.1 (p0 j7 w 180).1 inn,σ.2)else(σ.1,σ.2++[fD a (p0 j7 w 180).2 w])
def iF(am:Int)(a:Bool):Int:=if am=0 then(if a then 2 else 1)else am
def D4(am:Int)(fa:o5)(b:List i6)(a:m8)(val:g4):Int×o5×List i6:=
 if(l3 val).length=0 then(0,[],b)else if isNone (l3 val)then(1,[],b)
 else(iF am (j6 val).2,(l3 (j6 val).1).foldl (R6 a ((j6 val).2==(iF am (j6 val).2==2))) (fa,b))
theorem BZ(a:m8)(inn:Bool)(σ:o5×List i6)(w:g4):D (R6 a inn σ w).1<=D σ.1+1/\D (R6 a inn σ w).2<=D σ.2+1:=by have:=eC σ.1 (p0 j7 w 180).1 inn;unfold R6;split;exact⟨this,Nat.le_succ _⟩;exact⟨Nat.le_succ _,i3⟩
theorem a0k{w:Wd}{g base:Nat}{p:j2}{f:List i6}{a:m8}{ad ae af ak al:Va}(ai:C7 w g base p f a ad ae af ak al)(val:g4)(ex:val.size<=50000)(eu:D f+val.size+2<=1000000)(ev:D p.fa+val.size+2<=100000):
 Ca prog 221 #[K g,Y val] w λdv dc=>dv=X (Tp #[])/\∃vm' an,C7 dc g base {p with am:=(D4 p.am p.fa f a val).1,fa:=(D4 p.am p.fa f a val).2.1} (D4 p.am p.fa f a val).2.2 a ad ae af vm' an/\Tv base S4 w dc:=by
 obtain⟨dl,dm⟩:=j0 (jJ val) (S8 val a8);have ew:=C1 val;have dp:=a6 (S8 (j6 val).1 a8);have ey:=x7 (j6 val).1;have di:=a6 (λs W=>UO s W);obtain⟨R,L⟩:∃R,R=D4 p.am p.fa f a val:=⟨_,rfl⟩;rw[<-L];unfold D4 at L;generalize l3 val=b at*;generalize j6 val=dr at*;obtain⟨ds,bo⟩:=dr;dsimp only at*;generalize l3 ds=d at*;obtain⟨ar,fm,fc,dy,lm,lc,fa,am,sp,we,pe,rt,np⟩:=p;dsimp only at*;have H:=a6 ai;clear ai;have bq:∀(W:Wd)(m:Int),C7 W g base ⟨ar,fm,fc,dy,lm,lc,fa,am,sp,we,pe,rt,np⟩ f a ad ae af ak al->C7 ((W.setCell ⟨g,6,J⟩ r8).setCell ⟨g,7,J⟩ (I U8 m)) g base ⟨ar,fm,fc,dy,lm,lc,[],m,sp,we,pe,rt,np⟩ f a ad ae af r8 al/\Tv base S4 W ((W.setCell ⟨g,6,J⟩ r8).setCell ⟨g,7,J⟩ (I U8 m)):=λW m k=>by obtain⟨k1,eg⟩:=k.set (i:=6) (u:=r8) (p':=⟨ar,fm,fc,dy,lm,lc,[],am,sp,we,pe,rt,np⟩) (vm':=r8) rfl ⟨k.o.a,k.o.f,k.o.l,c7.nil _ _ _ _⟩;obtain⟨k2,eh⟩:=k1.set (i:=7) (u:=I U8 m) (p':=⟨ar,fm,fc,dy,lm,lc,[],m,sp,we,pe,rt,np⟩) (vm':=r8) rfl ⟨k1.o.a,k1.o.f,k1.o.l,k1.o.m⟩;exact⟨k2,eg.trans eh⟩
 have bt:=a6 bq;clear bq;go_in;go_wp2_with fail;refine l4 (dl _) λfg cw=>?_;go_wp2_with fail;apply(dm _).mono;rintro e ao⟨v,rfl,ab,cx⟩;obtain⟨h,aq⟩:=j0 (H.h (cw.trans cx)) (Tv.f (B:=base) (S:=S4) (cw.trans cx));obtain⟨el,c,rfl⟩:=ab.b;have dw:=h.b.frozen 6;have cs:=h.b.frozen 7;have du:ao.cell? ⟨g,6,J⟩=So ak:=h.b.cell 6;have ca:ao.cell? ⟨g,7,J⟩=So (I U8 am):=h.b.cell 7;by_cases l:D b=0
 ·have ah:((D b:Int)==0)=Bt:=by simp[l]
  rw[if_pos l]at L;obtain⟨y,C⟩:=j0 L (bt ao 0 h.O);clear l L;go_wp2_with fail;exact Bp (Rz rfl _ _ _) rfl ⟨rfl,_,_,by rw[y.O];exact C.1,aq.trans C.2⟩
 have ah:((D b:Int)==0)=Bf:=by simpa using l
 rw[if_neg l]at L;obtain⟨ea,es,eo,rfl,-,-,-,-,-,-,-⟩:=ab.blk a8;have ed:ao.cell? ⟨ea,0,J⟩=So (Y (b.getD 0 ⟨#[]⟩)):=by have:=ab.i.1.elt0 (j:=0) a8 (r:=0) rfl;rw[show b.getD 0 ⟨#[]⟩=b[0]' a8 by simp[b9,(a8:0<D b)]];simpa using this
 have cu:isNone b=(Dc (D b=1)&&(b.getD 0 ⟨#[]⟩).toList==[110,111,110,101]):=rfl;have fb:(0:Int)<D b:=a8;generalize b.getD 0 ⟨#[]⟩=fd at*;clear l ab;have ag:=a6 cu;generalize isNone b=da at*;have y:=a6 L;have cp:Dc (D b=1)=((D b:Int)==1):=by by_cases ai:D b=1;simp[ai];have:¬(D b:Int)=1:=a8;rw[decide_eq_false ai,beq_eq_false_iff_ne.2 this]
 have bs:=a6 cp;clear cu L cp;go_upto_region 4 with fail;go_cut [30] (λee bd=>ee=O da/\bd=ao)
 ·have hi:=ag.O;rw[bs.O]at hi;rcases cq:(D b:Int)==1 with _|_
  ·rw[cq]at hi;go_wp2;go_meet;exact⟨by rw[hi];rfl,rfl⟩
  rw[cq]at hi;go_wp2;go_meet;exact⟨by rw[hi];rfl,rfl⟩
 obtain⟨rfl,rfl⟩:=hcut;have z:=y.O;clear y ag bs;rcases da with _|_
 ·rw[if_neg e6]at z;obtain⟨F,bg⟩:∃F,F=iF am bo:=⟨_,rfl⟩;rw[<-bg]at z;obtain⟨y,de⟩:=j0 z bg;clear z bg;go_upto_if 53 with fail;go_cut [] (λbd=>C7 bd g base ⟨ar,fm,fc,dy,lm,lc,fa,F,sp,we,pe,rt,np⟩ f a ad ae af ak al/\Tv base S4 wc bd)
  ·have E:=λ(m:Int)=>h.set (i:=7) (u:=I U8 m) (p':=⟨ar,fm,fc,dy,lm,lc,fa,m,sp,we,pe,rt,np⟩) rfl ⟨h.o.a,h.o.f,h.o.l,h.o.m⟩
   have G:=de.O;unfold iF at G;by_cases l:am=0
   ·have T:(am==0)=Bt:=by simp[l]
    rw[if_pos l]at G;obtain⟨bx,bz⟩:=j0 (E 1) ((E 1).1.set (i:=7) (u:=I U8 2) (p':=⟨ar,fm,fc,dy,lm,lc,fa,2,sp,we,pe,rt,np⟩) rfl ⟨(E 1).1.o.a,(E 1).1.o.f,(E 1).1.o.l,(E 1).1.o.m⟩);clear E l;rcases bo with _|_
    ·rw[if_neg e6]at G;go_wp2;go_meet;rw[G];exact bx.O
    rw[if_pos rfl]at G;go_wp2;go_meet;rw[G];exact⟨bz.1,bx.2.trans bz.2⟩
   have T:(am==0)=Bf:=by simpa using l
   rw[if_neg l]at G;clear l E;go_wp2;go_meet;rw[G];exact⟨h.O,.refl _ _ _⟩
  obtain⟨ct,db⟩:=hcut;obtain⟨br,bv⟩:=j0 ct (aq.trans db);clear ct db h aq H du ca dw cs ed;go_wp2_with fail;apply(dp _).mono;rintro e ei⟨fe,rfl,bj,bk⟩;obtain⟨em,ep,rfl⟩:=bj.b;obtain⟨dh,dd,dk⟩:=r6 bj (br.h bk) (bv.h bk);obtain⟨inn,bf⟩:∃inn,inn=(bo==(F==2)):=⟨_,rfl⟩;rw[<-bf]at y;obtain⟨df,dg,dj⟩:=r6 bf (λk=>dO (R6 a inn) (BZ a inn) (d.take k) (fa,f)) (λk(bh:k<D d)=>show(d.take (k+1)).foldl (R6 a inn) (fa,f)=R6 a inn ((d.take k).foldl (R6 a inn) (fa,f)) d[k] by rw[g2 bh,List.foldl_append];rfl);clear bj bk br bv bf;go_wp2;go_loopg [66] (D d) (λdx ef DH=>∃(k:Nat)(vm' an:Va),k<=D d/\D d-k<=dx/\ef=I M k/\C7 DH g base ⟨ar,fm,fc,dy,lm,lc,((d.take k).foldl (R6 a inn) (fa,f)).1,F,sp,we,pe,rt,np⟩ ((d.take k).foldl (R6 a inn) (fa,f)).2 a ad ae af vm' an/\Tv base S4 ei DH);exact⟨0,ak,al,c6 _,a8,rfl,dd.O,.refl _ _ _⟩;obtain⟨k,vm',an,bh,et,rfl,ba,bb⟩:=hrel;by_cases cv:k<D d
  ·have bi:=bb.own dh e6;obtain⟨dz,er,en,rfl,-,-,-,-,-,-,-⟩:=bi.blk a8;have ah:wr.cell? ⟨dz,k,J⟩=So (Y d[k]):=by have:=bi.i.1.elt0 cv (r:=0) rfl;rwa[show k*x4.k+0=k from Nat.mul_one k]at this
   have P:=dj k cv;have eb:=dg k;rw[m4,Nat.min_eq_left bh]at eb;generalize d[k]=N at*;generalize(d.take k).foldl (R6 a inn) (fa,f)=σ at*;obtain⟨Q,bl⟩:=σ;dsimp only at*;rw[show R6 a inn (Q,bl) N=if(p0 j7 N 180).2=0 then(withT Q (p0 j7 N 180).1 inn,bl)else(Q,bl++[fD a (p0 j7 N 180).2 N])from rfl]at P;have bu:=a6 (di N);generalize p0 j7 N 180=q at*;obtain⟨bm,bn⟩:=q;dsimp only at*;have ag:=a6 ba;have ez:(k:Int)<D d:=a8;have bw:=a6 bb;clear ba bi bb;by_cases aj:bn=0
   ·rw[if_pos aj]at P;have be:=a6 P;subst aj;clear P;go_wp2_with fail;refine l4 (bu _) λej ac=>?_;have A:=a6 (ag.h ac);obtain⟨ap,bc,au,rfl⟩:=A.o.m.f;have dq:=a6 ac;clear ac;go_wp2_with fail;refine wpIn_wide.1 (aO (n:=1) ?_);iterate 14 (apply D7;focus (intro x t o;simp only[g0,g5,uV];(repeat intro T;try simp only[T]);have dt:t.cell? ⟨g,6,J⟩=So (Z ap bc au):=(A.h o).b.cell 6;have ek:t.cell? ⟨g,7,J⟩=So (I U8 F):=(A.h o).b.cell 7;gi_wp2_with fail;exact dn rfl rfl (a9.refl _)))
    refine r7 (.is (O inn)) ?_ ?_;·intro x t o;simp only[g0,g5,uV,VP.ownR];intro az av;simp only[az,av];rw[df.O];gi_wp2_with fail;refine e8 ?_ rfl (a9.refl _);rfl
    refine r7 ((VP.ownR base 32 F4 (withT Q bm inn))) ?_ ?_;·intro x t o;simp only[g0,g5,uV,VP.ownR];intro ax ay aw;simp only[ax,ay,aw];gi_wp2_with(refine⟨trivial,?_⟩;gi_at_call 292;apply((Cw (n:=0)).2 (SP (Z ap bc au) Q bm inn t a8 (A.h o).o.m.rd)).mono;rintro e fi⟨v,rfl,ab,ec⟩);refine e8 ?_ rfl (ec);exact ab.mono (by have:=A.hs;have:=o.size;omega)
    iterate 3 (apply D7;focus (intro x t o;simp only[g0,g5,uV];(repeat intro T;try simp only[T]);have dt:t.cell? ⟨g,6,J⟩=So (Z ap bc au):=(A.h o).b.cell 6;have ek:t.cell? ⟨g,7,J⟩=So (I U8 F):=(A.h o).b.cell 7;gi_wp2_with fail;exact dn rfl rfl (a9.refl _)))
    intro x t o;simp only[n9,g0,o7,uV];rintro ah cc cj ck cm ax ay az cn co cd ce cf av aw cy cg ch ci;simp only[ah,cc,cj,ck,cm,ax,ay,az,cn,co,cd,ce,cf,av,aw,cg,ch,ci];clear ah cc cj ck cm ax ay az cn co cd ce cf av aw cg ch ci;have aa:=A.h o;have cs:=aa.b.frozen 6;have ca:t.cell? ⟨g,6,J⟩=So (Z ap bc au):=aa.b.cell 6;obtain⟨bp,cz,cb,cr⟩:=cy.f;have C:=a6 (aa.set (i:=6) (u:=Z bp cz cb) (p':=⟨ar,fm,fc,dy,lm,lc,withT Q bm inn,F,sp,we,pe,rt,np⟩) (vm':=Z bp cz cb) rfl ⟨aa.o.a,aa.o.f,aa.o.l,by rw[<-cr];exact cy⟩);simp only[cr];gi_wp2_with fail;go_wp2;go_roundg (D d-(k+1));exact⟨k+1,_,_,a8,a8,o3,by rw[be.O];exact C.1,((bw.h dq.O).h o).trans C.2⟩;omega
   rw[if_neg aj]at P;have be:=a6 P;have T:(bn !=0)=Bt:=by simp[aj]
   clear P aj;go_wp2_with fail;refine l4 (bu _) λej ac=>?_;go_wp2_with fail;apply(nH (ag.h ac) a8 bn N).mono;rintro e fh⟨rfl,ff,k1,k2⟩;go_wp2;go_roundg (D d-(k+1));exact⟨k+1,_,_,a8,a8,o3,by rw[be.O];exact k1,(bw.h ac).trans k2⟩;omega
  obtain rfl:k=D d:=a8;rw[List.take_length]at ba;have z:=y.O;go_wp2;go_end0;exact⟨rfl,vm',an,by rw[z];exact ba,dk.trans bb⟩
 rw[if_pos rfl]at z;obtain⟨y,C⟩:=j0 z (bt _ 1 h.O);clear z;go_wp2_with fail;exact Bp (Rz rfl _ _ _) rfl ⟨rfl,_,_,by rw[y.O];exact C.1,aq.trans C.2⟩
end Go.Proofs.YtcljlejgllkcjaaGreat
