/- A part of the proof of TopSame: lemmas on the walks of its calls. -/
import Derived.Test.YtiomenjfmagknaaGreatM20
set_option maxHeartbeats 12000000
set_option linter.all false
set_option maxRecDepth 100000
namespace Go.Proofs.YtiomenjfmagknaaGreat
open Go.RowKit Go.ChangeShapes Go.WideShapes Tryz
open Bool renaming true→Bt,false→Bf
open Decidable renaming decide→Dc
open Ending renaming returned→X
open Go renaming World→Wd,Value→Va,Calls→Ca,callsIn_wide→Cw,undef→Un,bodyPost_ret→Bp,TypeId→Ti,Addr→Ad,Program→Pg,strOfNums→Sn,results_none→Rz,wpListIn→Wl,callsIn_of_wp→Co
open Int renaming toNat_natCast→a4A
open IntKind renaming i64→M,u32→V,u64→U6,u8→U8
open Lib renaming hid→a6
open List renaming getD_eq_getElem?_getD→a8,getElem?_eq_getElem→e9,length_append→a2e,length_cons→a3W,getElem_mem→a30,length_map→a32,take_succ_eq_append_getElem→a4a,length_take→a4C
open Nat renaming le_refl→a7,le_trans→c8,reduceAdd→l9,zero_le→i5,add_zero→a4z,reduceSub→a4D,zero_add→a4E
open Obj renaming cells→U
open Operand renaming tmp→Tm
open Option renaming none→J,some→So
open Value renaming int→I,slice→Z,string→Y,pointer→K,bool→O,func→Fc,tuple→Tp,agg→Ag,nilFunc→Nf
section
open Go.Shelf Go.Sort Go.MapKept
attribute [local go_sem] Oper.semAt_some
def F0(l:List g3):List m6:=l.flatMap fun f=>(A8 f.name (Sn f.data)).1
def O0(l:List g3):List i0:=l.flatMap fun f=>(A8 f.name (Sn f.data)).2
def jZ(ds:List g3):Int:=Z7 (fun f:g3=> !sG f.name) ds 0
def l5(u:g3)(ds:List g3):List m6×List i0:=
 if(x7 u ds).2≠0 then([],[⟨u.name,0,(x7 u ds).2,if(x7 u ds).2=140 then j9 (ds.getD (jZ ds).toNat default).name else⟨#[]⟩⟩])
 else if 0<(O0 (x7 u ds).1).length then([],O0 (x7 u ds).1)else(F0 (x7 u ds).1,[])
theorem pP(f b:ByteArray):(A8 f b).1.length≤1001∧(A8 f b).2.length≤1001:=by
 unfold A8;have a:=lA f (G0 b).1 ⟨⟨#[]⟩,Bf,[],[]⟩;have c:=(tA b).1;simp only[List.length_nil,a4E]at a;dsimp only;split
 ·split
  ·exact⟨i5 _,by dsimp only;omega⟩
  ·exact⟨by dsimp only;omega,i5 _⟩
 ·exact⟨i5 _,by simp⟩
theorem BA(l:List g3)(f:g3):F0 (l++[f])=F0 l++(A8 f.name (Sn f.data)).1:=by simp[F0]
theorem AY(l:List g3)(f:g3):O0 (l++[f])=O0 l++(A8 f.name (Sn f.data)).2:=by simp[O0]
theorem eQ:∀l:List g3,(F0 l).length≤1001*l.length∧(O0 l).length≤1001*l.length
 |[]=>⟨a7 _,a7 _⟩
 |f::l=>by
  have a:=eQ l;have b:=pP f.name (Sn f.data);simp only[F0,O0,List.flatMap_cons,a2e,a3W]at a⊢;omega
theorem WX{a:Type}(p:a→Bool):∀(l:List a)(i:Nat),0≤Z7 p l i→∃j,j<l.length∧Z7 p l i=((i+j:Nat):Int)
 |[],i,h=>by simp[Z7]at h
 |x::l,i,h=>by
  unfold Z7 at h⊢;split
  ·exact⟨0,by simp,by simp⟩
  ·rename_i d
   rw[if_neg d]at h;obtain⟨j,b,c⟩:=WX p l (i+1) h;exact⟨j+1,by simpa using b,by rw[c];congr 1;omega⟩
theorem gF(u:g3)(ds:List g3):(x7 u ds).1.length≤17:=by
 unfold x7;split
 ·simp
 ·split
  ·simp
  ·have a:=dE _ (vO g3.name) (G3 ds)
   have b:=qW ds;unfold zM;simp only[a3W];omega
theorem AL(u:g3)(ds:List g3)(h:(x7 u ds).2=140):0≤jZ ds:=by
 unfold x7 at h;split at h
 ·simp at h
 ·split at h
  ·assumption
  ·simp at h
theorem PV(u:PF)(ah:Option Ad)(c:Nat)(ds:List PF)(w:Wd)(ca:ds.length≤1000000)(ap:h9 w ah (q7.row (ds.map (·.1))))(cf:F7 w u)(dj:IN u)(au:∀p∈ds,F7 w p∧IN p):
  Ca prog 20 #[o4 u.1,Z ah ds.length c] w fun e bj=>∃G H,e=X (Tp #[G,H])∧e4 bj w 88 Q8 G (l5 (l4 u) (ds.map l4)).1∧e4 bj w 73 g6 H (l5 (l4 u) (ds.map l4)).2∧a9 w bj:=by
 have S:=(a9.refl w).alloc (U #[Y u.1.name,I M u.1.dir,Z u.1.A u.1.n u.1.c] 24);have br:=b9.new w 24 (#[Y u.1.name,I M u.1.dir,Z u.1.A u.1.n u.1.c]);have am:=a6 (PT u ah c ds _ ca (ap.h S) (cf.h S) dj (fun p ad=>⟨(au p ad).1.h S,(au p ad).2⟩));obtain⟨R,ab⟩:∃R,R=l5 (l4 u) (ds.map l4):=⟨_,rfl⟩;rw[←ab];unfold l5 at ab;have ao:=AL (l4 u) (ds.map l4);have be:fU (ds.map (·.1))=jZ (ds.map l4):=IW ds;have en:=gF (l4 u) (ds.map l4);generalize x7 (l4 u) (ds.map l4)=ag at*;obtain⟨l,d⟩:=ag;dsimp only at*;obtain⟨L,al,co,bn,bl⟩:=gP ab ap au S br;clear ab ap cf S br;unfold o4 at am⊢;go_in;go_wp2_with fail
 apply am.mono;rintro e i⟨v,rs,rfl,ay,az,ac,bf⟩;have bp:=bl.h bf;have z:=bn.trans bf;have du:=bf.size;simp at du;by_cases aq:d=0
 ·subst aq
  have a:=L.out;rw[if_neg (by simp)]at a;have dn:rs.length=l.length:=by rw[←ac];simp
  obtain⟨eg,bs,de,_,_,y⟩:=ay.inM;rw[de,a32];obtain⟨n,T,ct,cp,bo⟩:=gP a y az ac z;clear a L ao be bp ay y az ac bl bn z am;go_wp2_with fail
  go_loopg [10,11,46] rs.length (fun dg ec ed ee wr=>∃(k:Nat)(G H:Va),k≤rs.length∧rs.length-k≤dg∧ec=G∧ed=H∧ee=I M k∧e4 wr i 88 Q8 G (F0 (l.take k))∧e4 wr i 73 g6 H (O0 (l.take k))∧a9 i wr)
  case atStart=>exact⟨0,_,_,i5 _,by omega,rfl,rfl,rfl,e4.nil _ _ _ _,e4.nil _ _ _ _,a9.refl _⟩
  case round=>
   obtain⟨k,G,H,em,ek,rfl,rfl,rfl,D,E,o⟩:=hrel;have cd:=eQ (l.take k);have dp:(l.take k).length=k:=by rw[a4C];omega
   rw[dp]at cd;by_cases cc:k<rs.length
   ·have dm:(k:Int)<rs.length:=by omega
    have ax:k<(rs.map (·.1)).length:=by simpa using cc
    obtain⟨b,ag,rfl,dh⟩:=(T.h o).rows (by decide) (by simp;omega);have Q:=(T.h o).b ax (r:=0) rfl;have bt:=(T.h o).b ax (r:=1) rfl;have aa:=(T.h o).b ax (r:=2) rfl;have ba:=ct _ (a30 cc);have cb:k<l.length:=by omega
    have ar:l[k]=l4 rs[k]:=by
     have e:=cp.out;subst e;simp
    have bb:F0 (l.take (k+1))=F0 (l.take k)++(A8 rs[k].1.name (Sn rs[k].2)).1:=by rw[a4a cb,BA,ar];rfl
    have bc:O0 (l.take (k+1))=O0 (l.take k)++(A8 rs[k].1.name (Sn rs[k].2)).2:=by rw[a4a cb,AY,ar];rfl
    simp only[List.getElem_map]at Q bt aa;clear ar;generalize rs[k]=x at*;obtain⟨⟨nm,bw,B,m,bu⟩,xs⟩:=x;simp only[q7,a4z]at Q bt aa;dsimp only at bb bc;have eo:=pP nm (Sn xs);have xa:=(a9.refl wr).alloc (U #[Y nm,I M bw,Z B m bu] 24);have cs:=a6 (LR nm bw B m bu xs _ ba.1 ((ba.2.h o).h xa));generalize A8 nm (Sn xs)=q at*;obtain⟨ea,eb⟩:=q;dsimp only at*;obtain⟨ck,cw,cy,cu,cv⟩:=gP (D.h xa) (E.h xa) (o.trans xa) bb bc;have ep:=bo.size;have er:=o.size;generalize F0 (l.take k)=ch at*;generalize O0 (l.take k)=bh at*;clear D E o xa bb bc ba;go_wp2_with fail
    apply cs.mono;rintro e fc⟨fa,fb,rfl,dz,cj,ae⟩;have ai:=ck.h ae;have cx:=cw.h ae;have dv:=ae.size;simp at dv;obtain⟨Aa,dc,rfl,_,_,dw⟩:=dz.inM;obtain⟨An,dd,rfl,_,_,eu⟩:=cj.inM;go_wp2_with(first
     |(at_builtin;refine j3 rfl (Tm 55) (Tm 56) 56 88 rfl a5K i _ ch rfl ai _ _ _ ea rfl rfl dw (by omega) (by omega) ?_;intro ey fd dx dr av ei;have ci:=cx.apart ai (by decide) av;have cz:=dr i (cy.trans ae) (a7 _);have bi:=(cj.apart ai (by decide) av).inM;obtain⟨_,_,df,_,_,bi⟩:=bi;cases df;have es:=av.size)
     |(at_builtin;refine j3 rfl (Tm 58) (Tm 59) 41 73 rfl lX i _ bh rfl ci _ _ _ eb rfl rfl bi (by omega) (by omega) ?_;intro ez fe dy dt dk ej;have da:=dt i cz (a7 _)))
    go_roundg (rs.length-(k+1))
    case measure=>omega
    case rel=>exact⟨k+1,_,_,by omega,by omega,rfl,rfl,by go_num,by rw[cu.out];exact dx.apart ci (by decide) dk,by rw[cv.out];exact dy,da⟩
   ·obtain rfl:k=rs.length:=by omega
    have dq:l.take rs.length=l:=by rw[dn,List.take_length]
    rw[dq]at D E cd;have dm:Dc ((rs.length:Int)<rs.length)=Bf:=by simp
    have bq:=bo.trans o;have bx:=D.mono (b2:=w) (by omega);have bz:=E.mono (b2:=w) (by omega);obtain⟨Aa,dc,rfl,_⟩:=D.inM;obtain⟨An,dd,rfl,_⟩:=E.inM;obtain⟨cn,cr⟩:=i6 bx bz;clear D E bx bz o;generalize F0 l=ch at*;generalize O0 l=bh at*;by_cases F:0<bh.length
    ·have bv:=decide_eq_true F
     have a:=n.out;rw[if_pos F]at a;have N:=a6 a;clear a n F;go_wp2_with fail
     go_ret2
     exact⟨_,_,rfl,by rw[N.out];exact e4.nil _ _ _ _,by rw[N.out];exact cr.out,bq⟩
    ·have bv:=decide_eq_false F
     have a:=n.out;rw[if_neg F]at a;have N:=a6 a;clear a n F;go_wp2_with fail
     go_ret2
     exact⟨_,_,rfl,by rw[N.out];exact cn.out,by rw[N.out];exact e4.nil _ _ _ _,bq⟩
 ·have bv:(d !=0)=Bt:=by simp[aq]
  obtain⟨ev,ew,ex⟩:=bp.c3;have a:=L.out;rw[if_pos aq]at a;clear ay az ac;by_cases C:d=140
  ·rw[if_pos C]at a
   have A:(d==140)=Bt:=by simp[C]
   obtain⟨j,aw,cg⟩:=WX _ _ _ (ao C);rw[a32]at aw;have dl:j<(ds.map (·.1)).length:=by simpa using aw
   obtain⟨b,ag,rfl,dh⟩:=(al.h z).rows (by decide) (by simp;omega);have cm:=b9.new i 73 #[Y u.1.name,I M 0,I M d,Y ⟨#[]⟩];have bk:=(a9.refl i).alloc (U #[Y u.1.name,I M 0,I M d,Y ⟨#[]⟩] 73);have bm:=a6 (uH (So ⟨b,ag,J⟩) ds.length c (ds.map (·.1)) _ (by simp) ca ((al.h z).h bk) (fun f di=>by obtain⟨p,ad,rfl⟩:=List.mem_map.1 di;exact(co p ad).2.1));have bd:jZ (ds.map l4)=(j:Int):=by
    have:jZ (ds.map l4)=((0+j:Nat):Int):=cg;rwa[a4E]at this
   have ce:((ds.map l4).getD (jZ (ds.map l4)).toNat default).name=ds[j].1.name:=by
    rw[bd,a4A,a8,e9 (by simpa using aw)];simp[l4]
   rw[ce]at a;rw[be,bd]at bm;have n:=a6 a;have an:=fun W(x:a9 (i.alloc (U #[Y u.1.name,I M 0,I M d,Y ⟨#[]⟩] 73)) W)=>(((al.h z).h bk).h x).b dl (r:=0) rfl
   simp only[q7,a4z,List.getElem_map]at an;have el:(j:Int)<ds.length:=by omega
   generalize ds[j].1.name=s at*;have y:0≤min (s.size:Int) 60:=by omega
   have et:min (s.size:Int) 60≤s.size:=by omega
   have af:(min (s.size:Int) 60).toNat=min s.size 60:=by omega
   have cq:=a6 an;clear a L cg ce bd be an ao C;go_wp2_with fail
   apply bm.mono;rintro e ef⟨rfl,bg⟩;have Q:=cq ef bg;have aj:=cm.h bg;have eh:=aj.frozen 3;have k3:=aj.cell 3;have ak:=aj.f 3 (Y (j9 s));have P:=(z.trans (bk.trans bg)).set (p:=⟨i,3,J⟩) (by have:=z.size;exact this) (Y (j9 s));go_wp2_with fail
   refine e7 rfl [.is (.agg #[Y u.1.name,I M 0,I M d,Y (j9 s)]),(VP.ownR w 73 g6 [⟨u.1.name,0,d,(j9 s)⟩]),.is ?Am,(VP.ownR w 73 g6 [⟨u.1.name,0,d,(j9 s)⟩])] (by kernel_rfl) ?An ?Aa ⟨?Ab,?Ac,?Ad,?Ae,trivial⟩ ?Af
   case Aa=>intro x;simp only[e6,Act.put,uL,l9]<;>rfl
   case Ad=>
    intro x h g;simp only[e5,j8,uV];go_wp2_with fail
    refine a0e ?_ rfl (a9.refl _);rfl
   case Ab=>
    intro x h g;simp only[e5,j8,uV];obtain⟨Q,bs,aa,db⟩:=(ak.h g).c4;go_wp2_with fail
    refine a0e ?_ rfl (a9.refl _);rfl
   case Ac=>
    intro x h g;simp only[e5,j8,uV];intro t;simp only[t];go_wp2_with fail
    refine a0e ?_ rfl ((a9.refl h).alloc _);exact e4.new (c8 P.size g.size) rfl rfl (by decide)
   case Ae=>
    intro x h g;simp only[e5,j8,uV];rintro y;go_wp2_with fail
    refine a0e ?_ rfl (a9.refl h);exact y
   case Af=>
    intro x h g;simp only[l8,e5,j8,uV];rintro t y A af;simp only[t,A];clear t A;go_wp2_with fail
    go_ret2
    exact⟨_,_,rfl,by rw[n.out];exact e4.nil _ _ _ _,by rw[n.out];exact af,P.trans g⟩
  ·rw[if_neg C]at a
   have A:(d==140)=Bf:=by simp[C]
   have n:=a6 a;clear a L;have ak:=b9.new i 73 #[Y u.1.name,I M 0,I M d,Y ⟨#[]⟩];have P:=z.trans ((a9.refl i).alloc (U #[Y u.1.name,I M 0,I M d,Y ⟨#[]⟩] 73));go_wp2_with fail
   refine e7 rfl [.is (.agg #[Y u.1.name,I M 0,I M d,Y (⟨#[]⟩)]),(VP.ownR w 73 g6 [⟨u.1.name,0,d,(⟨#[]⟩)⟩]),.is ?Ao,(VP.ownR w 73 g6 [⟨u.1.name,0,d,(⟨#[]⟩)⟩])] (by kernel_rfl) ?Ap ?Ag ⟨?Ah,?Ai,?Aj,?Ak,trivial⟩ ?Al
   case Ag=>intro x;simp only[e6,Act.put,uL,l9]<;>rfl
   case Aj=>
    intro x h g;simp only[e5,j8,uV];go_wp2_with fail
    refine a0e ?_ rfl (a9.refl _);rfl
   case Ah=>
    intro x h g;simp only[e5,j8,uV];obtain⟨Q,bs,aa,db⟩:=(ak.h g).c4;go_wp2_with fail
    refine a0e ?_ rfl (a9.refl _);rfl
   case Ai=>
    intro x h g;simp only[e5,j8,uV];intro t;simp only[t];go_wp2_with fail
    refine a0e ?_ rfl ((a9.refl h).alloc _);exact e4.new (c8 P.size g.size) rfl rfl (by decide)
   case Ak=>
    intro x h g;simp only[e5,j8,uV];rintro y;go_wp2_with fail
    refine a0e ?_ rfl (a9.refl h);exact y
   case Al=>
    intro x h g;simp only[l8,e5,j8,uV];rintro t y A af;simp only[t,A];clear t A;go_wp2_with fail
    go_ret2
    exact⟨_,_,rfl,by rw[n.out];exact e4.nil _ _ _ _,by rw[n.out];exact af,P.trans g⟩
end
theorem KU(f:Nat)(b:Bool)(w:Wd):Ca prog 159 #[Fc (.func f) #[] #[],O b] w fun e a=>e=X (Fc (.func 223) #[] #[K w,K (w+1:Nat)])∧a=(w.alloc (U #[Fc (.func f) #[] #[]] 272)).alloc (U #[O b] 4):=by
 go_in;go_wp2_with fail
 go_ret;exact⟨rfl,rfl⟩
theorem XQ(g:Nat)(w:Wd):Ca prog 160 #[K g] w fun e a=>e=X (K (So ⟨g,1,J⟩))∧w=a:=by
 go_in;go_wp2_with fail
 go_ret;exact⟨rfl,rfl⟩
theorem XP(g:Nat)(w:Wd):Ca prog 161 #[K g] w fun e a=>e=X (K (So ⟨g,4,J⟩))∧w=a:=by
 go_in;go_wp2_with fail
 go_ret;exact⟨rfl,rfl⟩
def qH:ByteArray:=⟨#[83,121,115,116,101,109,67,97,108,108,70,105,108,116,101,114]⟩
def qG:ByteArray:=⟨#[83,121,115,116,101,109,67,97,108,108,76,111,103]⟩
def qI:ByteArray:=⟨#[83,121,115,116,101,109,67,97,108,108,69,114,114,111,114,78,117,109,98,101,114]⟩
def RD(a:Nat):Va:=Fc (.func 223) #[] #[K a,K (a+1:Nat)]
def fK3:Va:=Fc (.func 162) #[] #[]
structure vD(w:Wd)(g a c:Nat):Prop where
 m:E6 w g [(qH,RD a),(qG,RD c),(qI,fK3)]
 ba:b9 w a 272 #[Fc (.func 160) #[] #[]]
 bb:b9 w (a+1) 4 #[O Bt]
 bc:b9 w c 272 #[Fc (.func 161) #[] #[]]
 bd:b9 w (c+1) 4 #[O Bf]
theorem vD.h{w d:Wd}{g a c:Nat}(b:vD w g a c)(x:a9 w d):vD d g a c:=⟨b.m.h x,b.ba.h x,b.bb.h x,b.bc.h x,b.bd.h x⟩
theorem CP{w a:Wd}{f:Nat}{b:Bool}(c:a=(w.alloc (U #[Fc (.func f) #[] #[]] 272)).alloc (U #[O b] 4)):b9 a w 272 #[Fc (.func f) #[] #[]]∧b9 a (w+1) 4 #[O b]∧a9 w a:=by
 subst c;exact⟨(b9.new _ _ _).alloc _,b9.b (by simp),((a9.refl w).alloc _).alloc _⟩
theorem KV(w:Wd):Ca prog 111 #[] w fun e A=>∃g a c,e=X (.map (So g))∧vD A g a c∧a9 w A:=by
 have Q:= @run_makeMap prog;go_in;go_wp2_with fail
 apply(KU _ Bt _).mono;rintro e S⟨rfl,x⟩;obtain⟨j,b2,p⟩:=CP x;have z:=(E6.new (w:=w) rfl).h p;have C:=((a9.refl w).alloc (.map #[] 0)).trans p;have G:(w.alloc (.map #[] 0)).heap.size=w.heap.size+1:=by simp
 rw[G]at j b2⊢;have h:∀{k},k=w.heap.size+1∨k=w.heap.size+1+1→So k≠So w.heap.size:=fun d e=>by injection e with e;omega
 clear x p;go_wp2_with(refine V9 rfl _ _ _ 198 9 196 (.inr rfl) underlying198 underlying9 _ _ rfl z _ rfl _ rfl ?_;intro i o l)
 have r:=j.grown l (h (.inl rfl));have b3:=b2.grown l (h (.inr rfl));have q:=C.f l (fun k e=>by cases e;exact a7 _);apply(KU _ Bf _).mono;rintro e B⟨rfl,y⟩;obtain⟨E,F,f⟩:=CP y;have H:=o.h f;have D:=r.h f;have b4:=b3.h f;have P:=q.trans f;have R:=q.size;have v:∀{k},k=i.heap.size∨k=i.heap.size+1→So k≠So w.heap.size:=fun d e=>by injection e with e;have:=o.lt;omega
 clear y f z j b2 C r b3 q o;go_wp2_with(first|(refine V9 rfl _ _ _ 198 9 196 (.inr rfl) underlying198 underlying9 _ _ rfl H _ rfl _ rfl ?_;intro T L m)|(refine V9 rfl _ _ _ 198 9 196 (.inr rfl) underlying198 underlying9 _ _ rfl L _ rfl _ rfl ?_;intro W N n))
 go_ret;have s:=fun{k}(d:k=w.heap.size+1∨k=w.heap.size+1+1){t cs}(b:b9 B k t cs)=>(b.grown m (h d)).grown n (h d)
 have u:=fun{k}(d:k=i.heap.size∨k=i.heap.size+1){t cs}(b:b9 B k t cs)=>(b.grown m (v d)).grown n (v d)
 exact⟨_,rfl,⟨_,_,N,s (.inl rfl) D,s (.inr rfl) b4,u (.inl rfl) E,u (.inr rfl) F⟩,(P.f m (fun k e=>by cases e;exact a7 _)).f n (fun k e=>by cases e;exact a7 _)⟩
theorem D5(s:ByteArray)(a c:Nat):H0 [(qH,RD a),(qG,RD c),(qI,fK3)] s=if s==qH then So (RD a)else if s==qG then So (RD c)else if s==qI then So fK3 else J:=by
 unfold H0;simp only[cN];cases s==qH<;>cases s==qG<;>cases s==qI<;>rfl
def jF(s:ByteArray):Bool:=s==qH||s==qG||s==qI
theorem a4c(s:ByteArray)(w:Wd):Ca prog 63 #[Y s] w fun e j=>e=X (O (jF s))∧a9 w j:=by
 have d:=a6 (KV w);have b:∀a c,(H0 [(qH,RD a),(qG,RD c),(qI,fK3)] s).isSome=jF s:=fun a c=>by
  rw[D5];unfold jF;cases s==qH<;>cases s==qG<;>cases s==qI<;>rfl
 have f:=a6 b;clear b;go_in;go_wp2_with fail
 apply d.mono;rintro e k⟨g,a,c,rfl,h,i⟩;go_wp2_with(refine A4 rfl _ _ 198 9 196 rfl underlying198 underlying9 Nf (by intro w;kernel_rfl) g _ rfl h.m s rfl ?_)
 go_ret;exact⟨by rw[f.out];rfl,i⟩
theorem a5r(ar:List Int)(fm:Int)(fc:List o8)(dy lm:Int)(lc:List o8)(fa:List Int)(am sp:Int)(we pe rt np:Bool)(r ab s t:Va)(a l base:Nat)(val:ByteArray)(w:Wd)(al:val.size≤100000)(aj:0≤fm)(ai:fc.length≤100000)
  (T:b9 w a 39 (i4 ⟨ar,fm,fc,dy,lm,lc,fa,am,sp,we,pe,rt,np⟩ r ab s t)) (o:r6 w base ⟨ar,fm,fc,dy,lm,lc,fa,am,sp,we,pe,rt,np⟩ r ab s t) (W:base≤w)
  (ag:b9 w l 272 #[Fc (.func 160) #[] #[]]) (S:b9 w (l+1) 4 #[O Bt]):
  Ca prog 223 #[K a,Y val,K l,K (l+1:Nat)] w fun e A=>∃v g,e=X g∧
   b9 A a 39 (i4 ⟨ar,(J3 fm fc val Bt).1,(J3 fm fc val Bt).2.1,dy,lm,lc,fa,am,sp,we,pe,rt,np⟩ r v s t)∧r6 A base ⟨ar,(J3 fm fc val Bt).1,(J3 fm fc val Bt).2.1,dy,lm,lc,fa,am,sp,we,pe,rt,np⟩ r v s t∧e4 A base 73 g6 g (J3 fm fc val Bt).2.2∧w.grownBy A (So a):=by
 obtain⟨ad,n,an⟩:=o.f.b;subst an;have N:=a6 (fun Q(ah:a9 w Q)=>CE fm aj ad n fc val Bt Q al ai (o.f.h ah).i.1 o.f.spot);generalize J3 fm fc val Bt=q at*;obtain⟨f,aa,aq⟩:=q;dsimp only[i4]at*;have ay:=ag.cell 0;have af:=S.cell 0;obtain⟨j,L⟩:=i6 T o;clear T o;go_in;go_wp2_with fail
 apply(XQ a w).mono;rintro e bi⟨rfl,rfl⟩;have ao:=j.cell 1;have ap:=j.cell (1+1);have xa:=(a9.refl w).alloc (U #[I U8 0,Z J 0 0] 36);have bg:=xa.cell ao;have bh:=xa.cell ap;have az:=xa.cell af;have be:l+1≠w.heap.size:=by have:=S.lt;omega
 have bf:a≠w.heap.size:=by have:=j.lt;omega
 go_upto_region 2 with fail
 go_cut [8,9] (fun au av C=>∃(gb:Nat)(v g:Va),au=K gb∧av=g∧b9 C gb 36 #[I U8 f,v]∧e4 C w 144 p5 v aa∧e4 C w 73 g6 g aq∧a9 w C)
 case first=>
  go_wp2_with fail
  go_region_with (go_at_call 224;first
   |(apply(N _ ((a9.refl w).alloc _).drew).mono;rintro e D⟨v,g,rfl,c,d,b⟩;have h:b9 D w 36 #[I U8 0,Z J 0 0]:=(b9.new w _ _).drew.h b;have aw:=h.cell 0;have ax:=h.cell 1;have bj:=h.frozen 0;have bk:=h.frozen 1;obtain⟨u,z,y,rfl⟩:=c.f)
   |(apply(N _ (a9.refl _).drew).mono;rintro e D⟨v,g,rfl,c,d,b⟩;obtain⟨u,z,y,rfl⟩:=c.f))
  all_goals
   go_wp2_with fail
   go_meet
   first
    |(have P:=L7.put (m:=f) h c
      have E:=((((a9.refl w).alloc _).drew.trans b).set (p:=⟨w,0,J⟩) (a7 _) (I U8 f)).set (p:=⟨w,1,J⟩) (a7 _) (Z u z y);exact⟨_,_,_,rfl,rfl,P.b,P.o.mono (by simp),((d.kept (x4 _ w 0 _) (.inr (d.ne h (by decide)))).kept (x4 _ w 1 _) (.inr (d.ne h (by decide)))).mono (by simp),E⟩)
    |(have F:=(a9.refl D).alloc (U #[I U8 f,Z u z y] 36)
      exact⟨_,_,_,rfl,rfl,b9.new _ _ _,c.h F,d.h F,((a9.refl w).drew.trans b).trans F⟩)
 case rest=>
  obtain⟨gb,v,g,rfl,rfl,ae,c,d,b⟩:=hcut;have B:=j.h b;obtain⟨aw,ax⟩:=ae.c2;have bc:=B.cell 1;have bd:=B.cell (1+1);have ba:=B.frozen 1;have bb:=B.frozen (1+1);have H:=(B.f 1 (I U8 f)).f (1+1) v;have G:=(x4 wc a 1 (I U8 f)).trans (x4 _ a (1+1) v);have i:=fun{ac:Type}{e:Ti}{E:p6 ac}{v':Va}{xs:List ac}{b2:Nat}(k:e4 wc b2 e E v' xs)(ak:e≠39)=>k.kept G (.inr (k.ne B ak))
  have x:=L.h b;have R:=a6 (And.intro H (And.intro (show r6 ((wc.setCell ⟨a,1,J⟩ (I U8 f)).setCell ⟨a,1+1,J⟩ v) base ⟨ar,f,aa,dy,lm,lc,fa,am,sp,we,pe,rt,np⟩ r v s t from⟨i x.a (by decide),(i c (by decide)).mono W,i x.l (by decide),i x.m (by decide)⟩) (And.intro ((i d (by decide)).mono W) ((s6 (h8 b J) (So a)).trans G))));obtain⟨u,z,y,rfl⟩:=c.f;clear B H G x i c d b j L;go_wp2_with fail
  go_ret;exact⟨_,_,rfl,R.out⟩
theorem a5q(ar:List Int)(fm:Int)(fc:List o8)(dy lm:Int)(lc:List o8)(fa:List Int)(am sp:Int)(we pe rt np:Bool)(r s ab t:Va)(a l base:Nat)(val:ByteArray)(w:Wd)(al:val.size≤100000)(aj:0≤lm)(ai:lc.length≤100000)
  (T:b9 w a 39 (i4 ⟨ar,fm,fc,dy,lm,lc,fa,am,sp,we,pe,rt,np⟩ r s ab t)) (o:r6 w base ⟨ar,fm,fc,dy,lm,lc,fa,am,sp,we,pe,rt,np⟩ r s ab t) (W:base≤w)
  (ag:b9 w l 272 #[Fc (.func 161) #[] #[]]) (S:b9 w (l+1) 4 #[O Bf]):
  Ca prog 223 #[K a,Y val,K l,K (l+1:Nat)] w fun e A=>∃v g,e=X g∧
   b9 A a 39 (i4 ⟨ar,fm,fc,dy,(J3 lm lc val Bf).1,(J3 lm lc val Bf).2.1,fa,am,sp,we,pe,rt,np⟩ r s v t)∧r6 A base ⟨ar,fm,fc,dy,(J3 lm lc val Bf).1,(J3 lm lc val Bf).2.1,fa,am,sp,we,pe,rt,np⟩ r s v t∧e4 A base 73 g6 g (J3 lm lc val Bf).2.2∧w.grownBy A (So a):=by
 obtain⟨ad,n,an⟩:=o.l.b;subst an;have N:=a6 (fun Q(ah:a9 w Q)=>CE lm aj ad n lc val Bf Q al ai (o.l.h ah).i.1 o.l.spot);generalize J3 lm lc val Bf=q at*;obtain⟨f,aa,aq⟩:=q;dsimp only[i4]at*;have ay:=ag.cell 0;have af:=S.cell 0;obtain⟨j,L⟩:=i6 T o;clear T o;go_in;go_wp2_with fail
 apply(XP a w).mono;rintro e bi⟨rfl,rfl⟩;have ao:=j.cell 4;have ap:=j.cell (4+1);have xa:=(a9.refl w).alloc (U #[I U8 0,Z J 0 0] 36);have bg:=xa.cell ao;have bh:=xa.cell ap;have az:=xa.cell af;have be:l+1≠w.heap.size:=by have:=S.lt;omega
 have bf:a≠w.heap.size:=by have:=j.lt;omega
 go_upto_region 2 with fail
 go_cut [8,9] (fun au av C=>∃(gb:Nat)(v g:Va),au=K gb∧av=g∧b9 C gb 36 #[I U8 f,v]∧e4 C w 144 p5 v aa∧e4 C w 73 g6 g aq∧a9 w C)
 case first=>
  go_wp2_with fail
  go_region_with (go_at_call 224;first
   |(apply(N _ ((a9.refl w).alloc _).drew).mono;rintro e D⟨v,g,rfl,c,d,b⟩;have h:b9 D w 36 #[I U8 0,Z J 0 0]:=(b9.new w _ _).drew.h b;have aw:=h.cell 0;have ax:=h.cell 1;have bj:=h.frozen 0;have bk:=h.frozen 1;obtain⟨u,z,y,rfl⟩:=c.f)
   |(apply(N _ (a9.refl _).drew).mono;rintro e D⟨v,g,rfl,c,d,b⟩;obtain⟨u,z,y,rfl⟩:=c.f))
  all_goals
   go_wp2_with fail
   go_meet
   first
    |(have P:=L7.put (m:=f) h c
      have E:=((((a9.refl w).alloc _).drew.trans b).set (p:=⟨w,0,J⟩) (a7 _) (I U8 f)).set (p:=⟨w,1,J⟩) (a7 _) (Z u z y);exact⟨_,_,_,rfl,rfl,P.b,P.o.mono (by simp),((d.kept (x4 _ w 0 _) (.inr (d.ne h (by decide)))).kept (x4 _ w 1 _) (.inr (d.ne h (by decide)))).mono (by simp),E⟩)
    |(have F:=(a9.refl D).alloc (U #[I U8 f,Z u z y] 36)
      exact⟨_,_,_,rfl,rfl,b9.new _ _ _,c.h F,d.h F,((a9.refl w).drew.trans b).trans F⟩)
 case rest=>
  obtain⟨gb,v,g,rfl,rfl,ae,c,d,b⟩:=hcut;have B:=j.h b;obtain⟨aw,ax⟩:=ae.c2;have bc:=B.cell 4;have bd:=B.cell (4+1);have ba:=B.frozen 4;have bb:=B.frozen (4+1);have H:=(B.f 4 (I U8 f)).f (4+1) v;have G:=(x4 wc a 4 (I U8 f)).trans (x4 _ a (4+1) v);have i:=fun{ac:Type}{e:Ti}{E:p6 ac}{v':Va}{xs:List ac}{b2:Nat}(k:e4 wc b2 e E v' xs)(ak:e≠39)=>k.kept G (.inr (k.ne B ak))
  have x:=L.h b;have R:=a6 (And.intro H (And.intro (show r6 ((wc.setCell ⟨a,4,J⟩ (I U8 f)).setCell ⟨a,4+1,J⟩ v) base ⟨ar,fm,fc,dy,f,aa,fa,am,sp,we,pe,rt,np⟩ r s v t from⟨i x.a (by decide),i x.f (by decide),(i c (by decide)).mono W,i x.m (by decide)⟩) (And.intro ((i d (by decide)).mono W) ((s6 (h8 b J) (So a)).trans G))));obtain⟨u,z,y,rfl⟩:=c.f;clear B H G x i c d b j L;go_wp2_with fail
  go_ret;exact⟨_,_,rfl,R.out⟩
section
theorem A5{e:Fence}{n:Nat}{P:Pg}{w:Wd}{f:Array Oper}{rest:List Oper}{c:Oper}{a:Act}{Q:Exit→Act→Wd→Prop}(l:c.guard=J)(ty:Ti)(x d:Operand)(m:c.op= .store ty x d)
  (g:Nat) (t:Ti) (cur cs:Array Va) (o:a.eval x=K g) (p:a.eval d=Ag cs) (q:b9 w g t cur) (r:cs.size=cur.size)
  (hi:(P.info? ty).map (·.size)=So cs.size) (i:∀v∈cs.toList,v.oneCell'=Bt)
  (h:∀b,b9 b g t cs→w.grownBy b (So g)→Wl e n P f Q rest (a.put c.dst Un) b):Wl e n P f Q (c::rest) a w:=by
 refine m3 l ty x d m g 0 t cur.toList cs o p (by rwa[Array.toArray_toList]) (by simp;omega) hi i fun b j k=>h b ?_ k
 rwa[A6 _ _ (by simp;omega),Array.toArray_toList]at j
theorem W5{e:Fence}{n:Nat}{P:Pg}{w:Wd}{h:Array Oper}{rest:List Oper}{b:Oper}{a:Act}{Q:Exit→Act→Wd→Prop}(o:b.guard=J)(ty:Ti)(x:Operand)(f:b.op= .load ty x)
  (g:Nat) (t:Ti) (cs:Array Va) (d:TypeDesc) (r:a.eval x=K g) (k:b9 w g t cs)
  (q:P.underlying ty=So d) (m:d.isRow=Bt) (hi:(P.info? ty).map (·.size)=So cs.size)
  (i:Wl e n P h Q rest (a.put b.dst (Ag cs)) w):Wl e n P h Q (b::rest) a w:=by
 refine wpListIn_plain o fun s j=> ?_
 have p:=run_loadVar_row (P:=P) w g t ty cs (0,0) d k q (by cases d<;>first|rfl|(simp[TypeDesc.isRow]at m)) hi;unfold Oper.wpIn;refine⟨?_,?_⟩
 ·simp[Oper.about,f,Sem.run_pure]
 ·rw[Oper.semAt_plain e _ _ (by rw[f];intro c l;cases l)]
  simp only[execOp,f,r,Instr.loadAt,Instr.sureAddr,asAddr,Sem.run_bind,Sem.run_pure,Result.andThen_ok,p];exact j _ _ i
theorem rZ{P:Pg}(w:Wd)(a:Ad)(ty:Ti)(cs:Array Va)(d:TypeDesc)(e:h9 w (So a) cs.toList)
  (l:P.underlying ty=So d) (h:d.isRow=Bt) (hi:(P.info? ty).map (·.size)=So cs.size):(loadVar ty a).run P w= .ok (Ag cs) w:=by
 have c:(loadCells a cs.toList.length).run P w= .ok cs.toList.toArray w:=run_loadCells_list (P:=P) w a cs.toList fun j v m=>e.add m
 cases b:P.info? ty with
 |none=>simp[b]at hi
 |some i=>
  have k:i.size=cs.size:=by simpa[b]using hi
  have f:(isAgg ty).run P w= .ok Bt w:=by
   unfold isAgg;rw[Sem.run_bind,run_underlying l w];cases d<;>first|(simp[TypeDesc.isRow]at h;done)|simp_all
  simp only[Array.length_toList,Array.toArray_toList]at c;simp[loadVar,Sem.run_bind,f,sizeOf,typeInfo,b,k,c]
theorem cC{f:Fence}{n:Nat}{P:Pg}{w:Wd}{i:Array Oper}{rest:List Oper}{b:Oper}{a:Act}{Q:Exit→Act→Wd→Prop}(p:b.guard=J)(ty:Ti)(x:Operand)(h:b.op= .load ty x)
  (e:Ad) (cs:Array Va) (d:TypeDesc) (s:a.eval x=K (So e)) (l:h9 w (So e) cs.toList)
  (r:P.underlying ty=So d) (o:d.isRow=Bt) (hi:(P.info? ty).map (·.size)=So cs.size)
  (j:Wl f n P i Q rest (a.put b.dst (Ag cs)) w):Wl f n P i Q (b::rest) a w:=by
 refine wpListIn_plain p fun t k=> ?_
 have q:=rZ (P:=P) w e ty cs d l r o hi;unfold Oper.wpIn;refine⟨?_,?_⟩
 ·simp[Oper.about,h,Sem.run_pure]
 ·rw[Oper.semAt_plain f _ _ (by rw[h];intro c m;cases m)]
  simp only[execOp,h,s,Instr.loadAt,Instr.sureAddr,asAddr,Sem.run_bind,Sem.run_pure,Result.andThen_ok,q];exact k _ _ j
structure GS(g:Nat)(T:Ti)(n:Nat)(fin:Array Va)(W W':Wd):Prop where
 gr:W.grownBy W' (So g)
 sz:∀cs,b9 W g T cs→cs.size=n→∃cs',b9 W' g T cs'∧cs'.size=n
 fin:b9 W g T fin→b9 W' g T fin
section
variable {g:Nat} {T:Ti} {n:Nat} {fin:Array Va} {W W':Wd}
theorem GS.h(a:W.grownBy W' J):GS g T n fin W W':=⟨s6 a _,fun cs k b=>⟨cs,k.grown a (by simp),b⟩,fun k=>k.grown a (by simp)⟩
theorem GS.f(h:a9 W W'):GS g T n fin W W':= .h (h8 h J)
theorem GS.store(a:W.grownBy W' (So g))(k:b9 W' g T fin)(b:fin.size=n):GS g T n fin W W':=⟨a,fun _ _ _=>⟨fin,k,b⟩,fun _=>k⟩
instance (g:Nat)(T:Ti)(n:Nat)(fin:Array Va):fT (GS g T n fin) where
 refl W:= .h ⟨rfl,rfl,rfl,a7 _,fun _ _ _=>rfl⟩
 trans a b c h k:=⟨h.gr.trans k.gr,fun cs q f=>by obtain⟨d,i,e⟩:=h.sz cs q f;exact k.sz d i e,fun q=>k.fin (h.fin q)⟩
 drew W:= .h (B1 W)
def a1K:VR (GS g T n fin):=⟨fun _ aa=>b9 aa g T fin,fun _ _ _ h r=>r.fin h⟩
end
end
section
def setC(p:i1)(va vf vl vm vn:Va)(a:m6):Array Va:= #[va,I U8 p.fm,vf,I V p.dy,I U8 p.lm,vl,vm,I U8 p.am,I U6 p.sp,O p.we,O p.pe,O p.rt,O p.np,vn,Y a.file,I M a.line,Y a.sec,Y a.key,Y a.val]
def S4:List Ti:=[208,73]
structure y2(w:Wd)(g base:Nat)(p:i1)(ns:List i0)(a:m6)(va vf vl vm vn:Va):Prop where
 b:b9 w g 208 (setC p va vf vl vm vn a)
 o:r6 w base p va vf vl vm
 n:e4 w base 73 g6 vn ns
 hg:base≤g
 hs:base≤w
section
variable {w w':Wd} {g base:Nat} {p:i1} {ns:List i0} {a:m6} {va vf vl vm vn:Va}
theorem r6.tv{S:List Ti}{B:Nat}(b:r6 w base p va vf vl vm)(t:Tv B S w w')(c:S.contains 3=Bf∧S.contains 144=Bf∧S.contains 26=Bf):r6 w' base p va vf vl vm:=⟨t.own b.a c.1,t.own b.f c.2.1,t.own b.l c.2.1,t.own b.m c.2.2⟩
theorem y2.h(h:y2 w g base p ns a va vf vl vm vn)(x:a9 w w'):y2 w' g base p ns a va vf vl vm vn:=⟨h.b.h x,h.o.h x,h.n.h x,h.hg,c8 h.hs x.size⟩
theorem y2.set(b:y2 w g base p ns a va vf vl vm vn){i:Nat}{u:Va}{p':i1}{va' c d vm':Va}(e:(setC p va vf vl vm vn a).setIfInBounds i u=setC p' va' c d vm' vn a)(f:r6 w base p' va' c d vm'):
  y2 (w.setCell ⟨g,i,J⟩ u) g base p' ns a va' c d vm' vn∧Tv base S4 w (w.setCell ⟨g,i,J⟩ u):=by
 have t:=Tv.r b.b b.hg (S:=S4) (by decide) i u;exact⟨⟨by rw[←e];exact b.b.f i u,f.tv t (by decide),b.n.kept (x4 _ g i u) (.inr (b.n.ne b.b (by decide))),b.hg,by have:=b.hs;have:=t.size;omega⟩,t⟩
end
def iR(a:m6)(e:Int)(t:ByteArray):i0:=⟨a.file,a.line,e,j9 t⟩
theorem nK{w:Wd}{g base:Nat}{p:i1}{ns:List i0}{a:m6}{va vf vl vm vn:Va}(aj:y2 w g base p ns a va vf vl vm vn)(ap:ns.length+1≤1000000)(e:Int)(t:ByteArray):
  Ca prog 228 #[K g,I M e,Y t] w fun an w'=>an=X (Tp #[])∧∃ba,y2 w' g base p (ns++[iR a e t]) a va vf vl vm ba∧Tv base S4 w w':=by
 refine(Cw (n:=1)).1 ?_;obtain⟨c,f,sec,key,val⟩:=a;have H:=a6 aj;have v:∀h,GA 73 g6 vn.ownBlock base vn ns [⟨c,f,e,j9 t⟩] w h→b9 h g 208 (setC p va vf vl vm vn ⟨c,f,sec,key,val⟩):=fun h i=>H.b.grown i.g (fun e=>H.n.ne H.b (by decide) e.symm)
 have u:=a6 v;have be:0≤min (t.size:Int) 60:=by omega
 have bf:min (t.size:Int) 60≤t.size:=by omega
 have bg:(min (t.size:Int) 60).toNat=min t.size 60:=by omega
 clear v aj;unfold iR;dsimp only[setC]at*;refine Co func228 rfl trivial ?_ rfl;simp only[ntmps228,uE,l9,a4D];gi_wp2_with fail
 refine s8 (R:=(GA 73 g6 vn.ownBlock base vn ns [⟨c,f,e,j9 t⟩])) (fun _=>trivial) rfl ((.is ?Bc:VR (GA 73 g6 vn.ownBlock base vn ns [⟨c,f,e,j9 t⟩]))::(.is ?Bd:VR (GA 73 g6 vn.ownBlock base vn ns [⟨c,f,e,j9 t⟩]))::(.is ?Be:VR (GA 73 g6 vn.ownBlock base vn ns [⟨c,f,e,j9 t⟩]))::(.is ?Bf:VR (GA 73 g6 vn.ownBlock base vn ns [⟨c,f,e,j9 t⟩]))::(.is vn:VR (GA 73 g6 vn.ownBlock base vn ns [⟨c,f,e,j9 t⟩]))::(.is ?Bg:VR (GA 73 g6 vn.ownBlock base vn ns [⟨c,f,e,j9 t⟩]))::(.is ?Bh:VR (GA 73 g6 vn.ownBlock base vn ns [⟨c,f,e,j9 t⟩]))::(.is ?Bi:VR (GA 73 g6 vn.ownBlock base vn ns [⟨c,f,e,j9 t⟩]))::(.is ?Bj:VR (GA 73 g6 vn.ownBlock base vn ns [⟨c,f,e,j9 t⟩]))::(.is (Y c):VR (GA 73 g6 vn.ownBlock base vn ns [⟨c,f,e,j9 t⟩]))::(.is ?Bk:VR (GA 73 g6 vn.ownBlock base vn ns [⟨c,f,e,j9 t⟩]))::(.is ?Bl:VR (GA 73 g6 vn.ownBlock base vn ns [⟨c,f,e,j9 t⟩]))::(.is ?Bm:VR (GA 73 g6 vn.ownBlock base vn ns [⟨c,f,e,j9 t⟩]))::(.is ?Bn:VR (GA 73 g6 vn.ownBlock base vn ns [⟨c,f,e,j9 t⟩]))::(.is (I M f):VR (GA 73 g6 vn.ownBlock base vn ns [⟨c,f,e,j9 t⟩]))::(.is ?Bo:VR (GA 73 g6 vn.ownBlock base vn ns [⟨c,f,e,j9 t⟩]))::(.is ?Bp:VR (GA 73 g6 vn.ownBlock base vn ns [⟨c,f,e,j9 t⟩]))::(.is ?Bq:VR (GA 73 g6 vn.ownBlock base vn ns [⟨c,f,e,j9 t⟩]))::(.is ?Br:VR (GA 73 g6 vn.ownBlock base vn ns [⟨c,f,e,j9 t⟩]))::(.is ?Bs:VR (GA 73 g6 vn.ownBlock base vn ns [⟨c,f,e,j9 t⟩]))::(.is (Y (j9 t)):VR (GA 73 g6 vn.ownBlock base vn ns [⟨c,f,e,j9 t⟩]))::(.is (.agg #[Y c,I M f,I M e,Y (j9 t)]):VR (GA 73 g6 vn.ownBlock base vn ns [⟨c,f,e,j9 t⟩]))::((D4 #[Y c,I M f,I M e,Y (j9 t)]):VR (GA 73 g6 vn.ownBlock base vn ns [⟨c,f,e,j9 t⟩]))::((D1 w):VR (GA 73 g6 vn.ownBlock base vn ns [⟨c,f,e,j9 t⟩]))::(.is ?Bt:VR (GA 73 g6 vn.ownBlock base vn ns [⟨c,f,e,j9 t⟩]))::(.is ?Bu:VR (GA 73 g6 vn.ownBlock base vn ns [⟨c,f,e,j9 t⟩]))::[]) (by kernel_rfl) ?Bv ?Aa ⟨?Ab,?Ac,?Ad,?Ae,?Af,?Ag,?Ah,?Ai,?Aj,?Ak,?Al,?Am,?An,?Ao,?Ap,?Aq,?Ar,?As,?At,?Au,?Av,?Aw,?Ax,?Ay,?Az,?Ba,trivial⟩ _ rfl rfl ?Bb
 case Aa=>intro x;simp only[e6,Act.put,uL,l9]<;>rfl
 case Ab|Ac|Ad|Ae|Af|Ag|Ah|Ai|Aj|Ak|Al|Am|An|Ao|Ap|Aq|Ar|As|At|Au|Av|Aw|Az|Ba=>
  intro x h i;simp only[e5,g1,uV,D4,D1];repeat(intro d;try simp only[d])
  obtain⟨bb,bj,bk⟩:=(u h i).d3 13 14 15;gi_wp2_with fail
  refine a0e ?_ rfl (fT.refl _);rfl
 case Ax=>
  intro x h i;simp only[e5,g1,uV,D4,D1];intro k;simp only[k];gi_wp2_with fail
  refine a0e ?_ rfl (GA.f ((a9.refl h).alloc _));exact⟨h,rfl,b9.new _ _ _,fun e=>by have:=((i.old H.n).lt e).2;omega⟩
 case Ay=>
  intro x h i;simp only[e5,g1,uV,D4,D1];rintro m⟨ai,l,ak,ar⟩;simp only[m,l];gi_wp2_with(gi_at_builtin;refine o9 rfl _ _ 41 73 rfl lX base vn ns rfl (i.old H.n) ai 1 1 [⟨c,f,e,j9 t⟩] rfl rfl (h9.f ak rfl) ap (c8 H.hs i.g.size) ?_;intro bh bi av aw ax ay az)
  refine a0e ?_ rfl (⟨aw,fun _=>ax,ay⟩);exact⟨av,az.imp id (fun q b ao=>by have:=q b ao;have:=i.g.size;omega)⟩
 case Bb=>
  intro x h i;simp only[l8,e5,g1,uV,D4,D1];rintro y z Q ab m ac ad ae af ag A B C D E F G L N P T k⟨ai,l,ak,ar⟩⟨o,au⟩ W aa;simp only[y,z,Q,ab,m,ac,ad,ae,af,ag,A,B,C,D,E,F,G,L,N,P,T,k,l,W,aa];clear y z Q ab m ac ad ae af ag A B C D E F G L N P T k l W aa;obtain⟨al,aq,am,ah⟩:=o.f;rw[ah]at o au;have j:=u h i;have bc:=j.cell 13;have bd:=j.frozen 13;simp only[ah];gi_wp2_with fail
  go_end0
  have r:Tv base S4 w h:= .ofOwn H.n i.g (a7 _) (by decide);have s:=Tv.r j H.hg (S:=S4) (by decide) 13 (Z al aq am);exact⟨rfl,_,⟨j.f 13 _,(H.o.tv r (by decide)).tv s (by decide),o.kept (x4 _ g 13 _) (.inr (o.ne j (by decide))),H.hg,by have:=H.hs;have:=r.size;have:=s.size;omega⟩,r.trans s⟩
def E7(cur:Bool)(ns:List i0)(a:m6)(val:ByteArray):Bool×List i0:=if val.toList==[]then(Bf,ns)else if(dZ val).2=0 then((dZ val).1,ns)else(cur,ns++[iR a (dZ val).2 val])
theorem nJ{w:Wd}{g base:Nat}{p:i1}{ns:List i0}{a:m6}{va vf vl vm vn:Va}(x:y2 w g base p ns a va vf vl vm vn)(F:ns.length+1≤1000000)(i:Nat)(f:Bool→i1)(cur:Bool)(y:∀b,(setC p va vf vl vm vn a).setIfInBounds i (O b)=setC (f b) va vf vl vm vn a)(hi:(setC p va vf vl vm vn a)[i]? =So (O cur))(A:f cur=p)
  (z:∀b W,r6 W base p va vf vl vm→r6 W base (f b) va vf vl vm) (val:ByteArray):
  Ca prog 235 #[K g,Y val,K (So ⟨g,i,J⟩)] w fun D w'=>D=X (Tp #[])∧∃r,y2 w' g base (f (E7 cur ns a val).1) (E7 cur ns a val).2 a va vf vl vm r∧Tv base S4 w w':=by
 have n:=a6 (IZ val);obtain⟨R,c⟩:∃R,R=E7 cur ns a val:=⟨_,rfl⟩;rw[←c];unfold E7 at c;generalize dZ val=q at*;obtain⟨G,o⟩:=q;dsimp only at c n;obtain⟨u,t,H,B⟩:=J5 (fun b W(k:y2 W g base p ns a va vf vl vm vn)=>k.set (y b) (z b W k.o)) (fun W(k:y2 W g base p ns a va vf vl vm vn)=>show W.cell? ⟨g,i,J⟩=So (O cur)from by rw[k.b.cell];exact hi) x A;clear y hi z x A;go_in;rcases v:val.toList==[]with _|_
 ·rw[v,if_neg (by decide)]at c
  by_cases m:o=0
  ·rw[if_pos m]at c
   have j:=a6 c;clear c;subst m;go_wp2_with fail
   apply(n _).mono;rintro e s⟨rfl,h⟩;have l:=a6 (u G s (H.h h));have C:=t s (H.h h);have E:=(H.h h).b.frozen i;go_wp2_with fail
   go_end0
   exact⟨rfl,_,by rw[j.out];exact l.1,(Tv.f h).trans l.2⟩
  ·rw[if_neg m]at c
   have j:=a6 c;have d:(o !=0)=Bt:=by simp[m]
   clear c m;go_wp2_with fail
   apply(n _).mono;rintro e s⟨rfl,h⟩;go_wp2_with fail
   apply(nK (H.h h) F o val).mono;rintro e L⟨rfl,r,k1,k2⟩;go_wp2_with fail
   exact Bp (Rz rfl _ _ _) rfl ⟨rfl,r,by rw[j.out];dsimp only;rw[B.out];exact k1,(Tv.f h).trans k2⟩
 ·rw[v,if_pos rfl]at c
  obtain⟨j,l⟩:=i6 c (u Bf w H.out);have C:=t w H.out;have E:=H.b.frozen i;clear c;go_wp2_with fail
  exact Bp (Rz rfl _ _ _) rfl ⟨rfl,_,by rw[j.out];exact l.1,l.2⟩
theorem a4V{w:Wd}{g base:Nat}{p:i1}{ns:List i0}{a:m6}{va vf vl vm vn:Va}(c:y2 w g base p ns a va vf vl vm vn)(f:ns.length+1≤1000000)(val:ByteArray):
  Ca prog 170 #[K g,Y val] w fun d w'=>d=X (Tp #[])∧∃i,y2 w' g base {p with we:=(E7 p.we ns a val).1} (E7 p.we ns a val).2 a va vf vl vm i∧Tv base S4 w w':=by
 have H:=a6 (nJ c f 9 (fun b=> {p with we:=b}) p.we (fun _=>rfl) rfl rfl (fun _ _ k=>⟨k.a,k.f,k.l,k.m⟩) val);clear c;go_in;go_wp2_with fail
 apply H.mono;rintro e j⟨rfl,h⟩;go_wp2_with fail
 go_end0
 exact⟨rfl,h⟩
theorem a4X{w:Wd}{g base:Nat}{p:i1}{ns:List i0}{a:m6}{va vf vl vm vn:Va}(c:y2 w g base p ns a va vf vl vm vn)(f:ns.length+1≤1000000)(val:ByteArray):
  Ca prog 171 #[K g,Y val] w fun d w'=>d=X (Tp #[])∧∃i,y2 w' g base {p with pe:=(E7 p.pe ns a val).1} (E7 p.pe ns a val).2 a va vf vl vm i∧Tv base S4 w w':=by
 have H:=a6 (nJ c f 10 (fun b=> {p with pe:=b}) p.pe (fun _=>rfl) rfl rfl (fun _ _ k=>⟨k.a,k.f,k.l,k.m⟩) val);clear c;go_in;go_wp2_with fail
 apply H.mono;rintro e j⟨rfl,h⟩;go_wp2_with fail
 go_end0
 exact⟨rfl,h⟩
theorem a4W{w:Wd}{g base:Nat}{p:i1}{ns:List i0}{a:m6}{va vf vl vm vn:Va}(c:y2 w g base p ns a va vf vl vm vn)(f:ns.length+1≤1000000)(val:ByteArray):
  Ca prog 172 #[K g,Y val] w fun d w'=>d=X (Tp #[])∧∃i,y2 w' g base {p with rt:=(E7 p.rt ns a val).1} (E7 p.rt ns a val).2 a va vf vl vm i∧Tv base S4 w w':=by
 have H:=a6 (nJ c f 11 (fun b=> {p with rt:=b}) p.rt (fun _=>rfl) rfl rfl (fun _ _ k=>⟨k.a,k.f,k.l,k.m⟩) val);clear c;go_in;go_wp2_with fail
 apply H.mono;rintro e j⟨rfl,h⟩;go_wp2_with fail
 go_end0
 exact⟨rfl,h⟩
theorem a4Y{w:Wd}{g base:Nat}{p:i1}{ns:List i0}{a:m6}{va vf vl vm vn:Va}(c:y2 w g base p ns a va vf vl vm vn)(f:ns.length+1≤1000000)(val:ByteArray):
  Ca prog 173 #[K g,Y val] w fun d w'=>d=X (Tp #[])∧∃i,y2 w' g base {p with np:=(E7 p.np ns a val).1} (E7 p.np ns a val).2 a va vf vl vm i∧Tv base S4 w w':=by
 have H:=a6 (nJ c f 12 (fun b=> {p with np:=b}) p.np (fun _=>rfl) rfl rfl (fun _ _ k=>⟨k.a,k.f,k.l,k.m⟩) val);clear c;go_in;go_wp2_with fail
 apply H.mono;rintro e j⟨rfl,h⟩;go_wp2_with fail
 go_end0
 exact⟨rfl,h⟩
end
def B3(a:m6)(σ:List Int×List i0)(w:ByteArray):List Int×List i0:=if(n7 w).2=0 then(withT σ.1 (n7 w).1 Bt,σ.2)else(σ.1,σ.2++[iR a (n7 w).2 w])
def Q9(ar:List Int)(b:List i0)(a:m6)(val:ByteArray):List Int×List i0:=(o6 val).foldl (B3 a) (if(o6 val).length=0 then []else ar,b)
theorem dR{b:Type}(f:List Int×List i0→b→List Int×List i0)(a:∀σ w,(f σ w).1.length≤σ.1.length+1∧(f σ w).2.length≤σ.2.length+1):∀(l:List b)(σ:List Int×List i0),(l.foldl f σ).1.length≤σ.1.length+l.length∧(l.foldl f σ).2.length≤σ.2.length+l.length
 |[],σ=>⟨a7 _,a7 _⟩
 |x::l,σ=>by
  have c:=a σ x;have d:=dR f a l (f σ x);simp only[List.foldl_cons,a3W];omega
theorem mR(a:m6)(σ:List Int×List i0)(w:ByteArray):(B3 a σ w).1.length≤σ.1.length+1∧(B3 a σ w).2.length≤σ.2.length+1:=by
 have:=sQ σ.1 (n7 w).1 Bt;unfold B3;split
 ·exact⟨this,Nat.le_succ _⟩
 ·exact⟨Nat.le_succ _,by simp⟩
theorem MU{w:Wd}{g base:Nat}{p:i1}{f:List i0}{a:m6}{ca N P Q an:Va}(ax:y2 w g base p f a ca N P Q an)(val:ByteArray)(cp:val.size≤50000)(cn:f.length+val.size+2≤1000000)(co:p.ar.length+val.size+2≤100000):
  Ca prog 167 #[K g,Y val] w fun br bc=>br=X (Tp #[])∧∃va' E,y2 bc g base {p with ar:=(Q9 p.ar f a val).1} (Q9 p.ar f a val).2 a va' N P Q E∧Tv base S4 w bc:=by
 obtain⟨bm,bi⟩:=i6 (R9 val (by omega)) (fun s W=>QQ s W);have cq:=C9 val;obtain⟨R,C⟩:∃R,R=Q9 p.ar f a val:=⟨_,rfl⟩;rw[←C];unfold Q9 at C;generalize o6 val=b at*;obtain⟨ar,fm,fc,dy,lm,lc,fa,am,sp,we,pe,rt,np⟩:=p;dsimp only at*;obtain⟨h,L⟩:∃h,h=if b.length=0 then []else ar:=⟨_,rfl⟩
 have ck:h.length≤ar.length:=by rw[L];split<;>simp
 rw[←L]at C;obtain⟨bj,aa,H,bh,bk⟩:=gP C L ax (fun k=>dR (B3 a) (mR a) (b.take k) (h,f)) (fun k(ac:k<b.length)=>show(b.take (k+1)).foldl (B3 a) (h,f)=B3 a ((b.take k).foldl (B3 a) (h,f)) b[k] by rw[a4a ac,List.foldl_append];rfl);clear C L ax;go_in;go_wp2_with fail
 apply(bm _).mono;rintro e cb⟨v,rfl,ae,ba⟩;obtain⟨cc,c,rfl⟩:=ae.b;obtain⟨aq,j⟩:=i6 ae (H.h ba);clear ae
 go_upto_if 13 with fail
 go_cut [] (fun be=>∃al,y2 be g base ⟨h,fm,fc,dy,lm,lc,fa,am,sp,we,pe,rt,np⟩ f a al N P Q an∧Tv base S4 cb be)
 case first=>
  have bp:=j.b.cell 0;have ci:=j.b.frozen 0;by_cases o:b.length=0
  ·have aw:((b.length:Int)==0)=Bt:=by simp[o]
   have y:=aa.out;rw[if_pos o]at y;clear o;have F:=a6 (j.set (i:=0) (u:=Z J 0 0) (p':=⟨h,fm,fc,dy,lm,lc,fa,am,sp,we,pe,rt,np⟩) (va':=Z J 0 0) rfl ⟨by rw[y];exact e4.nil _ _ _ _,j.o.f,j.o.l,j.o.m⟩);go_wp2_with fail
   go_meet
   exact⟨_,F.out⟩
  ·have aw:((b.length:Int)==0)=Bf:=by simpa using o
   have y:=aa.out;rw[if_neg o]at y;clear o;go_wp2_with fail
   go_meet
   exact⟨_,by rw[y];exact j.out,.refl _ _ _⟩
 case rest=>
  obtain⟨al,ay,ak⟩:=hcut;obtain⟨bg,bl,bu⟩:=p7 ay ((Tv.f (B:=base) (S:=S4) ba).trans ak) (ak.own aq (by decide));clear ay ak j aq H aa;go_wp2_with fail
  go_loopg [20] b.length (fun bs bz mV=>∃(k:Nat)(va' E:Va),k≤b.length∧b.length-k≤bs∧bz=I M k∧y2 mV g base ⟨((b.take k).foldl (B3 a) (h,f)).1,fm,fc,dy,lm,lc,fa,am,sp,we,pe,rt,np⟩ ((b.take k).foldl (B3 a) (h,f)).2 a va' N P Q E∧Tv base S4 wc mV)
  case atStart=>exact⟨0,al,an,i5 _,by omega,rfl,bg.out,.refl _ _ _⟩
  case round=>
   obtain⟨k,va',E,ac,cm,rfl,A,G⟩:=hrel;by_cases az:k<b.length
   ·have ad:=G.own bu (by decide)
    obtain⟨bt,ch,ce,rfl,-,-,-,-,-,-,-⟩:=ad.blk (by omega);have aw:wr.cell? ⟨bt,k,J⟩=So (Y b[k]):=by
     have:=ad.i.1.elt0 az (r:=0) rfl;rwa[show k*F9.k+0=k from Nat.mul_one k]at this
    have n:=bk k az;have bv:=bh k;rw[a4C,Nat.min_eq_left ac]at bv;generalize b[k]=l at*;generalize(b.take k).foldl (B3 a) (h,f)=σ at*;obtain⟨x,ag⟩:=σ;dsimp only at*;rw[show B3 a (x,ag) l=if(n7 l).2=0 then(withT x (n7 l).1 Bt,ag)else(x,ag++[iR a (n7 l).2 l])from rfl]at n;have au:=a6 (bi l);generalize n7 l=q at*;obtain⟨ai,aj⟩:=q;dsimp only at*;have ap:=a6 A;have cr:(k:Int)<b.length:=by omega
    have av:=a6 G;clear A ad G;by_cases D:aj=0
    ·rw[if_pos D]at n
     have ab:=a6 n;subst D;clear n;go_wp2_with fail
     apply(au _).mono;rintro e T⟨rfl,t⟩;have z:=ap.h t;have bp:T.cell? ⟨g,0,J⟩=So va':=z.b.cell 0;have bn:=a6 (show Ca prog 229 #[va',I M ai,O Bt] T _ from TL va' x ai Bt T (by omega) z.o.a.rd);obtain⟨bf,bx,bq,rfl⟩:=z.o.a.f;have ao:=a6 z;clear z;go_wp2_with fail
     apply bn.mono;rintro e bd⟨bb,rfl,ah,af⟩;have m:=ao.h af;have cj:=m.b.frozen 0;have cf:bd.cell? ⟨g,0,J⟩=So (Z bf bx bq):=m.b.cell 0;obtain⟨F,bo⟩:=i6 (m.set (i:=0) (u:=bb) (p':=⟨withT x ai Bt,fm,fc,dy,lm,lc,fa,am,sp,we,pe,rt,np⟩) (va':=bb) rfl ⟨ah.mono (by have:=ao.hs;omega),m.o.f,m.o.l,m.o.m⟩) (t.trans af);obtain⟨cd,cs,cg,rfl⟩:=ah.f;clear m ah t af;go_wp2_with fail
     go_roundg (b.length-(k+1))
     case measure=>omega
     case rel=>exact⟨k+1,_,_,by omega,by omega,by go_num,by rw[ab.out];exact F.1,(av.h bo.out).trans F.2⟩
    ·rw[if_neg D]at n
     have ab:=a6 n;have d:(aj !=0)=Bt:=by simp[D]
     clear n D;go_wp2_with fail
     apply(au _).mono;rintro e T⟨rfl,t⟩;go_wp2_with fail
     apply(nK (ap.h t) (by omega) aj l).mono;rintro e bd⟨rfl,ct,k1,k2⟩;go_wp2_with fail
     go_roundg (b.length-(k+1))
     case measure=>omega
     case rel=>exact⟨k+1,_,_,by omega,by omega,by go_num,by rw[ab.out];exact k1,(av.h t).trans k2⟩
   ·obtain rfl:k=b.length:=by omega
    rw[List.take_length]at A;have bw:=bj.out;rw[←bw]at A;go_wp2_with fail
    go_end0
    exact⟨rfl,va',E,A,bl.trans G⟩
def isNone(a:List ByteArray):Bool:=Dc (a.length=1)&&(a.getD 0 ⟨#[]⟩).toList==[110,111,110,101]
def gX(a:m6)(inn:Bool)(σ:List Int×List i0)(w:ByteArray):List Int×List i0:=if(a03 j0 w 180).2=0 then(withT σ.1 (a03 j0 w 180).1 inn,σ.2)else(σ.1,σ.2++[iR a (a03 j0 w 180).2 w])
def AX(am:Int)(a:Bool):Int:=if am=0 then(if a then 2 else 1)else am
def cI(am:Int)(fa:List Int)(b:List i0)(a:m6)(val:ByteArray):Int×List Int×List i0:=
 if(o6 val).length=0 then(0,[],b)else if isNone (o6 val)then(1,[],b)
 else(AX am (l6 val).2,(o6 (l6 val).1).foldl (gX a ((l6 val).2==(AX am (l6 val).2==2))) (fa,b))
theorem CQ(a:m6)(inn:Bool)(σ:List Int×List i0)(w:ByteArray):(gX a inn σ w).1.length≤σ.1.length+1∧(gX a inn σ w).2.length≤σ.2.length+1:=by
 have:=sQ σ.1 (a03 j0 w 180).1 inn;unfold gX;split
 ·exact⟨this,Nat.le_succ _⟩
 ·exact⟨Nat.le_succ _,by simp⟩
theorem a0D{w:Wd}{g base:Nat}{p:i1}{h:List i0}{a:m6}{ac ad ae aj ak:Va}(ah:y2 w g base p h a ac ad ae aj ak)(val:ByteArray)(et:val.size≤50000)(ep:h.length+val.size+2≤1000000)(er:p.fa.length+val.size+2≤100000):
  Ca prog 168 #[K g,Y val] w fun dr da=>dr=X (Tp #[])∧∃vm' al,y2 da g base {p with am:=(cI p.am p.fa h a val).1,fa:=(cI p.am p.fa h a val).2.1} (cI p.am p.fa h a val).2.2 a ac ad ae vm' al∧Tv base S4 w da:=by
 obtain⟨dj,dk⟩:=i6 (kB val) (R9 val (by omega));have es:=H7 val;have dl:=a6 (R9 (l6 val).1 (by omega));have eu:=C9 (l6 val).1;have dg:=a6 (fun s W=>UU s W);obtain⟨R,F⟩:∃R,R=cI p.am p.fa h a val:=⟨_,rfl⟩;rw[←F];unfold cI at F;generalize o6 val=b at*;generalize l6 val=dn at*;obtain⟨dp,bm⟩:=dn;dsimp only at*;generalize o6 dp=f at*;obtain⟨ar,fm,fc,dy,lm,lc,fa,am,sp,we,pe,rt,np⟩:=p;dsimp only at*;have H:=a6 ah;clear ah;have bo:∀(W:Wd)(m:Int),y2 W g base ⟨ar,fm,fc,dy,lm,lc,fa,am,sp,we,pe,rt,np⟩ h a ac ad ae aj ak→y2 ((W.setCell ⟨g,6,J⟩ M6).setCell ⟨g,7,J⟩ (I U8 m)) g base ⟨ar,fm,fc,dy,lm,lc,[],m,sp,we,pe,rt,np⟩ h a ac ad ae M6 ak∧Tv base S4 W ((W.setCell ⟨g,6,J⟩ M6).setCell ⟨g,7,J⟩ (I U8 m)):=fun W m k=>by
  obtain⟨k1,ec⟩:=k.set (i:=6) (u:=M6) (p':=⟨ar,fm,fc,dy,lm,lc,[],am,sp,we,pe,rt,np⟩) (vm':=M6) rfl ⟨k.o.a,k.o.f,k.o.l,e4.nil _ _ _ _⟩;obtain⟨k2,ed⟩:=k1.set (i:=7) (u:=I U8 m) (p':=⟨ar,fm,fc,dy,lm,lc,[],m,sp,we,pe,rt,np⟩) (vm':=M6) rfl ⟨k1.o.a,k1.o.f,k1.o.l,k1.o.m⟩;exact⟨k2,ec.trans ed⟩
 have br:=a6 bo;clear bo;go_in;go_wp2_with fail
 apply(dj _).mono;rintro e fb⟨rfl,cu⟩;go_wp2_with fail
 apply(dk _).mono;rintro e an⟨v,rfl,aa,cv⟩;obtain⟨l,ao⟩:=i6 (H.h (cu.trans cv)) (Tv.f (B:=base) (S:=S4) (cu.trans cv));obtain⟨eg,c,rfl⟩:=aa.b;have ds:=l.b.frozen 6;have cq:=l.b.frozen 7;have dq:an.cell? ⟨g,6,J⟩=So aj:=l.b.cell 6;have bx:an.cell? ⟨g,7,J⟩=So (I U8 am):=l.b.cell 7;by_cases o:b.length=0
 ·have ag:((b.length:Int)==0)=Bt:=by simp[o]
  rw[if_pos o]at F;obtain⟨t,A⟩:=i6 F (br an 0 l.out);clear o F;go_wp2_with fail
  exact Bp (Rz rfl _ _ _) rfl ⟨rfl,_,_,by rw[t.out];exact A.1,ao.trans A.2⟩
 ·have ag:((b.length:Int)==0)=Bf:=by simpa using o
  rw[if_neg o]at F;obtain⟨dv,en,ej,rfl,-,-,-,-,-,-,-⟩:=aa.blk (by omega);have dz:an.cell? ⟨dv,0,J⟩=So (Y (b.getD 0 ⟨#[]⟩)):=by
   have:=aa.i.1.elt0 (j:=0) (by omega) (r:=0) rfl;rw[show b.getD 0 ⟨#[]⟩=b[0]'(by omega) by simp[a8,show 0<b.length by omega]];simpa using this
  have cs:isNone b=(Dc (b.length=1)&&(b.getD 0 ⟨#[]⟩).toList==[110,111,110,101]):=rfl;have ew:(0:Int)<b.length:=by omega
  generalize b.getD 0 ⟨#[]⟩=ex at*;clear o aa;have af:=a6 cs;generalize isNone b=cy at*;have t:=a6 F;have cn:Dc (b.length=1)=((b.length:Int)==1):=by
   by_cases ah:b.length=1
   ·simp[ah]
   ·have:¬(b.length:Int)=1:=by omega
    rw[decide_eq_false ah,beq_eq_false_iff_ne.2 this]
  have bq:=a6 cn;clear cs F cn
  go_upto_region 4 with fail
  go_cut [30] (fun ea bb=>ea=O cy∧bb=an)
  case first=>
   have hi:=af.out;rw[bq.out]at hi;rcases co:(b.length:Int)==1 with _|_
   ·rw[co]at hi
    go_wp2_with fail
    go_meet
    exact⟨by rw[hi];rfl,rfl⟩
   ·rw[co]at hi
    go_wp2_with fail
    go_meet
    exact⟨by rw[hi];rfl,rfl⟩
  case rest=>
   obtain⟨rfl,rfl⟩:=hcut;have z:=t.out;clear t af bq;rcases cy with _|_
   ·rw[if_neg (by decide)]at z
    obtain⟨D,be⟩:∃D,D=AX am bm:=⟨_,rfl⟩;rw[←be]at z;obtain⟨t,dc⟩:=i6 z be;clear z be
    go_upto_if 53 with fail
    go_cut [] (fun bb=>y2 bb g base ⟨ar,fm,fc,dy,lm,lc,fa,D,sp,we,pe,rt,np⟩ h a ac ad ae aj ak∧Tv base S4 wc bb)
    case first=>
     have C:=fun(m:Int)=>l.set (i:=7) (u:=I U8 m) (p':=⟨ar,fm,fc,dy,lm,lc,fa,m,sp,we,pe,rt,np⟩) rfl ⟨l.o.a,l.o.f,l.o.l,l.o.m⟩
     have E:=dc.out;unfold AX at E;by_cases o:am=0
     ·have d:(am==0)=Bt:=by simp[o]
      rw[if_pos o]at E;obtain⟨bv,bw⟩:=i6 (C 1) ((C 1).1.set (i:=7) (u:=I U8 2) (p':=⟨ar,fm,fc,dy,lm,lc,fa,2,sp,we,pe,rt,np⟩) rfl ⟨(C 1).1.o.a,(C 1).1.o.f,(C 1).1.o.l,(C 1).1.o.m⟩);clear C o;rcases bm with _|_
      ·rw[if_neg (by decide)]at E
       go_wp2_with fail
       go_meet
       rw[E];exact bv.out
      ·rw[if_pos rfl]at E
       go_wp2_with fail
       go_meet
       rw[E];exact⟨bw.1,bv.2.trans bw.2⟩
     ·have d:(am==0)=Bf:=by simpa using o
      rw[if_neg o]at E;clear o C;go_wp2_with fail
      go_meet
      rw[E];exact⟨l.out,.refl _ _ _⟩
    case rest=>
     obtain⟨cr,cz⟩:=hcut;obtain⟨bp,bt⟩:=i6 cr (ao.trans cz);clear cr cz l ao H dq bx ds cq dz;go_wp2_with fail
     apply(dl _).mono;rintro e ee⟨ey,rfl,bh,bi⟩;obtain⟨eh,el,rfl⟩:=bh.b;obtain⟨df,db,di⟩:=p7 bh (bp.h bi) (bt.h bi);obtain⟨inn,bd⟩:∃inn,inn=(bm==(D==2)):=⟨_,rfl⟩;rw[←bd]at t;obtain⟨dd,de,dh⟩:=p7 bd (fun k=>dR (gX a inn) (CQ a inn) (f.take k) (fa,h)) (fun k(bf:k<f.length)=>show(f.take (k+1)).foldl (gX a inn) (fa,h)=gX a inn ((f.take k).foldl (gX a inn) (fa,h)) f[k] by rw[a4a bf,List.foldl_append];rfl);clear bh bi bp bt bd;go_wp2_with fail
     go_loopg [66] f.length (fun dt eb mV=>∃(k:Nat)(vm' al:Va),k≤f.length∧f.length-k≤dt∧eb=I M k∧y2 mV g base ⟨ar,fm,fc,dy,lm,lc,((f.take k).foldl (gX a inn) (fa,h)).1,D,sp,we,pe,rt,np⟩ ((f.take k).foldl (gX a inn) (fa,h)).2 a ac ad ae vm' al∧Tv base S4 ee mV)
     case atStart=>exact⟨0,aj,ak,i5 _,by omega,rfl,db.out,.refl _ _ _⟩
     case round=>
      obtain⟨k,vm',al,bf,eo,rfl,ay,az⟩:=hrel;by_cases ct:k<f.length
      ·have bg:=az.own df (by decide)
       obtain⟨du,em,ei,rfl,-,-,-,-,-,-,-⟩:=bg.blk (by omega);have ag:wr.cell? ⟨du,k,J⟩=So (Y f[k]):=by
        have:=bg.i.1.elt0 ct (r:=0) rfl;rwa[show k*F9.k+0=k from Nat.mul_one k]at this
       have N:=dh k ct;have dw:=de k;rw[a4C,Nat.min_eq_left bf]at dw;generalize f[k]=G at*;generalize(f.take k).foldl (gX a inn) (fa,h)=σ at*;obtain⟨Q,bj⟩:=σ;dsimp only at*;rw[show gX a inn (Q,bj) G=if(a03 j0 G 180).2=0 then(withT Q (a03 j0 G 180).1 inn,bj)else(Q,bj++[iR a (a03 j0 G 180).2 G])from rfl]at N;have bs:=a6 (dg G);generalize a03 j0 G 180=q at*;obtain⟨bk,bl⟩:=q;dsimp only at*;have af:=a6 ay;have ev:(k:Int)<f.length:=by omega
       have bu:=a6 az;clear ay bg az;by_cases ai:bl=0
       ·rw[if_pos ai]at N
        have bc:=a6 N;subst ai;clear N;go_wp2_with fail
        apply(bs _).mono;rintro e ef⟨rfl,ab⟩;have P:=a6 (af.h ab);obtain⟨Av,ba,ap,rfl⟩:=P.o.m.f;have dm:=a6 ab;clear ab;go_wp2_with fail
        refine wpIn_wide.1 (g4 (n:=1) (fun _=>trivial) rfl [.is ?Av,.is ?Aw,.is ?Ax,.is ?Ay,.is ?Az,.is (Z Av ba ap),.is ?Ba,.is ?Bb,.is ?Bc,.is ?Bd,.is ?Be,.is ?Bf,.is (I U8 D),.is ?Bg,.is (O inn),(VP.ownR base 26 N4 (withT Q bk inn)),.is ?Bh,.is ?Bi,.is ?Bj] (by kernel_rfl) ?Bk ?Aa ⟨?Ab,?Ac,?Ad,?Ae,?Af,?Ag,?Ah,?Ai,?Aj,?Ak,?Al,?Am,?An,?Ao,?Ap,?Aq,?Ar,?As,?At,trivial⟩ _ rfl rfl ?Au)
        case Aa=>intro x;simp only[e6,Act.put,uL,l9]<;>rfl
        case Ab|Ac|Ad|Ae|Af|Ag|Ah|Ai|Aj|Ak|Al|Am|An|Ao|Ar|As|At=>
         intro x L y;simp only[e5,g1,uV];repeat(intro d;try simp only[d])
         have ek:L.cell? ⟨g,6,J⟩=So (Z Av ba ap):=(P.h y).b.cell 6;have ff:L.cell? ⟨g,7,J⟩=So (I U8 D):=(P.h y).b.cell 7;gi_wp2_with fail
         refine a0e ?_ rfl (a9.refl _);rfl
        case Ap=>
         intro x L y;simp only[e5,g1,uV];intro ax aq;simp only[ax,aq];rw[dd.out];gi_wp2_with fail
         refine a0e ?_ rfl (a9.refl _);rfl
        case Aq=>
         intro x L y;simp only[e5,g1,uV];intro av aw au;simp only[av,aw,au];gi_wp2_with(refine⟨trivial,?_⟩;gi_at_call 232;apply((Cw (n:=0)).2 (TK (Z Av ba ap) Q bk inn L (by omega) (P.h y).o.m.rd)).mono;rintro e fe⟨v,rfl,aa,dx⟩)
         refine a0e ?_ rfl (dx);exact aa.mono (by have:=P.hs;have:=y.size;omega)
        case Au=>
         intro x L y;simp only[l8,e5,j8,uV];rintro ag ca ch ci cj av aw ax ck cm cb cc cd aq au cw ce cf cg;simp only[ag,ca,ch,ci,cj,av,aw,ax,ck,cm,cb,cc,cd,aq,au,ce,cf,cg];clear ag ca ch ci cj av aw ax ck cm cb cc cd aq au ce cf cg;have T:=P.h y;have cq:=T.b.frozen 6;have bx:L.cell? ⟨g,6,J⟩=So (Z Av ba ap):=T.b.cell 6;obtain⟨bn,cx,bz,cp⟩:=cw.f;have A:=a6 (T.set (i:=6) (u:=Z bn cx bz) (p':=⟨ar,fm,fc,dy,lm,lc,withT Q bk inn,D,sp,we,pe,rt,np⟩) (vm':=Z bn cx bz) rfl ⟨T.o.a,T.o.f,T.o.l,by rw[←cp];exact cw⟩);simp only[cp];gi_wp2_with fail
         go_wp2_with fail
         go_roundg (f.length-(k+1))
         case measure=>omega
         case rel=>exact⟨k+1,_,_,by omega,by omega,by go_num,by rw[bc.out];exact A.1,((bu.h dm.out).h y).trans A.2⟩
       ·rw[if_neg ai]at N
        have bc:=a6 N;have d:(bl !=0)=Bt:=by simp[ai]
        clear N ai;go_wp2_with fail
        apply(bs _).mono;rintro e ef⟨rfl,ab⟩;go_wp2_with fail
        apply(nK (af.h ab) (by omega) bl G).mono;rintro e fd⟨rfl,ez,k1,k2⟩;go_wp2_with fail
        go_roundg (f.length-(k+1))
        case measure=>omega
        case rel=>exact⟨k+1,_,_,by omega,by omega,by go_num,by rw[bc.out];exact k1,(bu.h ab).trans k2⟩
      ·obtain rfl:k=f.length:=by omega
       rw[List.take_length]at ay;have z:=t.out;go_wp2_with fail
       go_end0
       exact⟨rfl,vm',al,by rw[z];exact ay,di.trans az⟩
   ·rw[if_pos rfl]at z
    obtain⟨t,A⟩:=i6 z (br _ 1 l.out);clear z;go_wp2_with fail
    exact Bp (Rz rfl _ _ _) rfl ⟨rfl,_,_,by rw[t.out];exact A.1,ao.trans A.2⟩
structure NsS where
 all:Int
 ok:Bool
 ns:List i0
def gA(a:m6)(σ:NsS)(w:ByteArray):NsS:=if(a03 i7 w 181).2=0 then⟨bits .or U6 σ.all (a03 i7 w 181).1,σ.ok,σ.ns⟩else⟨bits .or U6 σ.all (a03 i7 w 181).1,Bf,σ.ns++[iR a (a03 i7 w 181).2 w]⟩
def a58(sp:Int)(a:Bool)(σ:NsS):Int:=if σ.ok then(if a then σ.all else bits .andNot U6 C0 σ.all)else sp
def lP(sp:Int)(b:List i0)(a:m6)(val:ByteArray):Int×List i0:=
 if(o6 val).length=0 then(0,b)else if(dZ val).2=0 then(if(dZ val).1 then C0 else 0,b)
 else(a58 sp (l6 val).2 ((o6 (l6 val).1).foldl (gA a) ⟨0,Bt,b⟩),((o6 (l6 val).1).foldl (gA a) ⟨0,Bt,b⟩).ns)
theorem oW(a:m6):∀(l:List ByteArray)(σ:NsS),(l.foldl (gA a) σ).ns.length≤σ.ns.length+l.length
 |[],σ=>a7 _
 |x::l,σ=>by
  have b:(gA a σ x).ns.length≤σ.ns.length+1:=by
   unfold gA;split
   ·exact Nat.le_succ _
   ·simp
  have c:=oW a l (gA a σ x);simp only[List.foldl_cons,a3W];omega
theorem a0C{w:Wd}{g base:Nat}{p:i1}{f:List i0}{a:m6}{ag ah ai aj bo:Va}(bl:y2 w g base p f a ag ah ai aj bo)(val:ByteArray)(de:val.size≤50000)(dc:f.length+val.size+2≤1000000):
  Ca prog 169 #[K g,Y val] w fun cc bp=>cc=X (Tp #[])∧∃A,y2 bp g base {p with sp:=(lP p.sp f a val).1} (lP p.sp f a val).2 a ag ah ai aj A∧Tv base S4 w bp:=by
 obtain⟨bt,ba,az,bu⟩:=J5 (kB val) (IZ val) (fun W=>AT W) (R9 val (by omega));have dd:=H7 val;have bv:=a6 (R9 (l6 val).1 (by omega));have df:=C9 (l6 val).1;have bs:=a6 (fun s W=>a02 s W);obtain⟨R,h⟩:∃R,R=lP p.sp f a val:=⟨_,rfl⟩;rw[←h];unfold lP at h;generalize o6 val=aw at*;generalize l6 val=bz at*;generalize dZ val=B at*;obtain⟨ca,cn⟩:=bz;obtain⟨cr,bi⟩:=B;dsimp only at*;generalize o6 ca=b at*;obtain⟨ar,fm,fc,dy,lm,lc,fa,am,sp,we,pe,rt,np⟩:=p;dsimp only at*;obtain⟨H,G⟩:=i6 bl (fun(W:Wd)(x:Int)(ci:List i0)(co:Va)(k:y2 W g base ⟨ar,fm,fc,dy,lm,lc,fa,am,x,we,pe,rt,np⟩ ci a ag ah ai aj co)(j:Int)=>k.set (i:=8) (u:=I U6 j) (p':=⟨ar,fm,fc,dy,lm,lc,fa,am,j,we,pe,rt,np⟩) rfl ⟨k.o.a,k.o.f,k.o.l,k.o.m⟩);clear bl;go_in;go_wp2_with fail
 apply(bu _).mono;rintro e cp⟨v,rfl,bm,aq⟩;obtain⟨C,Q⟩:=i6 (H.h aq) (Tv.f (B:=base) (S:=S4) aq);obtain⟨cs,c,rfl⟩:=bm.b;clear bm aq;have bj:cp.cell? ⟨g,8,J⟩=So (I U6 sp):=C.b.cell 8;have f8:=C.b.frozen 8;by_cases E:aw.length=0
 ·have bk:((aw.length:Int)==0)=Bt:=by simp[E]
  rw[if_pos E]at h;obtain⟨n,l⟩:=i6 h (G _ _ _ _ C 0);clear E h;go_wp2_with fail
  exact Bp (Rz rfl _ _ _) rfl ⟨rfl,_,by rw[n.out];exact l.1,Q.trans l.2⟩
 ·have bk:((aw.length:Int)==0)=Bf:=by simpa using E
  rw[if_neg E]at h;clear E;by_cases N:bi=0
  ·rw[if_pos N]at h
   have n:=a6 h;subst N;clear h;go_wp2_with fail
   apply(ba _).mono;rintro e bq⟨rfl,y⟩;have aa:=C.h y;have cx:bq.cell? ⟨g,8,J⟩=So (I U6 sp):=aa.b.cell 8;have db:=aa.b.frozen 8;obtain⟨T,bh⟩:=i6 (G _ _ _ _ aa 0) (Q.h y);clear aa y bj f8;rcases cr with _|_
   ·go_wp2_with fail
    exact Bp (Rz rfl _ _ _) rfl ⟨rfl,_,by rw[n.out];exact T.1,bh.trans T.2⟩
   ·go_wp2_with fail
    apply(az _).mono;rintro e br⟨rfl,z⟩;have ab:=T.1.h z;have cb:br.cell? ⟨g,8,J⟩=So (I U6 0):=ab.b.cell 8;have cd:=ab.b.frozen 8;obtain⟨l,bw⟩:=i6 (G _ _ _ _ ab C0) ((bh.trans T.2).h z);clear ab z;go_wp2_with fail
    exact Bp (Rz rfl _ _ _) rfl ⟨rfl,_,by rw[n.out];exact l.1,bw.trans l.2⟩
  ·rw[if_neg N]at h
   have cz:(bi==0)=Bf:=by simpa using N
   have n:=a6 h;clear h N;go_wp2_with fail
   apply(ba _).mono;rintro e bq⟨rfl,y⟩;go_wp2_with fail
   apply(bt _).mono;rintro e br⟨rfl,z⟩;go_wp2_with fail
   apply(bv _).mono;rintro e cq⟨di,rfl,ap,au⟩;obtain⟨ct,cv,rfl⟩:=ap.b;obtain⟨bc,ay,bg,bb,be⟩:=gP ap (C.h ((y.trans z).trans au)) (Q.h ((y.trans z).trans au)) (fun k=>oW a (b.take k) ⟨0,Bt,f⟩) (fun k(ad:k<b.length)=>show(b.take (k+1)).foldl (gA a) ⟨0,Bt,f⟩=gA a ((b.take k).foldl (gA a) ⟨0,Bt,f⟩) b[k] by rw[a4a ad,List.foldl_append];rfl);clear ap y z au bj f8 C Q;go_wp2_with fail
   go_loopg [8,9,47] b.length (fun ce ck cm cj mV=>∃(k:Nat)(A:Va),k≤b.length∧b.length-k≤ce∧cj=I M k∧ck=I U6 ((b.take k).foldl (gA a) ⟨0,Bt,f⟩).all∧cm=O ((b.take k).foldl (gA a) ⟨0,Bt,f⟩).ok∧y2 mV g base ⟨ar,fm,fc,dy,lm,lc,fa,am,sp,we,pe,rt,np⟩ ((b.take k).foldl (gA a) ⟨0,Bt,f⟩).ns a ag ah ai aj A∧Tv base S4 cq mV)
   case atStart=>exact⟨0,bo,i5 _,by omega,rfl,rfl,rfl,ay.out,.refl _ _ _⟩
   case round=>
    obtain⟨k,A,ad,cg,rfl,rfl,rfl,F,L⟩:=hrel;by_cases an:k<b.length
    ·have ao:=L.own bc (by decide)
     obtain⟨cf,cy,cu,rfl,-,-,-,-,-,-,-⟩:=ao.blk (by omega);have bk:wr.cell? ⟨cf,k,J⟩=So (Y b[k]):=by
      have:=ao.i.1.elt0 an (r:=0) rfl;rwa[show k*F9.k+0=k from Nat.mul_one k]at this
     have t:=be k an;have ch:=bb k;rw[a4C,Nat.min_eq_left ad]at ch;generalize b[k]=j at*;generalize(b.take k).foldl (gA a) ⟨0,Bt,f⟩=σ at*;obtain⟨all,af,ae⟩:=σ;dsimp only at*;rw[show gA a ⟨all,af,ae⟩ j=if(a03 i7 j 181).2=0 then⟨bits .or U6 all (a03 i7 j 181).1,af,ae⟩else⟨bits .or U6 all (a03 i7 j 181).1,Bf,ae++[iR a (a03 i7 j 181).2 j]⟩from rfl]at t;have bd:=a6 (bs j);generalize a03 i7 j 181=q at*;obtain⟨dh,av⟩:=q;dsimp only at*;have D:=a6 F;have dg:(k:Int)<b.length:=by omega
     have bf:=a6 L;clear F ao L;by_cases P:av=0
     ·rw[if_pos P]at t
      have o:=a6 t;subst P;clear t;go_wp2_with fail
      apply(bd _).mono;rintro e ax⟨rfl,m⟩;go_wp2_with fail
      go_roundg (b.length-(k+1))
      case measure=>omega
      case rel=>exact⟨k+1,_,by omega,by omega,by go_num,by rw[o.out],by rw[o.out],by rw[o.out];exact D.h m,bf.h m⟩
     ·rw[if_neg P]at t
      have o:=a6 t;have d:(av !=0)=Bt:=by simp[P]
      clear t P;go_wp2_with fail
      apply(bd _).mono;rintro e ax⟨rfl,m⟩;go_wp2_with fail
      apply(nK (D.h m) (by omega) av j).mono;rintro e dk⟨rfl,dj,k1,k2⟩;go_wp2_with fail
      go_roundg (b.length-(k+1))
      case measure=>omega
      case rel=>exact⟨k+1,_,by omega,by omega,by go_num,by rw[o.out],by rw[o.out],by rw[o.out];exact k1,(bf.h m).trans k2⟩
    ·obtain rfl:k=b.length:=by omega
     rw[List.take_length]at*;have bn:=n.out;generalize b.foldl (gA a) ⟨0,Bt,f⟩=σ at*;obtain⟨all,af,ae⟩:=σ;dsimp only at*;have cb:wr.cell? ⟨g,8,J⟩=So (I U6 sp):=F.b.cell 8;have cd:=F.b.frozen 8;obtain⟨ak,D,al⟩:=p7 bn F (bg.trans L);clear bn F L bb be n bc ay bg an cg ad;rcases af with _|_
     ·go_wp2_with fail
      go_end0
      exact⟨rfl,A,by rw[ak.out];exact D.out,al.out⟩
     ·rcases cn with _|_
      ·go_wp2_with fail
       apply(az _).mono;rintro e ax⟨rfl,m⟩;have ac:=D.h m;have cw:ax.cell? ⟨g,8,J⟩=So (I U6 sp):=ac.b.cell 8;have da:=ac.b.frozen 8;obtain⟨l,bx⟩:=i6 (G _ _ _ _ ac (bits .andNot U6 C0 all)) (al.h m);clear ac m;go_wp2_with fail
       go_end0
       exact⟨rfl,A,by rw[ak.out];exact l.1,bx.trans l.2⟩
      ·have l:=a6 (G _ _ _ _ D all)
       go_wp2_with fail
       go_end0
       exact⟨rfl,A,by rw[ak.out];exact l.1,al.trans l.2⟩
def WI:ByteArray:=⟨#[83,121,115,116,101,109,67,97,108,108,65,114,99,104,105,116,101,99,116,117,114,101,115]⟩
def WP:ByteArray:=⟨#[82,101,115,116,114,105,99,116,65,100,100,114,101,115,115,70,97,109,105,108,105,101,115]⟩
def WO:ByteArray:=⟨#[82,101,115,116,114,105,99,116,78,97,109,101,115,112,97,99,101,115]⟩
def WR:ByteArray:=⟨#[77,101,109,111,114,121,68,101,110,121,87,114,105,116,101,69,120,101,99,117,116,101]⟩
def WT:ByteArray:=⟨#[76,111,99,107,80,101,114,115,111,110,97,108,105,116,121]⟩
def WJ:ByteArray:=⟨#[82,101,115,116,114,105,99,116,82,101,97,108,116,105,109,101]⟩
def WQ:ByteArray:=⟨#[78,111,78,101,119,80,114,105,118,105,108,101,103,101,115]⟩
def yM(f:Nat):Va:=Fc (.func f) #[] #[]
def T3:List SV:=[(WI,yM 167),(WP,yM 168),(WO,yM 169),(WR,yM 170),(WT,yM 171),(WJ,yM 172),(WQ,yM 173)]
theorem JP(w:Wd):Ca prog 113 #[] w fun e f=>∃g,e=X (.map (So g))∧E6 f g T3∧a9 w f:=by
 have i:= @run_makeMap prog;have a:E6 (w.alloc (.map #[] 0)) w []:=E6.new rfl;have b:a9 w (w.alloc (.map #[] 0)):=(a9.refl w).alloc _;go_in;go_wp2_with(refine V9 rfl _ _ _ 204 9 202 (.inr rfl) underlying204 underlying9 w _ rfl a _ rfl _ rfl ?_;intro j d c;have h:=b.f c (fun k e=>by cases e;exact a7 _);clear a b c;have a:=d;have b:=h;clear d h)
 go_ret;exact⟨_,rfl,a,b⟩
theorem a3o(s:ByteArray)(w:Wd):Ca prog 65 #[Y s] w fun e d=>e=X (O (H0 T3 s).isSome)∧a9 w d:=by
 have a:=a6 (JP w);go_in;go_wp2_with fail
 apply a.mono;rintro e f⟨g,rfl,b,c⟩;go_wp2_with(refine A4 rfl _ _ 204 9 202 rfl underlying204 underlying9 Nf (by intro w;kernel_rfl) g T3 rfl b s rfl ?_)
 go_ret;exact⟨rfl,c⟩
end Go.Proofs.YtiomenjfmagknaaGreat
