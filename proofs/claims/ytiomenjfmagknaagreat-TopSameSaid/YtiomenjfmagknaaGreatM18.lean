/- A part of the proof of TopSame: lemmas on the walks of its calls. -/
import Derived.Test.YtiomenjfmagknaaGreatM17
set_option maxHeartbeats 12000000
set_option linter.all false
set_option maxRecDepth 100000
namespace Go.Proofs.YtiomenjfmagknaaGreat
open Go.RowKit Go.ChangeShapes Go.WideShapes Tryz
open Bool renaming true→Bt,false→Bf
open Decidable renaming decide→Dc
open Ending renaming returned→X
open Go renaming World→Wd,Value→Va,Calls→Ca,callsIn_wide→Cw,undef→Un,bodyPost_ret→Bp,TypeId→Ti,Addr→Ad,Program→Pg,wpListIn→Wl,callsIn_of_wp_marks→Cm,callsIn_of_wp→Co,CallsIn→Ci
open Go.Proofs renaming enters_of→Eo
open Int renaming toNat_natCast→a4A
open IntKind renaming i64→M,u32→V,u64→U6,u16→U1
open IntWalk renaming i64_in→a37
open Lib renaming hid→a6
open List renaming getD_eq_getElem?_getD→a8,getElem?_eq_getElem→e9,length_append→a2e,range→q5,length_cons→a3W,getElem_mem→a30,length_map→a32,take_succ_eq_append_getElem→a4a,append_assoc→a4s,length_take→a4C,map_append→a4F
open Nat renaming le_refl→a7,le_trans→c8,reduceAdd→l9,zero_le→i5,add_zero→a4z,reduceSub→a4D,zero_add→a4E
open Obj renaming cells→U
open Operand renaming tmp→Tm
open Option renaming none→J,some→So
open Value renaming int→I,slice→Z,pointer→K,bool→O,func→Fc,tuple→Tp,agg→Ag
def Q3(ar:List Int):List Bool:=(q5 6).map fun a:Nat=>ar.contains (a:Int)
theorem aO(ar:List Int):(Q3 ar).length=6:=by simp[Q3]
theorem a39(ar:List Int){a:Nat}(h:a<6):fQ (Q3 ar) a=ar.contains (a:Int):=by
 unfold fQ Q3;simp[a8,h]
theorem gT(c:List Bool):∀k,2≤eV c k
 |0=>a7 _
 |k+1=>c8 (gT c k) (Nat.le_add_right _ _)
theorem x2(c:List Bool):∀k,m0 (RB c k)≤1+k
 |0=>a7 _
 |k+1=>by
  have:=x2 c k;unfold RB;rw[g2];split<;>simp only[m0,It.n]<;>omega
theorem a38(c:List Bool):sI c 6= -1∨sI c 6=0∨sI c 6=2:=by
 have h:∀k,sI c k= -1∨sI c k=0∨sI c k=2:=fun k=>by
  induction k with
  |zero=>exact .inl rfl
  |succ k ih=>
   unfold sI;split
   ·rename_i h
    simp only[Bool.and_eq_true,Bool.or_eq_true,beq_iff_eq]at h;omega
   ·exact ih
 exact h 6
theorem a2Q(a:Int)(w:Wd)(b:0≤a∧a<6):Ca prog 187 #[I M a] w fun e c=>e=X (O Bf)∧a9 w c:=by
 have d:Dc (a<0)=Bf:=by simp;omega
 have f:Dc (6≤a)=Bf:=by simp;omega
 clear b;go_in;go_wp2_with fail
 go_ret;exact⟨rfl,a9.refl w⟩
theorem a4i(ar:List Int)(d:Option Ad)(c:Nat)(a:Nat)(g:a<6)(b:Wd)(j:ar.length≤1000)(f:h9 b d (i3 M ar)):Ca prog 176 #[Z d ar.length c,I M a] b fun e h=>e=X (O (fQ (Q3 ar) a))∧b=h:=by
 rw[a39 ar g,List.contains_eq_any_beq];exact ctE WC (I M) (fun x i=>x==i) (EqlAt.int _ _ _) d ar.length c ar (a:Int) b rfl (by omega) f
theorem X9{c:List Bool}{k:Nat}(h:yL c k=Bf):RB c (k+1)=RB c k∧eV c (k+1)=eV c k:=by
 constructor
 ·show RB c k++(if yL c k=Bt then _ else [])=RB c k
  rw[h];exact List.append_nil _
 ·show eV c k+(if yL c k=Bt then 1 else 0)=eV c k
  rw[h];rfl
theorem xG{c:List Bool}{k:Nat}(h:yL c k=Bt):RB c (k+1)=RB c k++[.jmp 21 (B8 k) 1 (eV c k)]++[.here (eV c k)]∧eV c (k+1)=eV c k+1:=by
 constructor
 ·show RB c k++(if yL c k=Bt then [.jmp 21 (B8 k) 1 (eV c k),.here (eV c k)]else [])=_
  rw[h,a4s];rfl
 ·show eV c k+(if yL c k=Bt then 1 else 0)=_
  rw[h];rfl
theorem xH{c:List Bool}{k:Nat}(h:(fQ c k&&(k==0||k==2)&& !(fQ c 0&&fQ c 2))=Bf):sI c (k+1)=sI c k:=by
 conv=>lhs;unfold sI
 rw[h,if_neg (by decide)]
theorem KT{c:List Bool}{k:Nat}(h:(fQ c k&&(k==0||k==2)&& !(fQ c 0&&fQ c 2))=Bt):sI c (k+1)=k:=by
 conv=>lhs;unfold sI
 rw[h,if_pos rfl]
theorem QD(A:Option Ad)(c:Nat)(ar:List Int)(w:Wd)(dn:0<ar.length)(cy:ar.length≤1000)(cf:∀x∈ar,0≤x∧x<6)(av:h9 w A (i3 M ar)):
  Ca prog 127 #[Z A ar.length c] w fun e t=>∃v,e=X (Tp #[v,I M 0])∧e4 t w 374 bA v (F6 (sH (Q3 ar)))∧a9 w t:=by
 have ad:=a6 (fun a(f:a<6) o(aa:a9 w o)=>a4i ar A c a f o cy (av.h aa));obtain⟨bl,bm⟩:=i6 (show∀o,a9 w o→Ca prog 176 #[Z A ar.length c,I M 0] o fun e t=>e=X (O (fQ (Q3 ar) 0))∧o=t from fun o aa=>ad 0 (by decide) o aa) (show∀o,a9 w o→Ca prog 176 #[Z A ar.length c,I M 2] o fun e t=>e=X (O (fQ (Q3 ar) 2))∧o=t from fun o aa=>ad 2 (by decide) o aa);have bp:=a6 (show Ca prog 186 #[Z A ar.length c,Fc (.func 187) #[] #[]] w fun e t=>e=X (O Bf)∧a9 w t from by
  have:=cfE a3Q (I M) isAgg3 sizeOf3 (fun _=>Bf) 187 #[] (Eo func187 (by kernel_rfl) rfl) A ar.length c ar w (fun x ba W _=>a2Q x W (cf x ba)) rfl (by omega) av;rwa[show ar.any (fun _=>Bf)=Bf from by simp]at this)
 have af:=a6 (fun(k:Nat)(az:k<6) W=>show Ca prog 189 #[I M k] W fun e t=>e=X (Tp #[I V (B8 k),I M 0])∧a9 W t from by
  have cx:B8 (k:Int)=r5[k].2:=by unfold B8;rw[a4A,x0 (show k<r5.length from az)];exact rfl
  exact(jS k az W).mono fun e t⟨cz,ba⟩=>⟨cz.trans (by rw[cx]),ba⟩)
 have dm:((ar.length:Int)==0)=Bf:=beq_eq_false_iff_ne.2 (by omega);generalize Q3 ar=cs at*;generalize ar.length=n at*;clear av cf;go_in;go_wp2_with fail
 apply bp.mono;rintro e m⟨rfl,bf⟩;have bh:=bf.alloc (U #[Z J 0 0,Z J 0 0] 288);have bu:=St.new bh (b9.new m _ _) bf.size (fun _=>0);have bv:=bu.label ((a9.refl _).alloc (U #[I M 0] 291)) (b:=m+1) (b9.b (by simp)) (by simp);have ag:=bv.label ((a9.refl _).alloc (U #[I M 0] 291)) (b:=m+2) (b9.b (by simp)) (by simp);have bt:=a6 ((bh.alloc (U #[I M 0] 291)).alloc (U #[I M 0] 291));obtain⟨R,ak⟩:∃R,R=aW (aW (fun _=>0) 0 (m+1)) 1 (m+2):=⟨_,rfl⟩;obtain⟨T,ae⟩:=i6 (show R 0=m+1 by rw[ak];rfl) (show R 1=m+2 by rw[ak];rfl);rw[show 0+1=1 from rfl,←ak]at ag;obtain⟨h,br⟩:=i6 (kD ag 4 (by decide)) ag;clear bu bv ag bh bf bp ak;go_wp2_with fail
 apply h.mono;rintro e be⟨rfl,ca,bb⟩;have bi:=a6 ((H6.refl br.out).step ca bb);have ai:=bb.b bt (a7 _);clear h ca bb br
 go_upto_region 5 with fail
 go_cut [7] (fun dc dg=>dc=O (fQ cs 0&&fQ cs 2)∧dg=be)
 case first=>
  have k0:=bl be ai;have k2:=bm be ai;rcases aj:fQ cs 0 with _|_
  ·rw[aj]at k0
   go_wp2_with(apply k0.mono;rintro e cj⟨rfl,rfl⟩)
   go_meet
   exact⟨by rw[aj];rfl,rfl⟩
  ·rw[aj]at k0
   go_wp2_with(first|(apply k0.mono;rintro e cj⟨rfl,rfl⟩)|(apply k2.mono;rintro e cj⟨rfl,rfl⟩))
   go_meet
   exact⟨by rw[aj,Bool.true_and],rfl⟩
 case rest=>
  obtain⟨rfl,rfl⟩:=hcut;obtain⟨bo,ay⟩:∃bo,bo=(fQ cs 0&&fQ cs 2):=⟨_,rfl⟩;rw[←ay];obtain⟨L,bs⟩:=i6 ay ai;clear ay ai bl bm;go_wp2_with fail
  apply(yB _).mono;rintro e de⟨dq,rfl,am,bg⟩;obtain⟨di,dl,rfl⟩:=am.b;have bj:=bi.h bg;obtain⟨bq,cr,bn⟩:=p7 am.ty (bs.trans bg) bj;clear am bg bj bi bs;go_wp2_with fail
  go_loopw [8,40] (fun dd db wr=>∃(k:Nat)(ac:Nat→Nat),k≤6∧db=I M k∧dd=I M (sI cs k)∧H6 _ m w [] R 2 (RB cs k) (eV cs k) ac wr∧Tv w W4 de wr) (fun _ i _=>6-(intOf i).toNat)
  case atStart=>exact⟨0,R,by decide,rfl,rfl,bn.out,.refl _ _ _⟩
  case round=>
   clear bn;obtain⟨k,ac,az,rfl,rfl,G,ah⟩:=hrel;have bw:=ah.b cr (a7 _);by_cases al:k<6
   ·have aw:=(bq.tv ah (by decide)).mem
    obtain⟨dj,am,rfl,_⟩:=aw.rows (by decide) (by decide);have da:=aw.b (j:=k) (by simpa[fW]using al) (r:=0) rfl;simp only[GZ,fW,List.getElem_map,List.getElem_range,Nat.mul_one,a4z]at da;have S:=ad k al wr bw;obtain⟨g,aq⟩:=i6 G ah;have dp:(k:Int)<6:=by omega
    clear G ah aw bw;rcases D:fQ cs k with _|_
    ·rw[D]at S
     have cd:yL cs k=Bf:=by unfold yL;rw[D];rfl
     have ce:sI cs (k+1)=sI cs k:=xH (by rw[D];rfl);have an:=a6 (And.intro cd ce);clear cd ce D;go_wp2_with fail
     apply S.mono;rintro e ck⟨rfl,rfl⟩;go_wp2_with fail
     go_roundw
     case rel=>exact⟨k+1,ac,by omega,by go_num,by rw[an.2],by rw[(X9 an.1).1,(X9 an.1).2];exact g.out,aq.out⟩
     case measure=>simp[intOf];omega
    ·rw[D]at S
     have F:=a6 D;clear D;by_cases p:k=0
     rotate_left
     focus
      have cu:((k:Int) !=0)=Bt:=by simp[p]
      have cv:((k:Int)==0)=Bf:=by simp[p]
      by_cases z:k=2
      rotate_left
      focus
       have cw:((k:Int) !=2)=Bt:=by simp;omega
       obtain⟨C,P⟩:=i6 (show yL cs k=Bt by unfold yL;rw[F.out];simp[p,z]) (show(fQ cs k&&(k==0||k==2)&& !(fQ cs 0&&fQ cs 2))=Bf by simp[p,z]);clear p z
      rotate_right
      have cw:((k:Int) !=2)=Bf:=by simp[z]
      have C:=a6 (show yL cs k=Bf by unfold yL;rw[F.out];simp[z]);cases bo
      rotate_left
      focus
       have P:=a6 (xH (show(fQ cs k&&(k==0||k==2)&& !(fQ cs 0&&fQ cs 2))=Bf by rw[←L.out];simp));clear p z
      rotate_right
      have P:=a6 (show sI cs (k+1)=k from KT (by rw[F.out,←L.out];simp[z]));clear p z
     rotate_right
     have cu:((k:Int) !=0)=Bf:=by simp[p]
     have cv:((k:Int)==0)=Bt:=by simp[p]
     rcases Bool.eq_false_or_eq_true bo with rfl|rfl
     obtain⟨C,P⟩:=i6 (show yL cs k=Bt by unfold yL;rw[F.out,←L.out];simp[p]) (show(fQ cs k&&(k==0||k==2)&& !(fQ cs 0&&fQ cs 2))=Bf by rw[←L.out];simp);clear p
     rotate_left
     obtain⟨C,P⟩:=i6 (show yL cs k=Bf by unfold yL;rw[F.out,←L.out];simp[p]) (show sI cs (k+1)=k from KT (by rw[F.out,←L.out];simp[p]));clear p
     rotate_right 2
     iterate 2
      focus
       go_wp2_with fail
       apply S.mono;rintro e ck⟨rfl,rfl⟩;go_wp2_with fail
       apply(af k al _).mono;rintro e E⟨rfl,u⟩;have B:=g.h u;have q:=B.label ((a9.refl _).alloc (U #[I M 0] 291)) (b:=E) (b9.new _ _ _) (a7 _);obtain⟨ao,au,H⟩:=p7 q ((aq.h u).h ((a9.refl _).alloc (U #[I M 0] 291))) (D9 q.st 21 (B8 k) 1 (eV cs k) (by have:=gT cs k;omega) (Nat.lt_succ_self _) (by have:=x2 cs k;rw[List.nil_append];omega) (ta:=m+2) ((B5 _ _ (by have:=gT cs k;omega)).trans ((B.old 1 (by decide)).trans ae.out)) (pe:=So ⟨E,0,J⟩) (by rw[o3];exact N9 (by decide) _));clear B q g;go_wp2_with fail
       apply H.mono;rintro e dt⟨rfl,cb,bc⟩;have s:=ao.step cb bc;obtain⟨l,ap⟩:=i6 (q8 s.st (eV cs k) (Nat.lt_succ_self _) (xa:=E) (o3 _ _ _)) s;clear H cb s;go_wp2_with fail
       apply l.mono;rintro e du⟨rfl,cc,bd⟩;obtain⟨cp,cq⟩:=i6 (ap.step cc bd) ((au.trans bc).trans bd);clear cc bc bd l;go_wp2_with fail
       go_roundw
       case rel=>exact⟨k+1,_,by omega,by go_num,by rw[xH P.out],by rw[(xG C.out).1,(xG C.out).2];exact cp.out,cq.out⟩
       case measure=>simp[intOf];omega
     all_goals
      go_wp2_with fail
      apply S.mono;rintro e ck⟨rfl,rfl⟩;go_wp2_with fail
      apply(af k al _).mono;rintro e E⟨rfl,u⟩;have B:=g.h u;have q:=B.label ((a9.refl _).alloc (U #[I M 0] 291)) (b:=E) (b9.new _ _ _) (a7 _);obtain⟨ao,au,ap⟩:=p7 q ((aq.h u).h ((a9.refl _).alloc (U #[I M 0] 291))) (B.h ((a9.refl _).alloc (U #[I M 0] 291)));clear B q ao;go_wp2_with fail
      go_roundw
      case rel=>exact⟨k+1,_,by omega,by go_num,by rw[P.out],by rw[(X9 C.out).1,(X9 C.out).2];exact ap.out,au.out⟩
      case measure=>simp[intOf];omega
   ·obtain rfl:k=6:=by omega
    clear ad bq;rcases a38 cs with Q|Q|Q<;>rw[Q]
    have ax:=a6 (show gdX cs=[] by unfold gdX;rw[Q];rfl)
    rotate_left
    focus
     have q:=G.label ((a9.refl _).alloc (U #[I M 0] 291)) (b:=wr) (b9.new _ _ _) (a7 _);have y:=(B5 ac (N:=eV cs 6) wr (show 0<eV cs 6 by have:=gT cs 6;omega)).trans ((G.old 0 (by decide)).trans T.out);have g:=a6 q;clear G q;go_wp2_with fail
     apply(af 0 (by decide) _).mono;rintro e E⟨rfl,u⟩;have s:=g.h u;obtain⟨h,g⟩:=i6 (D9 s.st 21 (B8 (0:Nat)) (eV cs 6) 0 (Nat.lt_succ_self _) (by omega) (by have:=x2 cs 6;simp only[List.nil_append,g2,m0,It.n];omega) (o3 _ _ _) (pe:=So ⟨m+1,0,J⟩) (by rw[y];exact N9 (by decide) _)) s;clear s u;go_wp2_with fail
     apply h.mono;rintro e cm⟨rfl,f,ta⟩;have d:=g.step f ta;obtain⟨l,g⟩:=i6 (q8 d.st (eV cs 6) (Nat.lt_succ_self _) (o3 _ _ _)) d;clear h f ta d;go_wp2_with fail
     apply l.mono;rintro e cn⟨rfl,f,ta⟩;have d:=g.step f ta;obtain⟨h,g⟩:=i6 (kD d.st 0 (by have:=x2 cs 6;simp only[List.nil_append,g2,m0,It.n];omega)) d;clear l f ta d;go_wp2_with fail
     apply h.mono;rintro e co⟨rfl,f,ta⟩;have d:=g.step f ta;have ab:=(d.old 1 (by decide)).trans ae.out;have y:=(d.old 0 (by decide)).trans T.out;obtain⟨l,g⟩:=i6 (D9 d.st 69 1073741824 0 1 (by have:=d.le;omega) (by have:=d.le;omega) (by have:=x2 cs 6;simp only[List.nil_append,g2,m0,It.n];omega) (y) (pe:=So ⟨m+1+1,0,J⟩) (by rw[ab];exact N9 (by decide) _)) d;clear h f ta d y ab;go_wp2_with fail
     apply l.mono;rintro e df⟨rfl,f,ta⟩;have G:=g.step f ta;have ax:=a6 (show gdX cs=[.jmp 21 (B8 (0:Nat)) (eV cs 6) 0,.here (eV cs 6),.put ⟨32,0,0,0⟩,.jmp 69 1073741824 0 1] by unfold gdX;rw[Q];rfl);clear l f ta g
    rotate_left
    focus
     have q:=G.label ((a9.refl _).alloc (U #[I M 0] 291)) (b:=wr) (b9.new _ _ _) (a7 _);have y:=(B5 ac (N:=eV cs 6) wr (show 0<eV cs 6 by have:=gT cs 6;omega)).trans ((G.old 0 (by decide)).trans T.out);have g:=a6 q;clear G q;go_wp2_with fail
     apply(af 2 (by decide) _).mono;rintro e E⟨rfl,u⟩;have s:=g.h u;obtain⟨h,g⟩:=i6 (D9 s.st 21 (B8 (2:Nat)) (eV cs 6) 0 (Nat.lt_succ_self _) (by omega) (by have:=x2 cs 6;simp only[List.nil_append,g2,m0,It.n];omega) (o3 _ _ _) (pe:=So ⟨m+1,0,J⟩) (by rw[y];exact N9 (by decide) _)) s;clear s u;go_wp2_with fail
     apply h.mono;rintro e cm⟨rfl,f,ta⟩;have d:=g.step f ta;obtain⟨l,g⟩:=i6 (q8 d.st (eV cs 6) (Nat.lt_succ_self _) (o3 _ _ _)) d;clear h f ta d;go_wp2_with fail
     apply l.mono;rintro e cn⟨rfl,f,ta⟩;have d:=g.step f ta;obtain⟨h,g⟩:=i6 (kD d.st 0 (by have:=x2 cs 6;simp only[List.nil_append,g2,m0,It.n];omega)) d;clear l f ta d;go_wp2_with fail
     apply h.mono;rintro e co⟨rfl,f,ta⟩;have d:=g.step f ta;have ab:=(d.old 1 (by decide)).trans ae.out;have y:=(d.old 0 (by decide)).trans T.out;obtain⟨l,g⟩:=i6 (D9 d.st 69 1073741824 1 0 (by have:=d.le;omega) (by have:=d.le;omega) (by have:=x2 cs 6;simp only[List.nil_append,g2,m0,It.n];omega) (ab) (pe:=So ⟨m+1+0,0,J⟩) (by rw[y];exact N9 (by decide) _)) d;clear h f ta d y ab;go_wp2_with fail
     apply l.mono;rintro e df⟨rfl,f,ta⟩;have G:=g.step f ta;have ax:=a6 (show gdX cs=[.jmp 21 (B8 (2:Nat)) (eV cs 6) 0,.here (eV cs 6),.put ⟨32,0,0,0⟩,.jmp 69 1073741824 1 0] by unfold gdX;rw[Q];rfl);clear l f ta g
    all_goals
     obtain⟨h,g⟩:=i6 (q8 G.st 0 (by have:=G.le;omega) (xa:=m+1) ((G.old 0 (by decide)).trans T.out)) G;clear G;go_wp2_with fail
     apply h.mono;rintro e cm⟨rfl,f,ta⟩;have d:=g.step f ta;obtain⟨l,g⟩:=i6 (fJ d.st 2147483648 (by have:=x2 cs 6;simp only[List.nil_append,g2,m0,It.n];omega)) d;clear h f ta d;go_wp2_with fail
     apply l.mono;rintro e cn⟨rfl,f,ta⟩;have d:=g.step f ta;obtain⟨h,g⟩:=i6 (q8 d.st 1 (by have:=d.le;omega) (xa:=m+2) ((d.old 1 (by decide)).trans ae.out)) d;clear l f ta d;go_wp2_with fail
     apply h.mono;rintro e co⟨rfl,f,ta⟩;have d:=g.step f ta;obtain⟨l,g⟩:=i6 (fJ d.st 2147418112 (by have:=x2 cs 6;simp only[List.nil_append,g2,m0,It.n];omega)) d;clear h f ta d;go_wp2_with fail
     apply l.mono;rintro e we⟨rfl,f,ta⟩;have d:=g.step f ta;obtain⟨dr,ds,ci⟩:=d.st.ex;have bk:=a6 (vE ci d.st.ok (by have:=x2 cs 6;simp only[List.nil_append,g2,m0,It.n];omega));have bx:=d.tv.b bt (a7 _);have cg:=ci.wri.o;clear l f ta d;go_wp2_with fail
     apply bk.mono;rintro e wf⟨rfl,ch,bz⟩;have ct:=bx.grown bz (fun k e=>(cg.lt e).1);obtain⟨dh,dk,rfl⟩:=ch.b;clear cg bx bz bk;go_wp2_with fail
     go_ret2
     refine⟨_,rfl,?_,ct⟩;unfold sH;rw[ax.out];simpa using ch
section
attribute [local go_sem] Oper.semAt_some
theorem QM(l s n c B:Nat)(b:Option Ad)(ps:List Int)(C:ps.length=n)(ab:n≤1000000)(Jq:List Nat→Wd→Prop)(w:AbidesFrom B Jq)
  (y:∀q x W,Jq q W→x<n→q.length<n→YieldAt .wide 1 prog l #[I M (x:Nat),I V (ps.getD x 0)] W fun e W'=>e=X (O Bt)∧Jq (q++[x]) W'∧p1 s b n c (i3 V ps) W W')
  (W:Wd) (f:W.cell? ⟨s,0,J⟩=So (Z b n c)) (a:h9 W b (i3 V ps)) (t:Jq [] W):
  Ci .wide 2 prog 94 #[Fc (.yield l) #[] #[],K s] W fun e W'=>(∃v,e=X v)∧∃xs:List Nat,xs=(q5 n).reverse∧Jq xs W':=by
 have G:=a6 C;have D:IntKind.i64.wrap ((n:Int)-1)=(n:Int)-1:=a37 _ (by omega);clear C;refine Co func94 rfl trivial ?_ rfl;simp only[ntmps94,uE,l9,a4D]
 gi_wp2
 gi_loopw [3] (fun i wr=>∃(k:Nat)(d:Int),k≤n∧d=(k:Int)-1∧i=I M d∧Jq ((q5 n).reverse.take (n-k)) wr∧wr.cell? ⟨s,0,J⟩=So (Z b n c)∧h9 wr b (i3 V ps)) (fun i _=>(intOf i+1).toNat)
 case atStart=>exact⟨n,_,a7 _,rfl,rfl,by rw[Nat.sub_self];exact t,f,a⟩
 case round=>
  clear f a t;obtain⟨k,d,ac,h,rfl,g,f,a⟩:=hrel;rcases k with _|j
  ·have p:d= -1:=by omega
   subst p;rw[Nat.sub_zero,List.take_of_length_le (by simp)]at g;clear h D
   gi_wp2
   go_end0
   exact⟨⟨_,rfl⟩,_,rfl,g⟩
  ·have p:d=j:=by omega
   subst p;have m:j<n:=by omega
   have o:j<ps.length:=by rw[G.out];exact m
   obtain⟨b1,ad,rfl,-,H⟩:=a.at_ (k:=j) (by simpa using o);rw[List.getElem_map]at H;have Q:=a6 (L5 n j m);have A:ps.getD j 0=ps[j]:=by rw[a8,e9 o];rfl
   have z:=a6 (fun(W:Wd)(P:Jq ((q5 n).reverse.take (n-(j+1))) W)=>y _ j W P m (by rw[a4C];simp;omega));rw[A]at z;generalize ps[j]=E at*;have b3:(0:Int)≤j:=by omega
   have b4:(j:Int)<n:=by omega
   have ae:IntKind.i64.wrap ((j:Int)-1)=(j:Int)-1:=a37 _ (by omega);obtain⟨r,R,F⟩:=p7 (And.intro f a) w g;clear o y h A D a w g;gi_wp2_with fail
   obtain⟨aa,tmps,S,T,h,N⟩:=z _ F.out;rw[h]
   gi_wp2
   apply N.mono;rintro e W3⟨rfl,L,u⟩
   gi_wp2
   go_roundw
   case rel=>exact⟨j,_,by omega,rfl,rfl,by rw[Q.out];exact L,u.1 r.1,u.2 r.2⟩
   case measure=>first|(simp[intOf];done)|(simp[intOf];omega)
theorem ZB(a:Option Ad)(n c:Nat)(w:Wd):
  Ci .wide 2 prog 48 #[Z a n c] w fun e b=>e=X (Fc (.func 94) #[] #[K w])∧b=w.alloc (U #[Z a n c] 37):=by
 refine Co func48 rfl trivial ?_ rfl;simp only[ntmps48,uE,l9,a4D]
 gi_wp2
 go_ret;exact⟨rfl,rfl⟩
theorem DP(s n c:Nat)(a:Option Ad)(ps:List Int)(r:ps.length=n)(m:n≤1000000)(w:Wd)(t:s<w)
  (e:w.cell? ⟨s,0,J⟩=So (Z a n c)) (h:h9 w a (i3 V ps)):
  jU .wide 2 prog 94 #[K s] (fun i:Nat=> #[I M i,I V (ps.getD i 0)]) (fun x _=>x<n) (p1 s a n c (i3 V ps)) (fun xs=>xs=(q5 n).reverse) n w:=fun l Jq W b g k d=>by
 have f:=(b.cell (p:=⟨s,0,J⟩) t).trans e;have j:h9 W a (i3 V ps):=h.h b;exact QM l s n c W a ps r m Jq g (fun v x W o u q=>k v x W o u q) W f j d
end
section
attribute [local go_sem] Oper.semAt_some
def dX(l:List Int):Int:=l.reverse.foldl gJ 2147418112
def HR(xs:List Int)(a:List Nat):Int:=(a.map fun i=>xs.getD i 0).foldl gJ 2147418112
theorem a1V(xs:List Int):HR xs (q5 xs.length).reverse=dX xs:=by
 unfold HR dX;rw[List.map_reverse];congr 2;refine List.ext_getElem (by simp) fun i b a=> ?_
 simp[a8,e9 a]
structure CmI(u:Wd)(g s n c:Nat)(A:Option Ad)(xs:List Int)(z:Nat)(pre:List Nat)(W:Wd):Prop where
 b:b9 W g 26 #[I V (HR xs pre)]
 s:b9 W s 37 #[Z A n c]
 x:a9 u W
 z:z≤W
theorem a2a(u:Wd)(g s n c:Nat)(f:Option Ad)(xs:List Int)(z:Nat)(k:u≤z):OwnFrom z (CmI u g s n c f xs z):=fun l W W' row⟨h,i,d,j⟩ a b=>
 ⟨e8 h a fun r e=>(b r e).2,e8 i a fun r e=>(b r e).2,Below.grown d a d.size (fun r e=>c8 k (b r e).1),c8 j a.size⟩
theorem HQ(d:Option Ad)(n c:Nat)(xs:List Int)(u:Wd)(Q:xs.length=n)(av:n≤1000)(L:h9 u d (i3 V xs)):
  Ci .wide 3 prog 30 #[Z d n c] u fun e ab=>e=X (I V (dX xs))∧a9 u ab:=by
 obtain⟨D,af,E⟩:=p7 L (a1V xs) Q;clear L Q;refine Cm func30 rfl trivial ?_ rfl;simp only[ntmps30,uE,l9,a4D];gi_wp2_with(refine⟨trivial,?_⟩;gi_at_call 48;apply(ZB d n c _).mono;rintro e ab⟨rfl,rfl⟩)
 have F:b9 ((u.alloc (U #[I V 2147418112] 26)).alloc (U #[Z d n c] 37)) u 26 #[I V 2147418112]:=(b9.new u _ _).alloc _;have b1:b9 ((u.alloc (U #[I V 2147418112] 26)).alloc (U #[Z d n c] 37)) (u+1) 37 #[Z d n c]:=b9.b (by simp);have B:a9 u ((u.alloc (U #[I V 2147418112] 26)).alloc (U #[Z d n c] 37)):=((a9.refl u).alloc _).alloc _;have ax:((u.alloc (U #[I V 2147418112] 26)).alloc (U #[Z d n c] 37)).heap.size=u.heap.size+2:=by simp
 generalize(u.alloc (U #[I V 2147418112] 26)).alloc (U #[Z d n c] 37)=w0 at*;have N:h9 w0 d (i3 V xs):=D.h B;refine kK rfl (by decide) (gf:=94) (lb:= #[K (u+1:Nat)]) rfl trivial (Eo func94 (by kernel_rfl) rfl)
  (jU.toB (DP (u+1) n c d xs E (by omega) w0 b1.lt (by rw[b1.cell];rfl) N)) (fun aj k=>aj.trans k)
  (fun W l y z _ P m _=>⟨fun s=>cell_kept s (grownBy_putObj' W l z) (fun r e=>by cases e;exact⟨y,P,m⟩),fun s j u am=>by
   obtain⟨b,ao,e,ak⟩:=s j u am;exact⟨b,ao,e,cell_kept ak (grownBy_putObj' W l z) (fun r e=>by cases e;exact⟨y,P,m⟩)⟩⟩) (Below.refl _ _) (fun _=>rfl)
  (fun x W l y z H _ _=>H)
  (CmI u u (u+1) n c d xs w0) (fun _ _ _=>trivial) (a2a _ _ _ _ _ _ _ _ (by omega))
  ⟨F,b1,B,a7 _⟩
  (fun x=> {tmps:= #[Z d n c,Un,I V 0,K u,Un,I V (xs.getD x 0),Z d n c,Fc (.func 94) #[] #[K (u+1:Nat)],I M x,I V (xs.getD x 0),Un,Un,Un,Un,Un],defers:=[]})
  ?Aa ?Ab ?Ac
 case Aa=>
  intro l g W ap i
  gi_wp2
  simpa using i
 case Ab=>
  rintro l A v W⟨f,q,t,aa⟩ H aw;have al:HR xs (A++[v])=gJ (HR xs A) (xs.getD v 0):=by unfold HR;rw[a4F,List.foldl_append,List.map_cons,List.map_nil,List.foldl_cons,List.foldl_nil]
  generalize HR xs A=a at*;generalize xs.getD v 0=g at*;have G:=f.cell 0;have C:=(a9.refl W).alloc (U #[I V a,I V g] 26);have p:=b9.new W 26 #[I V a,I V g];obtain⟨ag,ae,ai,ah⟩:=J5 ((Cw (n:=0)).2 (ZL a g W _ (p.cell 0) (p.cell 1))) (f.h C) C q;clear F b1 B N f C p q;gi_wp2_with(refine⟨trivial,?_⟩;gi_at_call 49;apply(CallsIn.inRound l ag.out).mono;rintro e ac⟨rfl,S⟩;have h:=ae.h S;have ar:=h.frozen 0;have aq:ac.cell? ⟨u,0,J⟩=So (I V a):=h.cell 0)
  have o:Tv u [26] W (ac.setCell ⟨u,0,J⟩ (I V (gJ a g))):=(Tv.f (ai.trans S)).trans (.r h (a7 _) (by decide) 0 _);have R:=o.blk ah (.inr (by decide));have T:=o.b t (a7 _);exact⟨o.from,⟨fun _=>R.cell 0,fun _=>D.h T⟩,⟨by rw[al];exact h.f 0 _,R,T,c8 aa o.size⟩⟩
 case Ac=>
  rintro ad ys W au an⟨f,q,t,aa⟩ i;subst an;have G:=f.cell 0;have m:HR xs (q5 n).reverse=dX xs:=by rw[←E.out];exact af.out
  rw[m]at G
  gi_wp2
  refine⟨by simp,.inl ⟨_,_,rfl,run_takeDeferred i,?_⟩⟩;exact⟨_,results_tmp rfl _ _ _,rfl,Below.trans t (belowK_b (w:=u) (a7 _) W ad _ _ (by omega) i rfl rfl)⟩
theorem IM(a:Option Ad)(n c:Nat)(xs:List Int)(u:Wd)(f:xs.length=n)(d:n≤1000)(b:h9 u a (i3 V xs)):
  Ca prog 30 #[Z a n c] u fun e g=>e=X (I V (dX xs))∧a9 u g:=callsIn_wide.1 (HQ a n c xs u f d b)
end
theorem NT{r:m1}(a:VF r):VF (s9 r):=by
 obtain⟨c,d⟩:=xO r.tests r.act;refine⟨a.nr,?_,fun t b=>a.ts t (c t (List.mem_of_mem_take b)),c8 (AS r) a.len⟩;show kn (F5 r.tests r.act).2;rcases d with e|⟨t,b,e⟩
 ·rw[e];exact a.act
 ·rw[e];exact(a.ts t b).2.2.2.2
theorem UQ{f:C8}(a:dL f):dL (I1 f):=by
 obtain⟨k1,k2⟩:=oH f.dflt f.rules;have d:=a.len;have e:=a.sz;refine⟨a.ar,a.d,fun r b=> ?_,kJ _ _ _ a.ri,?_,?_⟩
 ·obtain⟨x,c,rfl⟩:=List.mem_map.1 (List.mem_filter.1 b).1
  exact NT (a.rs x c)
 ·show((f.rules.map s9).filter (F3 f.dflt)).length≤40
  omega
 ·show 3*((f.rules.map s9).filter (F3 f.dflt)).length+7*rU ((f.rules.map s9).filter (F3 f.dflt))+7≤1365
  omega
structure V3 where
 d:Nat
 a:Nat
 f:C8
def dF(p:i1)(d a:Nat):List V3:=match O3 p d a with
 |none=>[]
 |some f=>[⟨d,a,f⟩]
def pO(p:i1)(d:Nat):List V3:=(q5 6).flatMap (dF p d)
def L0(p:i1):List V3:=(if p.ar.length=0 then []else [⟨0,6,⟨0,0,[]⟩⟩])++(q5 8).flatMap (pO p)
def gM(a:Bool)(p:i1)(x:V3):List i2:=if x.d=0 then V0 a (F6 (sH (Q3 p.ar))) (F6 (sH (Q3 p.ar)))else V0 a (F6 (aX x.f)) (F6 (aX (I1 x.f)))
structure J1 where
 d:Int
 a:Int
 ins:List i2
def z8(a:Bool)(p:i1):List J1:=(L0 p).map fun x=>⟨x.d,x.a,gM a p x⟩
def U2(l:List J1)(d:r9):Int:=dX (l.map fun x=>(K5 d x.ins).ans)
theorem VN(p:i1)(a:Nat):O3 p 0 a=J:=by
 show(if inT p.ar a&&Bf then _ else J)=J;rw[Bool.and_false];rfl
theorem a3z(p:i1):pO p 0=[]:=by
 unfold pO dF;simp only[VN,List.flatMap_eq_nil_iff,implies_true]
theorem TY(p:i1)(d a:Nat):(dF p d a).length≤1:=by
 unfold dF;split<;>simp
theorem xI{b c:Type}(f:b→List c)(m:Nat)(a:∀x,(f x).length≤m):∀l:List b,(l.flatMap f).length≤m*l.length
 |[]=>by simp
 |x::l=>by
  have:=xI f m a l;have:=a x;rw[List.flatMap_cons,a2e,a3W,Nat.mul_succ];omega
theorem TX(p:i1)(d:Nat):(pO p d).length≤6:=by
 have:=xI (dF p d) 1 (TY p d) (q5 6);rw[List.length_range]at this;exact this
theorem AI(p:i1):(L0 p).length≤43:=by
 have a:=xI (pO p) 6 (TX p) [1,2,3,4,5,6,7];unfold L0;rw[show q5 8=0::[1,2,3,4,5,6,7]from rfl,List.flatMap_cons,a3z,List.nil_append,a2e];have b:(if p.ar.length=0 then([]:List V3)else [⟨0,6,⟨0,0,[]⟩⟩]).length≤1:=by split<;>simp
 simp only[a3W,List.length_nil]at a;omega
def yE(p:i1)(x:V3):Prop:=(x.d=0∧x.a=6)∨(0<x.d∧x.d<8∧x.a<6∧O3 p x.d x.a=So x.f)
theorem tM{p:i1}{d a:Nat}{x:V3}(b:x∈dF p d a):x.d=d∧x.a=a∧O3 p d a=So x.f:=by
 unfold dF at b;split at b
 ·cases b
 ·rename_i f c
  rw[List.mem_singleton.1 b];exact⟨rfl,rfl,c⟩
theorem kM{p:i1}{x:V3}(b:x∈L0 p):yE p x:=by
 unfold L0 at b;rcases List.mem_append.1 b with b|b
 ·split at b
  ·cases b
  ·rw[List.mem_singleton.1 b];exact .inl ⟨rfl,rfl⟩
 ·obtain⟨d,g,b⟩:=List.mem_flatMap.1 b
  obtain⟨a,f,b⟩:=List.mem_flatMap.1 b;obtain⟨rfl,rfl,e⟩:=tM b;refine .inr ⟨?_,List.mem_range.1 g,List.mem_range.1 f,e⟩;rcases Nat.eq_zero_or_pos x.d with c|c
  ·rw[c,VN]at e;cases e
  ·exact c
theorem aP{f:C8}(b:dL f):H3 (F6 (aX f))∧H3 (F6 (aX (I1 f)))∧∀a:Int→Int,uk (a 0)→(N6 a (F6 (aX (I1 f)))).1=(N6 a (F6 (aX f))).1:=by
 obtain⟨⟨d,e,g⟩,⟨b1,b2,b3⟩,c⟩:=XX b.ok b.sz;exact⟨⟨d,e,g⟩,⟨b1,b2,b3⟩,c⟩
theorem a3Y{p:i1}(g:y9 p=Bt)(b:Bool){x:V3}(a:yE p x):vC (gM b p x):=by
 unfold gM;rcases a with⟨a,-⟩|⟨h,-,e,f⟩
 ·rw[if_pos a]
  exact LD (tX (aO _)) (tX (aO _)) b
 ·rw[if_neg (by omega)]
  obtain⟨c,d,-⟩:=aP (eT g e f);exact LD c d b
theorem a1C{p:i1}(k:y9 p=Bt)(d:r9)(i:uk (d.word 0)){x:V3}(b:yE p x)(l:Bool):(K5 d (gM l p x)).ans=(K5 d (gM Bf p x)).ans:=by
 unfold gM;rcases b with⟨b,-⟩|⟨m,-,h,j⟩
 ·have a:=fun c=>rF (tX (aO p.ar)) (tX (aO p.ar)) d rfl c
  rw[if_pos b,if_pos b,a,a]
 ·rw[if_neg (by omega),if_neg (by omega)]
  obtain⟨e,f,g⟩:=aP (eT k h j);have a:=fun c=>rF e f d (g d.word i) c
  rw[a,a]
theorem a3Z(p:i1)(x:V3):(gM Bt p x).length≤(gM Bf p x).length:=by
 unfold gM;split<;>exact a10 _ _
theorem RN{d:r9}(h:d.ok):uk (d.word 0):=by
 have:=h.nr;exact this
theorem PP{p:i1}(b:y9 p=Bt)(d:r9)(a:d.ok):U2 (z8 Bt p) d=U2 (z8 Bf p) d:=by
 unfold U2 z8;rw[List.map_map,List.map_map];exact congrArg dX (List.map_congr_left fun x c=>a1C b d (RN a) (kM c) Bt)
section
theorem YH:∀(ts:List j6)(act:Int)(i:Nat),(Z7 (fun t:j6=>t.mask==0) ts i= -1∧F5 ts act=(ts,act))∨∃k,∃a:k<ts.length,Z7 (fun t:j6=>t.mask==0) ts i=((i+k:Nat):Int)∧F5 ts act=(ts.take k,ts[k].act)
 |[],act,i=> .inl ⟨rfl,rfl⟩
 |t::r,act,i=>by
  unfold Z7 F5;by_cases a:t.mask=0
  ·rw[if_pos (by simpa using a),if_pos a]
   exact .inr ⟨0,by simp,rfl,rfl⟩
  ·rw[if_neg (by simpa using a),if_neg a]
   rcases YH r act (i+1)with⟨b,d⟩|⟨k,e,b,d⟩
   ·rw[b,d];exact .inl ⟨rfl,rfl⟩
   ·rw[b,d];exact .inr ⟨k+1,by simpa using e,by omega,rfl⟩
theorem a3V(nr act:Int)(A:Option Ad)(c:Nat)(ts:List j6)(w:Wd)(D:ts.length≤1000)(q:s7 w 392 a3q (Z A ts.length c) ts):
  Ca prog 269 #[Ag #[I V nr,Z A ts.length c,I V act]] w fun e w'=>∃v,e=X (Ag #[I V nr,v,I V act])∧e4 w' w 392 a3q v ts∧a9 w w':=by
 have j:=((a9.refl w).alloc (U #[I V nr,Z A ts.length c,I V act] 234)).alloc (U #[I V 0,Z J 0 0,I V 0] 234);have B:=(b9.new w 234 #[I V nr,Z A ts.length c,I V act]).alloc (U #[I V 0,Z J 0 0,I V 0] 234);have N:b9 ((w.alloc (U #[I V nr,Z A ts.length c,I V act] 234)).alloc (U #[I V 0,Z J 0 0,I V 0] 234)) (w+1) 234 #[I V 0,Z J 0 0,I V 0]:=b9.b (by simp);have t:=a6 (show Ca prog 332 #[Z A ts.length c] _ _ from HZ KJ a3q zC sizeOf392 (by omega) (q.h j).rd);have y:=B.cell 1;clear q;go_in;go_wp2_with fail
 apply t.mono;rintro e H⟨v,rfl,a,i⟩;have f:=B.h i;have o:=N.h i;replace a:=a.mono (b2:=w+2) (by simp);obtain⟨d,h,g,rfl⟩:=a.f;have z:=f.frozen 1;have l:=f.f 1 (Z d h g);have C:=f.cell 1;obtain⟨E,F,G⟩:=l.c3;obtain⟨u,n,x⟩:=p7 (o.far (p:=⟨w,1,J⟩) (by simp) (Z d h g)) (a.low (b:=w) (by omega) 1 (Z d h g)) ((j.trans i).set (p:=⟨w,1,J⟩) (a7 _) (Z d h g));clear f o a l y i j B N;go_wp2_with(refine c7 rfl 234 (Tm 2) (Tm 7) rfl (w+1) _ _ _ rfl rfl u rfl (by kernel_rfl) (by simp[Value.oneCell']) ?_;intro L s r)
 exact Bp (g0 rfl _ _ _ _ _ _ rfl s underlying234 rfl (by kernel_rfl)) rfl ⟨_,rfl,(n.kept r (.inr fun e=>by have:=(n.lt e).1;omega)).mono (by omega),x.grown r (fun k e=>by cases e;omega)⟩
theorem OT(t:j6)(w:Wd):Ca prog 271 (#[Ag (a3q.c t).toArray]++ #[]) w fun e w'=>e=X (O (t.mask==0))∧a9 w w':=by
 show Ca prog _ #[Ag #[I M t.arg,I U6 t.mask,I U6 t.value,I V t.act]] w _;have a:=(a9.refl w).alloc (U #[I M t.arg,I U6 t.mask,I U6 t.value,I V t.act] 392);have b:=(b9.new w 392 #[I M t.arg,I U6 t.mask,I U6 t.value,I V t.act]).cell 1;go_in;go_wp2_with fail
 go_ret;exact⟨rfl,a⟩
structure RE(w:Wd)(nr:Int)(A:Option Ad)(m c:Nat)(ts:List j6)(act:Int)(wr:Wd):Prop where
 b:b9 wr w 234 #[I V nr,Z A m c,I V act]
 t:s7 wr 392 a3q (Z A m c) ts
 r:b9 wr (w+1) 234 #[I V 0,Z J 0 0,I V 0]
 x:a9 w wr
 c:m≤c
section
variable {w wr w':Wd} {nr act:Int} {A:Option Ad} {m c:Nat} {ts:List j6}
theorem MF{b:List j6}{a:Int}{j:Nat}(e:j<b.length)(d:b[j].act=a):F8 b a (j+1)=F8 b a j:=by
 conv=>lhs;unfold F8
 rw[if_pos (by rw[a8,e9 e];exact d)]
theorem SQ{b:List j6}{a:Int}{j:Nat}(e:j<b.length)(d:b[j].act≠a):F8 b a (j+1)=j+1:=by
 unfold F8;rw[if_neg (by rw[a8,e9 e];exact d)]
theorem RE.set2(h:RE w nr A m c ts act wr)(a:Int):RE w nr A m c ts a (wr.setCell ⟨w,2,J⟩ (I V a)):=
 ⟨h.b.f 2 _,h.t.kept fun b cs k=>k.far (fun e=>k.ne h.b (by decide) e) _,h.r.far (by show w+1≠w.heap.size;omega) _,h.x.set (p:=⟨w,2,J⟩) (a7 _) _,h.c⟩
theorem RE.h(h:RE w nr A m c ts act wr)(x:a9 wr w'):RE w nr A m c ts act w':=⟨h.b.h x,h.t.h x,h.r.h x,h.x.trans x,h.c⟩
theorem RE.cut(a:RE w nr A m c ts act wr)(k d:Nat)(g:k≤ts.length)(f:k≤d):RE w nr A k d (ts.take k) act (wr.setCell ⟨w,1,J⟩ (Z A k d)):=
 ⟨a.b.f 1 _,(a.t.take k d g).kept fun b cs q=>q.far (fun e=>q.ne a.b (by decide) e) _,a.r.far (by show w+1≠w.heap.size;omega) _,a.x.set (p:=⟨w,1,J⟩) (a7 _) _,f⟩
end
theorem WZ(nr act:Int)(A:Option Ad)(c:Nat)(ts:List j6)(w:Wd)(cj:ts.length≤1000)(bq:s7 w 392 a3q (Z A ts.length c) ts):
  Ca prog 204 #[.agg #[I V nr,Z A ts.length c,I V act]] w fun e w'=>∃r:RR,e=X (.agg (x3.c r).toArray)∧r.p=s9 ⟨nr,ts,act⟩∧s7 w' 392 a3q r.v r.p.tests∧a9 w w':=by
 have be:=((a9.refl w).alloc (U #[I V nr,Z A ts.length c,I V act] 234)).alloc (U #[I V 0,Z J 0 0,I V 0] 234);have B:=(b9.new w 234 #[I V nr,Z A ts.length c,I V act]).alloc (U #[I V 0,Z J 0 0,I V 0] 234);have N:b9 ((w.alloc (U #[I V nr,Z A ts.length c,I V act] 234)).alloc (U #[I V 0,Z J 0 0,I V 0] 234)) (w+1) 234 #[I V 0,Z J 0 0,I V 0]:=b9.b (by simp);have bl:=a6 (a3V nr act A c ts _ cj (bq.h be));have bh:=a6 (fun(o:Option Ad)(v:Nat)(l:Wd)(ce:h9 l o (a3q.row ts))=>show Ca prog 270 #[Z o ts.length v,Fc (.func 271) #[] #[]] l fun e w'=>e=X (I M (Z7 (fun t:j6=>t.mask==0) ts 0))∧a9 l w' from
  ixQ KI a3q (by decide) isAgg392 sizeOf392 (fun t=>t.mask==0) 271 #[] (Eo func271 (by kernel_rfl) rfl) o ts.length v ts l (fun x dg W _=>OT x W) rfl (by omega) ce)
 have af:=a6 (YH ts act 0);have am:s9 ⟨nr,ts,act⟩=⟨nr,(F5 ts act).1.take (F8 (F5 ts act).1 (F5 ts act).2 (F5 ts act).1.length),(F5 ts act).2⟩:=rfl;obtain⟨⟨a,i⟩,ba⟩:∃q,q=F5 ts act:=⟨_,rfl⟩;rw[←ba]at af am;dsimp only at am;have bi:=a6 am;have da:a.length≤1000:=by have:=xP ts act;rw[←ba]at this;dsimp only at this;omega
 clear bq am ba;go_in;obtain⟨co,ac,bu⟩:=B.c3;go_wp2_with fail
 apply bl.mono;rintro e cq⟨dj,rfl,an,ao⟩;obtain⟨o,v,rfl⟩:=an.b;obtain⟨_,_,cg,cf,_,_⟩:=an.inM;cases cg;have ap:=B.h ao;obtain⟨bn,bj,bm⟩:=p7 (N.h ao) an (be.trans ao);clear co ac bu B N an ao be bl;go_wp2_with(refine c7 rfl 234 (Tm 1) (Tm 6) rfl w _ _ _ rfl rfl ap rfl (by kernel_rfl) (by simp[Value.oneCell']) ?_;intro bv ak bb;have ac:=ak.cell 1)
 have bw:=a6 ak;have ax:=bj.ty.kept fun b cs q=>q.grown bb (fun e=>by injection e with e;exact q.ne ap (by decide) e)
 have f:RE w nr o ts.length v ts act bv:=⟨ak,ax,bn.grown bb (fun e=>by injection e with e;omega),bm.grown bb (fun k e=>by cases e;omega),cf⟩;have h:=a6 f;have bp:=ax.mem;clear ap f ax bj bn bm ak;apply(bh o v bv bp).mono;rintro e dk⟨rfl,cu⟩;have u:=a6 (h.h cu);clear ac bp bh bw h
 go_upto_if 11 with fail
 go_cut [3] (fun di ct=>∃ay,RE w nr o a.length ay a i ct)
 case first=>
  rcases af.out with⟨hi,ah⟩|⟨k,ci,hi,ah⟩
  ·obtain⟨rfl,rfl⟩:a=ts∧i=act:=by injection ah with h1 h2;exact⟨h1,h2⟩
   rw[hi];clear ah hi af;go_wp2_with fail
   go_meet
   exact⟨v,u.out⟩
  ·obtain⟨rfl,rfl⟩:a=ts.take k∧i=ts[k].act:=by injection ah with h1 h2;exact⟨h1,h2⟩
   rw[hi,a4E];have ab:=u.t.mem;obtain⟨bo,bt,rfl,_⟩:=ab.rows (by decide) (by omega);have ae:=ab.b ci (r:=3) rfl;simp only[a3q]at ae;obtain⟨ac,bu⟩:=u.b.d2 1 2;have cz:=u.b.frozen 2;have cd:=u.b.frozen 1;have dd:(k:Int)<ts.length:=by omega
   have cc:(0:Int)≤k:=by omega
   have dc:k≤v:=by omega
   have de:(k:Int)≤v:=by omega
   have bg:=(u.set2 ts[k].act).cut k k (by omega) (a7 k);have dh:=(u.set2 ts[k].act).b.cell 1;have bs:(ts.take k).length=k:=by rw[a4C];omega
   obtain⟨ca,bz⟩:=i6 bs bg;generalize ts[k].act=al at*;clear ah hi af ab bg bs;go_wp2_with fail
   go_meet
   exact⟨k,by rw[ca.out];exact bz.out⟩
 case rest=>
  obtain⟨ay,H⟩:=hcut;have ac:=H.b.cell 1;have h:=a6 H;clear u af H;go_wp2_with fail
  go_loopw [4] (fun cp wr=>∃m y,m≤a.length∧cp=I M m∧RE w nr o m y (a.take m) i wr∧F8 a i a.length=F8 a i m) (fun s _=>(intOf s).toNat)
  case atStart=>exact⟨a.length,ay,a7 _,rfl,by rw[List.take_length];exact h.out,rfl⟩
  case round=>
   clear ac h;obtain⟨m,y,df,rfl,H,aj⟩:=hrel;have h:=a6 H;have bc:(a.take m).length=m:=by rw[a4C];omega
   have ag:=a6 bc;rcases m with _|j
   ·have av:=a6 (show F8 a i a.length=0 from aj)
    clear H aj bc;go_wp2_with fail
    refine e7 rfl [.is ?Bw,.is ?Bx,.is ?By,.is Un,.is Un,.is Un,.is Un,.is Un,.is Un,.is Un,.is Un,.is Un,.is Un,.is ?Bz] (by kernel_rfl) ?Ca ?Aa ⟨?Ab,?Ac,?Ad,?Ae,?Af,?Ag,?Ah,?Ai,?Aj,?Ak,?Al,?Am,?An,?Ao,trivial⟩ ?Ap
    case Aa=>intro x;simp only[e6,Act.put,uL,l9]<;>rfl
    case Ab|Ac|Ad|Ao=>
     intro x l g;simp only[e5,j8,uV];repeat(intro d;try simp only[d])
     go_wp2_with fail
     refine a0e ?_ rfl (a9.refl _);rfl
    case Ae|Af|Ag|Ah|Ai|Aj|Ak|Al|Am|An=>
     intro x l g;simp only[e5,j8,uV];repeat(intro d;try simp only[d])
     exact g5 (by first|decide|simp[Z5]) (by first|rfl|trivial)
    case Ap=>
     intro x l g;simp only[l8,e5,j8,uV];intro n z G L P Q R S T aa C D E F;simp only[n,z,G,L,P,Q,R,S,T,aa,C,D,E,F];clear n z G L P Q R S T aa C D E F;have f:=h.h g;obtain⟨ck,cm,cn⟩:=f.b.c3;have p:=a6 f;clear f;go_wp2_with(refine c7 rfl 234 (Tm 2) (Tm 50) rfl (w+1) _ _ _ rfl rfl p.r rfl (by kernel_rfl) (by simp[Value.oneCell']) ?_;intro cr aq ai)
     refine Bp (g0 rfl _ _ _ _ _ _ rfl aq underlying234 rfl (by kernel_rfl)) rfl ⟨⟨⟨nr,a.take 0,i⟩,o,y⟩,?_,by rw[bi.out,av.out],?_,p.x.grown ai (fun k e=>by cases e;omega)⟩
     ·simp only[x3,RR.v,ag.out]
     ·have bd:=p.t.kept fun b cs k=>k.grown ai (fun e=>by injection e with e;exact k.ne p.r (by decide) e)
      simp only[RR.v,ag.out];exact bd
   ·have br:j<a.length:=by omega
    have ab:=H.t.mem;obtain⟨bo,bt,rfl,_⟩:=ab.rows (by decide) (by omega);have ae:=ab.b (show j<(a.take (j+1)).length by omega) (r:=3) rfl;rw[List.getElem_take]at ae;simp only[a3q]at ae;have bk:=a6 ae;have cq:IntKind.i64.wrap (((j+1:Nat):Int)-1)=(j:Int):=by rw[a37 _ (by omega)];omega
    have cc:(0:Int)≤j:=by omega
    have cy:(j:Int)<((j+1:Nat):Int):=by omega
    obtain⟨aw,au⟩:=i6 (fun az=>aj.trans (MF br az)) (fun az=>aj.trans (SQ br az));generalize a[j].act=al at*;clear H aj bc ab ae;by_cases ad:al=i
    ·have cb:=a6 (aw ad)
     have n:(al==i)=Bt:=by simp[ad]
     clear aw au ad;go_wp2_with fail
     refine e7 rfl [.is ?Cb,.is ?Cc,.is ?Cd,.is ?Ce,.is ?Cf,.is ?Cg,.is ?Ch,.is ?Ci,.is ?Cj,.is ?Ck,.is ?Cl,.is ?Cm,.is ?Cn,.is ?Co] (by kernel_rfl) ?Cp ?Aq ⟨?Ar,?As,?At,?Au,?Av,?Aw,?Ax,?Ay,?Az,?Ba,?Bb,?Bc,?Bd,?Be,trivial⟩ ?Bf
     case Aq=>intro x;simp only[e6,Act.put,uL,l9]<;>rfl
     case Ar|As|At|Au|Av|Aw|Ax|Ay|Az|Ba|Bb|Bc|Bd|Be=>
      intro x l g;simp only[e5,j8,uV];repeat(intro d;try simp only[d])
      try refine g9 (by first|rfl|simp) ?_
      have cv:=(h.b.h g).cell 1;have bf:=bk.out;have cw:=g.cell bf;have cx:=(h.b.h g).cell 2;go_wp2_with fail
      refine a0e ?_ rfl (a9.refl _);rfl
     case Bf=>
      intro x l g;simp only[l8,e5,j8,uV];intro n z G L P Q R S T aa C D E F;simp only[n,z,G,L,P,Q,R,S,T,aa,C,D,E,F];clear n z G L P Q R S T aa C D E F;have f:=h.h g;have ac:=f.b.cell 1;have cd:=f.b.frozen 1;have ch:j≤y:=by have:=f.c;omega
      have db:(j:Int)≤y:=by omega
      have ar:=f.cut j y (by rw[ag.out];omega) ch;rw[List.take_take,Nat.min_eq_left (Nat.le_succ j)]at ar;have bx:=a6 ar;clear f ar;go_wp2_with fail
      go_roundw
      case rel=>exact⟨j,y,by omega,by go_num,bx.out,cb.out⟩
      case measure=>simp[intOf]
    ·have av:=a6 (au ad)
     have n:(al==i)=Bf:=by simp[ad]
     clear aw au ad;go_wp2_with fail
     refine e7 rfl [.is ?Cq,.is ?Cr,.is ?Cs,.is ?Ct,.is ?Cu,.is ?Cv,.is ?Cw,.is ?Cx,.is ?Cy,.is ?Cz,.is ?Da,.is ?Db,.is ?Dc,.is ?Dd] (by kernel_rfl) ?De ?Bg ⟨?Bh,?Bi,?Bj,?Bk,?Bl,?Bm,?Bn,?Bo,?Bp,?Bq,?Br,?Bs,?Bt,?Bu,trivial⟩ ?Bv
     case Bg=>intro x;simp only[e6,Act.put,uL,l9]<;>rfl
     case Bh|Bi|Bj|Bk|Bl|Bm|Bn|Bo|Bp|Bq|Br|Bs|Bt|Bu=>
      intro x l g;simp only[e5,j8,uV];repeat(intro d;try simp only[d])
      try refine g9 (by first|rfl|simp) ?_
      have cv:=(h.b.h g).cell 1;have bf:=bk.out;have cw:=g.cell bf;have cx:=(h.b.h g).cell 2;go_wp2_with fail
      refine a0e ?_ rfl (a9.refl _);rfl
     case Bv=>
      intro x l g;simp only[l8,e5,j8,uV];intro n z G L P Q R S T aa C D E F;simp only[n,z,G,L,P,Q,R,S,T,aa,C,D,E,F];clear n z G L P Q R S T aa C D E F;have f:=h.h g;obtain⟨ck,cm,cn⟩:=f.b.c3;have p:=a6 f;clear f;go_wp2_with(refine c7 rfl 234 (Tm 2) (Tm 50) rfl (w+1) _ _ _ rfl rfl p.r rfl (by kernel_rfl) (by simp[Value.oneCell']) ?_;intro cr aq ai)
      refine Bp (g0 rfl _ _ _ _ _ _ rfl aq underlying234 rfl (by kernel_rfl)) rfl ⟨⟨⟨nr,a.take (j+1),i⟩,(So ⟨bo,bt,J⟩),y⟩,?_,by rw[bi.out,av.out],?_,p.x.grown ai (fun k e=>by cases e;omega)⟩
      ·simp only[x3,RR.v,ag.out]
      ·have bd:=p.t.kept fun b cs k=>k.grown ai (fun e=>by injection e with e;exact k.ne p.r (by decide) e)
       simp only[RR.v,ag.out];exact bd
end
def WN:List Ti:=[234,96]
def w3(d:Int)(rs:List RR):List m1:=((rs.map (·.p)).map s9).filter (F3 d)
theorem UT(d:Int)(rs:List RR){k:Nat}(a:k<rs.length):w3 d (rs.take (k+1))=w3 d (rs.take k)++if F3 d (s9 rs[k].p)then [s9 rs[k].p]else []:=by
 unfold w3;rw[a4a a,a4F,a4F,List.filter_append];simp[List.filter_cons]
structure NmI(w u:Wd)(a d:Int)(A:Option Ad)(c n:Nat)(v:Va)(qs:List RR)(wr:Wd):Prop where
 b:b9 wr u 96 #[I M a,v,I V d]
 o:e4 wr u 234 x3 v qs
 t:∀r∈qs,s7 wr 392 a3q r.v r.p.tests
 v:Tv u WN u wr
 i:b9 wr w 96 #[I M a,Z A n c,I V d]
 r:b9 wr (w+1) 96 #[I M 0,Z J 0 0,I V 0]
theorem NmI.box{w u wr h l:Wd}{a d:Int}{i:Option Ad}{c n:Nat}{v:Va}{j:List RR}(f:NmI w u a d i c n v j wr)(x:a9 wr h)(z:w+2≤u.heap.size){cs:Array Va}(k:b9 h wr 234 cs)(g:h.grownBy l (So wr)):NmI w u a d i c n v j l:=by
 have p:=f.v.size;have s:=f.i.lt;have t:=f.r.lt;have y:=f.b.lt;exact⟨(f.b.h x).grown g (fun e=>by injection e with e;omega),(f.o.h x).kept g (.inr fun e=>by have:=(f.o.lt e).2;omega),fun r o=>((f.t r o).h x).kept fun b cs q=>q.grown g (fun e=>by injection e with e;exact q.ne k (by decide) e),f.v.trans ((Tv.f x).trans (.l g fun b m=>by cases m;exact⟨p,_,k,rfl⟩)),(f.i.h x).grown g (fun e=>by injection e with e;omega),(f.r.h x).grown g (fun e=>by injection e with e;omega)⟩
theorem OS(a d:Int)(z:Option Ad)(c:Nat)(rs:List RR)(w:Wd)(al:dL ⟨a,d,rs.map (·.p)⟩)(bg:s7 w 234 x3 (Z z rs.length c) rs)(bh:∀r∈rs,s7 w 392 a3q r.v r.p.tests):
  Ca prog 131 #[Ag #[I M a,Z z rs.length c,I V d]] w fun e br=>∃bt ca h,e=X (Tp #[Ag #[I M a,Z bt (h:List RR).length ca,I V d],I M 0])∧s7 br 234 x3 (Z bt h.length ca) h∧(∀r∈h,s7 br 392 a3q r.v r.p.tests)∧h.map (·.p)=w3 d rs∧a9 w br:=by
 have aq:=((a9.refl w).alloc (U #[I M a,Z z rs.length c,I V d] 96)).alloc (U #[I M 0,Z J 0 0,I V 0] 96);have B:=(b9.new w 96 #[I M a,Z z rs.length c,I V d]).alloc (U #[I M 0,Z J 0 0,I V 0] 96);have N:b9 ((w.alloc (U #[I M a,Z z rs.length c,I V d] 96)).alloc (U #[I M 0,Z J 0 0,I V 0] 96)) (w+1) 96 #[I M 0,Z J 0 0,I V 0]:=b9.b (by simp);have bu:=a6 (a2x a d z c rs _ al (bg.h aq).mem fun r g=>(bh r g).h aq);have de:rs.length≤40:=by have:=al.len;simpa using this
 obtain⟨cm,ci,ck,cj⟩:=J5 (fun(r:RR)(g:r∈rs)=>show r.p.tests.length≤1000 by have:=(al.rs r.p (List.mem_map_of_mem g)).len;omega) bg bh (fun k n=>UT d rs (k:=k) n);obtain⟨ao,W,ap⟩:=B.c3;clear al bg bh;go_in;go_wp2_with fail
 apply bu.mono;rintro e m⟨rfl,aj⟩;have av:=B.h aj;have ab:=aq.trans aj;clear ao W ap;obtain⟨ao,W,ap⟩:=av.c3;have bn:w+2≤m.heap.size:=by have:=aj.size;simpa using this
 have bb:NmI w m a d z c rs.length (Z J 0 0) [] (m.alloc (U #[I M a,Z J 0 0,I V d] 96)):=
  ⟨b9.new _ _ _,e4.nil _ _ _ _,fun r g=>(by cases g),.f ((a9.refl m).alloc _),av.alloc _,(N.h aj).alloc _⟩
 have da:=bb.i.cell 1;obtain⟨co,bv⟩:=i6 ab bb;clear aj aq ab B av N bb bu;go_wp2_with fail
 go_loopw [19] (fun db wr=>∃(k:Nat)(v:Va)(h:List RR),k≤rs.length∧db=I M k∧NmI w m a d z c rs.length v h wr∧h.map (·.p)=w3 d (rs.take k)∧h.length≤k) (fun i _=>rs.length-(intOf i).toNat)
 case atStart=>exact⟨0,_,[],i5 _,rfl,bv.out,rfl,a7 _⟩
 case round=>
  clear da ao W ap bv;obtain⟨k,v,h,n,rfl,N,cd,bl⟩:=hrel;have ak:=a6 cd;clear cd;have ah:=N.v.b co (by omega);by_cases Q:k<rs.length
  ·have af:=(ci.h ah).mem
   obtain⟨dd,df,rfl,_⟩:=af.rows (by decide) (by omega);have cx:=af.b Q (r:=0) rfl;have cy:=af.b Q (r:=1) rfl;have cz:=af.b Q (r:=2) rfl;simp only[x3,a4z]at cx cy cz;have cb:=(ck _ (a30 Q)).h ah;have cw:=cm _ (a30 Q);have ce:=cj k Q;generalize rs[k]=x at*;obtain⟨⟨R,ts,G⟩,au,bd⟩:=x;dsimp only[RR.v]at*;have bs:=(a9.refl wr).alloc (U #[I V R,Z au ts.length bd,I V G] 234);have aw:=b9.new wr 234 #[I V R,Z au ts.length bd,I V G];obtain⟨bp,am,an⟩:=aw.c3;obtain⟨bw,ay,cp,p⟩:=J5 (WZ R G au bd ts _ cw (cb.h bs)) ce bs N;clear cb ce af bs N ah;go_wp2_with fail
   apply bw.mono;rintro e dg⟨⟨⟨T,t,u⟩,F,H⟩,rfl,cc,bz,ab⟩;dsimp only[x3,RR.v]at*;obtain⟨A,ba,ae,bx⟩:=J5 (aw.h ab) (cp.trans ab) cc bz;clear bp am an aw ab bw cc bz;by_cases L:0<t.length
   ·have cr:Dc (0<t.length)=Bt:=by simpa using L
    have n:F3 d (s9 ⟨R,ts,G⟩)=Bt:=by rw[←ae.out];simp[F3,L]
    have ac:=a6 n;clear n L;have bk:h.length+1≤1000000:=by omega
    go_wp2_with(first
     |(refine c7 rfl 234 (Tm 6) (Tm 24) rfl wr _ _ _ rfl rfl A rfl (by kernel_rfl) (by simp[Value.oneCell']) ?_;intro aa l s;have j:=p.box ba bn A s;have bp:=l.cell 0;have am:=l.cell 1;have an:=l.cell 2;have cf:=j.i.cell 2;have W:=j.b.cell 1;have bj:=j.v.size;have ag:=bx.kept fun b cs k=>k.grown s (fun e=>by injection e with e;exact k.ne A (by decide) e);have f:=a6 j;have az:=a6 ag;clear j l ag s)
     |(at_builtin;go_loud (refine j3 rfl (Tm 37) (Tm 39) 94 234 rfl FG m v h rfl (f.o.h ((a9.refl _).alloc _)) _ 1 1 [⟨⟨T,t,u⟩,F,H⟩] rfl rfl (fF (by simp) rfl) bk (c8 bj (by simp)) ?_;intro dc ai E bm D bi;obtain⟨ar,bo,bc,rfl⟩:=E.f;have y:=(f.b.alloc (U #[I V T,Z F t.length H,I V u] 234)).grown D (fun e=>f.o.ne f.b (by decide) e.symm);have cv:=y.frozen 1;have cu:ai.cell? ⟨m,1,J⟩=So v:=y.cell 1;have C:=a6 y;have ad:=a6 E;have ax:=a6 D;clear y E D bm bi)))
    have bq:Tv m WN aa ai:=(Tv.f ((a9.refl aa).alloc _)).trans (.ofOwn (f.o.h ((a9.refl _).alloc _)) ax (a7 _) (by decide));have o:=bq.trans (Tv.r C (a7 _) (S:=WN) (by decide) 1 (Z ar bo bc))
    go_roundw
    case rel=>
     refine⟨k+1,_,h++[⟨⟨T,t,u⟩,F,H⟩],by omega,by go_num,⟨C.f 1 _,ad.kept (x4 _ m 1 _) (.inr (ad.ne C (by decide))),fun r g=> ?_,f.v.trans o,o.blk f.i (.inl (by omega)),o.blk f.r (.inl (by omega))⟩,by rw[a4F,ak.out,ay.out,if_pos ac.out,←ae.out];rfl,by rw[a2e];exact Nat.succ_le_succ bl⟩;rcases List.mem_append.1 g with g|g
     ·exact(f.t r g).tv o (by decide)
     ·rw[List.mem_singleton.1 g];exact az.tv o (by decide)
    case measure=>simp[intOf];omega
   ·have cr:Dc (0<t.length)=Bf:=by simpa using L
    have be:t.length=0:=by omega
    by_cases P:u=d
    ·have ct:(u !=d)=Bf:=by simp[P]
     have n:F3 d (s9 ⟨R,ts,G⟩)=Bf:=by rw[←ae.out];simp[F3,P,be]
     have ac:=a6 n;clear n L P be;go_wp2_with(refine c7 rfl 234 (Tm 6) (Tm 24) rfl wr _ _ _ rfl rfl A rfl (by kernel_rfl) (by simp[Value.oneCell']) ?_;intro aa l s;have j:=p.box ba bn A s;have am:=l.cell 1;have an:=l.cell 2;have cf:=j.i.cell 2;have f:=a6 j;clear j l s)
     go_roundw
     case rel=>exact⟨k+1,v,h,by omega,by go_num,f.out,by rw[ak.out,ay.out,if_neg (by rw[ac.out];decide),List.append_nil],Nat.le_succ_of_le bl⟩
     case measure=>simp[intOf];omega
    ·have ct:(u !=d)=Bt:=by simp[P]
     have n:F3 d (s9 ⟨R,ts,G⟩)=Bt:=by rw[←ae.out];simp[F3,P]
     have ac:=a6 n;clear n L P be;have bk:h.length+1≤1000000:=by omega
     go_wp2_with(first
      |(refine c7 rfl 234 (Tm 6) (Tm 24) rfl wr _ _ _ rfl rfl A rfl (by kernel_rfl) (by simp[Value.oneCell']) ?_;intro aa l s;have j:=p.box ba bn A s;have bp:=l.cell 0;have am:=l.cell 1;have an:=l.cell 2;have cf:=j.i.cell 2;have W:=j.b.cell 1;have bj:=j.v.size;have ag:=bx.kept fun b cs k=>k.grown s (fun e=>by injection e with e;exact k.ne A (by decide) e);have f:=a6 j;have az:=a6 ag;clear j l ag s)
      |(at_builtin;go_loud (refine j3 rfl (Tm 37) (Tm 39) 94 234 rfl FG m v h rfl (f.o.h ((a9.refl _).alloc _)) _ 1 1 [⟨⟨T,t,u⟩,F,H⟩] rfl rfl (fF (by simp) rfl) bk (c8 bj (by simp)) ?_;intro dc ai E bm D bi;obtain⟨ar,bo,bc,rfl⟩:=E.f;have y:=(f.b.alloc (U #[I V T,Z F t.length H,I V u] 234)).grown D (fun e=>f.o.ne f.b (by decide) e.symm);have cv:=y.frozen 1;have cu:ai.cell? ⟨m,1,J⟩=So v:=y.cell 1;have C:=a6 y;have ad:=a6 E;have ax:=a6 D;clear y E D bm bi)))
     have bq:Tv m WN aa ai:=(Tv.f ((a9.refl aa).alloc _)).trans (.ofOwn (f.o.h ((a9.refl _).alloc _)) ax (a7 _) (by decide));have o:=bq.trans (Tv.r C (a7 _) (S:=WN) (by decide) 1 (Z ar bo bc))
     go_roundw
     case rel=>
      refine⟨k+1,_,h++[⟨⟨T,t,u⟩,F,H⟩],by omega,by go_num,⟨C.f 1 _,ad.kept (x4 _ m 1 _) (.inr (ad.ne C (by decide))),fun r g=> ?_,f.v.trans o,o.blk f.i (.inl (by omega)),o.blk f.r (.inl (by omega))⟩,by rw[a4F,ak.out,ay.out,if_pos ac.out,←ae.out];rfl,by rw[a2e];exact Nat.succ_le_succ bl⟩;rcases List.mem_append.1 g with g|g
      ·exact(f.t r g).tv o (by decide)
      ·rw[List.mem_singleton.1 g];exact az.tv o (by decide)
     case measure=>simp[intOf];omega
  ·obtain rfl:k=rs.length:=by omega
   obtain⟨cg,cq,rfl⟩:=N.o.b;obtain⟨ao,W,ap⟩:=N.b.c3;obtain⟨p,cn⟩:=i6 N ah;clear N ah;go_wp2_with(refine c7 rfl 96 (Tm 2) (Tm 43) rfl (w+1) _ _ _ rfl rfl p.r rfl (by kernel_rfl) (by simp[Value.oneCell']) ?_;intro dh ch bf)
   exact Bp (h7 rfl _ _ _ _ _ _ rfl ch underlying96 rfl (by kernel_rfl)) rfl ⟨cg,cq,h,rfl,(p.o.kept bf (.inr (p.o.ne p.r (by decide)))).ty,fun r g=>(p.t r g).kept fun b cs q=>q.grown bf (fun e=>by injection e with e;exact q.ne p.r (by decide) e),by rw[ak.out,List.take_length],cn.grown bf (fun k e=>by cases e;omega)⟩
theorem NN(w:Wd)(T:Ti):(w.alloc (U #[] T)).ownsRow w T 4 (Z w 0 0) 0 []:=
 ⟨rfl,.inr ⟨_,0,#[],rfl,a7 _,b9.new w T #[],a7 _,i5 _,rfl,rfl⟩⟩
theorem JV{w:Wd}{base:Nat}{b:Ti}{n c:Nat}{a:Option Ad}{xs:List Va}(e:w.ownsRow base b 4 (Z a n c) n xs)(m:1≤n):∃g j,a=So ⟨g,0,J⟩∧b9 w g b (xs++j).toArray∧base≤g:=by
 obtain⟨l,⟨d,k⟩|⟨g,cap,cur,d,f,h,_,_,_,i⟩⟩:=e
 ·omega
 ·injection d with hA
  refine⟨g,cur.toList.drop (n*4),hA,?_,f⟩;unfold b9;rw[h,←i,List.take_append_drop]
theorem YQ(b h n c:Nat)(ps:List Sy)(w:Wd)(D:ps.length=n)(H:1≤n)(P:n≤131072)(j:h9 w (So ⟨b,h,J⟩) (sc ps)):
  Ca prog 342 #[Z (So ⟨b,h,J⟩) n c] w fun e i=>∃g a f,e=X (Z (So ⟨g,0,J⟩) n a)∧b9 i g 374 (sc ps++f).toArray∧w.heap.size≤g∧a9 w i:=by
 obtain⟨G,hi,o,p,q⟩:=info_parts BV;have l:=NN w 374;have d:=(a9.refl w).alloc (U #[] 374);have k:(sc ps).length=n*4:=by rw[K4];omega
 have y:=TB ps;have t:=a6 (j.h d);have r:=a6 hi;have u:=a6 o;have v:=a6 p;have x:=a6 q;have s:=a6 k;have A:0+n≤1000000:=by omega
 have N:∀w:Wd,(binOp .eql 159 (Z (So ⟨b,h,J⟩) n c) (Z J 0 0)).run prog w= .ok (O Bf) w:=fun w=>Lib.run_eql_slice_nil w _ 374 _ n c 0 0 underlying159
 clear hi o p q D k j;go_in;go_wp2_with(refine R7 rfl (Tm 5) (Tm 6) 159 rfl w 374 G _ 4 24 underlying159 r u v x rfl (by decide) w 0 0 [] rfl l _ n c (sc ps) rfl s t y A (by decide) d.size ?_;intro L a i m C F;clear F)
 have E:=d.app l (a7 _) C;rw[List.nil_append,a4E]at m;obtain⟨g,f,rfl,z,B⟩:=JV m H;go_ret;exact⟨g,a,f,rfl,z,B,E⟩
def gI(f:Int→Int)(ps:List Sy)(k:Nat):List Sy:=(q5 ps.length).map fun i=>if i<k then mv f (ps.getD i c6)else ps.getD i c6
theorem B6(f:Int→Int)(ps:List Sy)(k:Nat):(gI f ps k).length=ps.length:=by simp[gI]
theorem T5(f:Int→Int)(ps:List Sy)(k i:Nat)(h:i<ps.length):(gI f ps k).getD i c6=if i<k then mv f (ps.getD i c6)else ps.getD i c6:=by
 simp[gI,a8,h]
theorem NV(f:Int→Int)(ps:List Sy):gI f ps 0=ps:=xL (B6 _ _ _) fun i hi=>by
 rw[B6]at hi;rw[T5 f ps 0 i hi,if_neg (by omega)]
theorem UY(f:Int→Int)(ps:List Sy):gI f ps ps.length=ps.map (mv f):=xL (by rw[B6,a32]) fun i hi=>by
 rw[B6]at hi;rw[T5 f ps _ i hi,if_pos hi,mI _ _ _ hi]
theorem NW(f:Int→Int)(ps:List Sy)(k:Nat)(b:k<ps.length):(gI f ps k).set k (mv f (ps.getD k c6))=gI f ps (k+1):=xL (by rw[List.length_set,B6,B6]) fun i hi=>by
 rw[List.length_set,B6]at hi;rw[X8,B6,T5 f ps k i hi,T5 f ps (k+1) i hi];by_cases e:k=i
 ·subst e
  rw[if_pos ⟨rfl,hi⟩,if_pos (by omega)]
 ·rw[if_neg (fun x=>e x.1)]
  by_cases a:i<k
  ·rw[if_pos a,if_pos (by omega)]
  ·rw[if_neg a,if_neg (by omega)]
theorem NX(f:Int→Int)(ps:List Sy)(k:Nat)(c:k<ps.length)(b:mv f (ps.getD k c6)=ps.getD k c6):gI f ps (k+1)=gI f ps k:=xL (by rw[B6,B6]) fun i hi=>by
 rw[B6]at hi;rw[T5 f ps k i hi,T5 f ps (k+1) i hi];by_cases e:k=i
 ·subst e
  rw[if_pos (by omega),if_neg (by omega),b]
 ·by_cases a:i<k
  ·rw[if_pos a,if_pos (by omega)]
  ·rw[if_neg a,if_neg (by omega)]
theorem zO:∀(ps:List Sy)(k r:Nat)(v:Va)(s':Sy)(a:k<ps.length),r<4→ps[k].cells.toList.set r v=s'.cells.toList→(sc ps).set (k*4+r) v=sc (ps.set k s')
 |i::ps,0,r,v,s',_,hr,h=>by
  rw[P6,List.set_append_left _ _ (by simp[Sy.cells];omega),Nat.zero_mul,a4E];have b:i.cells.toList.set r v=s'.cells.toList:=h;rw[b];rfl
 |i::ps,k+1,r,v,s',a,hr,h=>by
  have c:k<ps.length:=by simpa using a
  have:=zO ps k r v s' c hr (by simpa using h);rw[P6,List.set_append_right _ _ (by simp[Sy.cells];omega)];have e:(k+1)*4+r-i.cells.toList.length=k*4+r:=by simp[Sy.cells];omega
  rw[e,this];rfl
theorem uX{w:Wd}{g:Nat}{a:Ti}{ps:List Sy}{b:List Va}(c:b9 w g a (sc ps++b).toArray){k:Nat}(d:k<ps.length)(r:Nat)(e:r<4)(v:Va)(s':Sy)(f:ps[k].cells.toList.set r v=s'.cells.toList):
  b9 (w.setCell ⟨g,k*4+r,J⟩ v) g a (sc (ps.set k s')++b).toArray:=by
 have:=c.f (k*4+r) v;rw[List.setIfInBounds_toArray,List.set_append_left _ _ (by rw[K4];omega),zO ps k r v s' d e f]at this;exact this
theorem YX{w:Wd}{g:Nat}{a:Ti}{ps:List Sy}{b:List Va}{k:Nat}{co kk th el:Int}(c:b9 w g a (sc ps++b).toArray)(d:k<ps.length)(e:ps[k]=⟨co,kk,th,el⟩)(x:Int):
  b9 (w.setCell ⟨g,k*4+2,J⟩ (I M x)) g a (sc (ps.set k ⟨co,kk,x,el⟩)++b).toArray:=uX c d 2 (by omega) _ _ (by rw[e];rfl)
theorem a4p{w:Wd}{g:Nat}{a:Ti}{ps:List Sy}{b:List Va}{k:Nat}{co kk th el:Int}(c:b9 w g a (sc ps++b).toArray)(d:k<ps.length)(e:ps[k]=⟨co,kk,th,el⟩)(x:Int):
  b9 (w.setCell ⟨g,k*4+3,J⟩ (I M x)) g a (sc (ps.set k ⟨co,kk,th,x⟩)++b).toArray:=uX c d 3 (by omega) _ _ (by rw[e];rfl)
theorem fA{w:Wd}{g:Nat}{a:Ti}{ps:List Sy}{d:List Va}{k:Nat}{co kk th el:Int}(b:b9 w g a (sc ps++d).toArray)(c:k<ps.length)(e:ps[k]=⟨co,kk,th,el⟩):
  w.cell? ⟨g,k*4,J⟩=So (I U1 co)∧w.cell? ⟨g,k*4+1,J⟩=So (I V kk)∧w.cell? ⟨g,k*4+2,J⟩=So (I M th)∧w.cell? ⟨g,k*4+3,J⟩=So (I M el):=by
 have:=D8 (h9.f b rfl).prefix_ c;simp only[a4E,e]at this;exact this
theorem kN(s:Sy)(q:Int)(b:(Y3 s.code).1.cls=q)(h:(q==4)=Bf)(W:Wd):Ca prog 344 #[s.val] W fun e g=>e=X (O Bf)∧a9 W g:=by
 have a:=a6 (fun W'=>y7 s.code W');rw[b]at a;clear b;obtain⟨co,k,th,el⟩:=s;unfold Sy.val Sy.cells;dsimp only at*;have d:=(a9.refl W).alloc (U #[I U1 co,I V k,I M th,I M el] 374);have c:=b9.new W 374 #[I U1 co,I V k,I M th,I M el];obtain⟨i,j,l,m⟩:=(c).c4;go_in;go_wp2_with fail
 apply(a _).mono;rintro e n⟨rfl,f⟩;go_wp2_with fail
 go_ret;exact⟨rfl,d.trans f⟩
theorem DV{s:Sy}{a n:Int}(d:H5 s a n)(W:Wd):Ca prog 344 #[s.val] W fun e g=>e=X (O (l0 s.code))∧a9 W g:=by
 have b:=jA d;rcases d with⟨q,_,_,_⟩|⟨q,_,_⟩|⟨q,_,_⟩|⟨q,_,_,f⟩|⟨q,f,h⟩
 ·rw[q]at b⊢
  exact kN s 1 (by rw[q];exact b) rfl W
 ·rw[q]at b⊢
  exact kN s 3 (by rw[q];exact b) rfl W
 ·rw[q]at b⊢
  exact kN s 5 (by rw[q];exact b) rfl W
 ·rw[q]at b
  have c:=wH s (by rw[q];exact b) W;rw[q]at c⊢;exact c
 ·have c:=wH s (by rw[b,if_neg (by omega),if_neg (by omega),if_neg (by omega)]) W
  rw[a0h.2 q];rw[show(s.code !=5)=Bt by simp;omega]at c;exact c
def MvS(h:FuncId)(C:Array Va)(B:Va→Array Va):Prop:=∀(f:Int→Int)(P:Int→Prop)(b j n c:Nat)(ps:List Sy)(w:Wd),ps.length=n→1≤n→n≤131072→h9 w (So ⟨b,j,J⟩) (sc ps)→
  (∀i,i<n→∃a m,H5 (ps.getD i c6) a m)→(∀i,i<n→∀t,r2 (ps.getD i c6) t→P t)→
  (∀W t,a9 w W→P t→Ca prog h (B (I M t)) W fun e d=>e=X (I M (f t))∧a9 W d)→
  Ca prog 340 #[Z (So ⟨b,j,J⟩) n c,Fc (.func h) #[] C] w fun e d=>∃g k l,e=X (Z (So ⟨g,0,J⟩) n k)∧b9 d g 374 (sc (ps.map (mv f))++l).toArray∧w.heap.size≤g∧a9 w d
theorem pV:(∀gb,MvS 343 #[K (So ⟨gb,0,J⟩)] fun v=> #[v,K (So ⟨gb,0,J⟩)])∧(∀gb,MvS 346 #[K (So ⟨gb,0,J⟩)] fun v=> #[v,K (So ⟨gb,0,J⟩)])∧∀ar gb,MvS 341 #[K (So ⟨ar,0,J⟩),K (So ⟨gb,0,J⟩)] fun v=> #[v,K (So ⟨ar,0,J⟩),K (So ⟨gb,0,J⟩)]:=by
 refine⟨fun gb=> ?_,fun gb=> ?_,fun ar gb=> ?_⟩<;>(
  intro f P b cp n c ps w ba cm cn bn bh bj al;dsimp only at al;obtain⟨bg,bi,cd,ch,am,ca⟩:=jX (YQ b cp n c ps w ba cm cn bn) ba bh bj al (UY f ps);obtain⟨cg,cf,ce,cc,ci⟩:=gP (NW f ps) (NX f ps) (B6 f ps) (T5 f ps) (NV f ps);clear ba bn bh bj al;go_in;go_wp2_with fail
  apply(bg.out).mono;rintro e da⟨g,cj,bu,rfl,bo,ae,bs⟩;have bf:=a6 bo;clear bo bg;go_wp2_with fail
  go_loopw [12] (fun bd W=>∃k:Nat,k≤n∧bd=I M k∧a9 w W∧b9 W g 374 (sc (gI f ps k)++bu).toArray) (fun bd _=>n-(intOf bd).toNat)
  case atStart=>exact⟨0,i5 _,rfl,bs,by rw[ci.out];exact bf.out⟩
  case round=>
   clear bs bf;obtain⟨k,cu,rfl,bc,C⟩:=hrel;by_cases ay:k<n
   ·have R:k<ps.length:=by rw[bi.out];exact ay
    have z:k<(gI f ps k).length:=by rw[ce.out];exact R
    obtain⟨cw,cx,D⟩:=cd k ay;have ad:=jA D;have E:=fun t=>ch k ay t
    have S:(gI f ps k)[k]=ps.getD k c6:=by
     have:=cc k k R;rw[if_neg (by omega)]at this;rw[←this];simp[a8,z]
    have A:=cg k R;have af:=cf k R;have x:=a6 (fun W'=>DV D W');have k1:(0:Int)≤k:=by omega
    have k2:(k:Int)<n:=by omega
    have k3:(k:Int)≤131072:=by omega
    generalize F:gI f ps k=ag at*;generalize br:gI f ps (k+1)=bw at*;have an:=a6 br;generalize ps.getD k c6=s at*;obtain⟨co,kk,th,el⟩:=s;obtain⟨cy,bv,cq,cz⟩:=fA C z S;unfold Sy.val Sy.cells at x;dsimp only at*;have aa:=b9.new wr 374 #[I U1 co,I V kk,I M th,I M el];have N:=bc.alloc (U #[I U1 co,I V kk,I M th,I M el] 374);have au:=C.alloc (U #[I U1 co,I V kk,I M th,I M el] 374);have bq:wr≠g:=by have:=C.lt;omega
    obtain⟨d,h,i,j⟩:=(aa).c4;have B:=a6 (fun W'=>y7 co W');clear F br C bc R;by_cases ab:co=5
    ·subst ab
     have G:(Y3 5).1.cls=4:=by kernel_rfl
     have bk:l0 5=Bf:=rfl;rw[G]at B;rw[bk]at x;obtain⟨ax,T⟩:=i6 (E th (WV rfl)) (show ag.set k ⟨5,kk,f th,el⟩=bw from by rw[lZ f rfl]at A;exact A);clear D ad E A af G bk;go_wp2_with fail
     apply(B _).mono;rintro e ah⟨rfl,a⟩;have m:=aa.h a;obtain⟨d,h,i,j⟩:=(m).c4;go_wp2_with fail
     apply(am ah th (N.trans a) ax.out).mono;rintro e cr⟨rfl,u⟩;have r:=au.h (a.trans u);have L:=YX r z S (f th);have Q:=(N.trans (a.trans u)).set (p:=⟨g,k*4+2,J⟩) ae (I M (f th));have y:=(m.h u).far (p:=⟨g,k*4+2,J⟩) bq (I M (f th));have ap:=(fA r z S).2.2.1;have aq:=r.frozen (k*4+2);clear d h i j;obtain⟨d,h,i,j⟩:=(y).c4;obtain⟨aj,ai,ak⟩:=p7 y L Q;clear r L Q y m u a;go_wp2_with fail
     clear ap aq;apply(x _).mono;rintro e be⟨rfl,l⟩;have ao:=aj.h l;clear d h i j;obtain⟨d,h,i,j⟩:=(ao).c4;go_wp2_with fail
     go_roundw
     case rel=>exact⟨k+1,by omega,by go_num,ak.trans l,by rw[an.out,←T.out];exact ai.h l⟩
     case measure=>simp[intOf];omega
    ·by_cases o:l0 co=Bt
     ·have F:=a0h.1 o
      have G:(Y3 co).1.cls=4:=by rw[ad,if_neg (by omega),if_neg (by omega),if_neg (by omega)]
      rw[G]at B;rw[o]at x;obtain⟨ax,ck,T⟩:=p7 (E th (yA (s:=⟨co,kk,th,el⟩) o).1) (E el (yA (s:=⟨co,kk,th,el⟩) o).2) (show ag.set k ⟨co,kk,f th,f el⟩=bw from by rw[Q1 (s:=⟨co,kk,th,el⟩) f o]at A;exact A);clear D ad E A af G ab o F;go_wp2_with fail
      apply(B _).mono;rintro e ah⟨rfl,a⟩;have m:=aa.h a;obtain⟨d,h,i,j⟩:=(m).c4;go_wp2_with fail
      apply(am ah th (N.trans a) ax.out).mono;rintro e cr⟨rfl,u⟩;have r:=au.h (a.trans u);have L:=YX r z S (f th);have Q:=(N.trans (a.trans u)).set (p:=⟨g,k*4+2,J⟩) ae (I M (f th));have y:=(m.h u).far (p:=⟨g,k*4+2,J⟩) bq (I M (f th));have ap:=(fA r z S).2.2.1;have aq:=r.frozen (k*4+2);clear d h i j;obtain⟨d,h,i,j⟩:=(y).c4;obtain⟨aj,ai,ak⟩:=p7 y L Q;clear r L Q y m u a;go_wp2_with fail
      clear ap aq;apply(x _).mono;rintro e be⟨rfl,l⟩;have ao:=aj.h l;clear d h i j;obtain⟨d,h,i,j⟩:=(ao).c4;go_wp2_with fail
      have aw:=ak.trans l;apply(am be el aw ck.out).mono;rintro e db⟨rfl,bt⟩;have ac:=ai.h (l.trans bt);have bp:k<(ag.set k ⟨co,kk,f th,el⟩).length:=by rw[List.length_set];exact z
      have bb:(ag.set k ⟨co,kk,f th,el⟩)[k]=⟨co,kk,f th,el⟩:=List.getElem_set_self ..;have av:=a4p ac bp bb (f el);have bm:=(aw.trans bt).set (p:=⟨g,k*4+3,J⟩) ae (I M (f el));have cs:=(fA ac bp bb).2.2.2;have ct:=ac.frozen (k*4+3);rw[List.set_set,T.out]at av;obtain⟨bx,bz⟩:=i6 av bm;clear ac av bm bb aw;go_wp2_with fail
      go_roundw
      case rel=>exact⟨k+1,by omega,by go_num,bz.out,by rw[an.out];exact bx.out⟩
      case measure=>simp[intOf];omega
     ·have az:co=32∨co=84∨co=6:=by
       rcases D with⟨q,_,_,_⟩|⟨q,_,_⟩|⟨q,_,_⟩|⟨q,_,_,bv⟩|⟨q,bv,cq⟩
       ·exact .inl q
       ·exact .inr (.inl q)
       ·exact .inr (.inr q)
       ·exact absurd q ab
       ·exact absurd (a0h.2 q) o
      obtain⟨q,F,cv⟩:∃q:Int,(Y3 co).1.cls=q∧(q==4)=Bf:=by
       rcases az with H|H|H
       ·exact⟨1,by rw[H];kernel_rfl,rfl⟩
       ·exact⟨3,by rw[H];kernel_rfl,rfl⟩
       ·exact⟨5,by rw[H];kernel_rfl,rfl⟩
      have bl:l0 co=Bf:=by simpa using o
      rw[F]at B;rw[bl]at x;have T:=a6 (af (r8 (s:=⟨co,kk,th,el⟩) f az));clear D ad E A af ab o bl az F;go_wp2_with fail
      apply(B _).mono;rintro e ah⟨rfl,a⟩;have m:=aa.h a;clear d h i j;obtain⟨d,h,i,j⟩:=(m).c4;go_wp2_with fail
      apply(x _).mono;rintro e be⟨rfl,l⟩;go_wp2_with fail
      go_roundw
      case rel=>exact⟨k+1,by omega,by go_num,N.trans (a.trans l),by rw[an.out,T.out];exact au.h (a.trans l)⟩
      case measure=>simp[intOf];omega
   ·obtain rfl:k=n:=by omega
    have cb:=a6 C;clear C;go_wp2_with fail
    go_ret;exact⟨g,cj,bu,rfl,by rw[←ca.out,bi.out];exact cb.out,ae,bc⟩)
theorem tG(b:List Va)(s':Sy):∀(a:List Sy)(k:Nat),k<a.length→splice (sc a++b) (k*4) s'.cells.toList=sc (a.set k s')++b
 |i::a,0,_=>by
  unfold splice;rw[P6,Nat.zero_mul,List.take_zero,List.nil_append,a4E,a4s,show s'.cells.toList.length=i.cells.toList.length from rfl,List.drop_left];rw[List.set_cons_zero,P6,a4s]
 |i::a,k+1,h=>by
  have ih:=tG b s' a k (by simpa using h);unfold splice at ih⊢;have e:(k+1)*4=i.cells.toList.length+k*4:=by simp[Sy.cells];omega
  rw[P6,a4s,e,List.take_length_add_append,Nat.add_assoc,List.drop_length_add_append,a4s,ih,List.set_cons_succ,P6,a4s]
theorem rG{w:Wd}{g:Nat}{c:Ti}{a:List Sy}{b:List Va}{k:Nat}{s':Sy}(e:k<a.length)(d:b9 w g c (splice (sc a++b) (k*4) s'.cells.toList).toArray):b9 w g c (sc (a.set k s')++b).toArray:=by
 rwa[tG b s' a k e]at d
theorem m3{e:Fence}{n:Nat}{P:Pg}{w:Wd}{j:Array Oper}{rest:List Oper}{d:Oper}{a:Act}{Q:Exit→Act→Wd→Prop}(r:d.guard=J)(ty:Ti)(x k:Operand)(f:d.op= .store ty x k)
  (g b:Nat) (t:Ti) (cur:List Va) (cs:Array Va) (s:a.eval x=K (So ⟨g,b,J⟩)) (u:a.eval k=Ag cs) (i:b9 w g t cur.toArray) (q:b+cs.size≤cur.length)
  (hi:(P.info? ty).map (·.size)=So cs.size) (m:∀v∈cs.toList,v.oneCell'=Bt)
  (l:∀h,b9 h g t (splice cur b cs.toList).toArray→w.grownBy h (So g)→Wl e n P j Q rest (a.put d.dst Un) h):Wl e n P j Q (d::rest) a w:=by
 refine wpListIn_plain r fun y o=> ?_
 unfold Oper.wpIn;refine⟨?_,?_⟩
 ·simp[Oper.about,f,Sem.run_pure]
 ·rw[Oper.semAt_plain e _ _ (by rw[f];intro c p;cases p)]
  simp only[execOp,f,s,u,Instr.storeAt,Instr.sureAddr,Sem.run_bind,Sem.run_pure,Result.andThen_ok,Y8 w g b t ty cur cs i q hi m];exact o _ _ (l _ (setRow_heap w g _ _ t _ i) (E1 w g _))
def VP.ptrm(xs:List Va):VP:=⟨fun v w=>∃A,v=K A∧h9 w A xs,fun _ _ _⟨A,h,k⟩ e=>⟨A,h,k.h e⟩⟩
theorem a0r(gb g n j:Nat)(a:List Sy)(o:List Va)(l:a.length=n)(W:Wd)(d:b9 W gb 159 #[Z g n j])(f:b9 W g 374 (sc a++o).toArray)(t:Int)(m:0≤t∧t<n):
  Ca prog 343 #[I M t,K gb] W fun e p=>e=X (I M (C1 a t))∧a9 W p:=by
 obtain⟨t,rfl⟩:∃x:Nat,t=x:=⟨t.toNat,by omega⟩;have c:t<a.length:=by omega
 have h:C1 a t=if a[t].code=5 then a[t].th else(t:Int):=by
  unfold C1;rw[a4A,show a.getD t c6=a[t] by simp[a8,c]]
 rw[h];obtain⟨q,r,u,v⟩:=fA (co:=a[t].code) (kk:=a[t].k) (th:=a[t].th) (el:=a[t].el) f c rfl;have i:=d.cell 0;simp only[List.getElem?_toArray,List.getElem?_cons_zero]at i;have w:(0:Int)≤t:=by omega
 have y:(t:Int)<n:=by omega
 generalize a[t]=s at*;obtain⟨co,kk,th,el⟩:=s;dsimp only at*;clear h l c m d f;by_cases b:co=5
 ·rw[if_pos b]
  have k:(co==5)=Bt:=by simpa using b
  clear b;go_in;go_wp2;go_ret;exact⟨rfl,a9.refl _⟩
 ·rw[if_neg b]
  have k:(co==5)=Bf:=by simpa using b
  clear b;go_in;go_wp2;go_ret;exact⟨rfl,a9.refl _⟩
end Go.Proofs.YtiomenjfmagknaaGreat
