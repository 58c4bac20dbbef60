/- A part of the proof of TopSame: lemmas on the walks of its calls. -/
import Derived.Test.YtiomenjfmagknaaGreatM09
set_option maxHeartbeats 12000000
set_option linter.all false
set_option maxRecDepth 100000
namespace Go.Proofs.YtiomenjfmagknaaGreat
open Go.RowKit Go.ChangeShapes Go.WideShapes Tryz
open Bool renaming false_eq_true→a4x,true→Bt,false→Bf
open Decidable renaming decide→Dc
open Ending renaming returned→X
open Go renaming World→Wd,Value→Va,Calls→Ca,callsIn_wide→Cw,bodyPost_ret→Bp,TypeId→Ti,Addr→Ad,callsIn_of_wp_marks→Cm,callsIn_of_wp→Co,CallsIn→Ci
open Go.Proofs renaming enters_of→Eo
open Int renaming toNat_natCast→a4A
open IntKind renaming i64→M,u32→V,u64→U6,u16→U1,u8→U8
open IntWalk renaming i64_in→a37
open Lib renaming hid→a6
open List renaming getD_eq_getElem?_getD→a8,getElem?_eq_getElem→e9,length_append→a2e,replicate→a2A,range→q5,length_cons→a3W,getElem_mem→a30
open Nat renaming le_refl→a7,le_trans→c8,reduceAdd→l9,add_zero→a4z
open Obj renaming cells→U
open Operand renaming tmp→Tm
open Option renaming none→J,some→So
open Value renaming int→I,slice→Z,pointer→K,bool→O,func→Fc,tuple→Tp,agg→Ag,nilFunc→Nf
def QL(i:i2)(m:Int):Bool:=bits .andNot U1 (HC i) m !=0
def y6(ps:List i2)(a:List (Nat×Int)):List Int:=a.filterMap fun v=>if QL (ps.getD v.1 j5) v.2 then So (v.1:Int)else J
theorem fH(ps:List i2)(a:List (Nat×Int))(v:Nat×Int):y6 ps (a++[v])=y6 ps a++(if QL (ps.getD v.1 j5) v.2 then [(v.1:Int)]else []):=by
 unfold y6;rw[List.filterMap_append];congr 1;rw[List.filterMap_cons,List.filterMap_nil];cases QL (ps.getD v.1 j5) v.2<;>rfl
theorem vI(ps:List i2)(a:List (Nat×Int)):(y6 ps a).length≤a.length:=List.length_filterMap_le _ _
def cB(a:Nat)(W:Wd)(x:Nat):Prop:=x=a∨∃v,W.cell? ⟨a,0,J⟩=So v∧v.ownBlock=So x
theorem B2{b:Nat}{t:Ti}{W:Wd}{v:Va}(a:b9 W b t #[v]){x:Nat}:cB b W x↔x=b∨v.ownBlock=So x:=by
 unfold cB;rw[a.cell];constructor
 ·rintro(a|⟨u,d,c⟩)
  ·exact .inl a
  ·cases d;exact .inr c
 ·rintro(a|a)
  ·exact .inl a
  ·exact .inr ⟨v,rfl,a⟩
structure rS(ps:List i2)(A:Option Ad)(n c bP bL:Nat)(vs:List (Nat×Int))(W:Wd):Prop where
 box:b9 W bP 49 #[Z A n c]
 prog:h9 W A (pc ps)
 row:∃v,b9 W bL 33 #[v]∧W.ownsRow (bL+1) 3 1 v (y6 ps vs).length (i3 M (y6 ps vs))
theorem XI(ps:List i2)(k:Option Ad)(n c m l B:Nat)(w:m<B)(u:0<(pc ps).length→∀a,k=So a→a.block<B):yF (cB l) (rS ps k n c m l) B:=
 ⟨fun s W x h f=>by
  obtain⟨v,d,i⟩:=h.row;rcases(B2 d).1 f with rfl|e
  ·exact⟨_,_,_,d⟩
  ·rcases i.2 with⟨rfl,_⟩|⟨g,cap,cur,rfl,_,j,_⟩
   ·cases e
   ·cases e
    exact⟨_,_,_,j⟩,
 fun s W W' h f=>by
  obtain⟨v,d,i⟩:=h.row;have o:=f.blk d (.inr (.inl rfl));refine⟨⟨f.blk h.box (.inl w),f.inM h.prog u,v,o,?_⟩,fun b=>by rw[B2 d,B2 o]⟩;rcases i.2 with⟨rfl,p⟩|⟨g,cap,cur,rfl,q,j,r,t⟩
  ·exact⟨i.1,.inl ⟨rfl,p⟩⟩
  ·have y:=(f.keep g (Array.getElem?_eq_some_iff.1 j).1 (.inr ((B2 d).2 (.inr rfl)))).trans j
   exact⟨i.1,.inr ⟨g,cap,cur,rfl,q,y,r,t⟩⟩⟩
theorem a26(ps:List i2)(H:Option Ad)(n c s d k:Nat)(m:Int)(h:List (Nat×Int))(cd:ps.length=n)(cc:n≤4096)(ca:k<n)(bk:∀i∈ps,i.ok)(cb:h.length≤4096)(bc:s<d)(bb:∀a,H=So a→a.block<d)(W:Wd)(bd:rS ps H n c s d h W):
  Ca prog 207 #[I M k,I U1 m,K s,K d] W fun e W'=>(∃v,e=X v)∧rS ps H n c s d (h++[(k,m)]) W'∧VK (cB d) W W':=by
 obtain⟨x,p,v,q,E⟩:=bd;have D:k<ps.length:=by omega
 have T:=vI ps h;have ac:=a6 (fH ps h (k,m));obtain⟨ae,bt,rfl,_⟩:=K7 p (by omega);obtain⟨aq,ar,au,av⟩:=G1 p D;have C:=a6 (fun W=>a3p (ps[k]'D) (bk _ (a30 D)) W);have ab:ps.getD k j5=ps[k]:=by rw[a8,e9 D];rfl
 have g:=ac.out;dsimp only at g;rw[ab]at g;clear ab ac;generalize ps[k]=P at*;have w:QL P m=(bits .andNot U1 (HC P) m !=0):=rfl;obtain⟨co,bs,br,kk⟩:=P;simp only[i2.val,i2.cells]at C;dsimp only at aq ar au av;generalize HC ⟨co,bs,br,kk⟩=bv at*;obtain⟨z,bp⟩:∃z,bits .andNot U1 bv m=z:=⟨_,rfl⟩;rw[bp]at w;have bu:=x.cell 0;have ce:(0:Int)≤k:=by omega
 have cf:(k:Int)<n:=by omega
 by_cases ak:z=0
 ·subst ak
  rw[w]at g;simp only[bne_self_eq_false,a4x,if_false,List.append_nil]at g;have B:=a6 g;have aw:=a6 (show∀W',a9 W W'→rS ps (So ⟨ae,bt,J⟩) n c s d (h++[(k,m)]) W'∧VK (cB d) W W' from fun W' f=>⟨⟨x.h f,p.h f,v,q.h f,by rw[B.out];exact M1 E f⟩,VK.f f (fun b=>by rw[B2 q,B2 (q.h f)])⟩);clear g w T x p q E B;go_in;go_wp2_with fail
  apply(C _).mono;rintro e o⟨rfl,f⟩;go_wp2_with fail
  go_end0
  exact⟨⟨_,rfl⟩,aw _ f⟩
 ·have bn:(z !=0)=Bt:=by simpa using ak
  rw[w,bn]at g;simp only[if_true]at g;obtain⟨B,ad⟩:=i6 g T;clear g w T;go_in;go_wp2_with fail
  apply(C _).mono;rintro e o⟨rfl,f⟩;have A:=q.h f;have ai:=M1 E f;have bh:=x.h f;have bl:=p.h f;have bw:=A.cell 0;clear aq ar au av bu C x p E;have bf:(y6 ps h).length+1≤maxLen:=by have:=ad.out;unfold maxLen;omega
  have bg:((y6 ps h).length+1)*8≤140737488355328:=by have:=ad.out;omega
  obtain⟨bq,hi,al,am,an⟩:=info_parts XC;have ax:=a6 hi;have ay:=a6 al;have az:=a6 am;have ba:=a6 an;clear hi al am an;generalize y6 ps h=aa at*;have bo:d+1≤(o.alloc (U #[I M k] 3)).heap.size:=by have:=A.lt;simp;omega
  have ah:=ai.alloc (U #[I M k] 3);go_wp2_with(refine wpList_append_own_at _ rfl (Tm 14) (Tm 16) 33 rfl (d+1) 3 bq _ 1 8 underlying33 ax ay az ba rfl (by decide) _ _ _ rfl ah ⟨o,0,J⟩ 1 1 [I M k] rfl rfl (fun j u bj=>(h9.f (b9.b rfl) rfl:h9 _ o [I M k]).add bj) (by simp[Value.oneCell']) bf bg bo ?_;intro v' G S l _ bm;obtain⟨N,L,rfl⟩:=ownsRow_succ S;have F:b9 G d 33 #[v]:=(A.alloc _).grown l (fun e=>by have:=(ah.lt _ e.symm).1;omega);have bx:=F.cell 0;have bz:=F.frozen 0)
  go_end0
  have y:=grownBy_setCell' G d (Z N (aa.length+1) L);have r:=f.alloc (U #[I M k] 3);have be:ae<d:=bb _ rfl;have bi:∀e,v.ownBlock=So e→d+1≤e:=fun e Q=>(ai.lt e Q).1
  have aj:Below d o (G.setCell ⟨d,0,J⟩ (Z N (aa.length+1) L)):=
   ((((a9.refl o).alloc (U #[I M k] 3)).below (Nat.le_of_lt A.lt)).grown l (by have:=A.lt;simp;omega) (fun e Q=>by have:=bi e Q;omega)).setCell (a7 _) _
  refine⟨⟨_,rfl⟩,⟨bh.below aj bc,PD bl be aj,_,F.f 0 _,?_⟩,?_⟩
  ·rw[B.out,a2e,M5]
   exact S.kept y (.inr (fun e=>by have:=(S.lt _ e).1;omega))
  ·refine⟨y.os.trans (l.os.trans r.os),y.tape.trans (l.tape.trans r.tape),y.output.trans (l.output.trans r.output),c8 r.size (c8 l.size y.size),fun b ag R=> ?_⟩
   rw[B2 q]at R;have ao:b≠d:=fun e=>R (.inl e)
   have ap:v.ownBlock≠So b:=fun e=>R (.inr e)
   refine⟨(Below.heap_setCell G ⟨d,0,J⟩ _ b ao).trans ((l.block b (Nat.lt_of_lt_of_le ag r.size) (fun e=>ap e.symm)).trans (r.block ag)),fun t=> ?_⟩;rcases(B2 (F.f 0 (Z N (aa.length+1) L))).1 t with e|e
   ·exact ao e
   ·rcases bm with t|t
    ·exact ap (t.symm.trans e)
    ·have af:So b=So (o.heap.size+1):=by rw[←e];exact t.trans (by simp)
     injection af with af
     have:=f.size;omega
def L8(ps:List i2):List Int:=if 4096<ps.length then []else y6 ps (y5 ps ps.length)
theorem EK(ps:List i2)(k:Nat):(y5 ps k).length≤k:=by
 unfold y5;refine c8 (List.length_filterMap_le _ _) ?_;simp
theorem a0l(d:Option Ad)(n c:Nat)(ps:List i2)(w:Wd)(o:ps.length=n)(A:∀i∈ps,i.ok)(l:h9 w d (pc ps)):
  Ca prog 133 #[Z d n c] w fun e S=>∃P f,e=X (Z P (L8 ps).length f)∧S.ownsRow w 3 1 (Z P (L8 ps).length f) (L8 ps).length (i3 M (L8 ps))∧a9 w S:=by
 have q:=((a9.refl w).alloc (U #[Z d n c] 49)).alloc (U #[Z J 0 0] 33);have r:b9 ((w.alloc (U #[Z d n c] 49)).alloc (U #[Z J 0 0] 33)) w 49 #[Z d n c]:=(b9.new w _ _).alloc _;have h:b9 ((w.alloc (U #[Z d n c] 49)).alloc (U #[Z J 0 0] 33)) (w+1) 33 #[Z J 0 0]:=b9.b (by simp);have aj:=r.cell 0;by_cases H:4096<n
 ·have p:L8 ps=[]:=by unfold L8;rw[if_pos (by omega)]
  rw[p];have s:=a6 (fun af lb W=>a0j d n c H af lb W);have L:World.ownsRow ((w.alloc (U #[Z d n c] 49)).alloc (U #[Z J 0 0] 33)) w 3 1 (Z J 0 0) 0 (i3 M []):=World.ownsRow_nil _ _ _ _;have ae:=h.cell 0;clear p A l H o r h;go_in;go_wp2_with fail
  generalize(w.alloc (U #[Z d n c] 49)).alloc (U #[Z J 0 0] 33)=B at*;apply(s _ _ _).mono;rintro e B⟨⟨v,rfl⟩,rfl⟩;go_wp2;go_ret;exact⟨J,0,rfl,L,q⟩
 ·have p:L8 ps=y6 ps (y5 ps n):=by unfold L8;rw[if_neg (by omega),o]
  rw[p];have x:0<n→∀a,d=So a→a.block<w.heap.size:=fun t a e=>by
   subst e;obtain⟨b,ai,C,y⟩:=K7 l (by omega);injection C with C
   subst C;exact y
  have s:=a6 (fun W(ad:a9 w W)(R:w+2=W.heap.size) aa j=>callsIn_wide.1 (a4O d n c ps o (by omega) A 207 #[K w,K (w+1:Nat)] (Eo func207 (by kernel_rfl) rfl) (cB (w+1)) (rS ps d n c w (w+1)) W
   (XI ps d n c _ _ _ (by omega) (by rw[K9,o];intro t a e;have:=x (by omega) a e;omega))
   (fun k W2 z _ T=>a26 ps d n c w (w+1) k _ (y5 ps k) o (by omega) z A (by have:=EK ps k;omega) (by omega) (fun a e=>by have:=x (by omega) a e;omega) W2 T) (l.h ad) aa j))
  have G:=a6 (l.h q);have R:w+2=((w.alloc (U #[Z d n c] 49)).alloc (U #[Z J 0 0] 33)).heap.size:=by simp
  have F:=a6 x;clear p A l x;go_in;go_wp2_with fail
  generalize(w.alloc (U #[Z d n c] 49)).alloc (U #[Z J 0 0] 33)=B at*;have D:∀b,cB (w+1) B b→w.heap.size<b:=fun b m=>by
   rcases(B2 h).1 m with t|t
   ·omega
   ·cases t
  refine(s B q R (fun j a e m=> ?_) ⟨r,G.out,_,h,World.ownsRow_nil _ _ _ _⟩).mono ?_
  ·have L:=F j a e
   have ah:=D _ m;omega
  rintro e ag⟨⟨v,rfl⟩,⟨y,ab,u,Q,N⟩,z⟩;have ae:=Q.cell 0;have ac:a9 w ag:=PO q z (fun b y m=>by have:=D _ m;omega);obtain⟨P,f,rfl⟩:∃P f,u=Z P (y6 ps (y5 ps n)).length f:=by
   rcases N.2 with⟨E,j⟩|⟨g,cap,cur,E,_⟩
   ·exact⟨J,0,by rw[E,j]⟩
   ·exact⟨_,_,E⟩
  clear z q D r h Q y ab s G F;go_wp2;go_ret;exact⟨P,f,rfl,tN N (show w≤w.heap.size+1+1 by omega),ac⟩
theorem dW(m:Int):∀(a:List Int)(s:List Int×List Bool),(a.foldl (D6 m) s).2=Y9 s.2 a
 |[],s=>rfl
 |n::a,s=>by
  rw[List.foldl_cons,dW m a];simp[Y9,D6]
theorem J9(ps:List i2):∀k,(y1 ps k).2=dB ps k
 |0=>rfl
 |k+1=>by
  rw[aU,pA];unfold lM JK;rw[J9 ps k];split
  ·rw[dW,J9 ps k]
  ·exact J9 ps k
theorem oZ(j:Nat):∀(a:List Int)(l:List Bool),(∀x∈a,x.toNat≠j)→(Y9 l a).getD j Bf=l.getD j Bf
 |[],l,_=>rfl
 |n::a,l,h=>by
  have b:=oZ j a (l.set n.toNat Bt) (fun x d=>h x (by simp[d]));have c:n.toNat≠j:=h n (by simp);simp only[Y9,List.foldl_cons]at b⊢;rw[b];simp[a8,List.getElem?_set,c]
theorem bE(ps:List i2)(a:∀i∈ps,i.ok)(j:Nat):∀d,(dB ps (j+d)).getD j Bf=(dB ps j).getD j Bf
 |0=>rfl
 |d+1=>by
  rw[←Nat.add_assoc,pA];unfold JK;split
  ·rw[oZ,bE ps a j d]
   intro x b;have:=AU ps a _ x b;omega
  ·exact bE ps a j d
theorem F4{e:Type}(l:List e)(i j:Nat)(a d:e):(l.set i a).getD j d=if i=j∧j<l.length then a else l.getD j d:=by
 simp only[a8,List.getElem?_set];by_cases b:i=j
 ·subst b
  by_cases c:i<l.length
  ·simp[c]
  ·simp[c]
 ·simp[b]
theorem eR(ps:List i2)(n j:Nat)(d:j<n):∀k,(X4 n (y5 ps k)).getD j 0=(if j<k∧(dB ps j).getD j Bf=Bt then(y1 ps j).1.getD j 0 else 65535)
 |0=>by simp[y5,X4,a8,d]
 |k+1=>by
  rw[cS,J9];by_cases b:(dB ps k).getD k Bf=Bt
  ·rw[if_pos b,wT,F4,eR ps n j d k,mC]
   by_cases c:k=j
   ·subst c
    simp only[d,and_self,if_true];rw[if_pos ⟨by omega,b⟩]
   ·rw[if_neg (fun e=>c e.1)]
    by_cases a:j<k
    ·simp only[a,show j<k+1 by omega,true_and]
    ·simp only[a,show¬j<k+1 by omega,false_and]
  ·rw[if_neg b,List.append_nil,eR ps n j d k]
   by_cases c:k=j
   ·subst c
    rw[if_neg (fun e=>b e.2),if_neg (fun e=>b e.2)]
   ·by_cases a:j<k
    ·simp only[a,show j<k+1 by omega,true_and]
    ·simp only[a,show¬j<k+1 by omega,false_and]
theorem XV{b:Type}(d:b){l m:List b}(c:l.length=m.length)(f:∀j,j<l.length→l.getD j d=m.getD j d):l=m:=by
 refine List.ext_getElem c fun j a e=> ?_
 have:=f j a;simpa[a8,a,e]using this
def JI(i:i2)(c:Nat):Bool:=(i.code==2||i.code==3)&&i.k==(c:Int)
def RV(ps:List i2)(c:Nat)(a:List Bool)(i:Nat):List Bool:=if a.getD i Bf then(if JI (ps.getD i j5) c then a else Y9 a (lY ps i))else a
def W6(ps:List i2)(c k:Nat):List Bool:=(q5 k).foldl (RV ps c) (T0 ps.length)
theorem EM(ps:List i2)(c k:Nat):W6 ps c (k+1)=RV ps c (W6 ps c k) k:=by simp[W6,List.range_succ,List.foldl_append]
def zL(ps:List i2)(c:Nat)(a:List Int)(i:Nat):List Int:=if(W6 ps c i).getD i Bf then a else a.set i (bits .or U1 (a.getD i 0) (2^c:Nat))
def N3(ps:List i2)(c:Nat)(a:List Int)(k:Nat):List Int:=(q5 k).foldl (zL ps c) a
theorem fS(ps:List i2)(c:Nat)(a:List Int)(k:Nat):N3 ps c a (k+1)=zL ps c (N3 ps c a k) k:=by simp[N3,List.range_succ,List.foldl_append]
theorem vV(ps:List i2)(c:Nat)(a:List Int)(i:Nat):(zL ps c a i).length=a.length:=by
 unfold zL;split
 ·rfl
 ·simp
theorem O6(ps:List i2)(c:Nat)(a:List Int):∀k,(N3 ps c a k).length=a.length
 |0=>rfl
 |k+1=>by rw[fS,vV,O6 ps c a k]
def E4(ps:List i2)(m:Nat):List Int:=(q5 m).foldl (fun a c=>N3 ps c a ps.length) (a2A ps.length 0)
theorem dY(ps:List i2)(m:Nat):E4 ps (m+1)=N3 ps m (E4 ps m) ps.length:=by simp[E4,List.range_succ,List.foldl_append]
theorem E3(ps:List i2):∀m,(E4 ps m).length=ps.length
 |0=>by simp[E4]
 |m+1=>by rw[dY,O6,E3 ps m]
def W9(ps:List i2):List Int:=if 4096<ps.length then []else E4 ps 16
theorem YY(c:Nat→Nat→Nat)(bo:BinOp)(h:∀x d:Int,bits bo U1 x d=IntKind.u16.wrap ((c (BitVec.ofInt 16 x).toNat (BitVec.ofInt 16 d).toNat:Nat):Int))(j:∀a b:Nat,a<65536→b<65536→c a b<65536)(a b:Nat)(g:a<65536)(i:b<65536):bits bo U1 (a:Int) (b:Int)=((c a b:Nat):Int):=by
 have e:(BitVec.ofInt 16 (a:Int)).toNat=a:=by rw[BitVec.ofInt_natCast,BitVec.toNat_ofNat];exact Nat.mod_eq_of_lt (by omega)
 have f:(BitVec.ofInt 16 (b:Int)).toNat=b:=by rw[BitVec.ofInt_natCast,BitVec.toNat_ofNat];exact Nat.mod_eq_of_lt (by omega)
 rw[h,e,f];have:=j a b g i;exact IntWalk.u16_in _ (by omega)
theorem a2L(a b:Nat)(c:a<65536)(d:b<65536):bits .and U1 (a:Int) (b:Int)=((a&&&b:Nat):Int):=
 YY (·&&&·) .and (fun x e=>by show IntKind.u16.wrap ((BitVec.ofInt 16 x&&&BitVec.ofInt 16 e).toNat:Int)=_;rw[BitVec.toNat_and]) (fun a b f g=>Nat.and_lt_two_pow (n:=16) _ (by omega)) a b c d
theorem a5a(a b:Nat)(c:a<65536)(d:b<65536):bits .or U1 (a:Int) (b:Int)=((a|||b:Nat):Int):=
 YY (·|||·) .or (fun x e=>by show IntKind.u16.wrap ((BitVec.ofInt 16 x|||BitVec.ofInt 16 e).toNat:Int)=_;rw[BitVec.toNat_or]) (fun a b f g=>Nat.or_lt_two_pow (n:=16) (by omega) (by omega)) a b c d
theorem PQ:∀e∈M9,(e.cls==2)=(e.code==2||e.code==3):=by
 intro e a;simp only[M9,List.mem_cons,List.not_mem_nil,or_false]at a;rcases a with rfl|rfl|rfl|rfl|rfl|rfl|rfl|rfl|rfl|rfl|rfl|rfl|rfl|rfl|rfl|rfl|rfl|rfl|rfl|rfl|rfl|rfl|rfl|rfl|rfl|rfl|rfl|rfl|rfl|rfl|rfl|rfl|rfl|rfl|rfl|rfl|rfl|rfl|rfl|rfl|rfl
 all_goals kernel_rfl
theorem QF(c:Int):(j7 c==2)=(c==2||c==3):=by
 unfold j7;rcases uT c with a|⟨e,i,rfl,a⟩
 ·have g:c≠2:=fun e=>by
   subst e;have b:(Y3 2).2=Bt:=by kernel_rfl
   rw[a]at b;cases b
  have h:c≠3:=fun e=>by
   subst e;have b:(Y3 3).2=Bt:=by kernel_rfl
   rw[a]at b;cases b
  rw[a];have d:(c==2)=Bf:=by simpa using g
  have f:(c==3)=Bf:=by simpa using h
  rw[d,f];rfl
 ·rw[a]
  exact PQ e i
theorem a2X(i:i2)(hi:i.ok)(c:Nat)(g:c<16):∃x:Nat,p4 i=x∧x<65536∧x.testBit c=JI i c:=by
 have k0:0≤i.k:=hi.2.2.2.1;obtain⟨k,f⟩:∃k:Nat,i.k=k:=⟨i.k.toNat,by omega⟩;unfold p4 JI;rw[QF,f];cases(i.code==2||i.code==3)with
 |false=>exact⟨0,by simp,by omega,by simp⟩
 |true=>
  by_cases d:k<16
  ·have a:((k:Int)<16):=by omega
   simp only[a,decide_true,Bool.and_self,if_true,Bool.true_and,a4A];refine⟨2^k,by simp,Nat.lt_of_lt_of_le (Nat.pow_lt_pow_right (by omega) d) (by decide),?_⟩;rw[Nat.testBit_two_pow];by_cases e:k=c
   ·subst e;simp
   ·have b:¬((k:Int)=(c:Int)):=by omega
    simp[e,b]
  ·have a:¬((k:Int)<16):=by omega
   simp only[a,decide_false,Bool.and_false,a4x,if_false,Bool.true_and];refine⟨0,rfl,by omega,?_⟩;have:¬((k:Int)=(c:Int)):=by omega
   simp[this]
structure rT(c:Nat)(S:List Int)(R un:List Bool):Prop where
 l1:S.length=R.length
 l2:un.length=R.length
 no:∀j,j<R.length→R.getD j Bf=Bf→un.getD j Bf=Bf
 yes:∀j,j<R.length→R.getD j Bf=Bt→∃x:Nat,S.getD j 0=x∧x<65536∧x.testBit c= !un.getD j Bf
theorem YK{c:Nat}{S:List Int}{R i:List Bool}(d:rT c S R i)(b:Nat)(m:b<65536)(z:Nat)(u:z<R.length)(p:c<16):
  rT c (jJ S R z b) (R.set z Bt) (if b.testBit c then i else i.set z Bt):=by
 have s:(if b.testBit c then i else i.set z Bt).length=R.length:=by split<;>simp[d.l2]
 refine⟨by simp[jJ,d.l1],by simpa using s,fun j a g=> ?_,fun j a g=> ?_⟩
 ·rw[List.length_set]at a
  rw[F4]at g;split at g
  ·cases g
  ·rename_i q
   have f:=d.no j a g;have r:z≠j:=fun e=>q ⟨e,a⟩
   split
   ·exact f
   ·rw[F4,if_neg (fun e=>r e.1)];exact f
 ·rw[List.length_set]at a
  unfold jJ;by_cases e:z=j
  ·subst e
   rw[F4,if_pos ⟨rfl,by rw[d.l1];exact a⟩];cases o:R.getD z Bf with
   |true=>
    obtain⟨x,f,l,k⟩:=d.yes z a o;simp only[if_true];refine⟨x&&&b,by rw[f,a2L x b l m],Nat.and_lt_two_pow (n:=16) _ (by omega),?_⟩;rw[Nat.testBit_and,k];cases b.testBit c with
    |true=>simp
    |false=>simp only[a4x,if_false];rw[F4,if_pos ⟨rfl,by rw[d.l2];exact a⟩];simp
   |false=>
    have f:=d.no z a o;simp only[a4x,if_false];refine⟨65535&&&b,by rw[show(65535:Int)=((65535:Nat):Int)from rfl,a2L 65535 b (by decide) m],Nat.and_lt_two_pow (n:=16) _ (by omega),?_⟩;rw[Nat.testBit_and,show(65535:Nat)=2^16-1 from rfl,Nat.testBit_two_pow_sub_one];simp only[p,decide_true,Bool.true_and];cases t:b.testBit c with
    |true=>simp only[if_true];rw[f];rfl
    |false=>simp only[a4x,if_false];rw[F4,if_pos ⟨rfl,by rw[d.l2];exact a⟩];rfl
  ·rw[F4,if_neg (fun h=>e h.1)]
   rw[F4,if_neg (fun h=>e h.1)]at g;obtain⟨x,f,l,k⟩:=d.yes j a g;refine⟨x,f,l,?_⟩;split
   ·exact k
   ·rw[F4,if_neg (fun h=>e h.1)];exact k
theorem CD{c:Nat}(b:Nat)(g:b<65536)(f:c<16):∀(d:List Int)(s:List Int×List Bool)(a:List Bool),rT c s.1 s.2 a→(∀x∈d,x.toNat<s.2.length)→
  rT c (d.foldl (D6 b) s).1 (d.foldl (D6 b) s).2 (if b.testBit c then a else Y9 a d)
 |[],s,a,h,_=>by
  have:(if b.testBit c then a else Y9 a [])=a:=by split<;>rfl
  rw[this];exact h
 |n::d,s,a,h,hn=>by
  have i:=YK h b g n.toNat (hn n (by simp)) f;have e:=CD b g f d (D6 b s n) _ i (fun x j=>by have:=hn x (by simp[j]);simpa[D6]using this);rw[List.foldl_cons];have:(if b.testBit c then(if b.testBit c then a else a.set n.toNat Bt)else Y9 (if b.testBit c then a else a.set n.toNat Bt) d)=(if b.testBit c then a else Y9 a (n::d)):=by
   cases b.testBit c<;>rfl
  rw[this]at e;exact e
theorem cW(ps:List i2)(e:∀i∈ps,i.ok)(c:Nat)(d:c<16):∀k,k≤ps.length→rT c (y1 ps k).1 (y1 ps k).2 (W6 ps c k)
 |0,_=>by
  have p:(y1 ps 0).1=a2A ps.length 0:=rfl;have q:(y1 ps 0).2=T0 ps.length:=rfl;have r:W6 ps c 0=T0 ps.length:=rfl;rw[p,q,r];refine⟨by simp[T0],rfl,fun j g b=>b,fun j g b=> ?_⟩;rw[b];have B:j<ps.length:=by simpa[T0]using g
  exact⟨0,by simp[a8,B],by omega,by simp⟩
 |k+1,hk=>by
  have ih:=cW ps e c d k (by omega);have E:=(Z8 ps k).2;have h:k<ps.length:=by omega
  have A:ps.getD k j5=ps[k]:=by rw[a8,e9 h];rfl
  rw[aU,EM];unfold lM RV;cases l:(y1 ps k).2.getD k Bf with
  |false=>
   have:=ih.no k (by omega) l;rw[this];simp only[a4x,if_false];exact ih
  |true=>
   simp only[if_true];obtain⟨x,v,w,y⟩:=ih.yes k (by omega) l;rw[A];obtain⟨f,s,t,u⟩:=a2X ps[k] (e _ (a30 h)) c d;rw[v,s,a5a x f w t];have C:x|||f<65536:=Nat.or_lt_two_pow (n:=16) (by omega) (by omega)
   have a:=CD (x|||f) C d (lY ps k) (y1 ps k) (W6 ps c k) ih (fun z D=>by have:=AU ps e k z D;omega);rw[Nat.testBit_or,y,u]at a;cases o:(W6 ps c k).getD k Bf with
   |false=>
    rw[o]at a;simpa using a
   |true=>
    rw[o]at a;cases m:JI ps[k] c with
    |true=>rw[m]at a;simpa using a
    |false=>rw[m]at a;simpa using a
theorem DK(ps:List i2)(c:Nat)(b:List Int)(j:Nat)(g:j<b.length):∀k,(N3 ps c b k).getD j 0=if j<k∧(W6 ps c j).getD j Bf=Bf then bits .or U1 (b.getD j 0) (2^c:Nat)else b.getD j 0
 |0=>by simp[N3]
 |k+1=>by
  have ih:=DK ps c b j g k;rw[fS];unfold zL;cases f:(W6 ps c k).getD k Bf with
  |true=>
   simp only[if_true];rw[ih];by_cases d:k=j
   ·subst d
    rw[if_neg (fun e=>by rw[f]at e;exact absurd e.2 (by decide)),if_neg (fun e=>by rw[f]at e;exact absurd e.2 (by decide))]
   ·by_cases a:j<k
    ·simp only[a,show j<k+1 by omega,true_and]
    ·simp only[a,show¬j<k+1 by omega,false_and]
  |false=>
   simp only[a4x,if_false];rw[F4,O6];by_cases d:k=j
   ·subst d
    rw[if_pos ⟨rfl,g⟩,if_pos ⟨by omega,f⟩,ih,if_neg (fun e=>by omega)]
   ·rw[if_neg (fun e=>d e.1),ih]
    by_cases a:j<k
    ·simp only[a,show j<k+1 by omega,true_and]
    ·simp only[a,show¬j<k+1 by omega,false_and]
theorem uQ(ps:List i2)(j:Nat)(f:j<ps.length):∀m,m≤16→∃a:Nat,(E4 ps m).getD j 0=a∧a<65536∧∀c,c<16→a.testBit c=(Dc (c<m)&& !(W6 ps c j).getD j Bf)
 |0,_=>⟨0,by simp[E4,a8,f],by omega,fun c d=>by simp⟩
 |m+1,hm=>by
  obtain⟨a,k,h,i⟩:=uQ ps j f m (by omega);rw[dY,DK ps m _ j (by rw[E3];exact f),k];have l:2^m<65536:=Nat.lt_of_lt_of_le (Nat.pow_lt_pow_right (by omega) (show m<16 by omega)) (by decide);by_cases g:(W6 ps m j).getD j Bf=Bf
  ·rw[if_pos ⟨f,g⟩]
   refine⟨a|||2^m,a5a a (2^m) h l,Nat.or_lt_two_pow (n:=16) (by omega) (by omega),fun c d=> ?_⟩;rw[Nat.testBit_or,i c d,Nat.testBit_two_pow];by_cases e:m=c
   ·subst e;rw[g];simp
   ·by_cases b:c<m
    ·simp[e,b,show c<m+1 by omega]
    ·simp[e,b,show¬c<m+1 by omega]
  ·rw[if_neg (fun e=>g e.2)]
   refine⟨a,rfl,h,fun c d=> ?_⟩;rw[i c d];by_cases e:m=c
   ·subst e
    have:(W6 ps m j).getD j Bf=Bt:=by simpa using g
    rw[this];simp
   ·by_cases b:c<m
    ·simp[b,show c<m+1 by omega]
    ·simp[b,show¬c<m+1 by omega]
theorem ME(ps:List i2)(d:∀i∈ps,i.ok)(l:¬4096<ps.length)(j:Nat)(f:j<ps.length):∃x:Nat,(oR ps).getD j 0=x∧x<65536∧∀c,c<16→x.testBit c= !(W6 ps c j).getD j Bf:=by
 unfold oR;rw[if_neg l,eR ps _ j f,←J9];have p:=(Z8 ps j).2;by_cases a:(y1 ps j).2.getD j Bf=Bt
 ·rw[if_pos ⟨f,a⟩]
  obtain⟨x,h,k,_⟩:=(cW ps d 0 (by omega) j (by omega)).yes j (by omega) a;refine⟨x,h,k,fun c b=> ?_⟩;obtain⟨m,n,o,g⟩:=(cW ps d c b j (by omega)).yes j (by omega) a;have:x=m:=by omega
  rw[this];exact g
 ·rw[if_neg (fun e=>a e.2)]
  refine⟨65535,rfl,by omega,fun c b=> ?_⟩;have:=(cW ps d c b j (by omega)).no j (by omega) (by simpa using a);rw[this,show(65535:Nat)=2^16-1 from rfl,Nat.testBit_two_pow_sub_one];simp[b]
theorem bX(x a:Nat)(e:x<65536)(f:a<65536)(b:∀c,c<16→x.testBit c=a.testBit c):x=a:=by
 refine Nat.eq_of_testBit_eq fun c=> ?_
 by_cases d:c<16
 ·exact b c d
 ·have p:(65536:Nat)≤2^c:=by
   have:(2:Nat)^16≤2^c:=Nat.pow_le_pow_right (by omega) (by omega);omega
  rw[Nat.testBit_lt_two_pow (by omega),Nat.testBit_lt_two_pow (by omega)]
theorem MD(ps:List i2)(o:∀i∈ps,i.ok):oR ps=W9 ps:=by
 by_cases a:4096<ps.length
 ·unfold oR W9
  rw[if_pos a,if_pos a]
 ·have f:(oR ps).length=ps.length:=by unfold oR;rw[if_neg a,mC]
  refine XV 0 (by rw[f];unfold W9;rw[if_neg a,E3]) fun j d=> ?_
  rw[f]at d;obtain⟨x,l,m,n⟩:=ME ps o a j d;obtain⟨p,g,h,k⟩:=uQ ps j d 16 (by omega);have e:W9 ps=E4 ps 16:=by unfold W9;rw[if_neg a]
  rw[e,l,g,bX x p m h (fun c b=>by rw[n c b,k c b];simp[b])]
def rdb(i:i2):Bool:=(i.code==96||i.code==97)&&Dc (i.k<16)
def QK(i:i2)(r:Bool)(m:Int):Bool:=r&&rdb i&&(m/2^i.k.toNat % 2==0)
def unU(ps:List i2)(k:Nat):List Int:=(q5 k).filterMap fun j=>if QK (ps.getD j j5) ((pJ ps).getD j Bf) ((W9 ps).getD j 0)then So (j:Int)else J
def W7(ps:List i2):List Int:=unU ps (W9 ps).length
theorem RZ(ps:List i2)(k:Nat):unU ps (k+1)=unU ps k++(if QK (ps.getD k j5) ((pJ ps).getD k Bf) ((W9 ps).getD k 0)then [(k:Int)]else []):=by
 unfold unU;rw[List.range_succ,List.filterMap_append];congr 1;rw[List.filterMap_cons,List.filterMap_nil];cases QK (ps.getD k j5) ((pJ ps).getD k Bf) ((W9 ps).getD k 0)<;>rfl
theorem hJ(a b c:Nat)(d:c<16):((BitVec.ofInt 16 (a:Int))&&& ~~~(BitVec.ofInt 16 (b:Int))).toNat.testBit c=(a.testBit c&& !b.testBit c):=by
 have e:∀x:Nat,(BitVec.ofInt 16 (x:Int)).getLsbD c=x.testBit c:=fun x=>by
  rw[BitVec.ofInt_natCast,BitVec.getLsbD_ofNat];simp[d]
 have f:∀v:BitVec 16,v.toNat.testBit c=v.getLsbD c:=fun v=>rfl
 rw[f,BitVec.getLsbD_and,BitVec.getLsbD_not,e,e];simp[d]
theorem II(k m:Nat)(i:k<16)(l:m<65536):(bits .andNot U1 ((2^k:Nat):Int) (m:Int) !=0)= !m.testBit k:=by
 have h:bits .andNot U1 ((2^k:Nat):Int) (m:Int)=((((BitVec.ofInt 16 ((2^k:Nat):Int))&&& ~~~(BitVec.ofInt 16 (m:Int))).toNat:Nat):Int):=by
  have j:=((BitVec.ofInt 16 ((2^k:Nat):Int))&&& ~~~(BitVec.ofInt 16 (m:Int))).isLt;show IntKind.u16.wrap ((((BitVec.ofInt 16 ((2^k:Nat):Int))&&& ~~~(BitVec.ofInt 16 (m:Int))).toNat:Nat):Int)=_;exact IntWalk.u16_in _ (by omega)
 rw[h];have d:=fun c b=>hJ (2^k) m c b
 generalize((BitVec.ofInt 16 ((2^k:Nat):Int))&&& ~~~(BitVec.ofInt 16 (m:Int)))=v at*;cases f:m.testBit k with
 |true=>
  have:v.toNat=0:=bX _ _ (by have:=v.isLt;omega) (by omega) (fun c b=>by
   rw[d c b,Nat.testBit_two_pow,Nat.zero_testBit];by_cases e:k=c
   ·subst e;simp[f]
   ·simp[e])
  rw[this];rfl
 |false=>
  have a:=d k i;rw[Nat.testBit_two_pow,f]at a;have:v.toNat≠0:=fun e=>by rw[e]at a;simp at a
  have g:((v.toNat:Nat):Int)≠0:=by omega
  simpa using g
theorem ZA(i:i2)(hi:i.ok)(m:Nat)(g:m<65536):QL i m=(rdb i&&((m:Int)/2^i.k.toNat % 2==0)):=by
 have k0:0≤i.k:=hi.2.2.2.1;obtain⟨k,f⟩:∃k:Nat,i.k=k:=⟨i.k.toNat,by omega⟩;unfold QL HC rdb;rw[f];cases(i.code==96||i.code==97)with
 |false=>
  simp only[Bool.false_and,a4x,if_false];have b:bits .andNot U1 0 (m:Int)=0:=by
   have:=fun c a=>hJ 0 m c a
   show IntKind.u16.wrap (((BitVec.ofInt 16 ((0:Nat):Int))&&& ~~~(BitVec.ofInt 16 (m:Int))).toNat:Int)=0;have e:((BitVec.ofInt 16 ((0:Nat):Int))&&& ~~~(BitVec.ofInt 16 (m:Int))).toNat=0:=bX _ _ (by have:=((BitVec.ofInt 16 ((0:Nat):Int))&&& ~~~(BitVec.ofInt 16 (m:Int))).isLt;omega) (by omega) (fun c a=>by rw[this c a];simp);rw[e];rfl
  rw[b];rfl
 |true=>
  by_cases b:k<16
  ·have d:((k:Int)<16):=by omega
   simp only[d,decide_true,Bool.and_self,if_true,a4A,Bool.true_and];have:=II k m b g;rw[show((2:Int)^k)=((2^k:Nat):Int) by simp,this,Nat.testBit_eq_decide_div_mod_eq];have e:((m:Int)/((2^k:Nat):Int) % 2)=((m/2^k % 2:Nat):Int):=by simp
   rw[e];have h:m/2^k % 2<2:=Nat.mod_lt _ (by omega);generalize m/2^k % 2=r at*;have:r=0∨r=1:=by omega
   rcases this with rfl|rfl<;>rfl
  ·have d:¬((k:Int)<16):=by omega
   simp only[d,decide_false,Bool.and_false,a4x,if_false,Bool.false_and];have b:bits .andNot U1 0 (m:Int)=0:=by
    have:=fun c a=>hJ 0 m c a
    show IntKind.u16.wrap (((BitVec.ofInt 16 ((0:Nat):Int))&&& ~~~(BitVec.ofInt 16 (m:Int))).toNat:Int)=0;have e:((BitVec.ofInt 16 ((0:Nat):Int))&&& ~~~(BitVec.ofInt 16 (m:Int))).toNat=0:=bX _ _ (by have:=((BitVec.ofInt 16 ((0:Nat):Int))&&& ~~~(BitVec.ofInt 16 (m:Int))).isLt;omega) (by omega) (fun c a=>by rw[this c a];simp);rw[e];rfl
   rw[b];rfl
theorem NB(ps:List i2)(b:∀i∈ps,i.ok)(a:¬4096<ps.length)(j:Nat)(c:j<ps.length):(pJ ps).getD j Bf=(dB ps j).getD j Bf:=by
 unfold pJ;rw[if_neg a,show ps.length=j+(ps.length-j) by omega,bE ps b j]
theorem cT(ps:List i2)(a:∀i∈ps,i.ok)(c:¬4096<ps.length):∀k,k≤ps.length→y6 ps (y5 ps k)=unU ps k
 |0,_=>rfl
 |k+1,hk=>by
  have b:k<ps.length:=by omega
  have h:ps.getD k j5=ps[k]:=by rw[a8,e9 b];rfl
  have j:=a _ (a30 b);rw[cS,RZ,J9,NB ps a c k b];cases e:(dB ps k).getD k Bf with
  |false=>
   simp only[a4x,if_false,List.append_nil,QK,Bool.false_and];exact cT ps a c k (by omega)
  |true=>
   simp only[if_true];rw[fH,cT ps a c k (by omega)];congr 1;dsimp only;obtain⟨x,d,f,_⟩:=(cW ps a 0 (by omega) k (by omega)).yes k (by rw[(Z8 ps k).2];omega) (by rw[J9];exact e);have g:(W9 ps).getD k 0=x:=by
    rw[←MD ps a];unfold oR;rw[if_neg c,eR ps _ k b,if_pos ⟨b,e⟩,d]
   rw[d,g,h,ZA _ j x f];simp[QK]
theorem yQ(ps:List i2)(b:∀i∈ps,i.ok):L8 ps=W7 ps:=by
 unfold L8 W7;by_cases a:4096<ps.length
 ·rw[if_pos a]
  have:W9 ps=[]:=by unfold W9;rw[if_pos a]
  rw[this];rfl
 ·rw[if_neg a]
  have:(W9 ps).length=ps.length:=by unfold W9;rw[if_neg a,E3]
  rw[this];exact cT ps b a _ (a7 _)
def cJ(ps:List i2)(i:Nat):Int:=gG (ps.getD i j5) ((ps.length:Int)-1-i)
def LG(ps:List i2):Int×Int:=
 if ps.length<1∨4096<ps.length then(0,60)else
 match(q5 ps.length).find? fun i=>cJ ps i !=0 with
 |some i=>((i:Int),cJ ps i)
 |none=>if j7 (ps.getD (ps.length-1) j5).code !=5 then((ps.length:Int)-1,46)else
  match W7 ps with
  |x::_=>(x,61)
  |[]=>(0,0)
theorem HE{p:Nat→Bool}{n k:Nat}(d:k<n)(b:∀j,j<k→p j=Bf)(a:p k=Bt):(q5 n).find? p=So k:=by
 rw[List.find?_range_eq_some];exact⟨a,by simpa using d,fun j c=>by simp[b j c]⟩
theorem uF{p:Nat→Bool}{n:Nat}(a:∀j,j<n→p j=Bf):(q5 n).find? p=J:=by
 rw[List.find?_range_eq_none];exact fun j b=>by simp[a j b]
theorem DS(ps:List i2)(h:ps.length<1∨4096<ps.length):LG ps=(0,60):=by unfold LG;rw[if_pos h]
theorem a11(ps:List i2)(a:¬(ps.length<1∨4096<ps.length))(k:Nat)(e:k<ps.length)(b:∀j,j<k→cJ ps j=0)(c:cJ ps k≠0):LG ps=((k:Int),cJ ps k):=by
 unfold LG;rw[if_neg a,HE e (fun j d=>by rw[b j d];rfl) (by simpa using c)]
theorem a12(ps:List i2)(a:¬(ps.length<1∨4096<ps.length))(b:∀j,j<ps.length→cJ ps j=0)(c:(j7 (ps.getD (ps.length-1) j5).code !=5)=Bt):LG ps=((ps.length:Int)-1,46):=by
 unfold LG;rw[if_neg a,uF (fun j d=>by rw[b j d];rfl)];simp only[c,if_true]
theorem DT(ps:List i2)(a:¬(ps.length<1∨4096<ps.length))(b:∀j,j<ps.length→cJ ps j=0)(c:(j7 (ps.getD (ps.length-1) j5).code !=5)=Bf):LG ps=(match W7 ps with|x::_=>(x,61)|[]=>(0,0)):=by
 unfold LG;rw[if_neg a,uF (fun j d=>by rw[b j d];rfl)];simp only[c,a4x,if_false]
theorem a1W(H:Option Ad)(n c:Nat)(ps:List i2)(w:Wd)(z:ps.length=n)(t:∀i∈ps,i.ok)(bk:n≤100000)(D:h9 w H (pc ps)):
  Ca prog 88 #[Z H n c] w fun e bf=>e=X (Tp #[I M (LG ps).1,I M (LG ps).2])∧a9 w bf:=by
 have a:=a9.refl w;by_cases bi:n<1
 ·rw[DS ps (.inl (by omega))]
  have ad:(n:Int)<1:=by omega
  clear z t D;go_in;go_wp2
  go_ret2
  exact⟨rfl,a⟩
 by_cases bj:4096<n
 ·rw[DS ps (.inr (by omega))]
  have ad:¬(n:Int)<1:=by omega
  have aw:(4096:Int)<n:=by omega
  clear z t D;go_in;go_wp2
  go_ret2
  exact⟨rfl,a⟩
 have F:¬(ps.length<1∨4096<ps.length):=by omega
 have ad:¬(n:Int)<1:=by omega
 have aw:¬(4096:Int)<n:=by omega
 obtain⟨S,T,aa,L,f,au⟩:=jX (fun k ag g b=>a11 ps F k ag g b) (fun g b=>a12 ps F g b) (fun g b=>DT ps F g b) D z t;have C:=a6 (fun W y=>a0l H n c ps W z t y);rw[yQ ps t]at C;have bb:IntKind.i64.wrap ((n:Int)-1)=(n:Int)-1:=a37 _ (by omega);clear z t D F;go_in;go_wp2_with fail
 go_loopw [23] (fun i wr=>∃k:Nat,k≤n∧i=I M k∧(∀j,j<k→cJ ps j=0)∧a9 w wr) (fun i _=>n-(intOf i).toNat)
 case atStart=>exact⟨0,by omega,rfl,fun j y=>absurd y (by omega),a⟩
 case round=>
  clear a;obtain⟨k,ag,rfl,g,a⟩:=hrel;have B:=a6 g;clear g;by_cases az:k<n
  ·have E:k<ps.length:=by rw[f.out];exact az
   have h:=L.h a;obtain⟨av,bc,rfl,_⟩:=K7 h (by omega);obtain⟨o,an,ao,ap⟩:=G1 h E;have k1:(0:Int)≤k:=by omega
   have k2:(k:Int)<n:=by omega
   have bl:IntKind.i64.wrap ((n:Int)-1-k)=(n:Int)-1-k:=a37 _ (by omega);have s:ps.getD k j5=ps[k]:=by rw[a8,e9 E];rfl
   have b:cJ ps k=gG (ps.getD k j5) ((ps.length:Int)-1-k):=rfl;rw[s,f.out]at b;have A:=a6 (fun W=>YR ps[k] (au _ (a30 E)) ((n:Int)-1-k) W);rw[←b]at A;clear s b h;generalize ps[k]=P at*;obtain⟨co,am,al,kk⟩:=P;simp only[i2.val,i2.cells]at A;dsimp only at o an ao ap;have ab:=a6 (fun b=>S k E B b);have aj:=a.alloc (U #[I U1 co,I U8 am,I U8 al,I V kk] 116);generalize af:cJ ps k=ev at*;have ac:=a6 af;clear af;go_wp2_with fail
   apply(A _).mono;rintro e ar⟨rfl,d⟩;have ak:=aj.trans d;clear a aj d o an ao ap A;by_cases G:ev=0
   ·subst G
    go_wp2_with fail
    go_roundw
    case rel=>exact⟨k+1,by omega,by go_num,fun j l=>(by rcases Nat.lt_succ_iff_lt_or_eq.1 l with y|rfl;exact B j y;exact ac.out),ak⟩
    case measure=>simp[intOf];omega
   ·have bm:(ev !=0)=Bt:=by simpa using G
    have r:=a6 (ab G);clear G ab ac;go_wp2_with fail
    go_ret2
    rw[r.out];exact⟨rfl,ak⟩
  ·obtain rfl:k=n:=by omega
   have ah:k-1<ps.length:=by rw[f.out];omega
   have h:=L.h a;obtain⟨av,bc,rfl,_⟩:=K7 h (by rw[f.out];omega);obtain⟨o,_,_,_⟩:=G1 h ah;have s:ps.getD (ps.length-1) j5=ps[k-1]:=by rw[a8,f.out,e9 ah];rfl
   obtain⟨x,p,v⟩:=p7 (fun W=>y7 (ps[k-1]).code W) (T (fun j l=>B j (by rw[f.out]at l;exact l))) (aa (fun j l=>B j (by rw[f.out]at l;exact l)));rw[s,f.out]at p;rw[s]at v;clear s h S T aa;generalize ps[k-1]=P at*;obtain⟨co,am,al,kk⟩:=P;dsimp only at o x p v;have ax:(Y3 co).1.cls=j7 co:=rfl;rw[ax]at x;generalize j7 co=q at*;obtain⟨m,ai⟩:∃m:Nat,m=k-1:=⟨_,rfl⟩;have ay:(k:Int)-1=m:=by omega
   rw[←ai]at o;rw[ay]at p bb;have bo:(0:Int)≤m:=by omega
   have bp:(m:Int)<k:=by omega
   clear ai;by_cases Q:q=5
   ·subst Q
    have r:=a6 (v rfl);clear p v;go_wp2_with fail
    apply(x _).mono;rintro e ar⟨rfl,d⟩;replace a:=a.trans d;clear d o;go_wp2_with fail
    apply(C _ (L.h a)).mono;rintro e bg⟨P,bh,rfl,N,d⟩;replace a:=a.trans d;clear d x C;generalize W7 ps=be at*;rcases be with _|⟨R,aq⟩
    ·simp only[List.length_nil]at N
     go_wp2_with fail
     go_loopw [49] (fun i wr=>i=I M 0∧a9 w wr) (fun _ _=>0)
     case atStart=>exact⟨rfl,a⟩
     case round=>
      clear a N;obtain⟨rfl,a⟩:=hrel;go_wp2_with fail
      go_ret2
      rw[r.out];exact⟨rfl,a⟩
    ·have ae:=X2 N
     obtain⟨b1,bq,rfl,_⟩:=ae.some_ (by simp[i3]);have bd:=ae.cell (k:=0) (u:=I M R) rfl;simp only[a4z]at bd;have bn:(0:Int)<((R::aq).length:Int):=by rw[a3W];omega
     generalize(R::aq).length=len at*;go_wp2_with fail
     go_loopw [49] (fun i wr=>i=I M 0∧wr=bg) (fun _ _=>0)
     case atStart=>exact⟨rfl,rfl⟩
     case round=>
      obtain⟨rfl,rfl⟩:=hrel;go_wp2_with fail
      go_ret2
      rw[r.out];exact⟨rfl,a⟩
   ·have ba:(q !=5)=Bt:=by simpa using Q
    have r:=a6 (p ba);clear p v Q C;go_wp2_with fail
    apply(x _).mono;rintro e ar⟨rfl,d⟩;replace a:=a.trans d;clear d o;go_wp2_with fail
    go_ret2
    rw[r.out];exact⟨rfl,a⟩
theorem HX(a:Option Ad)(n c:Nat)(ps:List i2)(w:Wd)(f:ps.length=n)(d:∀i∈ps,i.ok)(g:n≤100000)(b:h9 w a (pc ps)):
  Ca prog 43 #[Z a n c] w fun e j=>e=X (I M (LG ps).2)∧a9 w j:=by
 have H:=a6 (a1W a n c ps w f d g b);clear f d b;go_in;go_wp2_with fail
 apply(H.out).mono;rintro e k⟨rfl,h⟩;go_wp2;go_ret;exact⟨rfl,h⟩
structure a5O(ps:List i2):Prop where
 l1:1≤ps.length
 l2:ps.length≤4096
 ok:∀j,j<ps.length→cJ ps j=0
 last:j7 (ps.getD (ps.length-1) j5).code=5
 un:W7 ps=[]
theorem SL(ps:List i2)(a:a5O ps):LG ps=(0,0):=by
 have b:¬(ps.length<1∨4096<ps.length):=by have:=a.l1;have:=a.l2;omega
 rw[DT ps b a.ok (by simpa using a.last),a.un]
section
def cP:Nat→Int→Int→Int
 |0,a,b=>IntKind.u32.wrap (a+b)
 |1,a,b=>IntKind.u32.wrap (a-b)
 |2,a,b=>IntKind.u32.wrap (a*b)
 |3,a,b=>a/max b 1
 |4,a,b=>bits .or V a b
 |5,a,b=>bits .and V a b
 |6,a,b=>IntKind.u32.wrap (a*2^(b % 32).toNat)
 |7,a,b=>a/2^(b % 32).toNat
 |8,a,b=>bits .xor V a b
 |_,a,_=>IntKind.u32.wrap (-a)
def PE:Nat→Int→Int→Bool
 |0,a,b=>a==b
 |1,a,b=>Dc (b<a)
 |2,a,b=>Dc (b≤a)
 |_,a,b=>bits .and V a b !=0
theorem pr1(a b:Int)(c:B4 a)(f:B4 b)(W:Wd):Ca prog 284 #[I V a,I V b] W fun e h=>e=X (I V (cP 0 a b))∧W=h:=by
 obtain⟨i,j⟩:=c;obtain⟨k,b1⟩:=f;unfold cP;go_in;go_wp2;go_ret;exact⟨rfl,rfl⟩
theorem pr2(a b:Int)(c:B4 a)(f:B4 b)(W:Wd):Ca prog 285 #[I V a,I V b] W fun e h=>e=X (I V (cP 1 a b))∧W=h:=by
 obtain⟨i,j⟩:=c;obtain⟨k,b1⟩:=f;unfold cP;go_in;go_wp2;go_ret;exact⟨rfl,rfl⟩
theorem pr3(a b:Int)(c:B4 a)(f:B4 b)(W:Wd):Ca prog 286 #[I V a,I V b] W fun e h=>e=X (I V (cP 2 a b))∧W=h:=by
 obtain⟨i,j⟩:=c;obtain⟨k,b1⟩:=f;unfold cP;go_in;go_wp2;go_ret;exact⟨rfl,rfl⟩
theorem pr4(a b:Int)(f:B4 a)(h:B4 b)(W:Wd):Ca prog 287 #[I V a,I V b] W fun e i=>e=X (I V (cP 3 a b))∧W=i:=by
 obtain⟨c,j⟩:=f;obtain⟨k,b1⟩:=h;unfold cP;have o:¬max b 1=0:=by omega
 have n:IntKind.u32.wrap (a/max b 1)=a/max b 1:=by
  have l:0≤a/max b 1:=Int.ediv_nonneg c (by omega);have m:a/max b 1≤a:=Int.ediv_le_self _ c;exact IntWalk.u32_in _ (by omega)
 go_in;go_wp2;go_ret;exact⟨rfl,rfl⟩
theorem pr5(a b:Int)(c:B4 a)(f:B4 b)(W:Wd):Ca prog 288 #[I V a,I V b] W fun e h=>e=X (I V (cP 4 a b))∧W=h:=by
 obtain⟨i,j⟩:=c;obtain⟨k,b1⟩:=f;unfold cP;go_in;go_wp2;go_ret;exact⟨rfl,rfl⟩
theorem pr6(a b:Int)(c:B4 a)(f:B4 b)(W:Wd):Ca prog 289 #[I V a,I V b] W fun e h=>e=X (I V (cP 5 a b))∧W=h:=by
 obtain⟨i,j⟩:=c;obtain⟨k,b1⟩:=f;unfold cP;go_in;go_wp2;go_ret;exact⟨rfl,rfl⟩
theorem pr7(a b:Int)(c:B4 a)(f:B4 b)(W:Wd):Ca prog 290 #[I V a,I V b] W fun e h=>e=X (I V (cP 6 a b))∧W=h:=by
 obtain⟨i,j⟩:=c;obtain⟨k,b1⟩:=f;unfold cP;have l:0≤b % 32:=by omega
 have m:b % 32<32:=by omega
 go_in;go_wp2;go_ret;exact⟨rfl,rfl⟩
theorem pr8(a b:Int)(c:B4 a)(f:B4 b)(W:Wd):Ca prog 291 #[I V a,I V b] W fun e h=>e=X (I V (cP 7 a b))∧W=h:=by
 obtain⟨i,j⟩:=c;obtain⟨k,b1⟩:=f;unfold cP;have l:0≤b % 32:=by omega
 have m:b % 32<32:=by omega
 go_in;go_wp2;go_ret;exact⟨rfl,rfl⟩
theorem pr9(a b:Int)(c:B4 a)(f:B4 b)(W:Wd):Ca prog 292 #[I V a,I V b] W fun e h=>e=X (I V (cP 8 a b))∧W=h:=by
 obtain⟨i,j⟩:=c;obtain⟨k,b1⟩:=f;unfold cP;go_in;go_wp2;go_ret;exact⟨rfl,rfl⟩
theorem a6g(a b:Int)(c:B4 a)(f:B4 b)(W:Wd):Ca prog 293 #[I V a,I V b] W fun e h=>e=X (I V (cP 9 a b))∧W=h:=by
 obtain⟨i,j⟩:=c;obtain⟨k,b1⟩:=f;unfold cP;go_in;go_wp2;go_ret;exact⟨rfl,rfl⟩
theorem a6f(a b:Int)(c:B4 a)(f:B4 b)(W:Wd):Ca prog 294 #[I V a,I V b] W fun e h=>e=X (O (PE 0 a b))∧W=h:=by
 obtain⟨i,j⟩:=c;obtain⟨k,b1⟩:=f;unfold PE;go_in;go_wp2;go_ret;exact⟨rfl,rfl⟩
theorem a6e(a b:Int)(c:B4 a)(f:B4 b)(W:Wd):Ca prog 295 #[I V a,I V b] W fun e h=>e=X (O (PE 1 a b))∧W=h:=by
 obtain⟨i,j⟩:=c;obtain⟨k,b1⟩:=f;unfold PE;go_in;go_wp2;go_ret;exact⟨rfl,rfl⟩
theorem a6d(a b:Int)(c:B4 a)(f:B4 b)(W:Wd):Ca prog 296 #[I V a,I V b] W fun e h=>e=X (O (PE 2 a b))∧W=h:=by
 obtain⟨i,j⟩:=c;obtain⟨k,b1⟩:=f;unfold PE;go_in;go_wp2;go_ret;exact⟨rfl,rfl⟩
theorem a6c(a b:Int)(c:B4 a)(f:B4 b)(W:Wd):Ca prog 297 #[I V a,I V b] W fun e h=>e=X (O (PE 3 a b))∧W=h:=by
 obtain⟨i,j⟩:=c;obtain⟨k,b1⟩:=f;unfold PE;go_in;go_wp2;go_ret;exact⟨rfl,rfl⟩
def Z0:List Int:=[4,20,36,52,68,84,100,116,164,132,21,37,53,69]
def hU:Nat→Nat
 |0=>284
 |1=>285
 |2=>286
 |3=>287
 |4=>288
 |5=>289
 |6=>290
 |7=>291
 |8=>292
 |9=>293
 |10=>294
 |11=>295
 |12=>296
 |_=>297
def HD:Array Va:= #[I U1 4,Fc (.func 284) #[] #[],Nf,I U1 20,Fc (.func 285) #[] #[],Nf,I U1 36,Fc (.func 286) #[] #[],Nf,I U1 52,Fc (.func 287) #[] #[],Nf,I U1 68,Fc (.func 288) #[] #[],Nf,I U1 84,Fc (.func 289) #[] #[],Nf,I U1 100,Fc (.func 290) #[] #[],Nf,I U1 116,Fc (.func 291) #[] #[],Nf,I U1 164,Fc (.func 292) #[] #[],Nf,I U1 132,Fc (.func 293) #[] #[],Nf,I U1 21,Nf,Fc (.func 294) #[] #[],I U1 37,Nf,Fc (.func 295) #[] #[],I U1 53,Nf,Fc (.func 296) #[] #[],I U1 69,Nf,Fc (.func 297) #[] #[]]
def prP(k:Nat):Va:=Ag (if k<10 then#[I U1 (Z0.getD k 0),Fc (.func (hU k)) #[] #[],Nf]else#[I U1 (Z0.getD k 0),Nf,Fc (.func (hU k)) #[] #[]])
theorem TP:∀(k:Nat)(a:k<14)(W:Wd),(Instr.index 333 (Ag HD) (I M k)).run prog W= .ok (prP k) W
 |0,_,_=>by kernel_rfl
 |1,_,_=>by kernel_rfl
 |2,_,_=>by kernel_rfl
 |3,_,_=>by kernel_rfl
 |4,_,_=>by kernel_rfl
 |5,_,_=>by kernel_rfl
 |6,_,_=>by kernel_rfl
 |7,_,_=>by kernel_rfl
 |8,_,_=>by kernel_rfl
 |9,_,_=>by kernel_rfl
 |10,_,_=>by kernel_rfl
 |11,_,_=>by kernel_rfl
 |12,_,_=>by kernel_rfl
 |13,_,_=>by kernel_rfl
 |n+14,h,_=>absurd h (by omega)
theorem NL(W:Wd):Ca prog 212 #[] W fun e h=>e=X (Ag HD)∧a9 W h:=by
 have c:∀v∈HD.toList,v.oneCell'=Bt:=by
  have:(HD.toList.all fun v=>v.oneCell')=Bt:=by kernel_rfl
  exact List.all_eq_true.1 this
 go_in;have b:∀cs:Array Va,b9 (W.alloc (U cs 333)) W 333 cs:=fun cs=>b9.new W _ cs
 go_wp2_with(first|(refine a2n rfl 333 _ rfl HD (by kernel_rfl) ?_)|(refine c7 rfl 333 (Tm 0) (Tm 15) rfl W 333 _ HD rfl rfl (b _) (by kernel_rfl) (by kernel_rfl) c ?_;intro i a f))
 exact Bp (g0 rfl _ _ _ _ _ _ rfl a underlying333 rfl (by kernel_rfl)) rfl ⟨rfl,((a9.refl W).alloc _).grown f (fun k e=>by cases e;exact a7 _)⟩
structure Vm where
 a:Int
 x:Int
 cs:List Int
 told:Int
 over:Bool
structure Vm.ok(s:Vm):Prop where
 a:B4 s.a
 x:B4 s.x
 len:s.cs.length=16
 cs:∀k,B4 (s.cs.getD k 0)
 told:B4 s.told
def YF(d:r9):List Va:=[I V d.nr,I V d.arch,I U6 d.ip,I U6 d.a0,I U6 d.a1,I U6 d.a2,I U6 d.a3,I U6 d.a4,I U6 d.a5]
def VE(d:r9)(s:Vm):List Va:=I V s.a::I V s.x::(i3 V s.cs++(YF d++[I V s.told,O s.over]))
structure MB(W:Wd)(g:Nat)(d:r9)(s:Vm):Prop where
 blk:b9 W g 110 (VE d s).toArray
 len:s.cs.length=16
section
variable {W W':Wd} {g:Nat} {d:r9} {s:Vm}
theorem MB.h(h:MB W g d s)(e:a9 W W'):MB W' g d s:=⟨h.blk.h e,h.len⟩
theorem MB.at_(h:MB W g d s)(i:Nat):W.cell? ⟨g,i,J⟩=(VE d s)[i]? :=by rw[h.blk.cell];simp
theorem MB.a(h:MB W g d s):W.cell? ⟨g,0,J⟩=So (I V s.a):=h.at_ 0
theorem MB.x(h:MB W g d s):W.cell? ⟨g,1,J⟩=So (I V s.x):=h.at_ 1
theorem MB.c(a:MB W g d s){k:Nat}(b:k<16):W.cell? ⟨g,2+k,J⟩=So (I V (s.cs.getD k 0)):=by
 have c:=a.len;rw[a.at_,show 2+k=k+1+1 from by omega];simp only[VE,List.getElem?_cons_succ];rw[List.getElem?_append_left (by simp[i3];omega)];simp[i3,a8,e9 (show k<s.cs.length by omega)]
theorem MB.dat(a:MB W g d s){j:Nat}(c:j<9):W.cell? ⟨g,18+j,J⟩=(YF d)[j]? :=by
 have b:=a.len;rw[a.at_,show 18+j=16+j+1+1 from by omega];simp only[VE,List.getElem?_cons_succ];rw[List.getElem?_append_right (by simp[i3];omega),List.getElem?_append_left (by simp[i3,YF];omega)];simp[i3,b]
theorem MB.told(a:MB W g d s):W.cell? ⟨g,27,J⟩=So (I V s.told):=by
 have b:=a.len;rw[a.at_,show 27=25+1+1 from rfl];simp only[VE,List.getElem?_cons_succ];rw[List.getElem?_append_right (by simp[i3];omega),List.getElem?_append_right (by simp[i3,YF];omega)];simp[i3,b,YF]
theorem MB.over(a:MB W g d s):W.cell? ⟨g,28,J⟩=So (O s.over):=by
 have b:=a.len;rw[a.at_,show 28=26+1+1 from rfl];simp only[VE,List.getElem?_cons_succ];rw[List.getElem?_append_right (by simp[i3];omega),List.getElem?_append_right (by simp[i3,YF];omega)];simp[i3,b,YF]
theorem MB.fz(h:MB W g d s)(i:Nat):W.frozen? ⟨g,i,J⟩=Bf:=h.blk.frozen i
theorem MB.f(a:MB W g d s)(i:Nat)(u:Va){t:Vm}(b:t.cs.length=16)(e:(VE d s).set i u=VE d t):MB (W.setCell ⟨g,i,J⟩ u) g d t:=by
 refine⟨?_,b⟩;have:=a.blk.f i u;rwa[List.setIfInBounds_toArray,e]at this
theorem MB.setA(h:MB W g d s)(v:Int):MB (W.setCell ⟨g,0,J⟩ (I V v)) g d {s with a:=v}:=h.f _ _ h.len rfl
theorem MB.setX(h:MB W g d s)(v:Int):MB (W.setCell ⟨g,1,J⟩ (I V v)) g d {s with x:=v}:=h.f _ _ h.len rfl
theorem MB.setC(a:MB W g d s){k:Nat}(c:k<16)(v:Int):MB (W.setCell ⟨g,2+k,J⟩ (I V v)) g d {s with cs:=s.cs.set k v}:=by
 have b:=a.len;refine a.f _ _ (by simp[b]) ?_;rw[show 2+k=k+1+1 from by omega];simp only[VE,List.set_cons_succ];rw[List.set_append_left _ _ (by simp[i3];omega)];simp[i3,List.map_set]
theorem MB.setT(a:MB W g d s)(v:Int):MB (W.setCell ⟨g,27,J⟩ (I V v)) g d {s with told:=v}:=by
 have b:=a.len;refine a.f _ _ b ?_;rw[show 27=25+1+1 from rfl];simp only[VE,List.set_cons_succ];rw[List.set_append_right _ _ (by simp[i3];omega),List.set_append_right _ _ (by simp[i3,YF];omega)];simp[i3,b,YF]
theorem MB.setO(a:MB W g d s)(v:Bool):MB (W.setCell ⟨g,28,J⟩ (O v)) g d {s with over:=v}:=by
 have b:=a.len;refine a.f _ _ b ?_;rw[show 28=26+1+1 from rfl];simp only[VE,List.set_cons_succ];rw[List.set_append_right _ _ (by simp[i3];omega),List.set_append_right _ _ (by simp[i3,YF];omega)];simp[i3,b,YF]
end
structure A0(g:Nat)(w w':Wd):Prop where
 os:w'.os=w.os
 tape:w'.tape=w.tape
 output:w'.output=w.output
 size:w≤w'.heap.size
 block:∀k,k<w.heap.size→k≠g→w'.heap[k]? =w.heap[k]?
theorem A0.f{g:Nat}{w b:Wd}(a:a9 w b):A0 g w b:=⟨a.os,a.tape,a.output,a.size,fun k c _=>a.block c⟩
theorem A0.refl(g:Nat)(w:Wd):A0 g w w:=A0.f (a9.refl w)
theorem A0.trans{g:Nat}{a b c:Wd}(e:A0 g a b)(k:A0 g b c):A0 g a c:=
 ⟨k.os.trans e.os,k.tape.trans e.tape,k.output.trans e.output,c8 e.size k.size,fun i hi f=>(k.block i (Nat.lt_of_lt_of_le hi e.size) f).trans (e.block i hi f)⟩
theorem A0.h{g:Nat}{a b c:Wd}(h:A0 g a b)(k:a9 b c):A0 g a c:=h.trans (.f k)
theorem A0.set{g:Nat}{a b:Wd}(c:A0 g a b)(i:Nat)(u:Va):A0 g a (b.setCell ⟨g,i,J⟩ u):=
 c.trans ⟨rfl,rfl,rfl,by simp,fun k _ e=>Below.heap_setCell b ⟨g,i,J⟩ u k e⟩
theorem A0.grown{g:Nat}{a b:Wd}(c:A0 g a b):a.grownBy b (So g):=⟨c.os,c.tape,c.output,c.size,fun k h f=>c.block k h fun e=>f (congrArg So e)⟩
theorem A0.blk{g k:Nat}{a b:Wd}{t:Ti}{cs:Array Va}(e:A0 g a b)(c:b9 a k t cs)(f:k≠g):b9 b k t cs:=(e.block k c.lt f).trans c
theorem A0.inM{g:Nat}{a b:Wd}{c:Option Ad}{xs:List Va}(h:A0 g a b)(l:h9 a c xs)(i:∀p,c=So p→p.block≠g):h9 b c xs:=fun j u m=>by
 obtain⟨k,n,f,e⟩:=l j u m;refine⟨k,n,f,?_⟩;have:=h.block k (block_lt_of_cell e) (i _ f);simp only[World.cell?,this]at e⊢;exact e
theorem A0.b{g:Nat}{w a b:Wd}(c:A0 g a b)(h:a9 w a)(f:w≤g):a9 w b:=
 h.grown c.grown fun k e=>by cases e;exact f
def sL(c:Int):Nat:=Z0.findIdx (·==(if Y6 c then bits .andNot U1 c 8 else c))
def sC(k:Nat):Va:=if k<10 then Fc (.func (hU k)) #[] #[]else Nf
def sB(k:Nat):Va:=if k<10 then Nf else Fc (.func (hU k)) #[] #[]
theorem a3t(k:Nat):prP k=Ag #[I U1 (Z0.getD k 0),sC k,sB k]:=by
 unfold prP sC sB;split<;>rfl
theorem a3v{c:Int}{k:Nat}(e:k<14)(f:∀j,j<k→(Z0.getD j 0==c)=Bf)(b:(Z0.getD k 0==c)=Bt):Z0.findIdx (·==c)=k:=by
 have h:Z0.length=14:=rfl;have g:=fun j(a:j<14)=>show Z0.getD j 0=Z0[j]'(by omega) by rw[a8,e9 (by omega)];rfl
 rw[List.findIdx_eq (by omega)];refine⟨by rw[←g k e];exact b,fun j a=> ?_⟩;rw[←g j (by omega)];exact f j a
theorem a3u{c:Int}(e:∀j,j<14→(Z0.getD j 0==c)=Bf):Z0.findIdx (·==c)=14:=by
 have b:Z0.length=14:=rfl;have g:=fun j(a:j<14)=>show Z0.getD j 0=Z0[j]'(by omega) by rw[a8,e9 (by omega)];rfl
 rw[←b];refine List.findIdx_eq_length_of_false fun x f=> ?_
 obtain⟨j,a,rfl⟩:=List.getElem_of_mem f;rw[←g j (by omega)];exact e j (by omega)
def UA(e:Int):List PanicEntry:=[{v:= .iface 46 (I M e),recovered:=Bf}]
theorem U0(x:Int)(W:Wd):Ca prog 45 #[I M x] W fun e a=>e= .panicked (UA x)∧W=a:=by
 unfold UA;go_in;go_wp2;exact⟨rfl,rfl,rfl⟩
theorem oA(g:Nat)(k:Int)(b:16≤k)(W:Wd):Ca prog 91 #[K g,I V k] W fun e a=>e= .panicked (UA 43)∧W=a:=by
 go_in;go_wp2_with fail
 apply(U0 43 _).mono;rintro e c⟨rfl,rfl⟩;exact⟨rfl,rfl,rfl⟩
theorem jL(g:Nat)(k:Nat)(b:k<16)(W:Wd):Ca prog 91 #[K g,I V k] W fun e a=>e=X (K (So ⟨g,2+k,J⟩))∧W=a:=by
 have c:¬(16:Int)≤k:=by omega
 have f:(0:Int)≤k:=by omega
 have h:(k:Int)<16:=by omega
 go_in;go_wp2;go_ret;exact⟨rfl,rfl⟩
def l3(i:i2)(s:Vm):Int:=if Y6 i.code then s.x else i.k
theorem S8(i:i2)(g:Nat)(d:r9)(s:Vm)(W:Wd)(B:MB W g d s):Ca prog 137 #[K g,i.val] W fun e l=>e=X (I V (l3 i s))∧a9 W l:=by
 have j:=a6 (fun W=>sP i.code W);have a:=(a9.refl W).alloc (U #[I U1 i.code,I U8 i.jt,I U8 i.jf,I V i.k] 116);have f:=b9.new W 116 #[I U1 i.code,I U8 i.jt,I U8 i.jf,I V i.k];have h:=B.h a;unfold l3;unfold i2.val i2.cells;obtain⟨co,n,m,k⟩:=i;dsimp only at*;generalize Y6 co=b at*;go_in;go_wp2_with fail
 apply(j _).mono;rintro e q⟨rfl,c⟩;have o:=(f.h c).cell 3;have p:=(h.h c).x;replace a:=a.trans c;cases b
 ·go_wp2
  go_ret;exact⟨rfl,a⟩
 ·go_wp2
  go_ret;exact⟨rfl,a⟩
theorem NG(k:Nat)(a:k<14)(W:Wd):(Instr.index 333 (Ag HD) (I M k)).run prog W= .ok (Ag #[I U1 (Z0.getD k 0),sC k,sB k]) W:=by
 rw[←a3t];exact TP k a W
theorem a2J(c:Int)(kk:Nat)(u:kk<14)(ab:sL c=kk)(W:Wd):Ca prog 138 #[I U1 c] W fun e ao=>e=X (Ag #[I U1 (Z0.getD kk 0),sC kk,sB kk])∧a9 W ao:=by
 obtain⟨ae,S,F⟩:=p7 (fun W=>sP c W) (fun(k:Nat)(P:k<14)(W:Wd)=>NG k P W) (fun W:Wd=>NL W);obtain⟨f,N⟩:∃f,f=(if Y6 c then bits .andNot U1 c 8 else c):=⟨_,rfl⟩;obtain⟨R,T⟩:=i6 (fun(k:Nat)(P:k<14) m a=>show k=kk by rw[←ab,sL,←N];exact(a3v (c:=f) P m a).symm) (fun(m:∀j,j<14→(Z0.getD j 0==f)=Bf)=>show kk=14 by rw[←ab,sL,←N];exact a3u m);have o:=(a9.refl W).alloc (U #[I U1 0,Nf,Nf] 253);have b:=b9.new W 253 #[I U1 0,Nf,Nf];clear ab;have G:=a6 (fun k(a:k=kk)=>(⟨by rw[a],by rw[a],by rw[a]⟩:Z0.getD k 0=Z0.getD kk 0∧sC k=sC kk∧sB k=sB kk));generalize Z0.getD kk 0=aq at*;generalize sC kk=ar at*;generalize sB kk=au at*;generalize HD=aj at*;generalize am:Ag aj=ak at*;clear am;generalize Y6 c=an at*;have E:=a6 N;clear N;go_in;go_wp2_with fail
 apply(ae _).mono;rintro e ai⟨rfl,h⟩;replace o:=o.trans h;replace b:=b.h h;clear h ae;cases an
 rotate_left
 focus
  have aa:bits .andNot U1 c 8=f:=E.symm;clear E;go_wp2_with fail
  clear aa;apply(F _).mono;rintro e ai⟨rfl,h⟩;replace o:=o.trans h;replace b:=b.h h;clear h;go_wp2_with fail
 rotate_right
 have aa:f=c:=E.out;subst aa;clear E;go_wp2_with fail
 apply(F _).mono;rintro e ai⟨rfl,h⟩;replace o:=o.trans h;replace b:=b.h h;clear h;go_wp2_with fail
 all_goals
  go_loopw [10] (fun i wr=>∃k:Nat,k≤14∧i=I M k∧(∀j,j<k→(Z0.getD j 0==f)=Bf)∧a9 W wr∧b9 wr W 253 #[I U1 0,Nf,Nf]) (fun i _=>14-(intOf i).toNat)
  case atStart=>exact⟨0,by decide,rfl,fun j ad=>absurd ad (by omega),o,b⟩
  case round=>
   clear o b;obtain⟨k,P,rfl,m,v,b⟩:=hrel;by_cases ag:k<14
   ·have af:∀W,(Instr.index 333 ak (I M k)).run prog W= .ok (Ag #[I U1 (Z0.getD k 0),sC k,sB k]) W:=fun W=>S k ag W
    have t:=a6 (R k ag m);have n:∀(a:(Z0.getD k 0==f)=Bf) j,j<k+1→(Z0.getD j 0==f)=Bf:=fun a j ad=>by
     rcases Nat.lt_succ_iff_lt_or_eq.1 ad with al|rfl
     ·exact m j al
     ·exact a
    generalize ah:Z0.getD k 0=l at*;have H:=a6 ah;clear m ah;by_cases L:k<10
    ·have q:sC k=Fc (.func (hU k)) #[] #[]:=by unfold sC;rw[if_pos L]
     have r:sB k=Nf:=by unfold sB;rw[if_pos L]
     obtain⟨y,z⟩:=i6 q r;rw[q,r]at af;clear q r;generalize hU k=p at*;have x:=b9.new wr 253 #[I U1 l,Fc (.func p) #[] #[],Nf];have D:=v.alloc (U #[I U1 l,Fc (.func p) #[] #[],Nf] 253);have w:=b.alloc (U #[I U1 l,Fc (.func p) #[] #[],Nf] 253);by_cases a:(l==f)=Bt
     ·have u:=t a
      obtain⟨A,B,C⟩:=G k u;rw[y.out]at B;rw[z.out]at C;rw[H.out]at A;subst A B C;clear n t R T S F v b u y z G H;go_wp2_with(first|(refine i8 rfl 253 (Tm 4) rfl _ _ _ _ rfl x underlying253 rfl (by kernel_rfl) ?_)|(refine c7 rfl 253 (Tm 2) (Tm 17) rfl _ _ _ _ rfl rfl w rfl (by kernel_rfl) (by simp[Value.oneCell']) ?_;intro ap Q ac))
      exact Bp (g0 rfl _ _ _ _ _ _ rfl Q underlying253 rfl (by kernel_rfl)) rfl ⟨rfl,D.grown ac (fun k e=>by cases e;exact a7 _)⟩
     ·have a:(l==f)=Bf:=by simpa using a
      replace n:=n a;clear t x v b;go_wp2
      go_roundw
      case rel=>exact⟨k+1,by omega,by go_num,n,D,w⟩
      case measure=>simp[intOf];omega
    ·have q:sC k=Nf:=by unfold sC;rw[if_neg L]
     have r:sB k=Fc (.func (hU k)) #[] #[]:=by unfold sB;rw[if_neg L]
     obtain⟨y,z⟩:=i6 q r;rw[q,r]at af;clear q r;generalize hU k=p at*;have x:=b9.new wr 253 #[I U1 l,Nf,Fc (.func p) #[] #[]];have D:=v.alloc (U #[I U1 l,Nf,Fc (.func p) #[] #[]] 253);have w:=b.alloc (U #[I U1 l,Nf,Fc (.func p) #[] #[]] 253);by_cases a:(l==f)=Bt
     ·have u:=t a
      obtain⟨A,B,C⟩:=G k u;rw[y.out]at B;rw[z.out]at C;rw[H.out]at A;subst A B C;clear n t R T S F v b u y z G H;go_wp2_with(first|(refine i8 rfl 253 (Tm 4) rfl _ _ _ _ rfl x underlying253 rfl (by kernel_rfl) ?_)|(refine c7 rfl 253 (Tm 2) (Tm 17) rfl _ _ _ _ rfl rfl w rfl (by kernel_rfl) (by simp[Value.oneCell']) ?_;intro ap Q ac))
      exact Bp (g0 rfl _ _ _ _ _ _ rfl Q underlying253 rfl (by kernel_rfl)) rfl ⟨rfl,D.grown ac (fun k e=>by cases e;exact a7 _)⟩
     ·have a:(l==f)=Bf:=by simpa using a
      replace n:=n a;clear t x v b;go_wp2
      go_roundw
      case rel=>exact⟨k+1,by omega,by go_num,n,D,w⟩
      case measure=>simp[intOf];omega
   ·obtain rfl:k=14:=by omega
    exact absurd (T m) (by omega)
end
def vA(g:Nat)(d:r9)(W:Wd)(v:Va)(r:Vm×Int)(e:Ending)(a:Wd):Prop:=
 A0 g W a∧(if r.2=0 then e=X v∧MB a g d r.1 else e= .panicked (UA r.2))
theorem vA.yes{g:Nat}{d:r9}{W:Wd}{v:Va}{s:Vm}{a:Wd}(b:A0 g W a)(k:MB a g d s):vA g d W v (s,0) (X v) a:=⟨b,by rw[if_pos rfl];exact⟨rfl,k⟩⟩
theorem vA.no{g:Nat}{d:r9}{W:Wd}{v:Va}{s:Vm}{a:Wd}{x:Int}(c:x≠0)(b:A0 g W a):vA g d W v (s,x) (.panicked (UA x)) a:=⟨b,by rw[if_neg c]⟩
def P2(d:r9)(i:i2)(s:Vm):Vm×Int:=
 if i.code=32 then(if s1 i.k=0 then({s with a:=d.word i.k},0)else(s,41))
 else if i.code=128 then({s with a:=64},0)
 else if i.code=129 then({s with x:=64},0)
 else if i.code=0 then({s with a:=i.k},0)
 else if i.code=1 then({s with x:=i.k},0)
 else if i.code=96 then(if i.k<16 then({s with a:=s.cs.getD i.k.toNat 0},0)else(s,43))
 else if i.code=97 then(if i.k<16 then({s with x:=s.cs.getD i.k.toNat 0},0)else(s,43))
 else(s,0)
theorem MB.dats{W:Wd}{g:Nat}{d:r9}{s:Vm}(h:MB W g d s):W.cell? ⟨g,18,J⟩=So (I V d.nr)∧W.cell? ⟨g,19,J⟩=So (I V d.arch)∧W.cell? ⟨g,20,J⟩=So (I U6 d.ip)∧W.cell? ⟨g,21,J⟩=So (I U6 d.a0)∧W.cell? ⟨g,22,J⟩=So (I U6 d.a1)∧W.cell? ⟨g,23,J⟩=So (I U6 d.a2)∧W.cell? ⟨g,24,J⟩=So (I U6 d.a3)∧W.cell? ⟨g,25,J⟩=So (I U6 d.a4)∧W.cell? ⟨g,26,J⟩=So (I U6 d.a5):=
 ⟨h.dat (j:=0) (by decide),h.dat (j:=1) (by decide),h.dat (j:=2) (by decide),h.dat (j:=3) (by decide),h.dat (j:=4) (by decide),h.dat (j:=5) (by decide),h.dat (j:=6) (by decide),h.dat (j:=7) (by decide),h.dat (j:=8) (by decide)⟩
theorem VS(h f k:Int)(g:Nat)(d:r9)(s:Vm)(W:Wd)(B:MB W g d s):Ca prog 90 #[K g,Ag #[I U1 128,I U8 h,I U8 f,I V k]] W fun e i=>e=X (Tp #[])∧A0 g W i∧MB i g d {s with a:=64}:=by
 have c:=(a9.refl W).alloc (U #[I U1 128,I U8 h,I U8 f,I V k] 116);have b:=B.h c;have z:=b.fz 0;have m:=b.a;have l:=(A0.f (g:=g) c).set 0 (I V 64);have j:=b.setA 64;clear B b c;go_in;go_wp2
 go_end0
 exact⟨rfl,l,j⟩
theorem VQ(f c k:Int)(g:Nat)(d:r9)(s:Vm)(W:Wd)(B:MB W g d s):Ca prog 90 #[K g,Ag #[I U1 129,I U8 f,I U8 c,I V k]] W fun e h=>e=X (Tp #[])∧A0 g W h∧MB h g d {s with x:=64}:=by
 have b:=(a9.refl W).alloc (U #[I U1 129,I U8 f,I U8 c,I V k] 116);have a:=B.h b;have z:=a.fz 1;have l:=a.x;have j:=(A0.f (g:=g) b).set 1 (I V 64);have i:=a.setX 64;clear B a b;go_in;go_wp2
 go_end0
 exact⟨rfl,j,i⟩
theorem a3M(h f k:Int)(g:Nat)(d:r9)(s:Vm)(W:Wd)(B:MB W g d s):Ca prog 90 #[K g,Ag #[I U1 0,I U8 h,I U8 f,I V k]] W fun e i=>e=X (Tp #[])∧A0 g W i∧MB i g d {s with a:=k}:=by
 have c:=(a9.refl W).alloc (U #[I U1 0,I U8 h,I U8 f,I V k] 116);have b:=B.h c;have z:=b.fz 0;have m:=b.a;have l:=(A0.f (g:=g) c).set 0 (I V k);have j:=b.setA k;clear B b c;go_in;go_wp2
 go_end0
 exact⟨rfl,l,j⟩
theorem a3L(f c k:Int)(g:Nat)(d:r9)(s:Vm)(W:Wd)(B:MB W g d s):Ca prog 90 #[K g,Ag #[I U1 1,I U8 f,I U8 c,I V k]] W fun e h=>e=X (Tp #[])∧A0 g W h∧MB h g d {s with x:=k}:=by
 have b:=(a9.refl W).alloc (U #[I U1 1,I U8 f,I U8 c,I V k] 116);have a:=B.h b;have z:=a.fz 1;have l:=a.x;have j:=(A0.f (g:=g) b).set 1 (I V k);have i:=a.setX k;clear B a b;go_in;go_wp2
 go_end0
 exact⟨rfl,j,i⟩
theorem GD(b a k:Int)(c:16≤k)(g:Nat)(d:r9)(s:Vm)(W:Wd)(B:MB W g d s):Ca prog 90 #[K g,Ag #[I U1 96,I U8 b,I U8 a,I V k]] W fun e h=>e= .panicked (UA 43)∧A0 g W h:=by
 have f:=(a9.refl W).alloc (U #[I U1 96,I U8 b,I U8 a,I V k] 116);clear B;go_in;go_wp2_with fail
 apply(oA g k c _).mono;rintro e i⟨rfl,rfl⟩;exact⟨rfl,rfl,A0.f f⟩
theorem BE(i h:Int)(k:Nat)(f:k<16)(g:Nat)(d:r9)(s:Vm)(W:Wd)(B:MB W g d s):Ca prog 90 #[K g,Ag #[I U1 96,I U8 i,I U8 h,I V k]] W fun e j=>e=X (Tp #[])∧A0 g W j∧MB j g d {s with a:=s.cs.getD k 0}:=by
 have c:=(a9.refl W).alloc (U #[I U1 96,I U8 i,I U8 h,I V k] 116);have b:=B.h c;have z:=b.fz 0;have o:=b.a;have q:=b.c f;have m:=(A0.f (g:=g) c).set 0 (I V (s.cs.getD k 0));have l:=b.setA (s.cs.getD k 0);clear B b c;generalize s.cs.getD k 0=v at*;go_in;go_wp2_with fail
 apply(jL g k f _).mono;rintro e n⟨rfl,rfl⟩;go_wp2
 go_end0
 exact⟨rfl,m,l⟩
theorem GB(b a k:Int)(c:16≤k)(g:Nat)(d:r9)(s:Vm)(W:Wd)(B:MB W g d s):Ca prog 90 #[K g,Ag #[I U1 97,I U8 b,I U8 a,I V k]] W fun e h=>e= .panicked (UA 43)∧A0 g W h:=by
 have f:=(a9.refl W).alloc (U #[I U1 97,I U8 b,I U8 a,I V k] 116);clear B;go_in;go_wp2_with fail
 apply(oA g k c _).mono;rintro e i⟨rfl,rfl⟩;exact⟨rfl,rfl,A0.f f⟩
theorem BD(h f:Int)(k:Nat)(c:k<16)(g:Nat)(d:r9)(s:Vm)(W:Wd)(B:MB W g d s):Ca prog 90 #[K g,Ag #[I U1 97,I U8 h,I U8 f,I V k]] W fun e i=>e=X (Tp #[])∧A0 g W i∧MB i g d {s with x:=s.cs.getD k 0}:=by
 have b:=(a9.refl W).alloc (U #[I U1 97,I U8 h,I U8 f,I V k] 116);have a:=B.h b;have z:=a.fz 1;have n:=a.x;have q:=a.c c;have l:=(A0.f (g:=g) b).set 1 (I V (s.cs.getD k 0));have j:=a.setX (s.cs.getD k 0);clear B a b;generalize s.cs.getD k 0=v at*;go_in;go_wp2_with fail
 apply(jL g k c _).mono;rintro e m⟨rfl,rfl⟩;go_wp2
 go_end0
 exact⟨rfl,l,j⟩
theorem a1e(m l k:Int)(p:B4 k)(g:Nat)(d:r9)(F:d.ok)(s:Vm)(W:Wd)(B:MB W g d s):Ca prog 90 #[K g,.agg #[I U1 32,I U8 m,I U8 l,I V k]] W fun e R=>vA g d W (Tp #[]) (if s1 k=0 then({s with a:=d.word k},0)else(s,41)) e R:=by
 have c:=(a9.refl W).alloc (U #[I U1 32,I U8 m,I U8 l,I V k] 116);obtain⟨q,o,r⟩:=p7 ((b9.new W 116 #[I U1 32,I U8 m,I U8 l,I V k])) (B.h c) (fun W=>yP d F k W p.1 p.2);have L:s1 k=0∨s1 k=41:=by unfold s1;split<;>simp
 clear B p F;generalize s1 k=we at*;generalize d.word k=G at*;go_in;go_wp2_with fail
 generalize W.alloc (U #[I U1 32,I U8 m,I U8 l,I V k] 116)=T at*;refine e7 rfl [.is ?Ao,.is ?Ap,.is ?Aq,.is d.val,.is ?Ar,.is ?As,.is ?At,.is ?Au,.is ?Av,.is ?Aw,.is ?Ax,.is ?Ay] (by kernel_rfl) ?Az ?Aa ⟨?Ab,?Ac,?Ad,?Ae,?Af,?Ag,?Ah,?Ai,?Aj,?Ak,?Al,?Am,trivial⟩ ?An
 case Aa=>intro x;simp only[e6,Act.put,uL,l9]<;>rfl
 case Ab|Ac|Ad|Af|Ag=>
  intro x f b;simp only[e5,j8,uV];repeat(intro d;try simp only[d])
  have Q:=(q.h b).cell 3;go_wp2_with fail
  refine a0e ?_ rfl (a9.refl _);rfl
 case Ah=>
  intro x f b;simp only[e5,j8,uV];intro i j;simp only[i,j];go_wp2_with(apply(r _).mono;rintro e S⟨rfl,P⟩)
  refine a0e ?_ rfl (P);rfl
 case Ai|Aj|Ak|Al|Am=>
  intro x f b;simp only[e5,j8,uV];repeat(intro d;try simp only[d])
  go_wp2_with fail
  refine a0e ?_ rfl (a9.refl _);rfl
 case Ae=>
  intro x f b;simp only[e5,j8,uV];intro h;simp only[h];obtain⟨aa,ab,ac,Q,ad,ae,af,ag,ah⟩:=(o.h b).dats;go_wp2_with fail
  refine a0e ?_ rfl (a9.refl _);rfl
 case An=>
  intro x f b;simp only[l8,e5,j8,uV];intro t u h i y j A C D E v w;simp only[t,u,h,i,y,j,A,C,D,E,v,w];clear t u h i y j A C D E v w;have n:=o.h b;replace c:=c.trans b;clear o q r b;rcases L with rfl|rfl
  ·have z:=n.fz 0
   have ai:=n.a;have N:=(A0.f (g:=g) c).set 0 (I V G);have H:=n.setA G;go_wp2_with fail
   go_end0
   exact vA.yes N H
  ·go_wp2_with fail
   apply(U0 41 _).mono;rintro e S⟨rfl,rfl⟩;exact⟨rfl,vA.no (by decide) (A0.f c)⟩
theorem a47:∀(k:Nat),k<10→∀(a b:Int),B4 a→B4 b→∀W,Ca prog (hU k) #[I V a,I V b] W fun e c=>e=X (I V (cP k a b))∧W=c
 |0,_,a,b,ha,hb,W=>pr1 a b ha hb W
 |1,_,a,b,ha,hb,W=>pr2 a b ha hb W
 |2,_,a,b,ha,hb,W=>pr3 a b ha hb W
 |3,_,a,b,ha,hb,W=>pr4 a b ha hb W
 |4,_,a,b,ha,hb,W=>pr5 a b ha hb W
 |5,_,a,b,ha,hb,W=>pr6 a b ha hb W
 |6,_,a,b,ha,hb,W=>pr7 a b ha hb W
 |7,_,a,b,ha,hb,W=>pr8 a b ha hb W
 |8,_,a,b,ha,hb,W=>pr9 a b ha hb W
 |9,_,a,b,ha,hb,W=>a6g a b ha hb W
 |n+10,h,_,_,_,_,_=>absurd h (by omega)
theorem a46:∀(k:Nat),k<4→∀(a b:Int),B4 a→B4 b→∀W,Ca prog (hU (10+k)) #[I V a,I V b] W fun e c=>e=X (O (PE k a b))∧W=c
 |0,_,a,b,ha,hb,W=>a6f a b ha hb W
 |1,_,a,b,ha,hb,W=>a6e a b ha hb W
 |2,_,a,b,ha,hb,W=>a6d a b ha hb W
 |3,_,a,b,ha,hb,W=>a6c a b ha hb W
 |n+4,h,_,_,_,_,_=>absurd h (by omega)
theorem tH:∀(k:Nat),k<14→∀args w,(callFunc (hU k) args).run prog w= .ok (.enter (hU k) args) w
 |0,_=>Eo func284 (by kernel_rfl) rfl
 |1,_=>Eo func285 (by kernel_rfl) rfl
 |2,_=>Eo func286 (by kernel_rfl) rfl
 |3,_=>Eo func287 (by kernel_rfl) rfl
 |4,_=>Eo func288 (by kernel_rfl) rfl
 |5,_=>Eo func289 (by kernel_rfl) rfl
 |6,_=>Eo func290 (by kernel_rfl) rfl
 |7,_=>Eo func291 (by kernel_rfl) rfl
 |8,_=>Eo func292 (by kernel_rfl) rfl
 |9,_=>Eo func293 (by kernel_rfl) rfl
 |10,_=>Eo func294 (by kernel_rfl) rfl
 |11,_=>Eo func295 (by kernel_rfl) rfl
 |12,_=>Eo func296 (by kernel_rfl) rfl
 |13,_=>Eo func297 (by kernel_rfl) rfl
 |n+14,h=>absurd h (by omega)
theorem iP(c:Int)(f h:Va)(W:Wd):(Instr.field 253 (Ag #[I U1 c,f,h]) 1).run prog W= .ok f W:=by kernel_rfl
theorem a0S(c:Int)(f h:Va)(W:Wd):(Instr.field 253 (Ag #[I U1 c,f,h]) 2).run prog W= .ok h W:=by kernel_rfl
def y3(i:i2)(s:Vm):Vm×Int:=
 if i.code=52∧l3 i s=0 then(s,44)
 else if i.code=60∧l3 i s=0 then({s with over:=Bt},0)
 else if(i.code=100∨i.code=116)∧31<l3 i s then(s,45)
 else({s with a:=cP (sL i.code) s.a (l3 i s)},0)
theorem AO(i:i2)(m:i.code=52)(g:Nat)(d:r9)(s:Vm)(j:l3 i s=0)(W:Wd)(B:MB W g d s):
  Ca prog 92 #[K g,i.val] W fun e p=>e= .panicked (UA 44)∧A0 g W p:=by
 have h:=a6 (fun W B=>S8 i g d s W B);have b:=(a9.refl W).alloc (U #[I U1 i.code,I U8 i.jt,I U8 i.jf,I V i.k] 116);obtain⟨f,c⟩:=i6 (b9.new W 116 #[I U1 i.code,I U8 i.jt,I U8 i.jf,I V i.k]) (B.h b);clear B;rw[j]at h;clear j;unfold i2.val i2.cells at*;obtain⟨co,o,n,k⟩:=i;dsimp only at*;subst m;go_in;go_wp2_with fail
 generalize W.alloc (U #[I U1 52,I U8 o,I U8 n,I V k] 116)=l at*;apply(h l c.out).mono;rintro e q⟨rfl,a⟩;have u:=(f.h a).cell 0;have r:=c.h a;have t:=a6 (f.h a);replace b:=b.trans a;clear f c h a;go_wp2_with fail
 apply(U0 44 _).mono;rintro e q⟨rfl,rfl⟩;exact⟨rfl,rfl,A0.f b⟩
theorem wK(i:i2)(p:i.code=60)(g:Nat)(d:r9)(s:Vm)(l:l3 i s=0)(W:Wd)(B:MB W g d s):
  Ca prog 92 #[K g,i.val] W fun e m=>e=X (Tp #[])∧A0 g W m∧MB m g d {s with over:=Bt}:=by
 have j:=a6 (fun W B=>S8 i g d s W B);have c:=(a9.refl W).alloc (U #[I U1 i.code,I U8 i.jt,I U8 i.jf,I V i.k] 116);obtain⟨h,f⟩:=i6 (b9.new W 116 #[I U1 i.code,I U8 i.jt,I U8 i.jf,I V i.k]) (B.h c);clear B;rw[l]at j;clear l;unfold i2.val i2.cells at*;obtain⟨co,t,r,k⟩:=i;dsimp only at*;subst p;go_in;go_wp2_with fail
 generalize W.alloc (U #[I U1 60,I U8 t,I U8 r,I V k] 116)=o at*;apply(j o f.out).mono;rintro e w⟨rfl,a⟩;have v:=(h.h a).cell 0;have b:=f.h a;have u:=a6 (h.h a);replace c:=c.trans a;clear h f j a;have z:=b.fz 28;have x:=b.over;have q:=(A0.f (g:=g) c).set 28 (O Bt);have n:=b.setO Bt;clear b;go_wp2_with fail
 go_end0
 exact⟨rfl,q,n⟩
theorem wJ(i:i2)(t:i.code=100∨i.code=116)(g:Nat)(d:r9)(s:Vm)(n:31<l3 i s)(W:Wd)(B:MB W g d s):
  Ca prog 92 #[K g,i.val] W fun e v=>e= .panicked (UA 45)∧A0 g W v:=by
 have j:=a6 (fun W B=>S8 i g d s W B);have c:=(a9.refl W).alloc (U #[I U1 i.code,I U8 i.jt,I U8 i.jf,I V i.k] 116);obtain⟨h,f⟩:=i6 (b9.new W 116 #[I U1 i.code,I U8 i.jt,I U8 i.jf,I V i.k]) (B.h c);clear B;have b1:Dc ((31:Int)<l3 i s)=Bt:=by simpa using n
 clear n;generalize l3 i s=b at*;unfold i2.val i2.cells at*;obtain⟨co,p,o,k⟩:=i;dsimp only at*;rcases t with rfl|rfl
 ·
  go_in;go_wp2_with fail
  generalize W.alloc (U #[I U1 100,I U8 p,I U8 o,I V k] 116)=l at*;apply(j l f.out).mono;rintro e m⟨rfl,a⟩;have u:=(h.h a).cell 0;have q:=f.h a;have r:=a6 (h.h a);replace c:=c.trans a;clear h f j a;go_wp2_with fail
  apply(U0 45 _).mono;rintro e m⟨rfl,rfl⟩;exact⟨rfl,rfl,A0.f c⟩
 ·
  go_in;go_wp2_with fail
  generalize W.alloc (U #[I U1 116,I U8 p,I U8 o,I V k] 116)=l at*;apply(j l f.out).mono;rintro e m⟨rfl,a⟩;have u:=(h.h a).cell 0;have q:=f.h a;have r:=a6 (h.h a);replace c:=c.trans a;clear h f j a;go_wp2_with fail
  apply(U0 45 _).mono;rintro e m⟨rfl,rfl⟩;exact⟨rfl,rfl,A0.f c⟩
theorem NS(i:i2)(hi:i.ok)(g:Nat)(d:r9)(s:Vm)(ba:s.ok)(kk:Nat)(ap:kk<10)(ay:sL i.code=kk)(ax:B4 (l3 i s))(au:¬(i.code=52∧l3 i s=0))(av:¬(i.code=60∧l3 i s=0))
  (aw:¬((i.code=100∨i.code=116)∧31<l3 i s)) (W:Wd) (B:MB W g d s):
  Ca prog 92 #[K g,i.val] W fun e az=>e=X (Tp #[])∧A0 g W az∧MB az g d {s with a:=cP kk s.a (l3 i s)}:=by
 have H:=a6 (fun W B=>S8 i g d s W B);have p:=(a9.refl W).alloc (U #[I U1 i.code,I U8 i.jt,I U8 i.jf,I V i.k] 116);obtain⟨r,q⟩:=i6 (b9.new W 116 #[I U1 i.code,I U8 i.jt,I U8 i.jf,I V i.k]) (B.h p);clear B;obtain⟨ac,ad,ae⟩:=p7 (fun W=>a2J i.code kk (by omega) ay W) (fun W=>a47 kk ap s.a (l3 i s) ba.a ax W) (tH kk (by omega));have aq:sC kk= .func (.func (hU kk)) #[] #[]:=by unfold sC;rw[if_pos ap]
 have ar:sB kk=Nf:=by unfold sB;rw[if_pos ap]
 rw[aq,ar]at ac;clear aq ar ay ax hi;have P:=a6 (And.intro au (And.intro av aw));clear au av aw;generalize l3 i s=b at*;unfold i2.val i2.cells at*;obtain⟨co,ag,af,k⟩:=i;dsimp only at*;by_cases al:co=52
 ·subst al
  have b1:(b==0)=Bf:=by have:=P.1;simpa using this
  clear P;go_in;go_wp2_with fail
  generalize W.alloc (U #[I U1 52,I U8 ag,I U8 af,I V k] 116)=R at*;apply(H R q.out).mono;rintro e ai⟨rfl,h⟩;have G:=(r.h h).cell 0;have f:=q.h h;have Q:=a6 (r.h h);replace p:=p.trans h;clear r q H h;go_wp2_with fail
  clear G;have ah:=iP (Z0.getD kk 0) (.func (.func (hU kk)) #[] #[]) Nf;generalize Z0.getD kk 0=aa at*;generalize hU kk=N at*;refine(wpIn_wide (n:=1)).1 ?_;refine g4 (fun _=>trivial) rfl [.is ?Cx,.is ?Cy,.is ?Cz,.is (.agg #[I U1 aa,.func (.func N) #[] #[],Nf]),.is ?Da,.is ?Db,.is ?Dc,.is ?Dd,.is ?De,.is ?Df,.is ?Dg,.is ?Dh,.is ?Di] (by kernel_rfl) ?Dj ?Aa ⟨?Ab,?Ac,?Ad,?Ae,?Af,?Ag,?Ah,?Ai,?Aj,?Ak,?Al,?Am,?An,trivial⟩ _ rfl rfl ?Ao
  case Aa=>intro x;simp only[e6,Act.put,uL,l9]<;>rfl
  case Ab|Ac|Ad|Ae|Af|Ag|Ah|Ai|Aj|Ak=>
   intro x o c;simp only[e5,g1,uV];repeat(intro d;try simp only[d])
   have G:=(Q.h c).cell 0;have aj:=(f.h c).a;gi_wp2_with(first|(refine⟨trivial,?_⟩;gi_at_call 138;apply((Cw (n:=0)).2 (ac _)).mono;rintro e ab⟨rfl,T⟩))
   refine a0e ?_ rfl (by first|exact T|exact a9.refl _);rfl
  case Al=>
   intro x o c;simp only[e5,g1,uV];intro j l m;simp only[j,l,m];have ev:=ae.out;gi_wp2_with(refine⟨trivial,?_⟩;apply((Cw (n:=0)).2 (ad _)).mono;rintro e ab⟨rfl,rfl⟩)
   refine a0e ?_ rfl (a9.refl _);rfl
  case Am|An=>
   intro x o c;simp only[e5,g1,uV];repeat(intro d;try simp only[d])
   gi_wp2_with fail
   refine a0e ?_ rfl (a9.refl _);rfl
  case Ao=>
   intro x o c;simp only[l8,e5,j8,uV];intro w t u v j D E F l m y A C;simp only[w,t,u,v,j,D,E,F,l,m,y,A,C];clear w t u v j D E F l m y A C;have z:=(f.h c).fz 0;have ak:=(f.h c).a;have S:=(A0.f (g:=g) (p.trans c)).set 0 (I V (cP kk s.a b));have L:=(f.h c).setA (cP kk s.a b);clear f c;gi_wp2_with fail
   go_end0
   exact⟨rfl,S,L⟩
 by_cases am:co=60
 ·subst am
  have b1:(b==0)=Bf:=by have:=P.2.1;simpa using this
  clear P;go_in;go_wp2_with fail
  generalize W.alloc (U #[I U1 60,I U8 ag,I U8 af,I V k] 116)=R at*;apply(H R q.out).mono;rintro e ai⟨rfl,h⟩;have G:=(r.h h).cell 0;have f:=q.h h;have Q:=a6 (r.h h);replace p:=p.trans h;clear r q H h;go_wp2_with fail
  clear G;have ah:=iP (Z0.getD kk 0) (.func (.func (hU kk)) #[] #[]) Nf;generalize Z0.getD kk 0=aa at*;generalize hU kk=N at*;refine(wpIn_wide (n:=1)).1 ?_;refine g4 (fun _=>trivial) rfl [.is ?Dk,.is ?Dl,.is ?Dm,.is (.agg #[I U1 aa,.func (.func N) #[] #[],Nf]),.is ?Dn,.is ?Do,.is ?Dp,.is ?Dq,.is ?Dr,.is ?Ds,.is ?Dt,.is ?Du,.is ?Dv] (by kernel_rfl) ?Dw ?Ap ⟨?Aq,?Ar,?As,?At,?Au,?Av,?Aw,?Ax,?Ay,?Az,?Ba,?Bb,?Bc,trivial⟩ _ rfl rfl ?Bd
  case Ap=>intro x;simp only[e6,Act.put,uL,l9]<;>rfl
  case Aq|Ar|As|At|Au|Av|Aw|Ax|Ay|Az=>
   intro x o c;simp only[e5,g1,uV];repeat(intro d;try simp only[d])
   have G:=(Q.h c).cell 0;have aj:=(f.h c).a;gi_wp2_with(first|(refine⟨trivial,?_⟩;gi_at_call 138;apply((Cw (n:=0)).2 (ac _)).mono;rintro e ab⟨rfl,T⟩))
   refine a0e ?_ rfl (by first|exact T|exact a9.refl _);rfl
  case Ba=>
   intro x o c;simp only[e5,g1,uV];intro j l m;simp only[j,l,m];have ev:=ae.out;gi_wp2_with(refine⟨trivial,?_⟩;apply((Cw (n:=0)).2 (ad _)).mono;rintro e ab⟨rfl,rfl⟩)
   refine a0e ?_ rfl (a9.refl _);rfl
  case Bb|Bc=>
   intro x o c;simp only[e5,g1,uV];repeat(intro d;try simp only[d])
   gi_wp2_with fail
   refine a0e ?_ rfl (a9.refl _);rfl
  case Bd=>
   intro x o c;simp only[l8,e5,j8,uV];intro w t u v j D E F l m y A C;simp only[w,t,u,v,j,D,E,F,l,m,y,A,C];clear w t u v j D E F l m y A C;have z:=(f.h c).fz 0;have ak:=(f.h c).a;have S:=(A0.f (g:=g) (p.trans c)).set 0 (I V (cP kk s.a b));have L:=(f.h c).setA (cP kk s.a b);clear f c;gi_wp2_with fail
   go_end0
   exact⟨rfl,S,L⟩
 by_cases an:co=100
 ·subst an
  have b1:Dc ((31:Int)<b)=Bf:=by have:=P.2.2;simpa using this
  clear P;go_in;go_wp2_with fail
  generalize W.alloc (U #[I U1 100,I U8 ag,I U8 af,I V k] 116)=R at*;apply(H R q.out).mono;rintro e ai⟨rfl,h⟩;have G:=(r.h h).cell 0;have f:=q.h h;have Q:=a6 (r.h h);replace p:=p.trans h;clear r q H h;go_wp2_with fail
  clear G;have ah:=iP (Z0.getD kk 0) (.func (.func (hU kk)) #[] #[]) Nf;generalize Z0.getD kk 0=aa at*;generalize hU kk=N at*;refine(wpIn_wide (n:=1)).1 ?_;refine g4 (fun _=>trivial) rfl [.is ?Dx,.is ?Dy,.is ?Dz,.is (.agg #[I U1 aa,.func (.func N) #[] #[],Nf]),.is ?Ea,.is ?Eb,.is ?Ec,.is ?Ed,.is ?Ee,.is ?Ef,.is ?Eg,.is ?Eh,.is ?Ei] (by kernel_rfl) ?Ej ?Be ⟨?Bf,?Bg,?Bh,?Bi,?Bj,?Bk,?Bl,?Bm,?Bn,?Bo,?Bp,?Bq,?Br,trivial⟩ _ rfl rfl ?Bs
  case Be=>intro x;simp only[e6,Act.put,uL,l9]<;>rfl
  case Bf|Bg|Bh|Bi|Bj|Bk|Bl|Bm|Bn|Bo=>
   intro x o c;simp only[e5,g1,uV];repeat(intro d;try simp only[d])
   have G:=(Q.h c).cell 0;have aj:=(f.h c).a;gi_wp2_with(first|(refine⟨trivial,?_⟩;gi_at_call 138;apply((Cw (n:=0)).2 (ac _)).mono;rintro e ab⟨rfl,T⟩))
   refine a0e ?_ rfl (by first|exact T|exact a9.refl _);rfl
  case Bp=>
   intro x o c;simp only[e5,g1,uV];intro j l m;simp only[j,l,m];have ev:=ae.out;gi_wp2_with(refine⟨trivial,?_⟩;apply((Cw (n:=0)).2 (ad _)).mono;rintro e ab⟨rfl,rfl⟩)
   refine a0e ?_ rfl (a9.refl _);rfl
  case Bq|Br=>
   intro x o c;simp only[e5,g1,uV];repeat(intro d;try simp only[d])
   gi_wp2_with fail
   refine a0e ?_ rfl (a9.refl _);rfl
  case Bs=>
   intro x o c;simp only[l8,e5,j8,uV];intro w t u v j D E F l m y A C;simp only[w,t,u,v,j,D,E,F,l,m,y,A,C];clear w t u v j D E F l m y A C;have z:=(f.h c).fz 0;have ak:=(f.h c).a;have S:=(A0.f (g:=g) (p.trans c)).set 0 (I V (cP kk s.a b));have L:=(f.h c).setA (cP kk s.a b);clear f c;gi_wp2_with fail
   go_end0
   exact⟨rfl,S,L⟩
 by_cases ao:co=116
 ·subst ao
  have b1:Dc ((31:Int)<b)=Bf:=by have:=P.2.2;simpa using this
  clear P;go_in;go_wp2_with fail
  generalize W.alloc (U #[I U1 116,I U8 ag,I U8 af,I V k] 116)=R at*;apply(H R q.out).mono;rintro e ai⟨rfl,h⟩;have G:=(r.h h).cell 0;have f:=q.h h;have Q:=a6 (r.h h);replace p:=p.trans h;clear r q H h;go_wp2_with fail
  clear G;have ah:=iP (Z0.getD kk 0) (.func (.func (hU kk)) #[] #[]) Nf;generalize Z0.getD kk 0=aa at*;generalize hU kk=N at*;refine(wpIn_wide (n:=1)).1 ?_;refine g4 (fun _=>trivial) rfl [.is ?Ek,.is ?El,.is ?Em,.is (.agg #[I U1 aa,.func (.func N) #[] #[],Nf]),.is ?En,.is ?Eo,.is ?Ep,.is ?Eq,.is ?Er,.is ?Es,.is ?Et,.is ?Eu,.is ?Ev] (by kernel_rfl) ?Ew ?Bt ⟨?Bu,?Bv,?Bw,?Bx,?By,?Bz,?Ca,?Cb,?Cc,?Cd,?Ce,?Cf,?Cg,trivial⟩ _ rfl rfl ?Ch
  case Bt=>intro x;simp only[e6,Act.put,uL,l9]<;>rfl
  case Bu|Bv|Bw|Bx|By|Bz|Ca|Cb|Cc|Cd=>
   intro x o c;simp only[e5,g1,uV];repeat(intro d;try simp only[d])
   have G:=(Q.h c).cell 0;have aj:=(f.h c).a;gi_wp2_with(first|(refine⟨trivial,?_⟩;gi_at_call 138;apply((Cw (n:=0)).2 (ac _)).mono;rintro e ab⟨rfl,T⟩))
   refine a0e ?_ rfl (by first|exact T|exact a9.refl _);rfl
  case Ce=>
   intro x o c;simp only[e5,g1,uV];intro j l m;simp only[j,l,m];have ev:=ae.out;gi_wp2_with(refine⟨trivial,?_⟩;apply((Cw (n:=0)).2 (ad _)).mono;rintro e ab⟨rfl,rfl⟩)
   refine a0e ?_ rfl (a9.refl _);rfl
  case Cf|Cg=>
   intro x o c;simp only[e5,g1,uV];repeat(intro d;try simp only[d])
   gi_wp2_with fail
   refine a0e ?_ rfl (a9.refl _);rfl
  case Ch=>
   intro x o c;simp only[l8,e5,j8,uV];intro w t u v j D E F l m y A C;simp only[w,t,u,v,j,D,E,F,l,m,y,A,C];clear w t u v j D E F l m y A C;have z:=(f.h c).fz 0;have ak:=(f.h c).a;have S:=(A0.f (g:=g) (p.trans c)).set 0 (I V (cP kk s.a b));have L:=(f.h c).setA (cP kk s.a b);clear f c;gi_wp2_with fail
   go_end0
   exact⟨rfl,S,L⟩
 have t:(co==52)=Bf:=by simpa using al
 have u:(co==60)=Bf:=by simpa using am
 have v:(co==100)=Bf:=by simpa using an
 have j:(co==116)=Bf:=by simpa using ao
 clear al am an ao P;go_in;go_wp2_with fail
 generalize W.alloc (U #[I U1 co,I U8 ag,I U8 af,I V k] 116)=R at*;apply(H R q.out).mono;rintro e ai⟨rfl,h⟩;have G:=(r.h h).cell 0;have f:=q.h h;have Q:=a6 (r.h h);replace p:=p.trans h;clear r q H h;go_wp2_with fail
 clear G;have ah:=iP (Z0.getD kk 0) (.func (.func (hU kk)) #[] #[]) Nf;generalize Z0.getD kk 0=aa at*;generalize hU kk=N at*;refine(wpIn_wide (n:=1)).1 ?_;refine g4 (fun _=>trivial) rfl [.is ?Ex,.is ?Ey,.is ?Ez,.is (.agg #[I U1 aa,.func (.func N) #[] #[],Nf]),.is ?Fa,.is ?Fb,.is ?Fc,.is ?Fd,.is ?Fe,.is ?Ff,.is ?Fg,.is ?Fh,.is ?Fi] (by kernel_rfl) ?Fj ?Ci ⟨?Cj,?Ck,?Cl,?Cm,?Cn,?Co,?Cp,?Cq,?Cr,?Cs,?Ct,?Cu,?Cv,trivial⟩ _ rfl rfl ?Cw
 case Ci=>intro x;simp only[e6,Act.put,uL,l9]<;>rfl
 case Cj|Ck|Cl|Cm|Cn|Co|Cp|Cq|Cr|Cs=>
  intro x o c;simp only[e5,g1,uV];repeat(intro d;try simp only[d])
  have G:=(Q.h c).cell 0;have aj:=(f.h c).a;gi_wp2_with(first|(refine⟨trivial,?_⟩;gi_at_call 138;apply((Cw (n:=0)).2 (ac _)).mono;rintro e ab⟨rfl,T⟩))
  refine a0e ?_ rfl (by first|exact T|exact a9.refl _);rfl
 case Ct=>
  intro x o c;simp only[e5,g1,uV];intro j l m;simp only[j,l,m];have ev:=ae.out;gi_wp2_with(refine⟨trivial,?_⟩;apply((Cw (n:=0)).2 (ad _)).mono;rintro e ab⟨rfl,rfl⟩)
  refine a0e ?_ rfl (a9.refl _);rfl
 case Cu|Cv=>
  intro x o c;simp only[e5,g1,uV];repeat(intro d;try simp only[d])
  gi_wp2_with fail
  refine a0e ?_ rfl (a9.refl _);rfl
 case Cw=>
  intro x o c;simp only[l8,e5,j8,uV];intro w t u v j D E F l m y A C;simp only[w,t,u,v,j,D,E,F,l,m,y,A,C];clear w t u v j D E F l m y A C;have z:=(f.h c).fz 0;have ak:=(f.h c).a;have S:=(A0.f (g:=g) (p.trans c)).set 0 (I V (cP kk s.a b));have L:=(f.h c).setA (cP kk s.a b);clear f c;gi_wp2_with fail
  go_end0
  exact⟨rfl,S,L⟩
theorem a1y(c b k:Int)(a:B4 k)(g:Nat)(W:Wd):
  Ca prog 93 #[K g,Ag #[I U1 5,I U8 c,I U8 b,I V k]] W fun e f=>e=X (I M k)∧a9 W f:=by
 have d:=(a9.refl W).alloc (U #[I U1 5,I U8 c,I U8 b,I V k] 116);have h:IntKind.i64.wrap k=k:=a37 _ (by have:=a.1;have:=a.2;omega);clear a;go_in;go_wp2;go_ret;exact⟨rfl,d⟩
theorem a1x(i:i2)(hi:i.ok)(g:Nat)(d:r9)(s:Vm)(R:s.ok)(kk:Nat)(af:kk<4)(P:sL i.code=10+kk)(r:B4 (l3 i s))(N:i.code≠5)(W:Wd)(B:MB W g d s):
  Ca prog 93 #[K g,i.val] W fun e aj=>e=X (I M (if PE kk s.a (l3 i s)then i.jt else i.jf))∧a9 W aj:=by
 have ae:=a6 (fun W B=>S8 i g d s W B);have l:=(a9.refl W).alloc (U #[I U1 i.code,I U8 i.jt,I U8 i.jf,I V i.k] 116);obtain⟨t,v,y,ac,ad⟩:=gP (b9.new W 116 #[I U1 i.code,I U8 i.jt,I U8 i.jf,I V i.k]) (B.h l) (fun W=>a2J i.code (10+kk) (by omega) P W) (fun W=>a46 kk af s.a (l3 i s) R.a r W) (tH (10+kk) (by omega));have H:sC (10+kk)=Nf:=by unfold sC;rw[if_neg (by omega)]
 have L:sB (10+kk)=Fc (.func (hU (10+kk))) #[] #[]:=by unfold sB;rw[if_neg (by omega)]
 rw[H,L]at y;have ao:=hi.2.1.1;have ap:i.jt<256:=hi.2.1.2;have al:=hi.2.2.1.1;have am:i.jf<256:=hi.2.2.1.2;have j:(i.code==5)=Bf:=by simpa using N
 clear H L P r B R N;have an:=a0S (Z0.getD (10+kk) 0) Nf (Fc (.func (hU (10+kk))) #[] #[]);generalize Z0.getD (10+kk) 0=ag at*;generalize hU (10+kk)=ab at*;generalize PE kk s.a (l3 i s)=Q at*;generalize l3 i s=b at*;unfold i2.val i2.cells at*;obtain⟨co,T,S,k⟩:=i;dsimp only at*;go_in;go_wp2_with fail
 generalize W.alloc (U #[I U1 co,I U8 T,I U8 S,I V k] 116)=ak at*;refine e7 rfl [.is ?Ap,.is ?Aq,.is (.agg #[I U1 ag,Nf,Fc (.func ab) #[] #[]]),.is ?Ar,.is ?As,.is ?At,.is ?Au,.is ?Av,.is ?Aw,.is (.agg #[I U1 co,I U8 T,I U8 S,I V k]),.is ?Ax,.is (O Q),.is ?Ay] (by kernel_rfl) ?Az ?Aa ⟨?Ab,?Ac,?Ad,?Ae,?Af,?Ag,?Ah,?Ai,?Aj,?Ak,?Al,?Am,?An,trivial⟩ ?Ao
 case Aa=>intro x;simp only[e6,Act.put,uL,l9]<;>rfl
 case Ab|Ac|Ae|Af|Ag|Ah|Ai|Aj|Ak=>
  intro x f c;simp only[e5,j8,uV];repeat(intro d;try simp only[d])
  have aq:=(t.h c).cell 0;have au:=(v.h c).a;obtain⟨ah,ai,ar⟩:=(t.h c).d3 1 2 3;go_wp2_with fail
  refine a0e ?_ rfl (a9.refl _);rfl
 case Al=>
  intro x f c;simp only[e5,j8,uV];intro p q;simp only[p,q];have r:=v.h c;go_wp2_with(apply(ae _ r).mono;rintro e aa⟨rfl,u⟩)
  refine a0e ?_ rfl (u);rfl
 case An=>
  intro x f c;simp only[e5,j8,uV];repeat(intro d;try simp only[d])
  go_wp2_with fail
  refine a0e ?_ rfl (a9.refl _);rfl
 case Ad=>
  intro x f c;simp only[e5,j8,uV];intro j;simp only[j];go_wp2_with(apply(y _).mono;rintro e aa⟨rfl,u⟩)
  refine a0e ?_ rfl (u);rfl
 case Am=>
  intro x f c;simp only[e5,j8,uV];intro n o m;simp only[n,o,m];have ev:=ad.out;go_wp2_with(apply(ac _).mono;rintro e aa⟨rfl,rfl⟩)
  refine a0e ?_ rfl (a9.refl _);rfl
 case Ao=>
  intro x f c;simp only[l8,e5,j8,uV];intro z j D n E F G o p q m A C;simp only[z,j,D,n,E,F,G,o,p,q,m,A,C];clear z j D n E F G o p q m A C;obtain⟨ah,ai⟩:=(t.h c).d2 1 2;replace l:=l.trans c;clear c;cases Q
  ·go_wp2
   go_ret;exact⟨rfl,l⟩
  ·go_wp2
   go_ret;exact⟨rfl,l⟩
theorem L2:∀e∈M9,(e.cls=1→e.code=32∨e.code=128∨e.code=129∨e.code=0∨e.code=1∨e.code=96∨e.code=97)∧(e.cls=2→e.code=2∨e.code=3)∧(e.cls=3→sL e.code<10)∧
  (e.cls=4→e.code=5∨(e.code≠5∧10≤sL e.code∧sL e.code<14))∧(e.cls=5→e.code=6∨e.code=22)∧(e.cls=6→e.code=7∨e.code=135)∧(e.cls=1∨e.cls=2∨e.cls=3∨e.cls=4∨e.cls=5∨e.cls=6):=by
 intro e a;simp only[M9,List.mem_cons,List.not_mem_nil,or_false]at a;rcases a with rfl|rfl|rfl|rfl|rfl|rfl|rfl|rfl|rfl|rfl|rfl|rfl|rfl|rfl|rfl|rfl|rfl|rfl|rfl|rfl|rfl|rfl|rfl|rfl|rfl|rfl|rfl|rfl|rfl|rfl|rfl|rfl|rfl|rfl|rfl|rfl|rfl|rfl|rfl|rfl|rfl
 all_goals exact⟨by decide+kernel,by decide+kernel,by decide+kernel,by decide+kernel,by decide+kernel,by decide+kernel,by decide+kernel⟩
theorem U9(c:Int):(j7 c=0∧(Y3 c).2=Bf)∨∃e∈M9,c=e.code∧j7 c=e.cls∧(Y3 c).2=Bt:=by
 unfold j7;rcases uT c with a|⟨e,d,b,a⟩
 ·rw[a];exact .inl ⟨rfl,rfl⟩
 ·rw[a];exact .inr ⟨e,d,b,rfl,rfl⟩
theorem HV{c:Int}(a:j7 c=1):c=32∨c=128∨c=129∨c=0∨c=1∨c=96∨c=97:=by
 rcases U9 c with⟨k,_⟩|⟨e,b,rfl,k,_⟩
 ·omega
 ·exact(L2 e b).1 (k.symm.trans a)
theorem mM{c:Int}(a:j7 c=2):c=2∨c=3:=by
 rcases U9 c with⟨k,_⟩|⟨e,b,rfl,k,_⟩
 ·omega
 ·exact(L2 e b).2.1 (k.symm.trans a)
theorem xS{c:Int}(a:j7 c=3):sL c<10:=by
 rcases U9 c with⟨k,_⟩|⟨e,b,rfl,k,_⟩
 ·omega
 ·exact(L2 e b).2.2.1 (k.symm.trans a)
theorem HW{c:Int}(a:j7 c=4):c=5∨(c≠5∧10≤sL c∧sL c<14):=by
 rcases U9 c with⟨k,_⟩|⟨e,b,rfl,k,_⟩
 ·omega
 ·exact(L2 e b).2.2.2.1 (k.symm.trans a)
theorem xT{c:Int}(a:j7 c=5):c=6∨c=22:=by
 rcases U9 c with⟨k,_⟩|⟨e,b,rfl,k,_⟩
 ·omega
 ·exact(L2 e b).2.2.2.2.1 (k.symm.trans a)
theorem HU{c:Int}(a:j7 c=6):c=7∨c=135:=by
 rcases U9 c with⟨k,_⟩|⟨e,b,rfl,k,_⟩
 ·omega
 ·exact(L2 e b).2.2.2.2.2.1 (k.symm.trans a)
theorem QH(c:Int):j7 c=0∨j7 c=1∨j7 c=2∨j7 c=3∨j7 c=4∨j7 c=5∨j7 c=6:=by
 rcases U9 c with⟨k,_⟩|⟨e,a,rfl,k,_⟩
 ·exact .inl k
 ·rw[k];exact .inr (L2 e a).2.2.2.2.2.2
def mE(i:i2)(s:Vm):Int:=if i.code=5 then i.k else if PE (sL i.code-10) s.a (l3 i s)then i.jt else i.jf
def q6(d:r9)(i:i2)(s:Vm):Vm×Int×Int:=
 if j7 i.code=1 then((P2 d i s).1,0,(P2 d i s).2)
 else if j7 i.code=2 then(if i.k<16 then({s with cs:=s.cs.set i.k.toNat (if i.code=3 then s.x else s.a)},0,0)else(s,0,43))
 else if j7 i.code=3 then((y3 i s).1,0,(y3 i s).2)
 else if j7 i.code=4 then(s,mE i s,0)
 else if j7 i.code=5 then({s with told:=if i.code=22 then s.a else i.k,over:=Bt},0,0)
 else if j7 i.code=6 then((if i.code=7 then{s with x:=s.a}else{s with a:=s.x}),0,0)
 else(s,0,40)
theorem cR{f:Nat}{args:Array Va}{g:Nat}{d:r9}{W:Wd}{s:Vm}{v:Va}(b:Ca prog f args W fun e a=>e=X v∧A0 g W a∧MB a g d s):Ca prog f args W fun e a=>vA g d W v (s,0) e a:=
 b.mono fun e a⟨c,h,i⟩=>by subst c;exact .yes h i
theorem vG{f:Nat}{args:Array Va}{g:Nat}{d:r9}{W:Wd}{s:Vm}{v:Va}{x:Int}(i:x≠0)(b:Ca prog f args W fun e a=>e= .panicked (UA x)∧A0 g W a):Ca prog f args W fun e a=>vA g d W v (s,x) e a:=
 b.mono fun e a⟨c,h⟩=>by subst c;exact .no i h
theorem VO(i:i2)(hi:i.ok)(j:j7 i.code=1)(g:Nat)(d:r9)(l:d.ok)(s:Vm)(W:Wd)(B:MB W g d s):Ca prog 90 #[K g,i.val] W fun e m=>vA g d W (Tp #[]) (P2 d i s) e m:=by
 obtain⟨co,c,b,k⟩:=i;have h:B4 k:=hi.2.2.2;unfold i2.val i2.cells;dsimp only at*;rcases HV j with rfl|rfl|rfl|rfl|rfl|rfl|rfl
 ·exact a1e c b k h g d l s W B
 ·exact cR (VS c b k g d s W B)
 ·exact cR (VQ c b k g d s W B)
 ·exact cR (a3M c b k g d s W B)
 ·exact cR (a3L c b k g d s W B)
 ·by_cases f:k<16
  ·obtain⟨n,rfl⟩:∃n:Nat,k=n:=⟨k.toNat,by have:=h.1;omega⟩
   rw[show P2 d ⟨96,c,b,n⟩ s=({s with a:=s.cs.getD n 0},0)from by simp[P2,f]];exact cR (BE c b n (by omega) g d s W B)
  ·rw[show P2 d ⟨96,c,b,k⟩ s=(s,43)from by simp[P2,f]]
   exact vG (by decide) (GD c b k (by omega) g d s W B)
 ·by_cases f:k<16
  ·obtain⟨n,rfl⟩:∃n:Nat,k=n:=⟨k.toNat,by have:=h.1;omega⟩
   rw[show P2 d ⟨97,c,b,n⟩ s=({s with x:=s.cs.getD n 0},0)from by simp[P2,f]];exact cR (BD c b n (by omega) g d s W B)
  ·rw[show P2 d ⟨97,c,b,k⟩ s=(s,43)from by simp[P2,f]]
   exact vG (by decide) (GB c b k (by omega) g d s W B)
theorem gC(i:i2)(hi:i.ok)(s:Vm)(a:s.ok):B4 (l3 i s):=by
 unfold l3;split
 ·exact a.x
 ·exact hi.2.2.2
theorem FX(i:i2)(hi:i.ok)(j:j7 i.code=3)(g:Nat)(d:r9)(s:Vm)(h:s.ok)(W:Wd)(B:MB W g d s):Ca prog 92 #[K g,i.val] W fun e k=>vA g d W (Tp #[]) (y3 i s) e k:=by
 by_cases b:i.code=52∧l3 i s=0
 ·rw[show y3 i s=(s,44)from by unfold y3;rw[if_pos b]]
  exact vG (by decide) (AO i b.1 g d s b.2 W B)
 by_cases c:i.code=60∧l3 i s=0
 ·rw[show y3 i s=({s with over:=Bt},0)from by unfold y3;rw[if_neg b,if_pos c]]
  exact cR (wK i c.1 g d s c.2 W B)
 by_cases f:(i.code=100∨i.code=116)∧31<l3 i s
 ·rw[show y3 i s=(s,45)from by unfold y3;rw[if_neg b,if_neg c,if_pos f]]
  exact vG (by decide) (wJ i f.1 g d s f.2 W B)
 rw[show y3 i s=({s with a:=cP (sL i.code) s.a (l3 i s)},0)from by unfold y3;rw[if_neg b,if_neg c,if_neg f]];exact cR (NS i hi g d s h _ (xS j) rfl (gC i hi s h) b c f W B)
theorem WU(i:i2)(hi:i.ok)(f:j7 i.code=4)(g:Nat)(d:r9)(s:Vm)(b:s.ok)(W:Wd)(B:MB W g d s):Ca prog 93 #[K g,i.val] W fun e l=>e=X (I M (mE i s))∧a9 W l:=by
 unfold mE;by_cases a:i.code=5
 ·rw[if_pos a]
  obtain⟨co,j,h,k⟩:=i;dsimp only at a;subst a;exact a1y j h k hi.2.2.2 g W
 ·rw[if_neg a]
  rcases HW f with c|⟨_,m,n⟩
  ·exact absurd c a
  ·exact a1x i hi g d s b (sL i.code-10) (by omega) (by omega) (gC i hi s b) a W B
end Go.Proofs.YtiomenjfmagknaaGreat
