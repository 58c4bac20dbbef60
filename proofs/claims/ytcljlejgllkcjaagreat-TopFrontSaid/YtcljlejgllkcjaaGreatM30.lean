/- The law TopFront: for every input the call returns true, and each argument reads afterwards as it read before. No condition. -/
import Derived.Test.YtcljlejgllkcjaaGreatM29
import Derived.Test.YtcljlejgllkcjaaGreatRows
set_option maxHeartbeats 12000000
set_option linter.all false
set_option maxRecDepth 100000
namespace Go.Proofs.YtcljlejgllkcjaaGreat
open Go.RowKit Go.ChangeShapes Go.WideShapes Go.Proofs.Tryz Go.Proofs.YtcljlejgllkcjaaGreat.Tryz
open Bool renaming true→Bt,false→Bf
open Decidable renaming decide→Dc
open Ending renaming returned→X
open Go renaming World→Wd,Value→Va,Calls→Ca,callsIn_wide→Cw,undef→Un,bodyPost_ret→Bp,TypeId→Ti,Addr→Ad,strOfNums→Sn,callsIn_of_wp_marks→Cm,callsIn_of_wp→Co,CallsIn→Ci
open Go.Proofs renaming enters_of→Eo
open IntKind renaming i64→M,u32→V,u64→U6,u8→U8
open IntWalk renaming i64_in→h7
open List renaming getElem_mem→g3,take_succ_eq_append_getElem→g2,length_map→i1,length_cons→i4,length_take→m4,length→D
open Nat renaming le_refl→a7,le_trans→b6,zero_le→c6,add_zero→j8
open Obj renaming cells→U
open Operand renaming tmp→Tm
open Option renaming none→J,some→So
open Value renaming int→I,slice→Z,string→Y,pointer→K,bool→O,func→Fc,agg→Ag
theorem IV:∀(k:Nat)(l:C2),∀x∈mO k l,x.1<k+D l
 |_,[],x,h=>by cases h
 |k,y::r,x,h=>by
  rcases List.mem_cons.1 h with rfl|h
  simp only[i4];omega;have:=IV (k+1) r x h;simp only[i4];omega
theorem NO(s:g4):∀x∈o0 s,x.1<=D (o0 s):=λx h=>by have:=IV 1 _ x h;unfold o0;rw[T8];omega
theorem CF{n m:Nat}{t:g4}(b:n<=m):∀x∈H7 n t,x.1<=m:=λx a=>by unfold H7 at a;split at a;cases a;rw[List.mem_singleton.1 a];exact b
theorem XA(l:List (Nat×g4))(m:Nat)(d:∀x∈l,x.1<=m):(∀x∈(s3 l).1,x.1<=m)/\(s3 l).2.1<=m:=by
 refine E5 C6 (λσ=>(∀x∈σ.1,x.1<=m)/\σ.2.1<=m) l _ (λσ x a k=> ?_) ⟨λx a=>(nomatch a),c6 _⟩;have b:rZ σ x<=m:=by unfold rZ;split;exact d x a;exact k.2
 unfold C6;split;exact k;split;exact⟨k.1,b⟩;exact⟨λc e=>(List.mem_append.1 e).elim (k.1 c) (CF b c),c6 _⟩
theorem LL(s:g4):∀x∈(y9 s).1,x.1<=D (o0 s):=by
 have b:=XA (o0 s) _ (NO s);unfold y9;split;exact λx a=>nomatch a
 split;exact λx a=>nomatch a
 exact λx a=>(List.mem_append.1 a).elim (b.1 x) (CF b.2 x)
theorem RW(s:g4):y3 (y9 s).2=Bf:=by unfold y9;split;rfl;split<;>rfl
def X5(c:List g9)(b:g4)(a:Int):Prop:=∃f∈c,b=f.name/\0<=a/\a<=D (o0 (Sn f.data))
theorem VM(b:g4)(m:Nat)(σ:US)(x:Nat×g4)(g:x.1<=m)(c:(∀a∈σ.all,a.file=b/\0<=a.line/\a.line<=m)/\∀n∈σ.notes,n.file=b/\0<=n.line/\n.line<=m/\y3 n.err=Bf):
 (∀a∈(a3H b σ x).all,a.file=b/\0<=a.line/\a.line<=m)/\∀n∈(a3H b σ x).notes,n.file=b/\0<=n.line/\n.line<=m/\y3 n.err=Bf:=by
 have e:(0:Int)<=x.1:=a8;have f:(x.1:Int)<=m:=a8;unfold a3H;split;exact c;split;exact⟨λa d=>(List.mem_append.1 d).elim (c.1 a) λq=>by rw[List.mem_singleton.1 q];exact⟨rfl,e,f⟩,c.2⟩;exact⟨c.1,λa d=>(List.mem_append.1 d).elim (c.2 a) λq=>by rw[List.mem_singleton.1 q];exact⟨rfl,e,f,rfl⟩⟩
theorem tN(d b:g4):(∀a∈(v6 d b).1,a.file=d/\0<=a.line/\a.line<=D (o0 b))/\∀n∈(v6 d b).2,n.file=d/\0<=n.line/\n.line<=D (o0 b)/\y3 n.err=Bf:=by have e:=E5 (a3H d) (λσ=>(∀a∈σ.all,a.file=d/\0<=a.line/\a.line<=D (o0 b))/\∀n∈σ.notes,n.file=d/\0<=n.line/\n.line<=D (o0 b)/\y3 n.err=Bf) (y9 b).1 ⟨⟨#[]⟩,Bf,[],[]⟩ (λσ x c k=>VM d _ σ x (LL b x c) k) ⟨λx c=>(nomatch c),λx c=>nomatch c⟩;have f:=RW b;unfold v6;dsimp only;split;split;exact⟨λx c=>(nomatch c),e.2⟩;exact⟨e.1,λx c=>nomatch c⟩;exact⟨λx c=>(nomatch c),λn g=>by rw[List.mem_singleton.1 g];exact⟨rfl,Int.le_refl _,by dsimp only;omega,f⟩⟩
theorem TX(u:g9)(ds:List g9):∀f∈(r1 u ds).1,f∈u::ds:=by
 unfold r1;split;exact λx b=>nomatch b
 split;exact λx b=>nomatch b
 intro f c;rcases List.mem_cons.1 c with a|a
 exact a▸List.mem_cons_self;obtain⟨i,hi,-⟩:=(uN ds f).1 ((D3 _ (jK g9.name) (z7 ds)).mem_iff.1 a);exact List.mem_cons_of_mem _ (List.mem_of_getElem? hi)
theorem tR(u:g9)(ds:List g9):(∀a∈(l5 u ds).1,X5 (u::ds) a.file a.line)/\∀n∈(l5 u ds).2,X5 (u::ds) n.file n.line/\y3 n.err=Bf:=by
 have k:=TX u ds;have m:=AD u ds;unfold l5;split;rename_i b;refine⟨λx d=>(nomatch d),λn c=> ?_⟩;rw[List.mem_singleton.1 c];refine⟨⟨u,List.mem_cons_self,rfl,Int.le_refl _,by dsimp only;omega⟩,?_⟩;show y3 (r1 u ds).2=Bf;rcases m with e|e|⟨e,-⟩
 exact absurd e b;rw[e];rfl;rw[e];rfl;split;refine⟨λx d=>(nomatch d),λn c=> ?_⟩;obtain⟨f,j,b⟩:=List.mem_flatMap.1 c;obtain⟨g,h,i,l⟩:=(tN f.name (Sn f.data)).2 n b;exact⟨⟨f,k f j,g,h,i⟩,l⟩;refine⟨λn c=> ?_,λx d=>(nomatch d)⟩;obtain⟨f,j,b⟩:=List.mem_flatMap.1 c;obtain⟨g,h,i⟩:=(tN f.name (Sn f.data)).1 n b;exact⟨f,k f j,g,h,i⟩
def Of(a:m8)(b:List i6):Prop:=∀n∈b,n.file=a.file/\n.line=a.line
theorem Of.nil{a:m8}:Of a []:=λn h=>nomatch h
theorem Of.snoc{a:m8}{b:List i6}(c:Of a b){e:Int}{t:g4}:Of a (b++[⟨a.file,a.line,e,t⟩]):=λn d=>(List.mem_append.1 d).elim (c n) λq=>by rw[List.mem_singleton.1 q];exact⟨rfl,rfl⟩
theorem jY(a:m8)(c:List i6):Of a (G9 a c):=λn b=>by obtain⟨m,-,rfl⟩:=List.mem_map.1 b;exact⟨rfl,rfl⟩
theorem a3I(p:j2)(a:m8):Of a (y8 p a).2:=by unfold y8;split;exact jY a _;split;exact jY a _;split;exact jY a _;exact .nil
theorem a0H(c:Bool)(a:m8)(v:g4):Of a (E8 c [] a v).2:=by unfold E8;split;exact .nil;split;exact .nil;exact Of.nil.snoc
theorem MT(l:o5)(a:m8)(v:g4):Of a (B3 l [] a v).2:=by unfold B3;refine E5 (s5 a) (λσ=>Of a σ.2) _ _ (λσ y _ k=> ?_) .nil;unfold s5;split;exact k;exact k.snoc
theorem a0I(am:Int)(l:o5)(a:m8)(v:g4):Of a (D4 am l [] a v).2.2:=by unfold D4;split;exact .nil;split;exact .nil;refine E5 (R6 a _) (λσ=>Of a σ.2) _ _ (λσ y _ k=> ?_) .nil;unfold R6;split;exact k;exact k.snoc
theorem a0G(sp:Int)(a:m8)(v:g4):Of a (O7 sp [] a v).2:=by unfold O7;split;exact .nil;split;exact .nil;refine E5 (P7 a) (λσ=>Of a σ.ns) _ _ (λσ y _ k=> ?_) .nil;unfold P7;split;exact k;exact k.snoc
theorem a5n(p:j2)(a:m8):Of a (lX p a).2:=by
 unfold lX;split
 ·split;exact a3I p a;split
  ·unfold w9;split;exact MT _ _ _;split;exact a0I _ _ _ _;split;exact a0G _ _ _;repeat' split
   all_goals first|exact a0H _ _ _|exact .nil
  exact Of.nil.snoc
 exact Of.nil.snoc
theorem EK(b:List g9)(l:List m8)(f:∀a∈l,X5 b a.file a.line):∀n∈(i8 l).2,X5 b n.file n.line:=by
 have k:∀n∈(P8 l).2,X5 b n.file n.line:=E5 a33 (λσ=>∀n∈σ.2,X5 b n.file n.line) l _ (λσ a g k n c=>(List.mem_append.1 c).elim (k n) λq=>by obtain⟨d,e⟩:=a5n _ a n q;rw[d,e];exact f a g) (λn c=>nomatch c)
 unfold i8;split<;>exact k
theorem OO(u:g9)(ds:List g9):∀n∈(B9 u ds).2.1,X5 (u::ds) n.file n.line:=by
 obtain⟨a,b⟩:=tR u ds;unfold B9;split;exact λn c=>(b n c).1
 exact EK _ _ a
theorem xD(u:g9)(ds:List g9):(B9 u ds).2.2= !p8 (B9 u ds).2.1:=by
 obtain⟨d,c⟩:=tR u ds;unfold B9;split;rename_i b;have:p8 (l5 u ds).2=Bt:=by obtain⟨n,a⟩:=List.exists_mem_of_length_pos b;exact List.any_eq_true.2 ⟨n,a,by rw[(c n a).2];rfl⟩
 dsimp only;rw[this];rfl;rfl
theorem GH(e:Bool)(u:g9)(ds:List g9):(fK e u ds).1=(B9 u ds).1/\(fK e u ds).2.2=(B9 u ds).2.1:=by
 unfold fK KA B9;by_cases b:D (l5 u ds).2=0;rw[if_pos b,if_pos b,if_neg (a8:¬0<D (l5 u ds).2)];generalize(l5 u ds).1=l;by_cases a:p8 (i8 l).2=Bt;rw[if_pos a,if_pos a];have c:=a;unfold i8 at c⊢;split;exact⟨rfl,rfl⟩;rename_i q;rw[if_neg q]at c;exact absurd c q;rw[if_neg a,if_neg a];have d:F0 (i8 l).1=Bt:=by unfold i8 at a⊢;split;rename_i q;rw[if_pos q]at a;exact absurd q a;exact(aI.all l).may
 rw[if_pos d,if_pos d];exact⟨rfl,rfl⟩;rw[if_neg b,if_neg b,if_pos (a8:0<D (l5 u ds).2)];exact⟨rfl,rfl⟩
def z6(f:g9):Bool:=Dc (70000<D f.data)||decide (200<f.name.size)
def bJ(u:g9)(ds:List g9):Bool:=z6 u||decide (20<D ds)||ds.any z6||decide (100000<D u.data+m6 ds)
def R4(u:g9)(ds:List g9):Bool:=bJ u ds||decide (6000<D u.data+m6 ds)
theorem pV(x:PF)(i:D x.2=x.1.n)(w:Wd):Ca prog 28 #[p7 x.1] w λe p=>e=X (O (z6 (j5 x)))/\a9 w p:=by
 obtain⟨⟨nm,d,b,n,c⟩,xs⟩:=x;have j:=(a9.refl w).alloc (U #[Y nm,I M d,Z b n c] 24);have a:=a6 j;have h:z6 (j5 (⟨nm,d,b,n,c⟩,xs))=(Dc (70000<n)||decide (200<nm.size)):=by unfold z6 j5;dsimp only at i⊢;rw[i]
 rw[h];clear j h;unfold p7;go_in;by_cases f:70000<n;·have k:Dc ((70000:Int)<n)=Bt:=decide_eq_true a8;have l:Dc (70000<n)=Bt:=decide_eq_true f;go_wp2;go_ret;exact⟨rfl,a.O⟩
 have k:Dc ((70000:Int)<n)=Bf:=decide_eq_false a8;have l:Dc (70000<n)=Bf:=decide_eq_false f;by_cases g:200<nm.size;·have m:Dc ((200:Int)<nm.size)=Bt:=decide_eq_true a8;have o:Dc (200<nm.size)=Bt:=decide_eq_true g;go_wp2;go_ret;exact⟨rfl,a.O⟩
 have m:Dc ((200:Int)<nm.size)=Bf:=decide_eq_false a8;have o:Dc (200<nm.size)=Bf:=decide_eq_false g;go_wp2;go_ret;exact⟨rfl,a.O⟩
theorem dM{f:g9}(h:z6 f=Bf):D f.data<=70000:=by unfold z6 at h;rw[Bool.or_eq_false_iff]at h;have:=of_decide_eq_false h.1;omega
theorem lG:∀(l:List g9),(∀f∈l,z6 f=Bf)->m6 l<=70000*D l
 |[],_=>c6 _
 |f::l,h=>by have b:=dM (h f List.mem_cons_self);have c:=lG l (λg a=>h g (List.mem_cons_of_mem _ a));rw[M7,i4];omega
theorem FP(u:PF)(Q:p1)(c:Nat)(ds:List PF)(w:Wd)(ag:i5 w Q (q9.row (ds.map (·.1))))(aj:D u.2=u.1.n)(ai:∀p∈ds,D p.2=p.1.n):
 Ca prog 14 #[p7 u.1,Z Q (D ds) c] w λe bf=>e=X (O (bJ (j5 u) (ds.map j5)))/\a9 w bf:=by
 have S:=e7.new w 24 #[Y u.1.name,I M u.1.dir,Z u.1.A u.1.n u.1.c];have al:=(a9.refl w).alloc (U #[Y u.1.name,I M u.1.dir,Z u.1.A u.1.n u.1.c] 24);obtain⟨R,h⟩:∃R,R=bJ (j5 u) (ds.map j5):=⟨_,rfl⟩;rw[<-h];unfold bJ at h;rw[i1]at h;obtain⟨t,v,F,ao,ap⟩:=Y2 (pV u aj) ag al S ai;have ak:D (j5 u).data=u.1.n:=aj;rw[ak]at h;have N:=λl=>dM (f:=j5 u) l
 rw[ak]at N;generalize z6 (j5 u)=ay at*;have y:=a6 h;clear ag al S ai h;unfold p7 at t⊢;go_in;rcases ay with _|_
 ·by_cases af:20<D ds;·have av:Dc ((20:Int)<D ds)=Bt:=decide_eq_true a8;have e:=y.O;rw[decide_eq_true af]at e;simp at e;subst e;go_wp2_with fail;refine l4 (t _) λP d=>?_;go_wp2;go_ret;exact⟨rfl,F.trans d⟩
  have av:Dc ((20:Int)<D ds)=Bf:=decide_eq_false a8;have A:=y.O;rw[decide_eq_false af]at A;simp only[Bool.false_or,Bool.or_false]at A;have T:=a6 A;clear A y;have bm:=N rfl;clear N;go_wp2_with fail;refine l4 (t _) λP d=>?_;have ar:=a6 (F.trans d);have W:=ao.h d;have j:=W.cell 2;clear d;go_wp2;go_loopg [5,6] (D ds) (λax bd be wr=>∃k:Nat,k<=D ds/\D ds-k<=ax/\bd=I M (u.1.n+m6 ((ds.take k).map j5):Nat)/\be=I M k/\(∀f∈(ds.take k).map j5,z6 f=Bf)/\a9 w wr);exact⟨0,c6 _,a8,by simp[m6],rfl,λf q=>by simp at q,ar.O⟩;clear W j;obtain⟨k,bk,bj,rfl,rfl,n,a⟩:=hrel;have bb:=lG _ n;rw[i1,m4]at bb;by_cases z:k<D ds
  ·have az:Dc ((k:Int)<D ds)=Bt:=decide_eq_true a8;have L:k<D (ds.map (·.1)):=by simpa using z
   obtain⟨b,o,rfl,bi⟩:=(v.h a).rows e6 G6;have aa:=(v.h a).l L (r:=0) rfl;have ab:=(v.h a).l L (r:=1) rfl;have j:=(v.h a).l L (r:=2) rfl;have H:=ap _ (g3 z);have ae:(ds.take (k+1)).map j5=(ds.take k).map j5++[j5 ds[k]]:=by rw[g2 z,List.map_append];rfl
   have ba:j5 ds[k]∈ds.map j5:=List.mem_map.2 ⟨_,g3 z,rfl⟩;have g:=a6 (pV ds[k] H);have an:=dM (f:=j5 ds[k]);simp only[List.getElem_map]at aa ab j;generalize ds[k]=x at*;obtain⟨⟨nm,ad,B,m,ac⟩,xs⟩:=x;simp only[q9,j8]at aa ab j;have am:D (j5 (⟨nm,ad,B,m,ac⟩,xs)).data=m:=H;unfold p7 at g;dsimp only at g;obtain⟨i,aq⟩:=j0 ae n;rw[am]at an;clear ae n H;generalize j5 (⟨nm,ad,B,m,ac⟩,xs)=G at*;rcases s:z6 G with _|_
   ·rw[s]at g;have bn:=an s;have P:IntKind.i64.wrap (((u.1.n+m6 ((ds.take k).map j5):Nat):Int)+m)=((u.1.n+m6 ((ds.take (k+1)).map j5):Nat):Int):=by
     rw[i.O,K5,h7 _ a8];have:m6 [G]=m:=by simp[m6,am]
     omega
    generalize bl:u.1.n+m6 ((ds.take k).map j5)=E at*;generalize bc:u.1.n+m6 ((ds.take (k+1)).map j5)=bo at*;go_wp2_with fail;refine l4 (g _) λbg C=>?_;have au:=a.trans C;have bh:=C.cell j;go_wp2;go_roundg (D ds-(k+1));exact⟨k+1,a8,a8,by rw[bc],o3,by rw[i.O];exact λf q=>(List.mem_append.1 q).elim (λl=>aq f l) (λl=>by rw[List.mem_singleton.1 l];exact s),au⟩;omega
   rw[s]at g;have e:=T.O;rw[List.any_eq_true.2 ⟨G,ba,s⟩,Bool.true_or]at e;subst e;go_wp2_with fail;refine l4 (g _) λbg C=>?_;go_wp2;go_ret;exact⟨rfl,a.trans C⟩
  obtain rfl:k=D ds:=a8;rw[List.take_length]at n⊢;have az:Dc ((D ds:Int)<D ds)=Bf:=i3;have e:=T.O;rw[List.any_eq_false.2 (λf q=>by rw[n f q];simp),Bool.false_or]at e;generalize u.1.n+m6 (ds.map j5)=E at*;have i:=a6 e;clear e;by_cases ah:100000<E;·have aw:Dc ((100000:Int)<E)=Bt:=decide_eq_true a8;go_wp2;go_ret;exact⟨by rw[i.O,decide_eq_true ah];rfl,a⟩
  have aw:Dc ((100000:Int)<E)=Bf:=decide_eq_false a8;go_wp2;go_ret;exact⟨by rw[i.O,decide_eq_false ah];rfl,a⟩
 have e:=y.O;simp at e;subst e;go_wp2_with fail;refine l4 (t _) λP d=>?_;go_wp2;go_ret;exact⟨rfl,F.trans d⟩
theorem lS{u:g9}{ds:List g9}(a:bJ u ds=Bf):z6 u=Bf/\D ds<=20/\(∀f∈ds,z6 f=Bf)/\D u.data+m6 ds<=100000:=by unfold bJ at a;simp only[Bool.or_eq_false_iff,decide_eq_false_iff_not]at a;obtain⟨⟨⟨b,e⟩,c⟩,g⟩:=a;exact⟨b,a8,λf d=>by have:=List.any_eq_false.1 c f d;simpa using this,a8⟩
theorem EC(l:List g9)(k:Nat):m6 (l.take k)<=m6 l:=by
 have:m6 l=m6 (l.take k)+m6 (l.drop k):=by rw[<-K5,List.take_append_drop]
 omega
theorem FO(u:PF)(i:p1)(c:Nat)(ds:List PF)(w:Wd)(n:i5 w i (q9.row (ds.map (·.1))))(P:D u.2=u.1.n)(q:∀p∈ds,D p.2=p.1.n):
 Ca prog 5 #[p7 u.1,Z i (D ds) c] w λe ap=>e=X (O (R4 (j5 u) (ds.map j5)))/\a9 w ap:=by
 have z:=e7.new w 24 #[Y u.1.name,I M u.1.dir,Z u.1.A u.1.n u.1.c];have v:=(a9.refl w).alloc (U #[Y u.1.name,I M u.1.dir,Z u.1.A u.1.n u.1.c] 24);obtain⟨R,a⟩:∃R,R=R4 (j5 u) (ds.map j5):=⟨_,rfl⟩;rw[<-a];unfold R4 at a;obtain⟨j,C,F,S,T⟩:=Y2 (FP u i c ds _ (n.h v) P q) n v z q;have am:D (j5 u).data=u.1.n:=P;have t:=λaf=>lS (u:=j5 u) (ds:=ds.map j5) af
 rw[am]at t a;generalize bJ (j5 u) (ds.map j5)=ae at*;have E:=a6 a;clear n v z q a;unfold p7 at j⊢;go_in;rcases ae with _|_
 ·obtain⟨_,aj,_,av⟩:=t rfl;rw[i1]at aj;clear t;go_wp2_with fail;refine l4 j λQ f=>?_;have W:=a6 (F.trans f);have G:=S.h f;have g:=G.cell 2;clear f;go_wp2;go_loopg [5,6] (D ds) (λad an ao wr=>∃k:Nat,k<=D ds/\D ds-k<=ad/\an=I M (u.1.n+m6 ((ds.map j5).take k):Nat)/\ao=I M k/\a9 w wr);exact⟨0,c6 _,a8,by simp[m6],rfl,W.O⟩;clear G g;obtain⟨k,au,ar,rfl,rfl,d⟩:=hrel;by_cases s:k<D ds
  ·have ag:Dc ((k:Int)<D ds)=Bt:=decide_eq_true a8;have ai:k<D (ds.map (·.1)):=by simpa using s
   obtain⟨b,o,rfl,aq⟩:=(C.h d).rows e6 G6;have g:=(C.h d).l ai (r:=2) rfl;have L:=T _ (g3 s);have ah:k<D (ds.map j5):=by simpa using s
   have l:(ds.map j5).take (k+1)=(ds.map j5).take k++[j5 ds[k]]:=by rw[g2 ah];simp
   have N:=EC (ds.map j5) (k+1);simp only[List.getElem_map]at g;generalize ds[k]=x at*;obtain⟨⟨nm,ac,B,m,aa⟩,xs⟩:=x;simp only[q9,j8]at g;have y:m6 [j5 (⟨nm,ac,B,m,aa⟩,xs)]=m:=by simp only[m6,List.map_cons,List.map_nil,List.sum_cons,List.sum_nil];exact L
   rw[l,K5,y]at N;have Q:IntKind.i64.wrap (((u.1.n+m6 ((ds.map j5).take k):Nat):Int)+m)=((u.1.n+m6 ((ds.map j5).take (k+1)):Nat):Int):=by rw[l,K5,y,h7 _ a8];omega
   clear l N L y;generalize aw:u.1.n+m6 ((ds.map j5).take k)=h at*;generalize ak:u.1.n+m6 ((ds.map j5).take (k+1))=ax at*;go_wp2;go_roundg (D ds-(k+1));exact⟨k+1,a8,a8,by rw[ak],o3,d⟩;omega
  obtain rfl:k=D ds:=a8;have al:(ds.map j5).take (D ds)=ds.map j5:=List.take_of_length_le i3;rw[al];have ag:Dc ((D ds:Int)<D ds)=Bf:=i3;have e:=E.O;rw[Bool.false_or]at e;generalize u.1.n+m6 (ds.map j5)=h at*;have A:=a6 e;clear e;by_cases H:6000<h;·have ab:Dc ((6000:Int)<h)=Bt:=decide_eq_true a8;go_wp2;go_ret;exact⟨by rw[A.O,decide_eq_true H];rfl,d⟩
  have ab:Dc ((6000:Int)<h)=Bf:=decide_eq_false a8;go_wp2;go_ret;exact⟨by rw[A.O,decide_eq_false H];rfl,d⟩
 have e:=E.O;simp at e;subst e;go_wp2_with fail;refine l4 j λQ f=>?_;go_wp2;go_ret;exact⟨rfl,F.trans f⟩
theorem IF(m:Int)(f B:p1)(c g:Nat)(xs:List n0)(w:Wd)(L:D xs<=100000)(q:i5 w f (a2J.row xs))(t:i5 w B (a2J.row xs)):
 Ca prog 22 #[Ag #[I U8 m,Z f (D xs) c],Ag #[I U8 m,Z B (D xs) g]] w λe G=>e=X (O Bt)/\a9 w G:=by
 obtain⟨l,n,v,y,u⟩:=Y2 q t ((e7.new w 31 #[I U8 m,Z f (D xs) c]).alloc (U #[I U8 m,Z B (D xs) g] 31)) (e7.new (w.alloc (U #[I U8 m,Z f (D xs) c] 31)) 31 #[I U8 m,Z B (D xs) g]) (((a9.refl w).alloc (U #[I U8 m,Z f (D xs) c] 31)).alloc (U #[I U8 m,Z B (D xs) g] 31));clear q t;go_wp2;go_loopw [5] (λi wr=>∃k:Nat,k<=D xs/\i=I M k/\a9 ((w.alloc (U #[I U8 m,Z f (D xs) c] 31)).alloc (U #[I U8 m,Z B (D xs) g] 31)) wr) (λi _=>D xs-(intOf i).toNat);exact⟨0,c6 _,rfl,.refl _⟩;obtain⟨k,N,rfl,j⟩:=hrel;have H:=a6 j;have b1:=(v.h j).cell 1;have b2:wr.cell? ⟨w+1,1,J⟩=So (Z B (D xs) g):=by have:=(y.h j).cell 1;simpa using this
 have d:=u.trans j;clear j;by_cases h:k<D xs
 ·obtain⟨a,o,rfl,-⟩:=(l.h d).rows e6 a8;obtain⟨b,p,rfl,-⟩:=(n.h d).rows e6 a8;have A:=(l.h d).l h (r:=0) rfl;have C:=(l.h d).l h (r:=1) rfl;have E:=(n.h d).l h (r:=0) rfl;have F:=(n.h d).l h (r:=1) rfl;generalize xs[k]=x at*;obtain⟨s,z⟩:=x;simp only[a2J,j8]at A C E F;have k0:(0:Int)<=k:=a8;have k1:(k:Int)<D xs:=a8;clear d;go_wp2_with fail;go_quiet (fail)
  go_wp2;go_roundw;exact⟨k+1,h,o3,H.drewN _⟩;simp[intOf];omega
 obtain rfl:k=D xs:=a8;have k1:¬(D xs:Int)<D xs:=a8;go_wp2;go_ret;exact⟨rfl,d⟩
theorem wU(m B:p1)(c z:Nat)(xs:List i6)(w:Wd)(L:D xs<=1000000)(n:i5 w m (h9.row xs))(q:i5 w B (h9.row xs)):
 Ca prog 10 #[Z m (D xs) c,Z B (D xs) z] w λe G=>e=X (O Bt)/\a9 w G:=by
 obtain⟨h,j⟩:=j0 n q;clear n q;go_wp2;go_loopw [5] (λi wr=>∃k:Nat,k<=D xs/\i=I M k/\a9 w wr) (λi _=>D xs-(intOf i).toNat);exact⟨0,c6 _,rfl,.refl _⟩;obtain⟨k,N,rfl,d⟩:=hrel;have H:=a6 d;by_cases g:k<D xs
 ·obtain⟨a,o,rfl,-⟩:=(h.h d).rows e6 a8;obtain⟨b,p,rfl,-⟩:=(j.h d).rows e6 a8;have t:=(h.h d).l g (r:=0) rfl;have u:=(h.h d).l g (r:=1) rfl;have v:=(h.h d).l g (r:=2) rfl;have y:=(h.h d).l g (r:=3) rfl;have A:=(j.h d).l g (r:=0) rfl;have C:=(j.h d).l g (r:=1) rfl;have E:=(j.h d).l g (r:=2) rfl;have F:=(j.h d).l g (r:=3) rfl;generalize xs[k]=x at*;obtain⟨f,l,e,s⟩:=x;simp only[h9,j8]at t u v y A C E F;have k0:(0:Int)<=k:=a8;have k1:(k:Int)<D xs:=a8;clear d;go_wp2_with fail;go_quiet (fail)
  go_wp2;go_roundw;exact⟨k+1,g,o3,H.drewN _⟩;simp[intOf];omega
 obtain rfl:k=D xs:=a8;have k1:¬(D xs:Int)<D xs:=a8;go_wp2;go_ret;exact⟨rfl,H.O⟩
theorem a0t(p:j2)(al an ap au va' ao aq vm':Va)(w:Wd)(b1 b2:Nat)(f:m7 w b1 p al an ap au)(g:m7 w b2 p va' ao aq vm')(bf:D p.ar<=100000)(az:D p.fc<=100000)(bb:D p.lc<=100000)(bg:D p.fa<=100000):
 Ca prog 9 #[Ag (i7 p al an ap au),Ag (i7 p va' ao aq vm')] w λe bc=>e=X (O Bt)/\a9 w bc:=by
 obtain⟨ar,fm,fc,dy,lm,lc,fa,am,sp,we,pe,rt,np⟩:=p;dsimp only[i7]at*;obtain⟨T,ax,rfl⟩:=f.a.b;obtain⟨aa,ah,rfl⟩:=f.f.b;obtain⟨ab,ai,rfl⟩:=f.l.b;obtain⟨ac,ay,rfl⟩:=f.m.b;obtain⟨z,aj,rfl⟩:=g.a.b;obtain⟨A,G,rfl⟩:=g.f.b;obtain⟨B,H,rfl⟩:=g.l.b;obtain⟨C,ak,rfl⟩:=g.m.b;dsimp only at*;obtain⟨ad,ae,af,ag⟩:=F6 (show i5 w T (B6.row ar)from f.a.i.1) (show i5 w z (B6.row ar)from g.a.i.1) (show i5 w ac (F4.row fa)from f.m.i.1) (show i5 w C (F4.row fa)from g.m.i.1);obtain⟨j,s⟩:∃j,j=(w.alloc (U #[Z T (D ar) ax,I U8 fm,Z aa (D fc) ah,I V dy,I U8 lm,Z ab (D lc) ai,Z ac (D fa) ay,I U8 am,I U6 sp,O we,O pe,O rt,O np] 36)).alloc (U #[Z z (D ar) aj,I U8 fm,Z A (D fc) G,I V dy,I U8 lm,Z B (D lc) H,Z C (D fa) ak,I U8 am,I U6 sp,O we,O pe,O rt,O np] 36):=⟨_,rfl⟩;obtain⟨d,u,m,n,av,aw⟩:=dK (show a9 w j by rw[s];exact((a9.refl w).alloc _).alloc _) (a9.refl j) (show e7 j w 36 _ by rw[s];exact(e7.new w _ _).alloc _) (show e7 j (w+1) 36 #[Z z (D ar) aj,I U8 fm,Z A (D fc) G,I V dy,I U8 lm,Z B (D lc) H,Z C (D fa) ak,I U8 am,I U6 sp,O we,O pe,O rt,O np] by rw[s];exact e7.b i3) (λW(x:a9 w W)=>IF fm aa A ah G fc W az (f.f.h x).i.1 (g.f.h x).i.1) (λW(x:a9 w W)=>IF lm ab B ai H lc W bb (f.l.h x).i.1 (g.l.h x).i.1);clear f g;obtain⟨v,bd⟩:=m.d2 0 6;obtain⟨y,be⟩:=n.d2 0 6;go_in;go_upto_region 1 with fail;rw[<-s];clear s;go_wp2_with fail;clear v bd y be;go_loopw [5] (λi N=>∃k:Nat,k<=D ar/\i=I M k/\a9 j N) (λi _=>D ar-(intOf i).toNat);exact⟨0,c6 _,rfl,.refl _⟩;obtain⟨k,ba,rfl,h⟩:=hrel;have c:=a6 (u.trans h);have v:=(m.h c.O).cell 0;have y:=(n.h c.O).cell 0;by_cases l:k<D ar
 ·obtain⟨a,o,rfl,-⟩:=(ad.h (d.trans c.O)).rows e6 a8;obtain⟨b,q,rfl,-⟩:=(ae.h (d.trans c.O)).rows e6 a8;have F:=(ad.h (d.trans c.O)).l l (r:=0) rfl;have L:=(ae.h (d.trans c.O)).l l (r:=0) rfl;generalize ar[k]=x at*;simp only[B6,j8,Nat.mul_one]at F L;have k0:(0:Int)<=k:=a8;have k1:(k:Int)<D ar:=a8;have E:=a6 h;clear h;go_wp2_with fail;go_quiet (fail)
  go_wp2;go_roundw;exact⟨k+1,l,o3,E.drewN _⟩;simp[intOf];omega
 obtain rfl:k=D ar:=a8;have k1:¬(D ar:Int)<D ar:=a8;clear h;replace u:=c;clear c;go_wp2_with fail;clear v y;go_loopw [6] (λi N=>∃k:Nat,k<=D fa/\i=I M k/\a9 wr N) (λi _=>D fa-(intOf i).toNat);exact⟨0,c6 _,rfl,.refl _⟩;obtain⟨k,ba,rfl,h⟩:=hrel;have c:=a6 (u.trans h);have v:=(m.h c.O).cell 6;have y:=(n.h c.O).cell 6;by_cases l:k<D fa
 ·obtain⟨a,o,rfl,-⟩:=(af.h (d.trans c.O)).rows e6 a8;obtain⟨b,q,rfl,-⟩:=(ag.h (d.trans c.O)).rows e6 a8;have F:=(af.h (d.trans c.O)).l l (r:=0) rfl;have L:=(ag.h (d.trans c.O)).l l (r:=0) rfl;generalize fa[k]=x at*;simp only[F4,j8,Nat.mul_one]at F L;have k0:(0:Int)<=k:=a8;have k1:(k:Int)<D fa:=a8;have E:=a6 h;clear h;go_wp2_with fail;go_quiet (fail)
  go_wp2;go_roundw;exact⟨k+1,l,o3,E.drewN _⟩;simp[intOf];omega
 obtain rfl:k=D fa:=a8;have k1:¬(D fa:Int)<D fa:=a8;clear h;clear u;obtain⟨P,Q⟩:=(m.h c.O).d2 1 2;obtain⟨R,S⟩:=(n.h c.O).d2 1 2;go_wp2_with fail;refine l4 (av _ (d.trans c.O)) λbh t=>?_;replace c:=a6 (c.trans t);clear P Q R S t;obtain⟨P,Q⟩:=(m.h c.O).d2 4 5;obtain⟨R,S⟩:=(n.h c.O).d2 4 5;go_wp2_with fail;refine l4 (aw _ (d.trans c.O)) λbi t=>?_;replace c:=a6 (c.trans t);clear P Q R S t;obtain⟨bm,bn,bo,bp,bj,bk,bl⟩:=(m.h c.O).d7 3 7 8 9 10 11 12;obtain⟨bt,bu,bv,bw,bq,br,bs⟩:=(n.h c.O).d7 3 7 8 9 10 11 12;go_wp2;go_ret;exact⟨rfl,d.trans c.O⟩
def CM(f:g9):Nat:=D (o0 (Sn f.data))
def atT(f:g9)(n:i6):Bool:=n.file.toList==f.name.toList&&Dc (n.line<=CM f)
def T1(u:g9)(l:List g9)(n:i6):Bool:=atT u n||l.any λd=>atT d n
theorem DO{u:g9}{ds:List g9}{n:i6}(c:X5 (u::ds) n.file n.line):T1 u ds n=Bt:=by
 obtain⟨f,a,d,g,e⟩:=c;have b:atT f n=Bt:=by unfold atT;rw[d,decide_eq_true (show n.line<=CM f from e)];simp
 unfold T1;rcases List.mem_cons.1 a with rfl|a
 rw[b];rfl;rw[List.any_eq_true.2 ⟨f,a,b⟩,Bool.or_true]
theorem DP(u:g9)(l:List g9)(n:i6)(k:Nat)(a:k<D l):T1 u (l.take (k+1)) n=(T1 u (l.take k) n||(n.file.toList==l[k].name.toList&&Dc (n.line<=CM l[k]))):=by unfold T1;rw[g2 a,List.any_append,Bool.or_assoc];simp[atT]
def xJ(a:List i6):Nat:=a.countP λn=> !y3 n.err
theorem OX(a:List i6)(k:Nat)(c:k<D a):xJ (a.take (k+1))=xJ (a.take k)+if y3 a[k].err then 0 else 1:=by unfold xJ;rw[g2 c,List.countP_append];cases b:y3 a[k].err<;>simp[List.countP_cons,b]
theorem a1A(a:List i6)(k:Nat):xJ (a.take k)<=k:=b6 List.countP_le_length (by rw[m4];omega)
theorem OY(a:List i6):(((xJ a:Nat):Int)==0)= !p8 a:=by
 unfold xJ p8;cases c:a.any λn=> !y3 n.err
 have:a.countP (λn=> !y3 n.err)=0:=List.countP_eq_zero.2 λn b=>by have:=List.any_eq_false.1 c n b;simpa using this
 rw[this];rfl;obtain⟨n,b,d⟩:=List.any_eq_true.1 c;have:0<a.countP (λn=> !y3 n.err):=List.countP_pos_iff.2 ⟨n,b,d⟩;have:((a.countP (λn=> !y3 n.err):Nat):Int)≠0:=a8;simpa using this
theorem ON(u:g9)(ds:List g9)(a:D u.data+m6 ds<=40000):D (B9 u ds).2.1<=1000000:=by
 obtain⟨-,f,-⟩:=fX u ds;have b:=K7 (l5 u ds).1;have c:D (l5 u ds).2<=17017:=by have d:=(Z7 (r1 u ds).1).2;have e:=bA u ds;unfold l5;split;simp;split;dsimp only;omega;simp
 unfold B9;split;dsimp only;omega;dsimp only;omega
theorem GG(u:g9)(ds:List g9):D (B9 u ds).1.ar<=100000/\D (B9 u ds).1.fc<=100000/\D (B9 u ds).1.lc<=100000/\D (B9 u ds).1.fa<=100000:=by
 have h:∀l,eW (i8 l).1:=λl=>by have k:=(a4c l (A5 2147483648,[]) (bC _)).1;unfold i8;split;exact bC 0;exact k
 unfold B9;split;exact⟨c6 _,c6 _,c6 _,c6 _⟩;have k:=h (l5 u ds).1;have k1:=k.lens;exact⟨by dsimp only;omega,by have:=k.f;dsimp only;omega,by have:=k.l;dsimp only;omega,by dsimp only;omega⟩
theorem bI{w:Wd}{u:PF}(a:z6 (j5 u)=Bf)(b:L8 w u)(c:sP u.2)(d:u.1.n<=u.1.c):xZ w u:=by unfold z6 j5 at a;simp only[Bool.or_eq_false_iff,decide_eq_false_iff_not]at a;have:=b.1;exact⟨b,c,d,a8,a8⟩
theorem qC{u:PF}(a:z6 (j5 u)=Bf)(b:D u.2=u.1.n):QD u:=by unfold z6 j5 at a;simp only[Bool.or_eq_false_iff,decide_eq_false_iff_not]at a;exact⟨a8,a8⟩
theorem gE{u:g9}{ds:List g9}(a:R4 u ds=Bf):z6 u=Bf/\D ds<=20/\(∀f∈ds,z6 f=Bf)/\D u.data+m6 ds<=6000:=by unfold R4 at a;simp only[Bool.or_eq_false_iff,decide_eq_false_iff_not]at a;obtain⟨b,c,d,-⟩:=lS a.1;exact⟨b,c,d,a8⟩
theorem rT(u:PF)(bk:p1)(c:Nat)(ds:List PF)(w:Wd)(bt:i5 w bk (q9.row (ds.map (·.1))))(ah:L8 w u/\sP u.2/\u.1.n<=u.1.c)(af:∀p∈ds,L8 w p/\sP p.2/\p.1.n<=p.1.c):
 Ca prog 3 #[p7 u.1,Z bk (D ds) c] w λe bz=>e=X (O Bt)/\a9 w bz:=by
 have db:=a6 (λd(a:a9 w d)=>FO u bk c ds d (bt.h a) ah.1.1 λp h=>(af p h).1.1);have cd:=a6 (λ(bv:R4 (j5 u) (ds.map j5)=Bf) d(a:a9 w d)=>by obtain⟨br,bg,bs,fu⟩:=gE bv;exact pD u bk c ds Bt d (bt.h a) (ah.1.h a) (λp h=>(af p h).1.h a) (qC br ah.1.1) (λp h=>qC (bs _ (List.mem_map_of_mem h)) (af p h).1.1) (by rw[i1]at bg;omega) a8)
 have cf:=a6 (λ(bv:R4 (j5 u) (ds.map j5)=Bf) d(a:a9 w d)=>by obtain⟨br,bg,bs,fu⟩:=gE bv;exact SS u bk c ds d (bt.h a) (bI br (ah.1.h a) ah.2.1 ah.2.2) (λp h=>bI (bs _ (List.mem_map_of_mem h)) ((af p h).1.h a) (af p h).2.1 (af p h).2.2) (by rw[i1]at bg;omega) a8)
 have ao:=a6 (λ(bv:R4 (j5 u) (ds.map j5)=Bf)=>show(j5 u).data.length+m6 (ds.map j5)<=40000/\D ds<=20/\u.1.n<=900000/\∀p∈ds,p.1.n<=900000 by obtain⟨br,bg,bs,fu⟩:=gE bv;exact⟨a8,by rw[i1]at bg;exact bg,by have:=(bI br ah.1 ah.2.1 ah.2.2).n;omega,λp h=>by have:=(bI (bs _ (List.mem_map_of_mem h)) (af p h).1 (af p h).2.1 (af p h).2.2).n;omega⟩)
 obtain⟨fj,er,ez,ch,ce⟩:=Y2 ((a9.refl w).alloc (U #[Y u.1.name,I M u.1.dir,Z u.1.A u.1.n u.1.c] 24)) (e7.new w 24 #[Y u.1.name,I M u.1.dir,Z u.1.A u.1.n u.1.c]) bt ah.1 (λp h=>(af p h).1);generalize hb:R4 (j5 u) (ds.map j5)=ha at*;unfold p7 at db cd cf⊢;clear bt ah af hb;go_in;go_wp2_with fail;refine l4 (RF _) λix eh=>?_;obtain⟨cw,di⟩:=j0 (er.h eh) (fj.trans eh);obtain⟨ai,an,aj⟩:=cw.c3;clear eh er fj;go_wp2_with fail;refine l4 (db _ di.O) λiy ej=>?_;obtain⟨ck,cc⟩:=j0 (di.trans ej) (cw.h ej);clear ai an aj ej di cw db;cases ha;rotate_left
 ·clear cd cf ao ez ch ce cc;go_wp2;go_ret;exact⟨rfl,ck.O⟩
 have cp:=ao rfl;obtain⟨ew,ey⟩:=j0 (cd rfl) (cf rfl);clear cd cf ao;obtain⟨gx,gy⟩:=GH Bt (j5 u) (ds.map j5);have fw:=ON (j5 u) (ds.map j5) cp.1;obtain⟨fv,bh,fx⟩:=r6 (GG (j5 u) (ds.map j5)) (OO (j5 u) (ds.map j5)) (xD (j5 u) (ds.map j5));generalize fK Bt (j5 u) (ds.map j5)=ht at*;generalize B9 (j5 u) (ds.map j5)=hu at*;obtain⟨p,it,q⟩:=ht;obtain⟨p',iq,cr⟩:=hu;dsimp only at*;subst gx gy;have dq:=fx.O;obtain⟨ao,bn,gm⟩:=r6 (And.intro cp.2.1 cp.2.2) fv bh.O;clear cp fv bh fx;obtain⟨ai,an,aj⟩:=cc.c3;go_wp2_with fail;apply(ew _ ck.O).mono;rintro e gf⟨ga,gb,gc,gd,ib,iv,rfl,bf,S,N,ek,one⟩;obtain⟨An,fo,rfl⟩:=N.b;obtain⟨dj,es,am,fb⟩:=F6 (ck.trans ek) (cc.h ek) N.i.1 bf;clear S N ek ai an aj ew bf ck cc;go_wp2_with(refine q6 (e7.new _ _ _) ?_ (hx1q:=one);intro ic eo fr;have el:a9 gf ic:=((a9.refl gf).alloc _).grown fr (λk e=>by cases e;exact a7 _);have bl:=a6 (es.h el);have ai:=bl.cell 0;have an:=bl.cell 1;have aj:=bl.cell 2;have fh:=a6 eo;have dk:=a6 el;clear eo fr el);apply(ey _ (dj.trans dk.O)).mono;rintro e gg⟨va',hz,ia,vm',iw,rfl,bf,N,ct⟩;obtain⟨Am,gs,rfl⟩:=N.b;obtain⟨cm,et,fi,cg,fc⟩:=Y2 (dk.trans ct) (bl.h ct) (fh.h ct) N.i.1 bf;have fz:=bf.one;clear N bf ct ai an aj ey es bl fh dk one;go_upto_region 7 with(refine q6 (e7.new _ _ _) ?_ (hx1q:=fz);intro ca ep fs);have bb:a9 gg ca:=((a9.refl gg).alloc _).grown fs (λk e=>by cases e;exact a7 _);obtain⟨cn,gj,bp,fg,am,cg⟩:=dK (dj.trans (cm.trans bb)) (et.h bb) (fi.h bb) ep (am.h (cm.trans bb)) (cg.h bb);obtain⟨fd,fe,dc⟩:=r6 (λW(x:a9 ca W)=>a0t p ga gb gc gd va' hz ia vm' W _ _ (fb.h ((cm.trans bb).trans x)) (fc.h (bb.trans x)) bn.1 bn.2.1 bn.2.2.1 bn.2.2.2) (λW(x:a9 ca W)=>wU An Am fo gs q W fw (am.h x) (cg.h x)) (λW(x:a9 ca W)=>zJ p ga gb gc gd ib An fo q W fw (am.h x));rw[<-dq]at dc;clear dj cm et fi fz ep fs bb fb fc;unfold a4E i7 at*;obtain⟨dt,du,dy,dz,ea,eb,ec,ed,ee⟩:=bp.c9;obtain⟨ef,dv,dw,dx,hv,bx⟩:=bp.d6 9 10 11 12 13 14;go_wp2_with fail;refine l4 (dc _ (a9.refl _)) λiz cu=>?_;clear dt du dy dz ea eb ec ed ee ef dv dw dx hv bx;have dh:=bp.h cu;obtain⟨dt,du,dy,dz,ea,eb,ec,ed,ee⟩:=dh.c9;obtain⟨ef,dv,dw,dx⟩:=dh.d4 9 10 11 12;have dg:=fg.h cu;obtain⟨hg,hh,hl,hm,hn,ho,hp,hq,hr⟩:=dg.c9;obtain⟨hs,hi,hj,hk⟩:=dg.d4 9 10 11 12;have de:=a6 cu;clear dh dg cu dc;have ii:(cr !=cr)=Bf:=i3;go_wp2_with fail;refine l4 (fd _ de.O) λgh cb=>?_;clear dt du dy dz ea eb ec ed ee ef dv dw dx hg hh hl hm hn ho hp hq hr hs hi hj hk;have bd:=a6 (de.trans cb);have bx:=(bp.h bd.O).cell 14;clear cb de fd;go_wp2_with fail;refine l4 (fe _ bd.O) λcs bj=>?_;have gr:=a6 (bd.trans bj);clear bx bj bd fe fg cg;go_wp2_with fail;obtain⟨gn,gk⟩:=j0 (λW(x:a9 w W)=>show Ca prog 12 #[Z u.1.A u.1.n u.1.c] W λe bz=>e=X (I M (CM (j5 u)))/\a9 W bz from callsIn_wide.1 (iV u.1.A u.1.n u.1.c u.2 W ch.1 ao.2.1 (ch.2.h x))) (λ(k:Nat)(co:k<D ds) W(x:a9 w W)=>show Ca prog 12 #[Z ds[k].1.A ds[k].1.n ds[k].1.c] W λe bz=>e=X (I M (CM (j5 ds[k])))/\a9 W bz from callsIn_wide.1 (iV ds[k].1.A ds[k].1.n ds[k].1.c ds[k].2 W (ce _ (g3 co)).1 (ao.2.2 _ (g3 co)) ((ce _ (g3 co)).2.h x)));have il:=ao.1;have fa:=a6 dq;clear ao ce ch bn dq;go_loopw [9,10] (λeg hw wr=>∃k:Nat,k<=D q/\eg=I M (xJ (q.take k):Nat)/\hw=I M k/\a9 ca wr) (λ_ i _=>D q-(intOf i).toNat);exact⟨0,c6 _,rfl,rfl,gr.O⟩;obtain⟨k,co,rfl,rfl,ak⟩:=hrel;have bx:=(bp.h ak).cell 14;by_cases be:k<D q
 ·obtain⟨b,o,rfl,-⟩:=(am.h ak).rows e6 a8;have fk:=(am.h ak).l be (r:=0) rfl;have fl:=(am.h ak).l be (r:=1) rfl;have fm:=(am.h ak).l be (r:=2) rfl;have fn:=(am.h ak).l be (r:=3) rfl;have hc:=a1A q k;have az:=OX q k be;have bh:=gm _ (g3 be);generalize bw:xJ (q.take (k+1))=gz at*;have gl:=a6 bw;clear bw;generalize xJ (q.take k)=ik at*;generalize q[k]=n at*;obtain⟨E,s,al,ba⟩:=n;simp only[h9,j8]at fk fl fm fn;have io:0<=s:=by obtain⟨f,-,-,bq,-⟩:=bh;exact bq
  obtain⟨gq,bc⟩:=j0 (DO (n:=⟨E,s,al,ba⟩) bh) az;have k0:(0:Int)<=k:=a8;have k9:(k:Int)<D q:=a8;have ci:=a6 ak;clear bh az ak;go_wp2_with(refine j1 rfl 49 (Tm 11) (Tm 58) rfl wr 49 _ #[Y E,I M s,I M al,Y ba] rfl rfl (e7.new _ _ _) rfl g6 nA ?_;intro gh cv ft;have cb:a9 wr gh:=((a9.refl wr).alloc _).grown ft (λk e=>by cases e;exact a7 _);have b2:=cv.cell 2;have eu:=a6 cv;have bd:=a6 (ci.trans cb);clear cv ft cb);refine l4 (uG al _) λcs bj=>?_;obtain⟨ev,ff⟩:=j0 (eu.h bj) (bd.trans bj);clear b2 bj eu bd bx fk fl fm fn;go_upto_if 62 with fail;go_cut [9] (λeg ie=>eg=I M (gz:Nat)/\a9 cs ie)
  ·cases cq:y3 al;·have ag:=bc.O;rw[cq,if_neg e6]at ag;have cy:=a6 ag;clear ag cq;go_wp2;go_meet;exact⟨by rw[cy.O];go_num,.refl _⟩
   have ag:=bc.O;rw[cq,if_pos rfl,j8]at ag;have cy:=a6 ag;clear ag cq;go_wp2;go_meet;exact⟨by rw[cy.O],.refl _⟩
  obtain⟨rfl,ei⟩:=hcut;generalize wr.heap.size=fq at*;obtain⟨bm,cj⟩:=j0 (ev.h ei) (ff.trans ei);have cz:=a6 (gj.h cj.O);clear ev ff ei ci bc hc;obtain⟨b1,dl⟩:∃b1,b1=(E.toList==u.1.name.toList):=⟨_,rfl⟩;obtain⟨b3,dm⟩:∃b3,b3=Dc (s<=(CM (j5 u):Int)):=⟨_,rfl⟩;have gp:=a6 (show(b1&&b3)=T1 (j5 u) ((ds.map j5).take 0) ⟨E,s,al,ba⟩ by rw[dl,dm];simp[T1,atT,j5]);have v:=dl.symm;have y:=dm.symm;clear dl dm;generalize CM (j5 u)=m at*;go_wp2_with fail;refine y2 rfl [.is ?Ea,.is (Y E),.is ?Eb,.is (Y u.1.name),.is (O b1),.is ?Ec,.is (cond b1 (K (So ⟨fq,1,J⟩)) Un),.is (cond b1 (I M s) Un),.is (cond b1 (O Bt) Un),.is (O b1),.is ?Ed,.is (cond b1 (K (So ⟨fq,1,J⟩)) Un),.is (cond b1 (I M s) Un),.is (cond b1 (K (So ⟨w,2,J⟩)) Un),.is (cond b1 (Z u.1.A u.1.n u.1.c) Un),.is (cond b1 (I M m) Un),.is (cond b1 (O b3) Un),.is (O (b1&&b3)),.is ?Ee] g6 ?Ef ?Aa ⟨?Ab,?Ac,?Ad,?Ae,?Af,?Ag,?Ah,?Ai,?Aj,?Ak,?Al,?Am,?An,?Ao,?Ap,?Aq,?Ar,?As,?At,trivial⟩ ?Eg
  case Aa=>intro x;simp only[m0,Act.put,uL,Nat.reduceAdd]<;>rfl
  case Ab|Ac|Ad|Ae|Af|Ag|Al|At=>
   intro x d a;simp only[g0,o7,uV];repeat(intro g;try simp only[g])
   have em:=(bm.h a).cell 0;have en:=(cz.h a).cell 0;go_wp2_with fail;refine e8 ?_ rfl (a9.refl _);rfl
  case Ah|Ai|Aj|Am|An|Ao|Ap|Aq|Ar=>
   intro x d a;simp only[g0,o7,uV];repeat(intro g;try simp only[g];clear g)
   have em:=(bm.h a).cell 1;have en:=(cz.h a).cell 2;cases b1;all_goals(try simp only[uB])
   all_goals first|exact a2B (by first|decide|(intro bq;cases bq)) mZ|(refine a2E eX ?_;(go_wp2_with(first|(go_at_call 12;refine l4 (gn d (cn.trans (cj.trans a))) λcs dr=>?_));refine e8 ?_ rfl (by first|exact dr|exact a9.refl _);exact rfl))
  case Ak=>
   intro x d a;simp only[g0,o7,uV];intro B C;simp only[B,C];cases b1;all_goals(try simp only[uB])
   all_goals(go_wp2_with(fail);refine e8 ?_ rfl (a9.refl _);exact rfl)
  case As=>
   intro x d a;simp only[g0,o7,uV];intro z A;simp only[z,A];cases b1;all_goals(try simp only[uB])
   all_goals(go_wp2_with(fail);refine e8 ?_ rfl (a9.refl _);exact rfl)
  intro x d a;simp only[n9,g0,o7,uV];intro F v aa y ab B ac ad C ae z G H L P Q A R T;simp only[F,v,aa,y,ab,B,ac,ad,C,ae,z,G,H,L,P,Q,A,R,T];clear F v aa y ab B ac ad C ae z G H L P Q A R T;obtain⟨bm,df⟩:=j0 (bm.h a) (cj.trans a);clear v y cj cz a;go_wp2;go_loopw [12,13] (λhx hy W=>∃j:Nat,j<=D ds/\hx=O (T1 (j5 u) ((ds.map j5).take j) ⟨E,s,al,ba⟩)/\hy=I M j/\a9 d W) (λ_ i _=>D ds-(intOf i).toNat);exact⟨0,c6 _,by rw[gp.O],rfl,.refl _⟩;obtain⟨j,im,rfl,rfl,bu⟩:=hrel;have bo:=a6 bu;by_cases bi:j<D ds
  ·obtain⟨ig,ir,rfl,ai,an,aj⟩:=R5 (ez.h (cn.trans (df.trans bu))) (k:=j) (by rw[i1];exact bi);rw[List.getElem_map]at ai an aj;have az:=DP (j5 u) (ds.map j5) ⟨E,s,al,ba⟩ j (by rw[i1];exact bi);rw[List.getElem_map]at az;obtain⟨ex,cx⟩:=j0 (gk j bi) (bm.h bu);generalize bw:T1 (j5 u) ((ds.map j5).take (j+1)) ⟨E,s,al,ba⟩=iu at*;have dd:=a6 bw;clear bw;generalize T1 (j5 u) ((ds.map j5).take j) ⟨E,s,al,ba⟩=t at*;generalize ds[j]=g at*;generalize CM (j5 g)=fy at*;obtain⟨⟨dn,ih,gu,gw,gv⟩,xs⟩:=g;dsimp only[j5]at ai an aj az ex;obtain⟨e,ag⟩:∃e,e=(E.toList==dn.toList):=⟨_,rfl⟩;obtain⟨l,dp⟩:∃l,l=Dc (s<=(fy:Int)):=⟨_,rfl⟩;rw[<-ag,<-dp]at az;have bc:=a6 az;have v:=ag.symm;have y:=dp.symm;have da:=a6 (And.intro ai aj);have ip:(0:Int)<=j:=a8;have hf:(j:Int)<D ds:=a8;clear az ag dp ai an aj bu;go_wp2_with fail;cases t;rotate_left
   ·refine wpIn_wide.1 (M1 (n:=1) (λ_=>trivial) rfl ((.is ?Eh:VP)::(.is ?Ei:VP)::(.is Un:VP)::(.is Un:VP)::(.is Un:VP)::(.is Un:VP)::(.is Un:VP)::(.is Un:VP)::(.is Un:VP)::(.is Un:VP)::(.is Un:VP)::(.is Un:VP)::(.is Un:VP)::(.is Un:VP)::(.is Un:VP)::(.is Un:VP)::(.is Un:VP)::(.is Un:VP)::(.is Un:VP)::(.is Un:VP)::(.is Un:VP)::(.is Un:VP)::(.is Un:VP)::(.is Un:VP)::(.is Un:VP)::(.is Un:VP)::(.is ?Ej:VP)::[]) g6 ?Ek ?Au ⟨?Av,?Aw,?Ax,?Ay,?Az,?Ba,?Bb,?Bc,?Bd,?Be,?Bf,?Bg,?Bh,?Bi,?Bj,?Bk,?Bl,?Bm,?Bn,?Bo,?Bp,?Bq,?Br,?Bs,?Bt,?Bu,?Bv,trivial⟩ _ rfl rfl ?El)
    case Au=>intro x;simp only[qM,Act.put,uL,Nat.reduceAdd]<;>rfl
    case Av|Aw|Bv=>
     intro x d a;simp only[g0,g5,uV];repeat(intro g;try simp only[g])
     gi_wp2_with fail;refine e8 ?_ rfl (a9.refl _);rfl
    case Ax|Ay|Az|Ba|Bb|Bc|Bd|Be|Bf|Bj|Bk|Bu=>
     intro x d a;simp only[g0,g5,uV];repeat(intro g;try simp only[g])
     exact a2B (by first|decide|simp[I1]) mZ
    case Bg|Bh|Bi|Bl|Bm|Bn|Bo|Bp|Bq|Br|Bs|Bt=>
     intro x d a;simp only[g0,g5,uV];repeat(intro g;try simp only[g])
     exact a2B (by intro bq;cases bq) mZ
    intro x d a;simp only[n9,g0,o7,uV];intro F v aa y ab B ac ad C ae z G H L P Q A R T ap aq ar au av aw ax ay;simp only[F,v,aa,y,ab,B,ac,ad,C,ae,z,G,H,L,P,Q,A,R,T,ap,aq,ar,au,av,aw,ax,ay];clear F v aa y ab B ac ad C ae z G H L P Q A R T ap aq ar au av aw ax ay;gi_wp2;go_wp2;go_roundw;exact⟨j+1,bi,by rw[dd.O,bc.O];first|rfl|simp,o3,bo.trans a⟩;simp[intOf];omega
   cases e
   ·refine wpIn_wide.1 (M1 (n:=1) (λ_=>trivial) rfl ((.is ?Em:VP)::(.is ?En:VP)::(.is ?Eo:VP)::(.is (Y E):VP)::(.is ?Ep:VP)::(.is ?Eq:VP)::(.is ?Er:VP)::(.is ?Es:VP)::(.is (Y dn):VP)::(.is ?Et:VP)::(.is ?Eu:VP)::(.is Un:VP)::(.is Un:VP)::(.is Un:VP)::(.is ?Ev:VP)::(.is ?Ew:VP)::(.is Un:VP)::(.is Un:VP)::(.is Un:VP)::(.is Un:VP)::(.is Un:VP)::(.is Un:VP)::(.is Un:VP)::(.is Un:VP)::(.is Un:VP)::(.is ?Ex:VP)::(.is ?Ey:VP)::[]) g6 ?Ez ?Bw ⟨?Bx,?By,?Bz,?Ca,?Cb,?Cc,?Cd,?Ce,?Cf,?Cg,?Ch,?Ci,?Cj,?Ck,?Cl,?Cm,?Cn,?Co,?Cp,?Cq,?Cr,?Cs,?Ct,?Cu,?Cv,?Cw,?Cx,trivial⟩ _ rfl rfl ?Fa)
    case Bw=>intro x;simp only[qM,Act.put,uL,Nat.reduceAdd]<;>rfl
    case Bx|By|Bz|Ca|Cb|Cc|Cd|Ce|Cf|Cg|Ch|Cl|Cm|Cw|Cx=>
     intro x d a;simp only[g0,g5,uV];repeat(intro g;try simp only[g])
     try refine a2E eX ?_
     have em:=(cx.h a).cell 0;have en:=a.cell da.1;gi_wp2_with fail;refine e8 ?_ rfl (a9.refl _);rfl
    case Ci|Cj|Ck|Cn|Co|Cp|Cq|Cr|Cs|Ct|Cu|Cv=>
     intro x d a;simp only[g0,g5,uV];repeat(intro g;try simp only[g])
     exact a2B (by first|decide|simp[I1]) mZ
    intro x d a;simp only[n9,g0,o7,uV];intro F v aa y ab B ac ad C ae z G H L P Q A R T ap aq ar au av aw ax ay;simp only[F,v,aa,y,ab,B,ac,ad,C,ae,z,G,H,L,P,Q,A,R,T,ap,aq,ar,au,av,aw,ax,ay];clear F v aa y ab B ac ad C ae z G H L P Q A R T ap aq ar au av aw ax ay;gi_wp2;go_wp2;go_roundw;exact⟨j+1,bi,by rw[dd.O,bc.O];first|rfl|simp,o3,bo.trans a⟩;simp[intOf];omega
   refine wpIn_wide.1 (M1 (n:=1) (λ_=>trivial) rfl ((.is ?Fb:VP)::(.is ?Fc:VP)::(.is ?Fd:VP)::(.is (Y E):VP)::(.is ?Fe:VP)::(.is ?Ff:VP)::(.is ?Fg:VP)::(.is ?Fh:VP)::(.is (Y dn):VP)::(.is ?Fi:VP)::(.is ?Fj:VP)::(.is ?Fk:VP)::(.is (I M s):VP)::(.is ?Fl:VP)::(.is ?Fm:VP)::(.is ?Fn:VP)::(.is ?Fo:VP)::(.is (I M s):VP)::(.is ?Fp:VP)::(.is ?Fq:VP)::(.is ?Fr:VP)::(.is ?Fs:VP)::(.is (Z gu gw gv):VP)::(.is (I M fy):VP)::(.is ?Ft:VP)::(.is ?Fu:VP)::(.is ?Fv:VP)::[]) g6 ?Fw ?Cy ⟨?Cz,?Da,?Db,?Dc,?Dd,?De,?Df,?Dg,?Dh,?Di,?Dj,?Dk,?Dl,?Dm,?Dn,?Do,?Dp,?Dq,?Dr,?Ds,?Dt,?Du,?Dv,?Dw,?Dx,?Dy,?Dz,trivial⟩ _ rfl rfl ?Fx)
   case Cy=>intro x;simp only[qM,Act.put,uL,Nat.reduceAdd]<;>rfl
   case Cz|Da|Db|Dc|Dd|De|Df|Dg|Dh|Di|Dj|Dk|Dl|Dm|Dn|Do|Dp|Dq|Dr|Ds|Dt|Du|Dv|Dw|Dx|Dy|Dz=>
    intro x d a;simp only[g0,g5,uV];repeat(intro g;try simp only[g])
    try refine a2E eX ?_
    have em:=(cx.h a).cell 0;have en:=a.cell da.1;have ja:=(cx.h a).cell 1;have jb:=a.cell da.2;gi_wp2_with(refine⟨trivial,?_⟩;gi_at_call 12;refine((Cw (n:=0)).2 (ex d (cn.trans (df.trans (bo.trans a))))).mono ?_;rintro e cs⟨rfl,dr⟩);refine e8 ?_ rfl (by first|exact dr|exact a9.refl _);rfl
   intro x d a;simp only[n9,g0,o7,uV];intro F v aa y ab B ac ad C ae z G H L P Q A R T ap aq ar au av aw ax ay;simp only[F,v,aa,y,ab,B,ac,ad,C,ae,z,G,H,L,P,Q,A,R,T,ap,aq,ar,au,av,aw,ax,ay];clear F v aa y ab B ac ad C ae z G H L P Q A R T ap aq ar au av aw ax ay;gi_wp2;go_wp2;go_roundw;exact⟨j+1,bi,by rw[dd.O,bc.O];first|rfl|simp,o3,bo.trans a⟩;simp[intOf];omega
  obtain rfl:j=D ds:=a8;have fp:T1 (j5 u) ((ds.map j5).take (D ds)) ⟨E,s,al,ba⟩=Bt:=by have:=List.take_length (l:=ds.map j5);rw[i1]at this;rw[this];exact gq.O
  have hf:¬(D ds:Int)<D ds:=a8;rw[fp];clear fp bu;go_wp2;go_roundw;exact⟨k+1,be,by rw[gl.O],o3,df.trans bo.O⟩;simp[intOf];omega
 obtain rfl:k=D q:=a8;have k9:¬(D q:Int)<D q:=a8;have he:=OY q;rw[<-fa.O]at he;rw[List.take_length];have ij:(cr==cr)=Bt:=i3;have ci:=a6 ak;clear ak;go_wp2;go_ret;exact⟨by simp[fa.O],cn.trans ci.O⟩
section
namespace topFront
open Go.ChangeAt
theorem k0:((Rows.topFrontRow).wf (OpenSpec.ofChange Rows.topFrontSpec))=Bt:=g6
theorem k1:(laidOutB checked.prog)=Bt:=g6
theorem k2:(mapsRowed checked.prog)=Bt:=g6
theorem k3:(f3.params.all (checked.prog.readableRec ·))=Bt:=g6
theorem k4:(namedTie checked.prog Rows.topFrontRow.named Rows.topFrontSpec.vars)=Bt:=g6
theorem k5:((Rows.topFrontRow.stops==[]))=Bt:=g6
theorem k6:((checked.prog.stops==[]))=Bt:=g6
theorem k7:((Rows.topFrontRow.knobs==[]))=Bt:=g6
theorem k8:((checked.prog.stopKnobs==[]))=Bt:=g6
theorem k9:((Rows.topFrontRow.inPlace==checked.prog.inPlace 3))=Bt:=g6
theorem k10:((Rows.topFrontRow.unfollowed==checked.prog.unfollowed 3))=Bt:=g6
theorem k11:((Rows.topFrontRow.recurses==checked.prog.recurses 3))=Bt:=g6
theorem k12:((Rows.topFrontRow.named==checked.prog.varsNamed 3))=Bt:=g6
theorem k13:((Rows.topFrontRow.maps==(f3.params.toList++Rows.topFrontSpec.plain.varTypes checked.prog).any (checked.prog.mapsRec ·)))=Bt:=g6
theorem k14:((Rows.topFrontRow.ifaces==(f3.params.toList++Rows.topFrontSpec.plain.varTypes checked.prog).any (checked.prog.ifacesRec ·)))=Bt:=g6
theorem k15:((Rows.topFrontRow.mapsOut==checked.prog.mapsAmong f3.resultTypes.toList))=Bt:=g6
theorem k16:((Rows.topFrontRow.loops==(f3.params.toList++Rows.topFrontSpec.plain.varTypes checked.prog).any (checked.prog.loopsFrom ·)))=Bt:=g6
theorem k17:((Rows.topFrontRow.wideKeys==(f3.params.toList++Rows.topFrontSpec.plain.varTypes checked.prog++f3.resultTypes.toList).any (checked.prog.wideKeysFrom ·)))=Bt:=g6
theorem k18:(Rows.topFrontSpec.vars.all (checked.prog.varReadable ·))=Bt:=g6
theorem k19:(f3.resultTypes.all (λt=>checked.prog.readableRec t&&Dc (t<checked.prog.types.size)))=Bt:=g6
theorem k20:((Rows.topFrontRow.ifacesOut==f3.resultTypes.toList.any (checked.prog.ifacesRec ·)))=Bt:=g6
theorem k21:((Rows.topFrontRow.loopsOut==f3.resultTypes.toList.any (checked.prog.loopsFrom ·)))=Bt:=g6
theorem k22:((Rows.topFrontRow.plainKeys==checked.prog.plainKeys))=Bt:=g6
theorem k23:(Rows.topFrontRow.shortTexts.isNone)=Bt:=g6
theorem k24:(checked.prog.stopsHeard)=Bt:=g6
theorem k25:(checked.prog.mayEnter)=Bt:=g6
theorem k26:((Rows.topFrontRow.lifted==checked.prog.liftsFinal))=Bt:=g6
theorem k27:((checked.prog.make==So Rows.topFrontRow.make))=Bt:=g6
theorem k28:((Rows.topFrontRow.kinds==(if Rows.topFrontRow.domain.isEmpty then []else f3.params.toList.map λt=>match checked.prog.underlying t with|some (.int k)=>So k|_=>J)))=Bt:=g6
theorem k29:((Rows.topFrontRow.pinned==Rows.topFrontRow.pinnedBy))=Bt:=g6
theorem k30:((Rows.topFrontRow.veiled==(f3.params.toList++Rows.topFrontSpec.plain.varTypes checked.prog++f3.resultTypes.toList).any (checked.prog.veiledRec ·)))=Bt:=g6
theorem k31:(Rows.topFrontRow.veiledFits checked.prog f3.params.toList (f3.params.toList++Rows.topFrontSpec.plain.varTypes checked.prog++f3.resultTypes.toList))=Bt:=g6
theorem a4q:joinedFacts checked.prog 3 f3 Rows.topFrontSpec Rows.topFrontRow=Bt:=by unfold joinedFacts;exact(Bool.and_eq_true_iff.2 ⟨(Bool.and_eq_true_iff.2 ⟨(Bool.and_eq_true_iff.2 ⟨(Bool.and_eq_true_iff.2 ⟨(Bool.and_eq_true_iff.2 ⟨(Bool.and_eq_true_iff.2 ⟨(Bool.and_eq_true_iff.2 ⟨(Bool.and_eq_true_iff.2 ⟨(Bool.and_eq_true_iff.2 ⟨(Bool.and_eq_true_iff.2 ⟨(Bool.and_eq_true_iff.2 ⟨(Bool.and_eq_true_iff.2 ⟨(Bool.and_eq_true_iff.2 ⟨(Bool.and_eq_true_iff.2 ⟨(Bool.and_eq_true_iff.2 ⟨(Bool.and_eq_true_iff.2 ⟨(Bool.and_eq_true_iff.2 ⟨(Bool.and_eq_true_iff.2 ⟨(Bool.and_eq_true_iff.2 ⟨(Bool.and_eq_true_iff.2 ⟨(Bool.and_eq_true_iff.2 ⟨(Bool.and_eq_true_iff.2 ⟨(Bool.and_eq_true_iff.2 ⟨(Bool.and_eq_true_iff.2 ⟨(Bool.and_eq_true_iff.2 ⟨(Bool.and_eq_true_iff.2 ⟨(Bool.and_eq_true_iff.2 ⟨(Bool.and_eq_true_iff.2 ⟨(Bool.and_eq_true_iff.2 ⟨(Bool.and_eq_true_iff.2 ⟨(Bool.and_eq_true_iff.2 ⟨k0,k1⟩),k2⟩),k3⟩),k4⟩),k5⟩),k6⟩),k7⟩),k8⟩),k9⟩),k10⟩),k11⟩),k12⟩),k13⟩),k14⟩),k15⟩),k16⟩),k17⟩),k18⟩),k19⟩),k20⟩),k21⟩),k22⟩),k23⟩),k24⟩),k25⟩),k26⟩),k27⟩),k28⟩),k29⟩),k30⟩),k31⟩)
theorem named:checked.prog.funcNamed Rows.topFrontRow.func=So 3:=g6
theorem a6S:f3.isInstance checked.prog Rows.topFrontRow.origin Rows.topFrontRow.targs:=of_decide_eq_true g6
theorem wrap:f3.isWrapper checked.prog Rows.topFrontRow.wrapper Rows.topFrontRow.mainSum:=by unfold Func.isWrapper;first|(rw[if_pos yA];kernel_rfl)|(rw[if_neg yA];exact⟨rfl,rfl⟩)
theorem over(b:∀(os:Os)(a:os.Started)(H:Type)(enc:Ti×Va->H),
  ReturnsInHanded {} checked os 3 .any (Rows.topFrontSpec.pre6 enc prog f3 Rows.topFrontRow.domain Bf) (Rows.topFrontSpec.post enc prog f3 Bf Bt Bf Bf)):Rows.topFrontRow.holds pinned (OpenSpec.ofChange Rows.topFrontSpec):=
 OpenClaim.holds_of_wide 3 f3 rfl rfl rfl rfl rfl rfl rfl ⟨rfl,rfl,rfl,rfl,rfl⟩ rfl rfl rfl rfl rfl named func3 a4q a6S wrap
  (λos a H enc _=>b os a H enc)
end topFront
end
section
namespace topFront
open Go.ChangeAt
theorem lifted(os:Os)(P:os.Started)(H:Type)(enc:Ti×Va->H):
 ReturnsInHanded {} checked os 3 .any (Rows.topFrontSpec.pre6 enc prog f3 Rows.topFrontRow.domain Bf) (Rows.topFrontSpec.post enc prog f3 Bf Bt Bf Bf):=by
 refine returnsInHanded_of_change (C:=checked) TV P g6 func3
  (ChangeSpec.witness6 (enc:=enc) (C:=checked) Bf ⟨#[],#[Ag #[Y ByteArray.empty,I M 0,Z J 0 0],Z J 0 0],[]⟩ 8 g6 g6 g6 g6) ?_
 intro W base args ds ad S l k af _;have g:∀(j:Nat) t v,f3.params[j]? =So t->args[j]? =So v->Value.okWide prog W .any base t v:=l;have E:=k;obtain⟨p,q,i,B,rfl,ag,ah⟩:=k;have h:DataW.TrodAll enc prog W 0 (λ_=>Bt) Bt f3.params.toList args.toList ds p:=i;rw[params3]at h g;obtain⟨o,am,T,ab,ai,ak,ae,rfl,rfl,b,L⟩:=trodAll_cons h;obtain⟨r,an,aa,ac,aj,al,rfl,rfl,rfl,f,N⟩:=trodAll_cons L;obtain⟨rfl,rfl,rfl⟩:=trodAll_nil N;obtain rfl:args= #[o,r]:=by cases args;simp_all
 obtain⟨rfl,rfl⟩:=trodVars_none B;have n:∀{t v d p},DataW.Trod enc prog W 0 (λ_=>Bt) Bt t v d p->∀x∈p,x.block<W.heap.size:=λ⟨m,G⟩=>DataW.trod_lt m _ _ _ G
 obtain⟨u,w,w0⟩:=EY (g 0 24 o rfl rfl) b;obtain⟨s,c,z,y,Q,R⟩:=AH (g 1 25 r rfl rfl) f;subst w y;clear i l;refine(rT u s c z W Q w0 R).mono λe W'⟨F,a⟩=> ?_
 subst F;exact⟨_,rfl,_,_,_,[],_,[],E,trodAll_mk1 (shut_bool underlying4 _),(trodAll_cons_mk (Below.trod AZ g6 (of_decide_eq_true g6) b a (n b)) (trodAll_cons_mk (Below.trod AZ g6 (of_decide_eq_true g6) f a (n f)) trodAll_mk0)),rfl,Below.frame a _,λA=>by cases A⟩
theorem proved:Rows.TopFrontSaid:=over lifted
end topFront
end
end Go.Proofs.YtcljlejgllkcjaaGreat
