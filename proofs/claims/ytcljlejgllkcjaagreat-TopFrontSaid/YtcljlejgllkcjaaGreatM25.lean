/- A part of the proof of TopFront: lemmas on the walks of its calls. -/
import Derived.Test.YtcljlejgllkcjaaGreatM23
import Derived.Test.YtcljlejgllkcjaaGreatM24
set_option maxHeartbeats 12000000
set_option linter.all false
set_option maxRecDepth 100000
namespace Go.Proofs.YtcljlejgllkcjaaGreat
open Go.RowKit Go.ChangeShapes Go.WideShapes Tryz
open Bool renaming and_eq_true→j3,true→Bt,false→Bf
open Decidable renaming decide→Dc
open Ending renaming returned→X
open Go renaming World→Wd,Calls→Ca,bodyPost_ret→Bp,strOfNums→Sn
open IntKind renaming i64→M,u32→V,u64→U6,u8→U8
open IntWalk renaming i64_in→h7
open List renaming length_append→g1,getElem_mem→g3,take_succ_eq_append_getElem→g2,range→m9,length→D
open Nat renaming le_refl→a7,zero_le→c6,add_zero→j8
open Obj renaming cells→U
open Operand renaming tmp→Tm
open Option renaming none→J,some→So
open Value renaming int→I,slice→Z,string→Y,pointer→K,bool→O,tuple→Tp
def hJ(s:g4):Nat->Nat->Option Nat->List (Nat×Nat)->List (Nat×Nat)×Option Nat
 |0,_,st,acc=>(acc,st)
 |f+1,pos,st,acc=>if blk (p5 s pos)then hJ s f (pos+1) J (match st with|some a=>acc++[(a,pos)]|none=>acc)else hJ s f (pos+1) (So (st.getD pos)) acc
theorem sZ(s:g4):∀(n f b:Nat)(a:Nat)(c:List (Nat×Nat)),(∀j,b<=j->j<b+n->blk (p5 s j)=Bf)->hJ s (f+n) b (So a) c=hJ s f (b+n) (So a) c
 |0,f,b,a,c,_=>rfl
 |n+1,f,b,a,c,h=>by
  rw[(a8:f+(n+1)=(f+n)+1)];conv=>lhs;unfold hJ
  rw[h b (a7 _) a8,if_neg e6];show hJ s (f+n) (b+1) (So a) c=_;rw[sZ s n f (b+1) a c λj d e=>h j a8 a8,(a8:b+1+n=b+(n+1))]
theorem rC(c:Int)(h:128<=c):blk c=Bf:=by unfold blk;simp;omega
theorem HS(s:g4):∀(f a:Nat)(b:Option Nat)(c:List (Nat×Nat)),s.size<=a+f->Lib.spansFromP mX s f a b c=hJ s (s.size-a) a b c
 |0,a,b,c,h=>by rw[(a8:s.size-a=0)];rfl
 |f+1,a,b,c,h=>by
  unfold Lib.spansFromP;by_cases d:a<s.size;rw[if_pos d];have t:=rF s a;by_cases i:p5 s a<128;rw[JY s a d i];dsimp only;rw[(a8:s.size-a=(s.size-(a+1))+1)];unfold hJ;have e:mX (p5 s a).toNat=blk (p5 s a):=by unfold mX;rw[(a8:((p5 s a).toNat:Int)=p5 s a)]
  rw[e];cases blk (p5 s a);rw[if_neg e6,if_neg e6];cases b<;>exact HS s f _ _ _ a8;rw[if_pos rfl,if_pos rfl];cases b<;>exact HS s f _ _ _ a8;obtain⟨p,r⟩:=decode_high s a d (by rw[V3 s a d]at i;omega);have e:mX (Utf8.decode s a).1=Bf:=by unfold mX;exact rC _ a8
  rw[e,if_neg e6];generalize o:(Utf8.decode s a).2=n at*;have g:∀j,a<=j->j<a+n->j<s.size/\blk (p5 s j)=Bf:=λj k l=>by
   rcases Nat.lt_or_eq_of_le k with q|rfl
   have:=CJ s a j q (by rw[o];exact l);exact⟨this.1,rC _ this.2⟩;exact⟨d,rC _ a8⟩
  have u:=(g (a+n-1) a8 a8).1;have m:hJ s (s.size-a) a b c=hJ s (s.size-(a+n)) (a+n) (So (b.getD a)) c:=by
   rw[(a8:s.size-a=(s.size-(a+n)+(n-1))+1)];conv=>lhs;unfold hJ
   rw[(g a (a7 _) a8).2,if_neg e6,sZ s (n-1) _ _ _ _ λj k l=>(g j a8 a8).2,(a8:a+1+(n-1)=a+n)]
  rw[m];cases b<;>exact HS s f _ _ _ a8;rw[if_neg d,(a8:s.size-a=0)];rfl
def a5R(s:g4)(x:Nat×Nat):g4:=s.extract x.1 x.2
def X1(s:g4)(i:Nat)(l:C2)(w:g4):Prop:=∃b c,l3 s=(Lib.closeSpans s (hJ s (s.size-i) i b c)).map (a5R s)/\l=c.map (a5R s)/\(b=J/\w=⟨#[]⟩\/∃a,b=So a/\a<i/\w=s.extract a i)
theorem QU(s:g4):X1 s 0 [] ⟨#[]⟩:=⟨J,[],by unfold l3 Lib.goFieldsP Lib.spansOfP;rw[HS s _ _ _ _ a8];rfl,rfl,.inl ⟨rfl,rfl⟩⟩
theorem ZU{s:g4}{i:Nat}{l:C2}{w:g4}(d:X1 s i l w)(hi:i<s.size)(g:blk (p5 s i)=Bf):X1 s (i+1) l (w++s.extract i (i+1)):=by
 obtain⟨j,c,b,e,f⟩:=d;rw[(a8:s.size-i=(s.size-(i+1))+1)]at b;unfold hJ at b;rw[g,if_neg e6]at b;refine⟨_,c,b,e,.inr ⟨_,rfl,?_⟩⟩;rcases f with⟨rfl,rfl⟩|⟨a,rfl,h,rfl⟩
 exact⟨Nat.lt_succ_self i,by rw[Option.getD_none];exact ByteArray.empty_append⟩;exact⟨by rw[Option.getD_some];omega,by rw[Option.getD_some,ByteArray.extract_append_extract];congr 1<;>omega⟩
theorem a20{s:g4}{i:Nat}{l:C2}{w:g4}(d:X1 s i l w)(hi:i<s.size)(f:blk (p5 s i)=Bt):X1 s (i+1) (if w.size=0 then l else l++[w]) ⟨#[]⟩:=by
 obtain⟨j,g,b,c,e⟩:=d;rw[(a8:s.size-i=(s.size-(i+1))+1)]at b;unfold hJ at b;rw[f,if_pos rfl]at b;refine⟨_,_,b,?_,.inl ⟨rfl,rfl⟩⟩;rcases e with⟨rfl,rfl⟩|⟨a,rfl,h,rfl⟩
 exact c;rw[if_neg (by rw[l6 _ _ _ a8 a8];omega),c,List.map_append];rfl
theorem a2Z{s:g4}{l:C2}{w:g4}(e:X1 s s.size l w):l3 s=if w.size=0 then l else l++[w]:=by
 obtain⟨h,d,b,c,f⟩:=e;rw[Nat.sub_self]at b;rw[b];rcases f with⟨rfl,rfl⟩|⟨a,rfl,g,rfl⟩
 exact c.symm;rw[if_neg (by rw[l6 _ _ _ a8 a8];omega),c];show List.map _ (d++[(a,s.size)])=_;rw[List.map_append];rfl
theorem a0n{s:g4}(h:0<s.size):∃c,w6 (p5 s 0=c)/\∀W,(Instr.index 9 (Y s) (I M 0)).run prog W= .ok (I U8 c) W:=⟨_,a6 rfl,ixS s 0 h⟩
theorem ER(s:g4)(A:s.size<=100000000)(W:Wd):Ca prog 57 #[Y s] W λe Q=>e=X (Tp #[Y (a2N s).1,O (a2N s).2])/\a9 W Q:=by
 obtain⟨g,t⟩:=j0 (a3i s) (a0l s);generalize a2N s=R at*;go_in;by_cases v:s.size<3;·have b:=a6 (g (.inl v));have v:(s.size:Int)<3:=a8;go_wp2;go_ret2;exact⟨by rw[b.O];rfl,.refl _⟩
 obtain⟨a,w⟩:∃a,s.size=a+1:=⟨s.size-1,a8⟩;obtain⟨H,l,T⟩:=a0n (a8:0<s.size);obtain⟨L,m,aa,-,-,-⟩:=LW (a8:a<s.size) A;have d:2<=a:=a8;have ag:Dc ((a:Int)+1<3)=Bf:=by simp;omega
 have ah:IntKind.i64.wrap ((a:Int)+1-1)=a:=by rw[(a8:(a:Int)+1-1=a)];exact h7 _ a8
 rcases B:H !=91 with _|_
 rotate_left
 ·have b:=a6 (g (.inr (.inl (by rw[l.O];simpa using B))));go_wp2;go_ret2;exact⟨by rw[b.O];rfl,.refl _⟩
 rcases C:L !=93 with _|_
 rotate_left
 ·have b:=a6 (g (.inr (.inr (by rw[w,Nat.add_sub_cancel,m.O];simpa using C))));go_wp2;go_ret2;exact⟨by rw[b.O];rfl,.refl _⟩
 obtain⟨b,n,u,p⟩:=F6 (t a w d (by rw[l.O];simpa using B) (by rw[m.O];simpa using C)) (a1X (s.extract 1 a)) (l6 s 1 a a8 a8) (λj(N:1+j<a)=>H3 s 1 a j N a8);clear t g;go_wp2;go_loopw [4] (λx wr=>∃k:Nat,1<=k/\k<=a/\x=I M k/\(∀j,1<=j->j<k->¬(p5 s j=91\/p5 s j=93))/\a9 W wr) (λx _=>a-(intOf x).toNat);exact⟨1,a7 _,a8,rfl,λj h d=>a8,.refl _⟩;obtain⟨k,ac,ab,rfl,y,i⟩:=hrel;have o:=a6 y;clear y;by_cases P:k<a
 ·obtain⟨c,r,S,-,k9,-⟩:=LW (a8:k<s.size) A;have ad:(k:Int)<a:=a8;have k0:(0:Int)<=k:=a8;cases E:c==91<;>cases F:c==93
  ·have z:¬(p5 s k=91\/p5 s k=93):=by rw[r.O];simp at E F;omega
   have G:=a6 z;clear z;go_wp2;go_roundw;exact⟨k+1,a8,P,o3,λj h d=>by
   by_cases e:j=k;rw[e];exact G.O;exact o j h a8,i⟩
   simp[intOf];omega
  all_goals have f:dZ (s.extract 1 a) HA=Bt:=n.2 ⟨k-1,by rw[u.O];omega,by rw[p _ a8,(a8:1+(k-1)=k),r.O];simp at E F;omega⟩;have b:=a6 (b.trans (if_pos f));clear f;go_wp2;go_ret2;exact⟨by rw[b.O];rfl,i⟩
 obtain rfl:k=a:=a8;have f:¬dZ (s.extract 1 k) HA=Bt:=λq=>by obtain⟨j,h,d⟩:=n.1 q;rw[u.O]at h;rw[p _ a8]at d;exact o (1+j) a8 a8 d
 have b:=a6 (b.trans (if_neg f));have ae:(1:Int)<=k:=a8;have af:(k:Int)<=((k+1:Nat):Int):=a8;clear f;go_wp2;go_ret2;exact⟨by rw[b.O];rfl,i⟩
theorem a2Y{s:g4}{i:Nat}{l:C2}{w:g4}(b:X1 s i l w):w.size<=i:=by obtain⟨e,c,-,-,⟨-,rfl⟩|⟨a,-,d,rfl⟩⟩:=b;exact c6 _;rw[ByteArray.size_extract];omega
theorem hZ(s:g4)(au:s.size<=900000)(W:Wd):Ca prog 168 #[Y s] W λe S=>∃v,e=X v/\c7 S W 9 x4 v (l3 s)/\a9 W S:=by
 obtain⟨ad,T,aa⟩:=r6 (λi l w=> @ZU s i l w) (λi l w=> @a20 s i l w) (λl w=> @a2Z s l w);have G:=QU s;generalize H:X1 s=t at*;have ac:=a6 (show∀i l w,t i l w->w.size<=i from λi l w d=>by rw[<-H]at d;exact a2Y d);generalize l3 s=R at*;clear H;go_wp2;go_loopw [3,4,5] (λv x z wr=>∃(i:Nat)(l:C2)(w:g4),i<=s.size+1/\z=I M i/\x=Y w/\D l<=i/\(i<=s.size/\t i l w\/i=s.size+1/\l=R)/\c7 wr W 9 x4 v l/\a9 W wr) (λ_ _ z _=>s.size+1-(intOf z).toNat);exact⟨0,[],_,c6 _,rfl,rfl,a7 _,.inl ⟨c6 _,G⟩,c7.nil _ _ _ _,.refl _⟩;clear G;obtain⟨i,l,w,hi,rfl,rfl,ar,Q,k,g⟩:=hrel;have E:=a6 Q;have aw:(0:Int)<=i:=a8;clear Q;by_cases N:i<=s.size
 ·have u:=(E.resolve_right λd=>a8).2;have av:=ac i l w u;have o:=a6 u;have af:Dc ((i:Int)<=s.size)=Bt:=by simp;omega
  have ao:(i:Int)<=s.size:=a8;have h:=a6 N;have ax:i<=900000:=a8;clear u;by_cases f:i<s.size/\blk (p5 s i)=Bf
  ·obtain⟨b,a⟩:=f;obtain⟨c,r,ab,F,-,C⟩:=LW b (a8:s.size<=100000000);have ag:(i:Int)<s.size:=a8;have y:=ad _ _ _ o b a;rw[r.O]at a;have az:(c !=32)=Bt:=by unfold blk at a;simp at a⊢;omega
   have ba:(c !=9)=Bt:=by unfold blk at a;simp at a⊢;omega
   have bb:(c !=13)=Bt:=by unfold blk at a;simp at a⊢;omega
   have P:=l6 s i (i+1) a8 a8;obtain⟨p,ak⟩:∃p,s.extract i (i+1)=p:=⟨_,rfl⟩;rw[ak]at y P;have ae:=a6 y;have bf:¬9223372036854775807<w.size+p.size:=a8;have ay:((i+1:Nat):Int)<=s.size:=a8;have bd:IntKind.i64.wrap ((i:Int)+1)=((i+1:Nat):Int):=by rw[Int.natCast_add];exact h7 _ a8
   clear a y b P;go_wp2;go_roundw;exact⟨i+1,l,_,a8,by first|rfl|go_num,rfl,a8,.inl ⟨C.O,ae.O⟩,k,g⟩;simp[intOf];omega
  obtain⟨n,j⟩:∃n,n=if w.size=0 then l else l++[w]:=⟨_,rfl⟩
  have A:=a6 (show(i+1<=s.size/\t (i+1) n ⟨#[]⟩)\/(i+1=s.size+1/\n=R) by by_cases b:i<s.size;cases a:blk (p5 s i);exact absurd ⟨b,a⟩ f;exact .inl ⟨b,by rw[j];exact T _ _ _ o b a⟩;obtain rfl:i=s.size:=a8;exact .inr ⟨rfl,by rw[j];exact(aa _ _ o.O).symm⟩)
  have B:=a6 j;clear j;go_upto_region 6 with fail;go_cut [33] (λx am=>x=O Bf/\am=wr)
  ·by_cases b:i<s.size
   ·obtain⟨c,r,ab,F,-,C⟩:=LW b (a8:s.size<=100000000);have ag:(i:Int)<s.size:=a8;have ah:c=32\/c=9\/c=13:=by cases a:blk (p5 s i);exact absurd ⟨b,a⟩ f;rw[r.O]at a;unfold blk at a;simp at a;omega
    clear b f;rcases ah with rfl|rfl|rfl
    all_goals go_wp2;go_meet;exact⟨rfl,rfl⟩
   obtain rfl:i=s.size:=a8;go_wp2;go_meet;exact⟨rfl,rfl⟩
  obtain⟨rfl,rfl⟩:=hcut;have L:=o9 w;clear f;by_cases m:w.size=0;·rw[decide_eq_true m]at L;have q:=a6 (B.trans (if_pos m));go_wp2;go_roundw;exact⟨i+1,l,_,by have:=h.O;omega,o3,rfl,a8,by have:=A.O;rwa[q.O]at this,k,g⟩;have:=h.O;simp[intOf];omega
  rw[decide_eq_false m]at L;have q:=a6 (B.trans (if_neg m));have ai:D l+1<=1000000:=a8;go_wp2_with(at_builtin;refine h8 rfl (Tm 43) (Tm 45) 186 9 rfl cO W _ l rfl (k.h ((a9.refl _).alloc _)) _ 1 1 [w] rfl rfl (i5.f (e7.new _ _ _) rfl) ai (g.alloc _).size ?_;intro bc be aj al aq ap);go_roundw;exact⟨i+1,l++[w],_,by have:=h.O;omega,o3,rfl,by rw[g1];simp;omega,by have:=A.O;rwa[q.O]at this,aj,al W (g.alloc _) (a7 _)⟩;have:=h.O;simp[intOf];omega
 obtain⟨rfl,rfl⟩:=E.resolve_left λd=>N d.1
 have af:¬((s.size+1:Nat):Int)<=s.size:=a8;have F:Dc (((s.size+1:Nat):Int)<=s.size)=Bf:=by simp;omega
 have an:Dc (s.size+1<=s.size)=Bf:=i3;go_wp2;go_ret;exact⟨_,rfl,k,g⟩
theorem KU(s:g4):j6 s=if 0<s.size/\p5 s 0=126 then(s.extract 1 s.size,Bt)else(s,Bf):=by by_cases a:0<s.size;obtain⟨b,d⟩:=MH s 126 a;unfold j6;by_cases q:p5 s 0=126;rw[if_pos ⟨a,q⟩];exact congr (congrArg Prod.mk (d q)) (b.trans (by rw[q];rfl));rw[if_neg (λa=>q a.2)];have e:Lib.hasPrefix s.data.toList [126]=Bf:=b.trans (by simpa using q);have c:Lib.hasPrefix s.data.toList sV.data.toList=Bf:=e;unfold Lib.trimPrefix;rw[c,if_neg e6];rw[if_neg (λq=>a q.1),iR s a8];rfl
theorem jU(s:g4)(l:s.size<=100000000)(W:Wd):Ca prog 169 #[Y s] W λe i=>e=X (Tp #[Y (j6 s).1,O (j6 s).2])/\i=W:=by
 have b:=KU s;generalize j6 s=R at*;go_in;by_cases a:0<s.size
 ·obtain⟨c,f,j⟩:=a0n a;rw[f.O]at b;have g:Dc (0<s.size)=Bt:=decide_eq_true a;have h:(0:Int)<s.size:=a8;have k:(1:Int)<=s.size:=a8;cases q:c==126;·have d:=a6 (b.trans (if_neg λa=>by rw[a.2]at q;cases q));clear b;go_wp2;go_ret2;exact⟨by rw[d.O];rfl,rfl⟩
  have d:=a6 (b.trans (if_pos ⟨a,by simpa using q⟩));clear b;go_wp2;go_ret2;exact⟨by rw[d.O];rfl,rfl⟩
 have d:=a6 (b.trans (if_neg λq=>a q.1));have g:Dc (0<s.size)=Bf:=decide_eq_false a;have h:¬(0:Int)<s.size:=a8;clear b;go_wp2;go_ret2;exact⟨by rw[d.O];rfl,rfl⟩
theorem a1N(s:g4):G4 s=if(s.toList==[121,101,115]||s.toList==[116,114,117,101]||s.toList==[111,110]||s.toList==[49])=Bt then(Bt,0)else if(s.toList==[110,111]||s.toList==[102,97,108,115,101]||s.toList==[111,102,102]||s.toList==[48])=Bt then(Bf,0)else(Bf,150):=by
 have b:mS XN s=(s.toList==[110,111]||s.toList==[102,97,108,115,101]||s.toList==[111,102,102]||s.toList==[48]):=by simp only[mS,XN,List.any_cons,List.any_nil,Bool.or_false,Bool.or_assoc,Lib.toList_data]
 have c:mS KM s=(s.toList==[121,101,115]||s.toList==[116,114,117,101]||s.toList==[111,110]||s.toList==[49]):=by simp only[mS,KM,List.any_cons,List.any_nil,Bool.or_false,Bool.or_assoc,Lib.toList_data]
 rw[<-b,<-c];unfold G4 V9 mC mC mC;by_cases a:mS KM s=Bt;rw[if_pos a];have:mS XN s=Bf:=by rw[b];rw[c]at a;simp only[Bool.or_eq_true,beq_iff_eq]at a;rcases a with((a|a)|a)|a<;>rw[a]<;>rfl
 rw[this,a];rfl;rw[if_neg a];have a:mS KM s=Bf:=by simpa using a
 rw[a];cases mS XN s<;>rfl
theorem IG(s:g4)(W:Wd):Ca prog 121 #[Y s] W λe c=>e=X (Tp #[O (G4 s).1,I M (G4 s).2])/\c=W:=by
 have a:=a1N s;generalize G4 s=R at*;go_in;rcases d:s.toList==[121,101,115]with _|_
 rcases f:s.toList==[116,114,117,101]with _|_
 rcases g:s.toList==[111,110]with _|_
 rcases h:s.toList==[49]with _|_
 rcases i:s.toList==[110,111]with _|_
 rcases j:s.toList==[102,97,108,115,101]with _|_
 rcases k:s.toList==[111,102,102]with _|_
 rcases l:s.toList==[48]with _|_
 all_goals simp only[*]at a;have b:=a6 a;clear a;go_wp2;go_ret2;exact⟨by rw[b.O];simp,rfl⟩
theorem PC(l:List UInt8)(k:Nat)(a:k<D l)(n:Int):gJ (l.drop k) n=if l[k].toNat<48||57<l[k].toNat then J else gJ (l.drop (k+1)) (min (10*n+(l[k].toNat-48)) 1048576):=by rw[List.drop_eq_getElem_cons a];rfl
def XK(s:g4)(d:Option Int):Int×Int:=match d with
 |none=>(0,160)
 |some n=>if s.size<1||4<s.size||4095<n then(0,160)else(n,0)
theorem OW(s:g4)(h:4<s.size)(d:Option Int):XK s d=(0,160):=by unfold XK;cases d;rfl;dsimp only;rw[if_pos];simp[h]
def bK(s:g4):Int×Int:=p0 E6 s 160
theorem XE(s:g4):(bK s).1 % 4294967296=(bK s).1/\0<=(bK s).1:=by have:∀a∈E6,a.2 % 4294967296=a.2/\0<=a.2:=yA;unfold bK p0;split;rename_i h;exact this _ (List.mem_of_find?_eq_some h);decide
theorem zN(s:g4)(bd:s.size<=1000000)(W:Wd):Ca prog 175 #[Y s] W λe y=>e=X (Tp #[I V (w8 s).1,I M (w8 s).2])/\a9 W y:=by
 obtain⟨C,B⟩:=j0 (ME W) (λl W p=>show Ca prog 178 #[Z (So ⟨l,0,J⟩) 15 15,Y s,I M 160] W λe y=>e=X (Tp #[I U6 (bK s).1,I M (bK s).2])/\a9 W y from wB l E6 s 160 W e6 p);have H:w8 s=if(bK s).2=0 then((bK s).1,0)else XK s (gJ s.data.toList 0):=rfl
 obtain⟨ao,ap⟩:=XE s;generalize w8 s=R at*;generalize bK s=ae at*;obtain⟨ay,F⟩:=ae;dsimp only at*;have a:=a6 H;clear H;go_in;go_wp2_with fail;apply C.mono;rintro e aa⟨l,rfl,G,ac⟩;obtain⟨A,E⟩:=j0 (B l aa G) ac;clear G ac;go_wp2_with fail;refine l4 A λab ad=>?_;have g:=a6 (E.trans ad);clear ad E A B C;by_cases i:F=0;·have a:=a6 (a.trans (if_pos i));subst i;go_wp2;go_ret2;exact⟨by rw[a.O];rfl,g.O⟩
 replace a:=a6 (a.trans (if_neg i));have ax:(F==0)=Bf:=by simpa using i
 obtain⟨af,ah⟩:=j0 (PC s.data.toList) (OW s);have P:=Lib.size_eq s;have o:=a6 P;clear P;obtain⟨m,d⟩:∃m,m=gJ s.data.toList 0:=⟨_,rfl⟩;rw[<-d]at a;clear ao ap i;go_wp2;go_loopw [6,7] (λx z wr=>wr=ab/\∃k n:Nat,k<=s.size/\k<=4/\x=I M n/\z=I M k/\n<10^k/\m=gJ (s.data.toList.drop k) n) (λ_ z _=>s.size-(intOf z).toNat);exact⟨rfl,0,0,c6 _,c6 _,rfl,rfl,e6,d⟩;clear d;obtain⟨rfl,k,n,ba,am,rfl,rfl,u,d⟩:=hrel;have bc:n<10000:=Nat.lt_of_lt_of_le u (Nat.pow_le_pow_right e6 am);have k0:(0:Int)<=k:=a8;have ai:=a6 u;clear u;by_cases t:k<s.size
 ·obtain⟨c,j,au,av,k9,ag⟩:=LW t (a8:s.size<=100000000);have aw:(k:Int)<s.size:=a8;have f:=d.trans (af k (by rw[<-o.O];exact t) n);have al:=rF s k;have an:k<D s.data.toList:=by rw[<-o.O];exact t
  rw[jB s k an]at al j;generalize s.data.toList[k]=b at*;have ar:=a6 j.O;obtain rfl:(b.toNat:Int)=c:=j.O;clear d j;by_cases r:b.toNat<48\/57<b.toNat
  ·rw[if_pos (by simpa using r)]at f;have a:=a6 (show R=(0,160) by rw[a.O,f];rfl);rcases r with p|p
   ·have S:Dc ((b.toNat:Int)<48)=Bt:=by simp;omega
    clear f;go_wp2;go_ret2;exact⟨by rw[a.O];rfl,g.O⟩
   have S:Dc ((b.toNat:Int)<48)=Bf:=by simp;omega
   have w:Dc ((57:Int)<b.toNat)=Bt:=by simp;omega
   clear f;go_wp2;go_ret2;exact⟨by rw[a.O];rfl,g.O⟩
  rw[if_neg (by simpa using r)]at f;have S:Dc ((b.toNat:Int)<48)=Bf:=by simp;omega
  have w:Dc ((57:Int)<b.toNat)=Bf:=by simp;omega
  by_cases bb:3<k
  ·have a:=a6 (a.trans (ah a8 _));have T:Dc ((3:Int)<k)=Bt:=by simp;omega
   clear f;go_wp2;go_ret2;exact⟨by rw[a.O];rfl,g.O⟩
  have T:Dc ((3:Int)<k)=Bf:=by simp;omega
  have e:min (10*(n:Int)+((b.toNat:Int)-48)) 1048576=((10*n+(b.toNat-48):Nat):Int):=a8;rw[e]at f;have aa:IntKind.i64.wrap (10*(n:Int))=10*n:=h7 _ a8;have ab:IntKind.u8.wrap ((b.toNat:Int)-48)=(b.toNat:Int)-48:=by simp[IntKind.wrap,IntKind.signed,IntKind.bits];omega
  have be:IntKind.i64.wrap ((b.toNat:Int)-48)=(b.toNat:Int)-48:=h7 _ a8;have aq:IntKind.i64.wrap (10*(n:Int)+((b.toNat:Int)-48))=((10*n+(b.toNat-48):Nat):Int):=by rw[(a8:10*(n:Int)+((b.toNat:Int)-48)=((10*n+(b.toNat-48):Nat):Int))];exact h7 _ a8
  have ak:=a6 f;have Q:10*n+(b.toNat-48)<10^(k+1):=by have:=ai.O;rw[Nat.pow_succ];omega
  have aj:=a6 Q;clear f e Q;go_wp2;go_roundw;exact⟨by trivial,k+1,_,ag.O,a8,by first|rfl|exact congrArg _ aq,o3,aj.O,ak.O⟩;simp[intOf];omega
 obtain rfl:k=s.size:=a8;rw[List.drop_of_length_le (by rw[<-o.O];exact a7 _)]at d;have h:R=XK s (So n):=by rw[a.O,d];rfl
 have N:=o9 s;have L:XK s (So n)=if s.size<1||4<s.size||4095<(n:Int)then(0,160)else((n:Int),0):=rfl
 rw[L]at h;clear L d;by_cases v:s.size=0;·rw[decide_eq_true v]at N;have a:=a6 (h.trans (if_pos (by simp[v])));clear h;go_wp2;go_ret2;exact⟨by rw[a.O];rfl,g.O⟩
 rw[decide_eq_false v]at N;by_cases az:4095<n
 ·have a:=a6 (h.trans (if_pos (by simp only[Bool.or_eq_true,decide_eq_true_eq];omega)));have q:Dc ((4095:Int)<n)=Bt:=by simp;omega
  have w:(4095:Int)<n:=a8;clear h;go_wp2;go_ret2;exact⟨by rw[a.O];rfl,g.O⟩
 have a:=a6 (h.trans (if_neg (by simp only[Bool.or_eq_true,decide_eq_true_eq];omega)));have q:Dc ((4095:Int)<n)=Bf:=by simp;omega
 have w:¬(4095:Int)<n:=a8;have T:(n:Int) % 4294967296=n:=a8;clear h;go_wp2;go_ret2;exact⟨by rw[a.O];rfl,g.O⟩
theorem oB(n:Int)(a:0<=n)(b:n<=4095):bits .or V 327680 n=327680+n:=by have:=KS n 5 a8 a8;rw[AF,show(327680:Int)=5*65536 from rfl,this];omega
theorem JX:∀(l:List UInt8)(n r:Int),0<=n->gJ l n=So r->0<=r
 |[],n,r,h,e=>by cases e;exact h
 |c::l,n,r,h,e=>by unfold gJ at e;split at e;exact nomatch e;rename_i a;simp at a;exact JX l _ r a8 e
theorem dQ(s:g4):((w8 s).2=0\/(w8 s).2=160)/\0<=(w8 s).1/\(w8 s).1<=4095:=by
 have c:∀a∈E6,0<=a.2/\a.2<=4095:=yA;have d:0<=(p0 E6 s 160).1/\(p0 E6 s 160).1<=4095:=by unfold p0;split;rename_i b;exact c _ (List.mem_of_find?_eq_some b);decide
 unfold w8;split;exact⟨.inl rfl,d⟩;split;exact⟨.inr rfl,e6,e6⟩;rename_i n e;have:=JX _ _ _ (Int.le_refl 0) e;split;exact⟨.inr rfl,e6,e6⟩;rename_i b;simp at b;exact⟨.inl rfl,this,b.2⟩
theorem XP(s:g4)(k:Nat)(d:k<=s.size)(b:∀j,j<k->p5 s j≠58)(c:k=s.size\/p5 s k=58):H2 s 58=if k=s.size then(s,⟨#[]⟩,Bf)else(s.extract 0 k,s.extract (k+1) s.size,Bt):=by by_cases a:k=s.size;rw[if_pos a];subst a;exact xN s 58 b;rw[if_neg a];exact xO s 58 k a8 b (c.resolve_left a)
theorem LB(s:g4)(k:Nat)(a:k<=s.size):((s.extract 0 k).toList==[])=Dc (k=0):=by have:=o9 (s.extract 0 k);rw[ByteArray.size_extract,(a8:min k s.size-0=k)]at this;rw[<-this];cases(s.extract 0 k).toList<;>rfl
theorem a0r(s:g4)(k:Nat)(d:k<=s.size)(g:∀j,j<k->p5 s j≠58)(f:k=s.size\/p5 s k=58):r3 s=
 if k=0 then(vC,161)else if k=s.size then(⟨s.extract 0 k,0,Bf⟩,0)else
 if(s.extract (k+1) s.size).toList==[107,105,108,108]then(⟨s.extract 0 k,2147483648,Bt⟩,0)else
 if(w8 (s.extract (k+1) s.size)).2=0 then(⟨s.extract 0 k,327680+(w8 (s.extract (k+1) s.size)).1,Bt⟩,0)else(vC,160):=by
 have h:WA.toList=[107,105,108,108]:=g6;have c:=LB s k d;unfold r3;dsimp only;rw[XP s k d g f,h];by_cases b:k=s.size;have e:s.extract 0 k=s:=by rw[b];simp
 rw[e]at c⊢;rw[if_pos b,if_pos b];dsimp only;rw[c];by_cases a:k=0;rw[decide_eq_true a,if_pos rfl,if_pos a];rw[decide_eq_false a,if_neg e6,if_neg a,if_neg e6];rw[if_neg b,if_neg b];dsimp only;rw[c];by_cases a:k=0;rw[decide_eq_true a,if_pos rfl,if_pos a];rw[decide_eq_false a,if_neg e6,if_neg a,if_pos rfl];obtain⟨q,i,l⟩:=dQ (s.extract (k+1) s.size);rw[oB _ i l];split;rfl;rcases q with q|q
 rw[if_pos q,if_pos q];rw[if_neg a8,if_neg a8,q]
theorem a0u(s:g4)(bh:s.size<=1000000)(W:Wd):Ca prog 170 #[Y s] W λe ax=>e=X (Tp #[(r3 s).1.val,I M (r3 s).2])/\a9 W ax:=by
 have a:=a6 (a0r s);generalize r3 s=R at*;obtain⟨av,ai⟩:=j0 ((a9.refl W).alloc (U #[Y ⟨#[]⟩,I V 0,O Bf] 268)) (e7.new W 268 #[Y ⟨#[]⟩,I V 0,O Bf]);obtain⟨aw,C⟩:∃m:Int,m=s.size-1:=⟨_,rfl⟩;have w0:IntKind.i64.wrap ((s.size:Int)-1)=aw:=by rw[C];exact h7 _ a8
 go_in;go_upto_region 3 with fail;go_loopw [4,5] (λx N wr=>wr=W.alloc (U #[Y ⟨#[]⟩,I V 0,O Bf] 268)/\∃k m:Nat,k<=s.size/\m<=k/\x=I M k/\N=I M ((m:Int)-1)/\(∀j,m<=j->j<k->p5 s j≠58)/\(k=s.size\/p5 s k=58)) (λ_ N _=>(intOf N+1).toNat);exact⟨rfl,s.size,s.size,a7 _,a7 _,rfl,by first|rfl|rw[C],λj g w=>a8,.inl rfl⟩;clear w0 C;obtain⟨rfl,k,m,ad,E,rfl,rfl,ag,af⟩:=hrel;obtain⟨u,t⟩:=j0 ag af;clear ag af;rcases m with _|m
 ·have a:=a6 (a k ad (λj ar=>u j (c6 _) ar) t.O);clear u t E;have ay:¬(0:Int)<=((0:Nat):Int)-1:=e6;have az:Dc ((0:Int)<=((0:Nat):Int)-1)=Bf:=e6;go_upto_region 7 with fail;go_cut [6] (λx H=>x=K (W+1:Nat)/\e7 H (W.heap.size+1) 268 #[Y (s.extract 0 k),I V 0,O Bf]/\e7 H W 268 #[Y ⟨#[]⟩,I V 0,O Bf]/\a9 W H);·go_wp2;go_meet;exact⟨i3,e7.b i3,ai.alloc _,av.alloc _⟩
  obtain⟨rfl,i,B,v⟩:=hcut;obtain⟨an,ao,ap⟩:=i.c3;have aq:=i.frozen 1;have bf:=i.frozen 2;have A:W<=W.heap.size+1:=Nat.le_succ _;by_cases n:k=0;·subst n;have d:=a6 (a.trans (if_pos rfl));clear a;go_wp2_with(refine q6 (B) ?_;intro r b f);exact s0 rfl b underlying268 ⟨by rw[d.O];rfl,(v).grown f (λk e=>by cases e;exact a7 _)⟩
  have bd:((k:Int)==0)=Bf:=by simpa using n
  by_cases g:k=s.size;·have F:=(a.trans (if_neg n)).trans (if_pos g);subst g;rw[(i3:s.extract 0 s.size=s)]at F;have d:=a6 F;clear a F;go_wp2_with(refine q6 (B) ?_;intro r b f);exact s0 rfl b underlying268 ⟨by rw[d.O];rfl,(v).grown f (λk e=>by cases e;exact a7 _)⟩
  have be:((k:Int)==s.size)=Bf:=by simp;omega
  have a:=a6 ((a.trans (if_neg n)).trans (if_neg g));have k9:IntKind.i64.wrap ((k:Int)+1)=((k+1:Nat):Int):=h7 _ a8;have bg:k+1<=s.size:=a8;have h:=a6 (zN (s.extract (k+1) s.size) (by rw[ByteArray.size_extract];omega));obtain⟨p,au⟩:∃p,s.extract (k+1) s.size=p:=⟨_,rfl⟩;rw[au]at a h;obtain⟨aa,P,aj⟩:=r6 (v.set (p:=⟨W+1,2,J⟩) A (O Bt)) (B.far (p:=⟨W+1,2,J⟩) (Nat.ne_of_lt (Nat.lt_succ_self _)) (O Bt)) (i.f 2 (O Bt));rcases ae:p.toList==[107,105,108,108]with _|_
  ·have a:=a6 (a.trans (if_neg (by rw[ae];decide)));go_wp2_with fail;refine l4 (h _) λbj L=>?_;have Q:=P.h L;have S:=aj.h L;have ab:=aa.trans L;have b3:=(dQ p).2;generalize w8 p=ak at*;obtain⟨l,ac⟩:=ak;dsimp only at a b3;obtain⟨an,ao,ap⟩:=S.c3;have aq:=S.frozen 1;by_cases o:ac=0;·have d:=a6 (a.trans (if_pos o));subst o;have k8:(327680+l) % 4294967296=327680+l:=a8;clear a h;go_wp2_with(refine q6 (Q.far (p:=⟨W+1,1,J⟩) (Nat.ne_of_lt (Nat.lt_succ_self _)) (I V (327680+l))) ?_;intro r b f);exact s0 rfl b underlying268 ⟨by rw[d.O];rfl,(ab.set (p:=⟨W+1,1,J⟩) A (I V (327680+l))).grown f (λk e=>by cases e;exact a7 _)⟩
   have d:=a6 (a.trans (if_neg o));have q:(ac !=0)=Bt:=by simpa using o
   clear a h;go_wp2_with(refine q6 (Q) ?_;intro r b f);exact s0 rfl b underlying268 ⟨by rw[d.O];rfl,(ab).grown f (λk e=>by cases e;exact a7 _)⟩
  have d:=a6 (a.trans (if_pos ae));clear a h;go_wp2_with(refine q6 (P.far (p:=⟨W+1,1,J⟩) (Nat.ne_of_lt (Nat.lt_succ_self _)) (I V 2147483648)) ?_;intro r b f);exact s0 rfl b underlying268 ⟨by rw[d.O];rfl,(aa.set (p:=⟨W+1,1,J⟩) A (I V 2147483648)).grown f (λk e=>by cases e;exact a7 _)⟩
 obtain⟨c,T,ba,bc,k9,am⟩:=LW (a8:m<s.size) (a8:s.size<=100000000);obtain⟨z,G⟩:∃z:Int,((m+1:Nat):Int)-1=z:=⟨_,rfl⟩;obtain rfl:(m:Int)=z:=a8;have ay:(0:Int)<=m:=a8;have az:Dc ((0:Int)<=m)=Bt:=i3;have ah:IntKind.i64.wrap ((m:Int)-1)=(m:Int)-1:=h7 _ a8;rw[G];obtain⟨al,bb⟩:=j0 E G;clear E G;by_cases y:c=58;·subst y;go_wp2;go_roundw;exact⟨by trivial,m,m,by have:=am.O;omega,a7 _,rfl,by first|rfl|exact congrArg _ ah,λj g w=>a8,.inr T.O⟩;simp[intOf]
 have bi:(c==58)=Bf:=by simpa using y
 go_wp2;go_roundw;exact⟨by trivial,k,m,ad,by have:=al.O;omega,rfl,by first|rfl|exact congrArg _ ah,λj g w=>by
 by_cases e:j=m;rw[e,T.O];exact y;exact u j a8 w,t.O⟩
 simp[intOf]
section
open Go.Lib
theorem NX:y1.all (λg=>(iI 40 [g.1] []).all w7)=Bt:=yA
theorem xI{s n:g4}(a:n∈(D0 s).1):w7 n=Bt:=by
 unfold D0 at a;rcases b:p2 s with _|l<;>rw[b]at a
 cases a;dsimp only at a;split at a;cases a;rename_i d;have a:n∈iX (cT (M0 8 s)):=a;rw[<-(qO s l b d).1]at a;obtain⟨g,c,rfl⟩:=Option.map_eq_some_iff.1 (show(y1.find? λg=>g.1.toList==s.toList).map (·.2)=So l from b);have e:g.1=s:=toList_inj (eq_of_beq (show(g.1.toList==s.toList)=Bt from List.find?_some (p:=λg:g4×C2=>g.1.toList==s.toList) c));have k:=List.all_eq_true.1 NX g (List.mem_of_find?_eq_some c);rw[e]at k;exact List.all_eq_true.1 k n a
theorem pO{s n:g4}(a:n∈(J2 s).1):w7 n=Bt:=by unfold J2 at a;split at a;exact xI a;split at a;rename_i b;rw[List.mem_singleton.1 a];exact b;cases a
theorem PT{n:Int}(a:0<=n)(b:n<=4095):x2 (327680+n)=Bt:=by unfold x2;rw[decide_eq_true (a8:327680<=327680+n),decide_eq_true (a8:327680+n<=331775)];simp
theorem vZ{w:g4}(a:(r3 w).2=0):0<(r3 w).1.name.size/\x2 (r3 w).1.act=Bt/\((r3 w).1.has=Bf->(r3 w).1.act=0):=by
 have i:∀s:g4,s.toList≠[]->0<s.size:=λs a=>by rw[toList_data]at a;show 0<s.data.size;rw[<-Array.length_toList];exact List.length_pos_iff.2 a
 have b:=(dQ (H2 w 58).2.1).2;unfold r3 at a⊢;dsimp only at a⊢;split at a;exact absurd a e6;rename_i h;rw[if_neg h];have g:=i _ (by simpa using h);split at a;rename_i c;rw[if_pos c];split at a;rename_i d;rw[if_pos d];exact⟨g,(e6:x2 2147483648=Bt),λe=>nomatch e⟩;rename_i d;rw[if_neg d];split at a;rename_i f;rw[if_pos f];exact⟨g,by show x2 (bits .or V 327680 _)=Bt;rw[oB _ b.1 b.2];exact PT b.1 b.2,λe=>nomatch e⟩
 rename_i f;exact absurd a f;rename_i c;rw[if_neg c];exact⟨g,(e6:x2 0=Bt),λ_=>rfl⟩
end
def a5f:s7 (g4×Nat):=⟨2,λx=>[Y x.1,Z x.2 6 6],λ_=>rfl,nA⟩
def lH(n:Nat):List (g4×Nat):=(m9 40).map λi=>((H8.getD i a2c).1,n+i)
theorem TH(W:Wd):Ca prog 261 #[] W λe b=>∃a,e=X (Z (So ⟨a,0,J⟩) 40 40)/\i5 b (So ⟨a,0,J⟩) (a5f.row (lH W))/\a9 W b:=by go_in;go_upto_region 1 with fail;refine QO g6 ?_;rename_i d c;refine c _ _ ?_;refine wp_ret ?_;exact Bp (results_tmp rfl _ _ _) g6 ⟨W+40,congrArg X g6,i5.f (nD _ _ 40 (a5f.row (lH W)).toArray 362 g6) rfl,nC _ _⟩
theorem zO(s:g4)(W:Wd):Ca prog 172 #[Y s] W λe A=>e=X (O (w7 s))/\a9 W A:=by
 obtain⟨v,f⟩:=j0 (TH W) (show∀n,D (lH n)=40 from λn=>by simp[lH]);have g:=a6 (show∀n,w7 s=(lH n).any λa=>a.1.toList==s.toList from λn=>by
  have e:(lH n).map (·.1)=H8.map (·.1):=by unfold lH;rw[List.map_map];kernel_rfl
  have y:∀l:List G5,(l.find? λc=>c.1.toList==s.toList).isSome=(l.map (·.1)).any λa=>a.toList==s.toList:=λl=>by rw[Bool.eq_iff_iff,List.find?_isSome];simp
  have z:w7 s=(H8.find? λc=>c.1.toList==s.toList).isSome:=by unfold w7 X7;cases H8.find? λc=>c.1.toList==s.toList<;>rfl
  rw[z,y,<-e,List.any_map];rfl)
 generalize w7 s=R at*;go_in;go_wp2_with fail;apply v.mono;rintro e B⟨w,rfl,o,q⟩;obtain⟨g,f⟩:=j0 (g W) (f W);generalize lH W.heap.size=L at*;obtain⟨t,u⟩:=j0 o (show∀k(h:k<D L),(L.drop k).any (λa=>a.1.toList==s.toList)=(L[k].1.toList==s.toList||(L.drop (k+1)).any λa=>a.1.toList==s.toList)from λk h=>by rw[List.drop_eq_getElem_cons h];rfl);clear o;go_wp2;go_loopw [4] (λi wr=>∃k:Nat,k<=40/\i=I M k/\R=((L.drop k).any λa=>a.1.toList==s.toList)/\wr=B) (λi _=>40-(intOf i).toNat);exact⟨0,a8,rfl,g.O,rfl⟩;obtain⟨k,h,rfl,d,rfl⟩:=hrel;by_cases p:k<40
 ·have j:k<D L:=by rw[f.O];exact p
  have m:=t.elt0 j (r:=0) rfl;rw[u k j]at d;generalize L[k]=E at*;have k0:(0:Int)<=k:=a8;have k1:(k:Int)<40:=a8;have b:=a6 d;clear d j;obtain⟨a,C⟩:=E;change wr.cell? ⟨w,k*2+0,J⟩=So (Y a)at m;rw[j8]at m;dsimp only at b;rcases x:a.toList==s.toList with _|_
  all_goals
   rw[x]at b;go_wp2_with fail;first
    |(go_ret;exact⟨by rw[b.O];rfl,q⟩)
    |(go_roundw
      case rel=>exact⟨k+1,p,o3,b.O,by trivial⟩
      case measure=>simp[intOf];omega)
 obtain rfl:k=40:=a8;rw[List.drop_of_length_le (by rw[f.O];exact a7 _)]at d;have b:=a6 d;clear d;go_wp2;go_ret;exact⟨by rw[b.O];rfl,q⟩
def noA:g4×g4×Bool:=(⟨#[]⟩,⟨#[]⟩,Bf)
theorem HC(s:g4){c:g4×g4×Bool}{k:g4}(a:H2 s 61=c)(b:kD c.1.size c.1=k):x1 s=if c.2.2&& !Lib.hasPrefix s.data.toList [91]&& !k.toList.isEmpty&& !dZ k F2 then(k,H6 c.2.1,Bt)else noA:=by unfold x1;subst a b;rfl
theorem YK(s:g4)(h:∀j<s.size,p5 s j≠61):x1 s=noA:=by rw[HC s (xN s 61 h) rfl,if_neg i3]
theorem YJ(s:g4)(b:0<s.size)(a:p5 s 0=91):x1 s=noA:=by rw[HC s rfl rfl,if_neg];rw[(MH s 91 b).1,a];simp
theorem a4u(s:g4)(a b:Nat)(o:a<s.size)(k:∀j<a,p5 s j≠61)(l:p5 s a=61)(y:b<=a)(m:∀j,b<=j->j<a->blk (p5 s j)=Bt)(n:0<b->blk (p5 s (b-1))=Bf):
 ((b=0\/∃j,j<b/\blk (p5 s j)=Bt)->x1 s=noA)/\(p5 s 0≠91->0<b->(∀j<b,blk (p5 s j)=Bf)->x1 s=(s.extract 0 b,H6 (s.extract (a+1) s.size),Bt)):=by
 have z:=l6 s 0 a a8 a8;have e:∀j,j<a->p5 (s.extract 0 a) j=p5 s j:=λj p=>by rw[H3 _ _ _ _ a8 a8,Nat.zero_add]
 have r:kD (s.extract 0 a).size (s.extract 0 a)=s.extract 0 b:=by rw[tW s _ _ rfl,oK _ _ b rfl a8 (λj c f=>by rw[e j a8];exact m j c a8) (λq=>by rw[e _ a8];exact n q),ByteArray.extract_extract];congr 1;omega
 have g:∀j,j<b->p5 (s.extract 0 b) j=p5 s j:=λj p=>by rw[H3 _ _ _ _ a8 a8,Nat.zero_add]
 have v:=l6 s 0 b a8 a8;have i:=o9 (s.extract 0 b);rw[v]at i;rw[HC s (xO s 61 a o k l) r,i,(MH s 91 a8).1];refine⟨λq=>if_neg λd=> ?_,λc f w=>if_pos ?_⟩;simp only[j3,Bool.not_eq_true']at d;rcases q with q|⟨j,c,f⟩
 rw[q]at d;exact absurd d.1.2 e6;have:=(rK (s.extract 0 b)).2 ⟨j,a8,by rw[g j c];exact f⟩;rw[d.2]at this;cases this;have t:dZ (s.extract 0 b) F2=Bf:=by cases u:dZ (s.extract 0 b) F2;rfl;obtain⟨j,x,h⟩:=(rK _).1 u;rw[g j a8,w j a8]at h;cases h
 rw[t];have:¬p5 s 0=((91:UInt8).toNat:Int):=c;simp[this];omega
theorem rX(s:g4)(aq:s.size<=1000000)(W:Wd):Ca prog 58 #[Y s] W λe ak=>e=X (Tp #[Y (x1 s).1,Y (x1 s).2.1,O (x1 s).2.2])/\a9 W ak:=by
 obtain⟨F,H,p⟩:=r6 (YK s) (YJ s) (a4u s);generalize x1 s=R at*;go_in;go_upto_block 0 with fail;go_cut [5,6] (λx E L=>L=W/\(x=I M (-1)/\(∀j<s.size,p5 s j≠61)\/∃a:Nat,x=I M a/\a<s.size/\(∀j<a,p5 s j≠61)/\p5 s a=61))
 ·clear F H p;go_wp2;go_loopw [5,6] (λx E wr=>wr=W/\∃k:Nat,k<=s.size/\E=I M k/\(x=I M (-1)/\(∀j<k,p5 s j≠61)\/∃a:Nat,x=I M a/\a<s.size/\(∀j<a,p5 s j≠61)/\p5 s a=61)) (λ_ E _=>s.size-(intOf E).toNat);exact⟨rfl,0,c6 _,rfl,.inl ⟨rfl,λj z=>a8⟩⟩;obtain⟨rfl,k,ai,rfl,C⟩:=hrel;rcases C with⟨rfl,o⟩|⟨a,rfl,C⟩
  ·have g:=a6 o;clear o;by_cases t:k<s.size
   ·obtain⟨c,h,P,T,k9,f⟩:=LW t a8;clear t;cases q:c==61
    ·have n:c≠61:=by simpa using q
     have i:=a6 n;clear n;go_wp2;go_roundw;exact⟨by trivial,k+1,f.O,o3,.inl ⟨rfl,λj z=>by
     by_cases e:j=k;rw[e,h.O];exact i.O;exact g j a8⟩⟩
     have:=f.O;simp[intOf];omega
    have n:c=61:=by simpa using q
    have i:=a6 (h.trans n);clear n;go_wp2;go_roundw;exact⟨by trivial,k+1,f.O,o3,.inr ⟨k,rfl,f.O,g.O,i.O⟩⟩;have:=f.O;simp[intOf];omega
   obtain rfl:k=s.size:=a8;go_wp2;go_meet;exact⟨by trivial,.inl ⟨rfl,g.O⟩⟩
  have h:=a6 C;have ag:¬(a:Int)<0:=a8;have T:Dc ((a:Int)<0)=Bf:=i3;clear C;cases q:Dc (k<s.size);all_goals go_wp2;go_meet;exact⟨by trivial,.inr ⟨a,rfl,h.O⟩⟩
 obtain⟨rfl,⟨rfl,n⟩|⟨a,rfl,B,r,A⟩⟩:=hcut;·have l:=a6 (F n);clear n;go_wp2;go_ret3;exact⟨by rw[l.O];rfl,.refl _⟩
 obtain⟨ah,N,am⟩:=a0n (a8:0<s.size);have ao:Dc ((a:Int)<0)=Bf:=i3;have ag:¬(a:Int)<0:=a8;obtain⟨f,al⟩:=j0 B r;cases ae:ah==91;rotate_left
 ·have l:=a6 (H a8 (by rw[N.O];simpa using ae));clear B r;go_wp2;go_ret3;exact⟨by rw[l.O];rfl,.refl _⟩
 have p:=a6 (λb=>p a b B r A);clear r B H F;go_upto_block 2 with fail;go_cut [7] (λx L=>L=wc/\∃b:Nat,b<=a/\x=I M b/\(∀j,b<=j->j<a->blk (p5 s j)=Bt)/\(0<b->blk (p5 s (b-1))=Bf))
 ·clear p;go_wp2;go_loopw [7] (λx wr=>wr=wc/\∃b:Nat,b<=a/\x=I M b/\(∀j,b<=j->j<a->blk (p5 s j)=Bt)) (λx _=>(intOf x).toNat);exact⟨rfl,a,a7 _,rfl,λj r A=>a8⟩;obtain⟨rfl,b,o,rfl,m⟩:=hrel;have g:=a6 m;clear m;rcases b with _|b
  ·go_wp2;go_meet;exact⟨by trivial,0,o,rfl,g.O,λz=>a8⟩
  obtain⟨c,h,P,-,k9,-⟩:=LW (show b<s.size by have:=f.O;omega) a8;have T:Dc ((0:Int)<((b+1:Nat):Int))=Bt:=i3;have aw:IntKind.i64.wrap ((b:Int)+1-1)=b:=by rw[(a8:(b:Int)+1-1=b)];exact h7 _ a8
  have d:blk c=(c==32||c==9||c==13):=rfl;cases u:c==32<;>cases v:c==9<;>cases w:c==13;·rw[u,v,w]at d;have i:=a6 d;clear d;go_wp2;go_meet;exact⟨by trivial,b+1,o,rfl,g.O,λ_=>by rw[Nat.add_sub_cancel,h.O];exact i.O⟩
  all_goals
   rw[u,v,w]at d;have i:=a6 d;clear d;go_wp2;go_roundw;exact⟨by trivial,b,a8,by first|rfl|go_num,λj r A=>by
   by_cases e:j=b;rw[e,h.O];exact i.O;exact g j a8 A⟩
   simp[intOf]
 obtain⟨rfl,b,o,rfl,m,aa⟩:=hcut;obtain⟨ac,ad⟩:=p b o m aa;obtain⟨G,Q⟩:=j0 ac ad;clear m aa ac ad p;go_wp2;go_loopw [8] (λx wr=>wr=wc/\∃k:Nat,k<=b/\x=I M k/\(∀j<k,blk (p5 s j)=Bf)) (λx _=>b-(intOf x).toNat);exact⟨rfl,0,c6 _,rfl,λj z=>a8⟩;obtain⟨rfl,k,ai,rfl,m⟩:=hrel;have g:=a6 m;clear m;by_cases t:k<b
 ·obtain⟨c,h,P,-,k9,-⟩:=LW (show k<s.size by have:=f.O;omega) a8;have ap:(k:Int)<b:=a8;have k0:(0:Int)<=k:=a8;have d:blk c=(c==32||c==9||c==13):=rfl;cases u:c==32<;>cases v:c==9<;>cases w:c==13
  ·rw[u,v,w]at d;have i:=a6 d;clear d;go_wp2;go_roundw;exact⟨by trivial,k+1,t,o3,λj z=>by
   by_cases e:j=k;rw[e,h.O];exact i.O;exact g j a8⟩
   simp[intOf];omega
  all_goals rw[u,v,w]at d;have l:=a6 (G (.inr ⟨k,t,by rw[h.O];exact d⟩));clear d;go_wp2;go_ret3;exact⟨by rw[l.O];rfl,.refl _⟩
 obtain rfl:k=b:=a8;rcases k with _|k
 ·have l:=a6 (G (.inl rfl));go_wp2;go_ret3;exact⟨by rw[l.O];rfl,.refl _⟩
 have l:=a6 (Q (by rw[N.O];simpa using ae) a8 g.O);have af:=a6 (IH (s.extract (a+1) s.size) (by rw[l6 _ _ _ (by have:=f.O;omega) (a7 _)];omega));generalize H6 (s.extract (a+1) s.size)=an at*;have ar:((k+1:Nat):Int)<=s.size:=by have:=f.O;omega
 have au:((a+1:Nat):Int)<=s.size:=by have:=f.O;omega
 have av:(0:Int)<=((k+1:Nat):Int):=a8;have ax:IntKind.i64.wrap ((a:Int)+1)=((a+1:Nat):Int):=by rw[Int.natCast_add];exact h7 _ a8
 clear G Q;go_wp2_with fail;refine gP ?_;repeat(apply D7;focus (intro x S ab;simp only[g0,o7,uV];(repeat intro y;try simp only[y]);go_wp2_with(go_at_call 113;refine l4 (af S) λay aj=>?_);exact dn rfl rfl (by first|exact aj|exact a9.refl _)))
 intro x S ab;simp only[n9,g0,o7,uV];repeat(intro y;try simp only[y];clear y)
 go_wp2;go_ret3;exact⟨by rw[l.O];rfl,ab⟩
theorem a0m(t:g4)(a:(a2N t).2=Bt):Dc ((a2N t).1.size=0)=Bf:=by rw[<-o9];unfold a2N at a⊢;dsimp only at a⊢;generalize(mV (cH t pW).1 IA)=b at*;split at a;rename_i q;rw[if_pos q];simp only[j3,Bool.not_eq_true']at q;have:=q.1.2;dsimp only;cases c:b.1.toList;rw[c]at this;cases this;rfl;cases a
def X2(a:g4)(L:List (Nat×g4))(k:Nat):US:=(L.take k).foldl (a3H a) ⟨⟨#[]⟩,Bf,[],[]⟩
theorem FL(a:g4)(L:List (Nat×g4))(k:Nat)(b:k<D L):X2 a L (k+1)=a3H a (X2 a L k) L[k]:=by unfold X2;rw[g2 b,List.foldl_append];rfl
theorem a08{w:Wd}{d:p1}{l:List (Nat×g4)}(c:i5 w d (G1.row l)){k:Nat}(e:k<D l):∃b a,d=So ⟨b,a,J⟩/\w.cell? ⟨b,a+k*2,J⟩=So (I M l[k].1)/\w.cell? ⟨b,a+k*2+1,J⟩=So (Y l[k].2):=by obtain⟨b,a,rfl,-⟩:=c.rows e6 a8;exact⟨b,a,rfl,c.l e (r:=0) rfl,c.l e (r:=1) rfl⟩
theorem TD(p:s8)(xs:o5)(w:Wd)(cr:D xs=p.n)(au:p.n<=100000)(de:p.n<=p.c)(cm:sP xs)(co:i5 w p.A (l8 U8 xs)):
 Ca prog 34 #[p7 p] w λe bx=>∃bd bf,e=X (Tp #[bd,bf])/\c7 bx w 89 z8 bd (v6 p.name (Sn xs)).1/\c7 bx w 49 h9 bf (v6 p.name (Sn xs)).2/\a9 w bx:=by
 obtain⟨h,cj,bg,n,c⟩:=p;dsimp only at*;unfold p7;dsimp only;have B:=e7.new w 24 #[Y h,I M cj,Z bg n c];have cw:=(a9.refl w).alloc (U #[Y h,I M cj,Z bg n c] 24);have ch:=a6 (λg d=>TE bg n c xs g cr au de cm (co.h d));obtain⟨ea,cq⟩:=jN (Sn xs);obtain⟨R,ar⟩:∃R,R=v6 h (Sn xs):=⟨_,rfl⟩;rw[<-ar];unfold v6 at ar;dsimp only at ar;generalize y9 (Sn xs)=q at*;obtain⟨L,bl⟩:=q;dsimp only at*;obtain⟨i,cy⟩:=j0 ar cq;have da:=B.cell 2;obtain⟨ce,bj⟩:=j0 B cw;clear co cm ar cq B cw cr;go_in;go_wp2_with fail;apply(ch _ bj.O).mono;rintro e u⟨v,rfl,cs,cb⟩;obtain⟨dt,dw,rfl,-,-,cp⟩:=cs.inM;obtain⟨cz,ah⟩:=j0 cp (bj.trans cb);have bh:=ce.h cb;have dv:=a6 bh;have ay:=bh.cell 0;clear cs cb bj ce bh da cp ch;by_cases P:bl=0;rotate_left
 ·have dc:(bl !=0)=Bt:=by simpa using P
  have i:=a6 (i.trans (if_neg P));clear P;go_wp2_with fail;go_region
  all_goals go_wp2;go_ret2;exact⟨_,_,rfl,by rw[i.O];exact c7.nil _ _ _ _,by rw[i.O];exact c7.new (by have:=ah.size;simp;omega) rfl rfl (Nat.le_add_left 1 999999),(ah.drewN _).alloc _⟩
 have dc:(bl !=0)=Bf:=by simp[P]
 have i:=a6 (i.trans (if_pos P));subst P;go_wp2;go_loopw [6,7,8,9] (λbd bf s x wr=>∃k:Nat,k<=D L/\x=I M k/\s=Y (X2 h L k).sec/\(X2 h L k).inn= !Dc ((X2 h L k).sec.size=0)/\D (X2 h L k).all<=k/\D (X2 h L k).notes<=k/\c7 wr u 89 z8 bd (X2 h L k).all/\c7 wr u 49 h9 bf (X2 h L k).notes/\a9 u wr) (λ_ _ _ x _=>D L-(intOf x).toNat);exact⟨0,c6 _,rfl,rfl,rfl,a7 _,a7 _,c7.nil _ _ _ _,c7.nil _ _ _ _,.refl _⟩;obtain⟨k,dz,rfl,rfl,bb,bn,bp,S,F,T⟩:=hrel;obtain⟨ab,av,ai,rfl⟩:=S.f;obtain⟨ac,aa,aj,rfl⟩:=F.f;by_cases Q:k<D L
 ·have cn:=FL h L k Q;have f:=a6 cn;obtain⟨b,ed,rfl,ck,bm⟩:=a08 cz Q;have cc:=a6 ck;have z:=T.cell bm;have du:=a6 bm;have df:=cy _ (g3 Q);generalize L[k]=t at*;obtain⟨m,t⟩:=t;generalize X2 h L k=σ at*;obtain⟨sec,inn,all,notes⟩:=σ;dsimp only at*;obtain⟨bi,cd,cg,ad,af,N⟩:=dK (λW=>ER t a8 W) (λW=>rX t a8 W) (a0m t) S F T;have ax:=a6 bb;have ct:=o9 sec;unfold a3H at f;dsimp only at f;generalize a2N t=sc at*;obtain⟨dp,dk⟩:=sc;dsimp only at*;clear S F T bb df cn ck bm;cases dk;rotate_left
  ·replace f:=a6 (f.trans (if_pos rfl));have cx:=a6 (show Bt= !Dc (dp.size=0) by rw[cg rfl];rfl);go_wp2_with fail;refine l4 (bi _) λdr y=>?_;go_wp2;go_roundw;exact⟨k+1,Q,o3,by rw[f.O],by rw[f.O];exact cx.O,by rw[f.O];exact Nat.le_succ_of_le bn,by rw[f.O];exact Nat.le_succ_of_le bp,by rw[f.O];exact ad.h y,by rw[f.O];exact af.h y,N.trans y⟩;simp[intOf];omega
  replace f:=a6 (f.trans (if_neg e6));generalize x1 t=a at*;obtain⟨ky,be,is⟩:=a;dsimp only at*;go_wp2_with fail;refine l4 (bi _) λdr y=>?_;have C:=y.cell z;go_wp2_with fail;refine l4 (cd _) λbz aw=>?_;have dx:=aw.cell C;obtain⟨ci,ae,ag,cf⟩:=F6 (N.trans (y.trans aw)) (ad.h (y.trans aw)) (af.h (y.trans aw)) ay;clear bi cd ad af N cg z C y aw ay;by_cases bc:is=Bt/\inn=Bt
  ·replace f:=a6 (f.trans (if_pos bc));obtain⟨rfl,rfl⟩:=bc;have bq:Dc (sec.size=0)=Bf:=by have:=ax.O;revert this;cases Dc (sec.size=0)<;>simp
   rw[bq]at ct;have o:=a6 (λg(d:GA 89 z8 (Z ab av ai).ownBlock u (Z ab av ai) all [⟨h,m,sec,ky,be⟩] bz g)=>ci.grown d.g (λk e=>(ae.lt e).1));have bo:D all+1<=1000000:=a8;go_wp2_with fail;refine wpIn_wide.1 (cB (R:=(GA 89 z8 (Z ab av ai).ownBlock u (Z ab av ai) all [⟨h,m,sec,ky,be⟩])) (n:=1) ?_);repeat
    first
     |(apply D7;focus (intro x g d;simp only[g0,g5,uV];(repeat intro bk;try simp only[bk]);have ay:=(o g d).cell cf.O;gi_wp2_with fail;exact dn rfl rfl (L6.refl _)))
     |(refine r7 (.is (I M m)) ?_ ?_
       ·intro x g d
        simp only[g0,g5,uV,q8,q7]
        intro r
        simp only[r]
        have j:=(o g d).cell cc.O
        gi_wp2_with fail
        refine e8 ?_ rfl (L6.refl _)
        rfl)
     |(refine r7 ((q8 #[Y h,I M m,Y sec,Y ky,Y be])) ?_ ?_
       ·intro x g d
        simp only[g0,g5,uV,q8,q7]
        intro az
        simp only[az]
        gi_wp2_with fail
        refine e8 ?_ rfl (GA.f ((a9.refl g).alloc _))
        exact⟨g,rfl,e7.new _ _ _,λe=>by have:=((d.old ae.O).lt e).2;omega⟩)
     |(refine r7 ((q7 bz)) ?_ ?_
       ·intro x g d
        simp only[g0,g5,uV,q8,q7]
        rintro j⟨aq,C,cv,dj⟩
        simp only[j,C]
        gi_wp2_with(gi_at_builtin;refine a2F rfl _ _ 58 89 rfl a1W u (Z ab av ai) all rfl (d.old ae.O) aq 1 1 [⟨h,m,sec,ky,be⟩] rfl rfl (i5.f cv rfl) bo (o g d).size ?_;intro dq ds bs bt bu bv bw)
        refine e8 ?_ rfl (⟨bt,λ_=>bu,bv⟩)
        exact⟨bs,bw.imp id (λq b au=>by have:=q b au;have:=d.g.size;omega)⟩)
   intro x g d;simp only[n9,g0,g5,uV,q8,q7];rintro j z ak al am an r ao ap E A az⟨aq,C,cv,dj⟩⟨dh,ec⟩;simp only[j,z,ak,al,am,an,r,ao,ap,E,A,az,C];clear j z ak al am an r ao ap E A az C;gi_wp2;go_wp2;go_roundw;exact⟨k+1,Q,o3,by rw[f.O],by rw[f.O];exact ax.O,by rw[f.O,g1];exact Nat.succ_le_succ bn,by rw[f.O];exact Nat.le_succ_of_le bp,by rw[f.O];exact dh,by rw[f.O];exact ag.apart ae e6 d.g,o g d⟩;simp[intOf];omega
  replace f:=a6 (f.trans (if_neg bc));go_upto_region 14 with fail;go_cut [60] (λdm ca=>dm=O Bf/\ca=bz)
  ·cases is;·go_wp2;go_meet;exact⟨rfl,rfl⟩
   obtain rfl:inn=Bf:=by cases inn<;>simp at bc⊢
   have bq:Dc (sec.size=0)=Bt:=by have:=ax.O;revert this;cases Dc (sec.size=0)<;>simp
   rw[bq]at ct;go_wp2;go_meet;exact⟨rfl,rfl⟩
  obtain⟨rfl,rfl⟩:=hcut;obtain⟨G,l⟩:∃G,G=t.extract 0 (min t.size 60):=⟨_,rfl⟩;rw[<-l]at f;have H:=a6 l;clear l;go_upto_if 82 with fail;go_cut [15] (λdl ca=>dl=Y G/\ca=wc)
  ·by_cases ba:60<t.size;·have db:Dc (60<t.size)=Bt:=decide_eq_true ba;have dd:(60:Int)<t.size:=a8;have dy:(60:Int)<=t.size:=a8;have l:=H.O;rw[(a8:min t.size 60=60)]at l;have H:=a6 l;clear l ba;go_wp2;go_meet;exact⟨by rw[H.O],rfl⟩
   have db:Dc (60<t.size)=Bf:=decide_eq_false ba;have dd:¬(60:Int)<t.size:=a8;have l:=H.O;rw[(a8:min t.size 60=t.size),ByteArray.extract_zero_size]at l;have H:=a6 l;clear l ba;go_wp2;go_meet;exact⟨by rw[H.O],rfl⟩
  obtain⟨rfl,rfl⟩:=hcut;have o:=a6 (λg(d:GA 49 h9 (Z ac aa aj).ownBlock u (Z ac aa aj) notes [⟨h,m,130,G⟩] wc g)=>ci.grown d.g (λk e=>(ag.lt e).1));have bo:D notes+1<=1000000:=a8;go_wp2_with fail;refine wpIn_wide.1 (cB (R:=(GA 49 h9 (Z ac aa aj).ownBlock u (Z ac aa aj) notes [⟨h,m,130,G⟩])) (n:=1) ?_);repeat
   first
    |(apply D7;focus (intro x g d;simp only[g0,g5,uV];(repeat intro bk;try simp only[bk]);have ay:=(o g d).cell cf.O;gi_wp2_with fail;exact dn rfl rfl (L6.refl _)))
    |(refine r7 (.is (I M m)) ?_ ?_
      ·intro x g d
       simp only[g0,g5,uV,q8,q7]
       intro r
       simp only[r]
       have j:=(o g d).cell cc.O
       gi_wp2_with fail
       refine e8 ?_ rfl (L6.refl _)
       rfl)
    |(refine r7 ((q8 #[Y h,I M m,I M 130,Y G])) ?_ ?_
      ·intro x g d
       simp only[g0,g5,uV,q8,q7]
       intro E
       simp only[E]
       gi_wp2_with fail
       refine e8 ?_ rfl (GA.f ((a9.refl g).alloc _))
       exact⟨g,rfl,e7.new _ _ _,λe=>by have:=((d.old ag.O).lt e).2;omega⟩)
    |(refine r7 ((q7 wc)) ?_ ?_
      ·intro x g d
       simp only[g0,g5,uV,q8,q7]
       rintro j⟨aq,A,cu,di⟩
       simp only[j,A]
       gi_wp2_with(gi_at_builtin;refine a2F rfl _ _ 38 49 rfl P0 u (Z ac aa aj) notes rfl (d.old ag.O) aq 1 1 [⟨h,m,130,G⟩] rfl rfl (i5.f cu rfl) bo (o g d).size ?_;intro dq ds bs bt bu bv bw)
       refine e8 ?_ rfl (⟨bt,λ_=>bu,bv⟩)
       exact⟨bs,bw.imp id (λq b au=>by have:=q b au;have:=d.g.size;omega)⟩)
  intro x g d;simp only[n9,g0,g5,uV,q8,q7];rintro j z ak al am an r ao ap E⟨aq,A,cu,di⟩⟨dg,eb⟩;simp only[j,z,ak,al,am,an,r,ao,ap,E,A];clear j z ak al am an r ao ap E A;gi_wp2;go_wp2;go_roundw;exact⟨k+1,Q,o3,by rw[f.O],by rw[f.O];exact ax.O,by rw[f.O];exact Nat.le_succ_of_le bn,by rw[f.O,g1];exact Nat.succ_le_succ bp,by rw[f.O];exact ae.apart ag e6 d.g,by rw[f.O];exact dg,o g d⟩;simp[intOf];omega
 obtain rfl:k=D L:=a8;have e:X2 h L (D L)=L.foldl (a3H h) ⟨⟨#[]⟩,Bf,[],[]⟩:=by unfold X2;rw[List.take_length]
 rw[<-e]at i;clear e;generalize X2 h L (D L)=σ at*;obtain⟨af,ad,N⟩:=r6 F S (ah.trans T);obtain rfl:aa=D σ.notes:=by obtain⟨_,_,e,_⟩:=F;cases e;rfl
 by_cases br:0<D σ.notes;·have i:=a6 (i.trans (if_pos br));clear S F T bb;go_wp2;go_ret2;exact⟨_,_,rfl,by rw[i.O];exact c7.nil _ _ _ _,by rw[i.O];exact af.mono ah.size,N.O⟩
 have i:=a6 (i.trans (if_neg br));clear S F T bb;have br:¬(0:Int)<D σ.notes:=a8;go_wp2;go_ret2;exact⟨_,_,rfl,by rw[i.O];exact ad.mono ah.size,by rw[i.O];exact c7.nil _ _ _ _,N.O⟩
end Go.Proofs.YtcljlejgllkcjaaGreat
