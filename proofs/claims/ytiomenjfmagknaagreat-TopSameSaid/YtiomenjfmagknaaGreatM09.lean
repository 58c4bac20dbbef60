/- A part of the proof of TopSame: lemmas on the walks of its calls. -/
import Derived.Shelf.Spec.SlicesInsert
import Derived.Test.YtiomenjfmagknaaGreatM08
set_option maxHeartbeats 12000000
set_option linter.all false
set_option maxRecDepth 100000
namespace Go.Proofs.YtiomenjfmagknaaGreat
open Go.RowKit Go.ChangeShapes Go.WideShapes Tryz
open Bool renaming false_eq_true→a4x,true→Bt,false→Bf
open Decidable renaming decide→Dc
open Ending renaming returned→X
open Go renaming World→Wd,Value→Va,Calls→Ca,callsIn_wide→Cw,undef→Un,TypeId→Ti,Addr→Ad,Program→Pg,results_none→Rz,callsIn_of_wp_marks→Cm,CallsIn→Ci
open Go.Proofs renaming enters_of→Eo
open Int renaming toNat_natCast→a4A
open IntKind renaming i64→M,u32→V,u16→U1,u8→U8
open Lib renaming hid→a6
open List renaming getD_eq_getElem?_getD→a8,getElem?_eq_getElem→e9,length_append→a2e,replicate→a2A,range→q5,getElem_mem→a30,length_map→a32,append_assoc→a4s
open Nat renaming le_refl→a7,le_trans→c8,reduceAdd→l9,zero_le→i5,reduceSub→a4D
open Obj renaming cells→U
open Option renaming none→J,some→So
open Value renaming int→I,slice→Z,pointer→K,bool→O,func→Fc,agg→Ag
def o0(a:List Int)(lo:Nat):Nat→Int
 |0=>0
 |k+1=>o0 a lo k+a.getD (lo+k) 0
def iC(ps:List Sy)(a:List Int)(i:Nat):Int:=
 if l0 (ps.getD i c6).code&&(Dc (255<o0 a (i+1) ((ps.getD i c6).th.toNat-(i+1)))||decide (255<o0 a (i+1) ((ps.getD i c6).el.toNat-(i+1))))then 3 else 1
def C2(ps:List Sy)(a:List Int)(i:Nat):List Int:=a.set i (iC ps a i)
def P3(ps:List Sy)(a:List Nat):List Int:=a.foldl (C2 ps) (a2A ps.length 0)
theorem eJ(ps:List Sy)(a:List Nat)(i:Nat):P3 ps (a++[i])=C2 ps (P3 ps a) i:=by simp[P3,List.foldl_append]
theorem sY(ps:List Sy):∀(b:List Nat)(a:List Int),(∀x∈a,0≤x∧x≤3)→(∀x∈b.foldl (C2 ps) a,0≤x∧x≤3)∧(b.foldl (C2 ps) a).length=a.length
 |[],a,h=>⟨h,rfl⟩
 |i::b,a,h=>by
  have d:∀x∈C2 ps a i,0≤x∧x≤3:=fun x c=>by
   unfold C2 at c;rcases List.mem_or_eq_of_mem_set c with q|q
   ·exact h x q
   ·rw[q]
    unfold iC;split<;>omega
  obtain⟨e,f⟩:=sY ps b _ d;exact⟨e,by rw[List.foldl_cons,f];simp[C2]⟩
theorem JE(ps:List Sy)(a:List Nat):(∀x∈P3 ps a,0≤x∧x≤3)∧(P3 ps a).length=ps.length:=by
 obtain⟨b,c⟩:=sY ps a (a2A ps.length 0) (fun x d=>by have:=List.eq_of_mem_replicate d;omega);exact⟨b,by rw[P3,c,List.length_replicate]⟩
theorem U3(a:List Int)(i:Nat)(v:Int)(lo:Nat)(b:i<lo):∀k,o0 (a.set i v) lo k=o0 a lo k
 |0=>rfl
 |k+1=>by
  unfold o0;rw[U3 a i v lo b k,a8,List.getElem?_set_ne (by omega),←a8]
theorem SO(ps:List Sy)(a:List Int)(j:Nat)(v:Int)(i:Nat)(b:j≤i):iC ps (a.set j v) i=iC ps a i:=by
 unfold iC;simp only[U3 a j v (i+1) (by omega)]
theorem zF(ps:List Sy):∀k,k≤ps.length→∀i,ps.length-k≤i→i<ps.length→(P3 ps ((q5 ps.length).reverse.take k)).getD i 0=iC ps (P3 ps ((q5 ps.length).reverse.take k)) i
 |0,_,i,h1,h2=>by omega
 |k+1,hk,i,h1,h2=>by
  have ih:=zF ps k (by omega);have b:=(JE ps ((q5 ps.length).reverse.take k)).2;have a:=L5 ps.length (ps.length-(k+1)) (by omega);rw[show ps.length-(ps.length-(k+1))=k+1 by omega,show ps.length-(ps.length-(k+1)+1)=k by omega]at a;rw[a,eJ];unfold C2;rw[SO _ _ _ _ _ (by omega)];by_cases e:ps.length-(k+1)=i
  ·rw[←e,a8,List.getElem?_set_self (by rw[b];omega)]
   rfl
  ·rw[a8,List.getElem?_set_ne e,←a8,ih i (by omega) h2]
theorem SN(ps:List Sy)(i:Nat)(h:i<ps.length):(P3 ps (q5 ps.length).reverse).getD i 0=iC ps (P3 ps (q5 ps.length).reverse) i:=by
 have:=zF ps ps.length (a7 _) i (by omega) h;rw[List.take_of_length_le (by simp)]at this;exact this
theorem gZ(c:List Int)(lo a:Nat):∀b,o0 c lo (a+b)=o0 c lo a+o0 c (lo+a) b
 |0=>by simp[o0]
 |b+1=>by
  show o0 c lo (a+b)+c.getD (lo+(a+b)) 0=o0 c lo a+(o0 c (lo+a) b+c.getD (lo+a+b) 0);rw[gZ c lo a b,Nat.add_assoc lo a b,Int.add_assoc]
theorem qV(a:List Int)(lo k:Nat):o0 a lo (k+1)=a.getD lo 0+o0 a (lo+1) k:=by
 rw[Nat.add_comm k 1,gZ];simp[o0]
structure QT(n k:Nat)(st:RF)(sz:List Int):Prop where
 hb:(st.bk.length:Int)=o0 sz (n-k) k
 hp:∀t,n-k≤t→t<n→st.pl.getD t 0=o0 sz t (n-t)
 l1:st.pl.length=n
 l2:sz.length=n
theorem aB{n k:Nat}{a:RF}{b:List Int}(c:QT n k a b)(i:Nat)(hi:i+1=n-k)(f:k<n)(t:Nat)(e:i<t)(d:t<n):O5 a.bk.length a.pl t=o0 b (i+1) (t-(i+1)):=by
 unfold O5;rw[a4A,c.hb,c.hp t (by omega) d,←hi];have:=gZ b (i+1) (t-(i+1)) (n-t);rw[show t-(i+1)+(n-t)=k by omega,show i+1+(t-(i+1))=t by omega]at this;omega
theorem yY{n k:Nat}{a:RF}{b:List Int}(f:QT n k a b)(ps:List Sy)(i:Nat)(hi:i+1=n-k)(g:k<n)(m:H5 (ps.getD i c6) i n):
  ((V6 a.bk.length a.pl (ps.getD i c6)).1.length:Int)=iC ps b i∧(V6 a.bk.length a.pl (ps.getD i c6)).2=if iC ps b i=3 then 1 else 0:=by
 unfold iC V6;generalize ps.getD i c6=s at*;rcases m with⟨q,_,_,_⟩|⟨q,_,_⟩|⟨q,_,_⟩|⟨q,_,_,_⟩|⟨q,r,v⟩
 ·rw[q];exact⟨rfl,rfl⟩
 ·rw[q];exact⟨rfl,rfl⟩
 ·rw[q];exact⟨rfl,rfl⟩
 ·rw[q];exact⟨rfl,rfl⟩
 ·obtain⟨t,o⟩:∃t:Nat,s.th=t:=⟨s.th.toNat,by omega⟩
  obtain⟨u,p⟩:∃u:Nat,s.el=u:=⟨s.el.toNat,by omega⟩;have l:l0 s.code=Bt:=by rcases q with q|q|q|q<;>rw[q]<;>rfl
  have j:s.code≠5:=by omega
  rw[o,p,aB f i hi g t (by omega) (by omega),aB f i hi g u (by omega) (by omega),a4A,a4A,l,if_neg j,if_neg (by decide),Bool.true_and];generalize o0 b (i+1) (t-(i+1))=c;generalize o0 b (i+1) (u-(i+1))=d;by_cases h:max c d≤255
  ·have e:(Dc (255<c)||decide (255<d))=Bf:=by simp;omega
   rw[if_pos h,e];exact⟨rfl,rfl⟩
  ·have e:(Dc (255<c)||decide (255<d))=Bt:=by simp;omega
   rw[if_neg h,e];exact⟨rfl,rfl⟩
theorem LX{n k:Nat}{c:RF}{b:List Int}(a:QT n k c b)(ps:List Sy)(i:Nat)(hi:i+1=n-k)(j:k<n)(g:H5 (ps.getD i c6) i n):QT n (k+1) (fP ps c i) (C2 ps b i):=by
 have o:=(yY a ps i hi j g).1;unfold fP C2;generalize V6 c.bk.length c.pl (ps.getD i c6)=l at*;generalize iC ps b i=z at*;have h:(b.set i z).getD i 0=z:=by rw[a8,List.getElem?_set_self (by rw[a.l2];omega)];rfl
 have d:(((c.bk++l.1.reverse).length:Nat):Int)=o0 (b.set i z) i (k+1):=by
  rw[qV,h,U3 b i z (i+1) (by omega),a2e,List.length_reverse,hi,←a.hb];omega
 refine⟨?_,fun t m f=> ?_,?_,by rw[List.length_set];exact a.l2⟩
 ·dsimp only
  rw[show n-(k+1)=i by omega];exact d
 ·dsimp only
  by_cases e:i=t
  ·subst e
   rw[a8,List.getElem?_set_self (by rw[a.l1];omega),show n-i=k+1 by omega,←d];rfl
  ·rw[a8,List.getElem?_set_ne e,←a8,a.hp t (by omega) f,U3 b i z t (by omega)]
 ·dsimp only
  rw[List.length_set];exact a.l1
theorem eH(ps:List Sy)(a:m9 ps):∀k,k≤ps.length→QT ps.length k (eS ps ((q5 ps.length).reverse.take k)) (P3 ps ((q5 ps.length).reverse.take k))
 |0,_=>⟨by simp[eS,o0],fun t c d=>by omega,by simp[eS],by simp[P3]⟩
 |k+1,hk=>by
  have ih:=eH ps a k (by omega);have b:=L5 ps.length (ps.length-(k+1)) (by omega);rw[show ps.length-(ps.length-(k+1))=k+1 by omega,show ps.length-(ps.length-(k+1)+1)=k by omega]at b;rw[b,iW,eJ];exact LX ih ps _ (by omega) (by omega) (a0P (a.one _ (by omega)))
def XE(a:List Int):List Int:=a.map fun x=>if x=3 then 1 else 0
theorem a1E(a:List Int)(i:Nat)(z:Int):XE (a.set i z)=(XE a).set i (if z=3 then 1 else 0):=by simp[XE,List.map_set]
theorem yZ(ps:List Sy)(a:m9 ps):∀k,k≤ps.length→(eS ps ((q5 ps.length).reverse.take k)).far=o0 (XE (P3 ps ((q5 ps.length).reverse.take k))) (ps.length-k) k
 |0,_=>by simp[eS,o0]
 |k+1,hk=>by
  have ih:=yZ ps a k (by omega);have b:=eH ps a k (by omega);have c:=L5 ps.length (ps.length-(k+1)) (by omega);rw[show ps.length-(ps.length-(k+1))=k+1 by omega,show ps.length-(ps.length-(k+1)+1)=k by omega]at c;rw[c,iW,eJ];have d:=(yY b ps (ps.length-(k+1)) (by omega) (by omega) (a0P (a.one _ (by omega)))).2;unfold fP C2;dsimp only;rw[d,ih,a1E,qV,U3 _ _ _ _ (by omega),a8,List.getElem?_set_self (by unfold XE;rw[a32,b.l2];omega),show ps.length-(k+1)+1=ps.length-k by omega];simp only[Option.getD_some];omega
theorem XS(ps:List Sy)(b:m9 ps):(H4 ps).far=o0 (XE (P3 ps (q5 ps.length).reverse)) 0 ps.length:=by
 have a:=yZ ps b ps.length (a7 _);rw[List.take_of_length_le (by simp),Nat.sub_self]at a;exact a
def l7(ps:List Sy)(a:List Int)(i:Nat):List i2:=
 if(ps.getD i c6).code=5 then [⟨5,0,0,o0 a (i+1) ((ps.getD i c6).th.toNat-(i+1))⟩]
 else if l0 (ps.getD i c6).code=Bf then [⟨(ps.getD i c6).code,0,0,(ps.getD i c6).k⟩]
 else if a.getD i 0=1 then [⟨(ps.getD i c6).code,o0 a (i+1) ((ps.getD i c6).th.toNat-(i+1)),o0 a (i+1) ((ps.getD i c6).el.toNat-(i+1)),(ps.getD i c6).k⟩]
 else [⟨(ps.getD i c6).code,0,1,(ps.getD i c6).k⟩,⟨5,0,0,o0 a (i+1) ((ps.getD i c6).th.toNat-(i+1))+1⟩,⟨5,0,0,o0 a (i+1) ((ps.getD i c6).el.toNat-(i+1))⟩]
theorem XA(ps:List Sy)(a:List Int)(j i:Nat)(v:Int)(b:j<i):l7 ps (a.set j v) i=l7 ps a i:=by
 unfold l7;simp only[U3 a j v (i+1) (by omega)];have e:(a.set j v).getD i 0=a.getD i 0:=by rw[a8,List.getElem?_set_ne (by omega),←a8]
 rw[e]
theorem SH{n k:Nat}{h:RF}{a:List Int}(b:QT n k h a)(ps:List Sy)(i:Nat)(hi:i+1=n-k)(f:k<n)(o:H5 (ps.getD i c6) i n):(V6 h.bk.length h.pl (ps.getD i c6)).1=l7 ps (C2 ps a i) i:=by
 have r:(C2 ps a i).getD i 0=iC ps a i:=by
  unfold C2;rw[a8,List.getElem?_set_self (by rw[b.l2];omega)];rfl
 have p:∀q,o0 (C2 ps a i) (i+1) q=o0 a (i+1) q:=fun q=>U3 a i _ (i+1) (by omega) q
 unfold l7 V6;rw[r];simp only[p];unfold iC;generalize ps.getD i c6=s at*;rcases o with⟨q,_,_,_⟩|⟨q,_,_⟩|⟨q,_,_⟩|⟨q,_,_,w⟩|⟨q,w,y⟩
 ·rw[q];rfl
 ·rw[q];rfl
 ·rw[q];rfl
 ·obtain⟨t,g⟩:∃t:Nat,s.th=t:=⟨s.th.toNat,by omega⟩
  rw[g,aB b i hi f t (by omega) (by omega),a4A,if_pos q,if_pos q]
 ·obtain⟨t,g⟩:∃t:Nat,s.th=t:=⟨s.th.toNat,by omega⟩
  obtain⟨u,v⟩:∃u:Nat,s.el=u:=⟨s.el.toNat,by omega⟩;have m:l0 s.code=Bt:=by rcases q with q|q|q|q<;>rw[q]<;>rfl
  have j:s.code≠5:=by omega
  rw[g,v,aB b i hi f t (by omega) (by omega),aB b i hi f u (by omega) (by omega),a4A,a4A,m,if_neg j,if_neg j,Bool.true_and];have x:¬(Bt=Bf):=by decide
  simp only[if_neg x];generalize o0 a (i+1) (t-(i+1))=c;generalize o0 a (i+1) (u-(i+1))=d;by_cases l:max c d≤255
  ·have e:(Dc (255<c)||decide (255<d))=Bf:=by simp;omega
   rw[if_pos l,e];rfl
  ·have e:(Dc (255<c)||decide (255<d))=Bt:=by simp;omega
   rw[if_neg l,e];rfl
def n9(ps:List Sy)(a:List Int)(lo:Nat):Nat→List i2
 |0=>[]
 |k+1=>l7 ps a lo++n9 ps a (lo+1) k
theorem tY(ps:List Sy)(a:List Int)(j:Nat)(v:Int):∀(k lo:Nat),j<lo→n9 ps (a.set j v) lo k=n9 ps a lo k
 |0,_,_=>rfl
 |k+1,lo,h=>by
  unfold n9;rw[XA ps a j lo v h,tY ps a j v k (lo+1) (by omega)]
theorem sW(ps:List Sy)(a:m9 ps):∀k,k≤ps.length→(eS ps ((q5 ps.length).reverse.take k)).bk.reverse=n9 ps (P3 ps ((q5 ps.length).reverse.take k)) (ps.length-k) k
 |0,_=>by simp[eS,n9]
 |k+1,hk=>by
  have ih:=sW ps a k (by omega);have c:=eH ps a k (by omega);have b:=L5 ps.length (ps.length-(k+1)) (by omega);rw[show ps.length-(ps.length-(k+1))=k+1 by omega,show ps.length-(ps.length-(k+1)+1)=k by omega]at b;rw[b,iW,eJ];have d:=SH c ps (ps.length-(k+1)) (by omega) (by omega) (a0P (a.one _ (by omega)));unfold fP;dsimp only;rw[List.reverse_append,List.reverse_reverse,ih,d];show _=l7 ps (C2 ps (P3 ps (List.take k (q5 ps.length).reverse)) (ps.length-(k+1))) (ps.length-(k+1))++n9 ps (C2 ps (P3 ps (List.take k (q5 ps.length).reverse)) (ps.length-(k+1))) (ps.length-(k+1)+1) k;rw[show ps.length-(k+1)+1=ps.length-k by omega];congr 1;unfold C2;rw[tY ps _ _ _ k _ (by omega)]
theorem NF(ps:List Sy)(b:m9 ps):(H4 ps).bk.reverse=n9 ps (P3 ps (q5 ps.length).reverse) 0 ps.length:=by
 have a:=sW ps b ps.length (a7 _);rw[List.take_of_length_le (by simp),Nat.sub_self]at a;exact a
theorem VX(ps:List Sy)(b:m9 ps):((H4 ps).bk.length:Int)=o0 (P3 ps (q5 ps.length).reverse) 0 ps.length:=by
 have a:=(eH ps b ps.length (a7 _)).hb;rw[List.take_of_length_le (by simp),Nat.sub_self]at a;exact a
theorem bU(ps:List Sy)(a:List Int):∀(k lo:Nat),n9 ps a lo (k+1)=n9 ps a lo k++l7 ps a (lo+k)
 |0,lo=>by simp[n9]
 |k+1,lo=>by
  have ih:=bU ps a k (lo+1);show l7 ps a lo++n9 ps a (lo+1) (k+1)=l7 ps a lo++n9 ps a (lo+1) k++l7 ps a (lo+(k+1));rw[ih,a4s,show lo+1+k=lo+(k+1) by omega]
def a3G(D:Nat):Deferred:= {target:= .collected D,args:= #[]}
def Q2(a:List Nat)(W:Wd):Prop:=a.Nodup∧∀b∈a,W.heap[b]? =So (.deferred (So []))
def P5(b:List Nat)(W:Wd):Wd:=b.foldl (fun W a=>W.putObj a (.deferred J)) W
theorem iY{f:Fence}{n:Nat}{P:Pg}{b:Func}{tmps:Array Va}{R:Ending→Wd→Prop}:∀(a:List Nat)(W:Wd),Q2 a W→(∃v,(results b tmps).run P (P5 a W)= .ok v (P5 a W)∧R (X v) (P5 a W))→
  LeavesInM f n P b tmps R (a.map a3G) .returning W
 |[],W,_,h=>h
 |D::a,W,hm,h=>by
  obtain⟨e,c⟩:=hm;have g:=c D (by simp);refine⟨by simp,.inl ⟨D,_,rfl,run_takeDeferred g,?_⟩⟩;refine iY a _ ⟨(List.nodup_cons.1 e).2,fun E d=> ?_⟩ h;refine(World.putObj_heap_other ?_).trans (c E (by simp[d]));rintro rfl;exact(List.nodup_cons.1 e).1 d
theorem fK:∀(a:List Nat)(W:Wd)(b:Nat),b∉a→(P5 a W).heap[b]? =W.heap[b]?
 |[],W,b,_=>rfl
 |D::a,W,b,h=>by
  have c:b≠D:=fun e=>h (by simp[e])
  have:=fK a (W.putObj D (.deferred J)) b (fun k=>h (by simp[k]));exact this.trans (World.putObj_heap_other c)
theorem iI:∀(a:List Nat)(W:Wd),(P5 a W).heap.size=W.heap.size
 |[],W=>rfl
 |D::a,W=>by
  have:=iI a (W.putObj D (.deferred J));exact this.trans (by simp[World.putObj])
theorem P4:∀(a:List Nat)(W:Wd),(P5 a W).os=W.os∧(P5 a W).tape=W.tape∧(P5 a W).output=W.output
 |[],W=>⟨rfl,rfl,rfl⟩
 |D::a,W=>by
  have:=P4 a (W.putObj D (.deferred J));exact this
structure VK(OV:Wd→Nat→Prop)(W W':Wd):Prop where
 os:W'.os=W.os
 tape:W'.tape=W.tape
 output:W'.output=W.output
 size:W≤W'.heap.size
 keep:∀b,b<W.heap.size→¬OV W b→W'.heap[b]? =W.heap[b]?∧¬OV W' b
theorem VK.trans{c:Wd→Nat→Prop}{d B C:Wd}(a:VK c d B)(k:VK c B C):VK c d C:=
 ⟨k.os.trans a.os,k.tape.trans a.tape,k.output.trans a.output,c8 a.size k.size,fun b e h=>by
  obtain⟨f,g⟩:=a.keep b e h;obtain⟨k1,k2⟩:=k.keep b (Nat.lt_of_lt_of_le e a.size) g;exact⟨k1.trans f,k2⟩⟩
structure nG(OV:Wd→Nat→Prop)(B:Nat)(W W':Wd):Prop where
 os:W'.os=W.os
 tape:W'.tape=W.tape
 output:W'.output=W.output
 size:W≤W'.heap.size
 keep:∀b,b<W.heap.size→b<B∨OV W b→W'.heap[b]? =W.heap[b]?
theorem nG.f{c:Wd→Nat→Prop}{B:Nat}{W W':Wd}(a:a9 W W'):nG c B W W':=⟨a.os,a.tape,a.output,a.size,fun b d _=>a.block d⟩
theorem nG.of_grown{d:Wd→Nat→Prop}{B:Nat}{W W':Wd}{row:Option Nat}(a:W.grownBy W' row)(h:∀r,row=So r→B≤r∧¬d W r):nG d B W W':=
 ⟨a.os,a.tape,a.output,a.size,fun b g c=>a.block b g (fun e=>by
  obtain⟨i,f⟩:=h b e.symm;rcases c with c|c
  ·omega
  ·exact f c)⟩
structure yF{α:Type}(OV:Wd→Nat→Prop)(VI:α→Wd→Prop)(B:Nat):Prop where
 cells:∀s W b,VI s W→OV W b→∃cs t z,W.heap[b]? =So (U cs t z)
 stay:∀s W W',VI s W→nG OV B W W'→VI s W'∧∀b,OV W' b↔OV W b
theorem yF.lt{d:Type}{a:Wd→Nat→Prop}{c:d→Wd→Prop}{B:Nat}(e:yF a c B){s:d}{W:Wd}{b:Nat}(h:c s W)(g:a W b):b<W.heap.size:=by
 obtain⟨cs,t,z,f⟩:=e.cells s W b h g;exact(Array.getElem?_eq_some_iff.1 f).1
theorem yF.off{d:Type}{a:Wd→Nat→Prop}{c:d→Wd→Prop}{B:Nat}(e:yF a c B){s:d}{W W':Wd}(f:c s W)(g:nG a B W W'):c s W'∧∀b,a W' b↔a W b:=
 e.stay s W W' f g
theorem yF.vk{g:Type}{c:Wd→Nat→Prop}{f:g→Wd→Prop}{w:Wd}(h:yF c f w){s:g}{W W':Wd}(j:f s W)(a:nG c w W W')(k:VK c w W):VK c w W':=
 ⟨a.os.trans k.os,a.tape.trans k.tape,a.output.trans k.output,c8 k.size a.size,fun b d i=>by
  obtain⟨k1,k2⟩:=k.keep b d i;exact⟨(a.keep b (Nat.lt_of_lt_of_le d k.size) (.inl d)).trans k1,fun e=>k2 (((h.off j a).2 b).1 e)⟩⟩
theorem nG.blk{a:Wd→Nat→Prop}{B:Nat}{W W':Wd}(d:nG a B W W'){g:Nat}{t:Ti}{cs:Array Va}(b:b9 W g t cs)(c:g<B∨a W g):b9 W' g t cs:=(d.keep g b.lt c).trans b
theorem nG.inM{g:Wd→Nat→Prop}{B:Nat}{W W':Wd}(k:nG g B W W'){c:Option Ad}{xs:List Va}(h:h9 W c xs)(i:0<xs.length→∀a,c=So a→a.block<B):h9 W' c xs:=fun j u f=>by
 obtain⟨b,l,e,d⟩:=h j u f;have m:=(List.getElem?_eq_some_iff.1 f).1;have:=k.keep b (block_lt_of_cell d) (.inl (i (by omega) _ e));refine⟨b,l,e,?_⟩;simp only[World.cell?,this]at d⊢;exact d
theorem VK.f{c:Wd→Nat→Prop}{W W':Wd}(a:a9 W W')(g:∀b,c W' b↔c W b):VK c W W':=⟨a.os,a.tape,a.output,a.size,fun b d f=>⟨a.block d,fun e=>f ((g b).1 e)⟩⟩
theorem VK.blk{a:Wd→Nat→Prop}{W W':Wd}{g:Nat}{t:Ti}{cs:Array Va}(k:VK a W W')(b:b9 W g t cs)(e:¬a W g):b9 W' g t cs∧¬a W' g:=by
 obtain⟨c,d⟩:=k.keep g b.lt e;exact⟨c.trans b,d⟩
theorem VK.inM{e:Wd→Nat→Prop}{W W':Wd}{c:Option Ad}{xs:List Va}(k:VK e W W')(h:h9 W c xs)(i:0<xs.length→∀a,c=So a→¬e W a.block):h9 W' c xs:=fun j u g=>by
 obtain⟨b,l,f,d⟩:=h j u g;have m:=(List.getElem?_eq_some_iff.1 g).1;have:=(k.keep b (block_lt_of_cell d) (i (by omega) _ f)).1;refine⟨b,l,f,?_⟩;simp only[World.cell?,this]at d⊢;exact d
section
theorem oE(i:i2)(hi:i.ok)(a:Int)(d:0≤a):∀x∈fV i a,a<x:=by
 have e:=hi.2.1.1;have c:=hi.2.2.1.1;have k0:=hi.2.2.2.1;intro x b;unfold fV at b;split at b
 ·cases b
 split at b
 ·split at b
  ·simp at b;omega
  ·split at b
   ·simp at b;omega
   ·simp at b;omega
 ·simp at b;omega
theorem Y7{p:Int→Bool}:∀(b:List Int)(x:Int),x∈b.takeWhile p→x∈b∧p x=Bt
 |[],_,a=>by simp at a
 |y::b,x,a=>by
  simp only[List.takeWhile_cons]at a;split at a
  ·rename_i c
   rcases List.mem_cons.1 a with rfl|a
   ·exact⟨by simp,c⟩
   ·have:=Y7 b x a
    exact⟨by simp[this.1],this.2⟩
  ·cases a
theorem AU(ps:List i2)(f:∀i∈ps,i.ok)(a:Int):∀x∈lY ps a,a<x∧0≤x∧x<ps.length:=fun x b=>by
 unfold lY at b;split at b
 ·cases b
 ·rename_i g
  have c:a.toNat<ps.length:=by omega
  rw[a8,e9 c]at b;obtain⟨d,e⟩:=Y7 _ _ b;have:=oE _ (f _ (a30 c)) a (by omega) x d;simp at e;omega
def Y9(l:List Bool)(a:List Int):List Bool:=a.foldl (fun l n=>l.set n.toNat Bt) l
def JK(ps:List i2)(l:List Bool)(i:Nat):List Bool:=if l.getD i Bf then Y9 l (lY ps i)else l
def T0(n:Nat):List Bool:=(a2A n Bf).set 0 Bt
def dB(ps:List i2)(k:Nat):List Bool:=(q5 k).foldl (JK ps) (T0 ps.length)
def pJ(ps:List i2):List Bool:=if 4096<ps.length then []else dB ps ps.length
theorem pA(ps:List i2)(k:Nat):dB ps (k+1)=JK ps (dB ps k) k:=by simp[dB,List.range_succ,List.foldl_append]
def p4(i:i2):Int:=if j7 i.code==2&&Dc (i.k<16)then 2^i.k.toNat else 0
def HC(i:i2):Int:=if(i.code==96||i.code==97)&&Dc (i.k<16)then 2^i.k.toNat else 0
theorem a0g(i:i2)(hi:i.ok)(w:Wd):
  Ca prog 281 #[i.val] w fun e s=>e=X (I U1 (p4 i))∧a9 w s:=by
 have c:=a6 (fun W=>y7 i.code W);obtain⟨co,g,f,k⟩:=i;have h:p4 ⟨co,g,f,k⟩=p4 ⟨co,g,f,k⟩:=rfl
 conv at h=>rhs;unfold p4 j7;dsimp only
 simp only[i2.val,i2.cells]at c⊢;generalize(Y3 co).1.cls=q at*;have k0:0≤k:=hi.2.2.2.1;rw[h];have B:=b9.new w 116 #[I U1 co,I U8 g,I U8 f,I V k];have j:=B.cell 0;have b:=(a9.refl w).alloc (U #[I U1 co,I U8 g,I U8 f,I V k] 116);clear h hi;by_cases m:q=2
 ·subst m
  by_cases d:k<16
  ·have l:Dc ((16:Int)≤k)=Bf:=by simp;omega
   simp only[beq_self_eq_true,d,decide_true,Bool.and_self,if_true];have p:k=0∨k=1∨k=2∨k=3∨k=4∨k=5∨k=6∨k=7∨k=8∨k=9∨k=10∨k=11∨k=12∨k=13∨k=14∨k=15:=by omega
   clear d k0 l;rcases p with rfl|rfl|rfl|rfl|rfl|rfl|rfl|rfl|rfl|rfl|rfl|rfl|rfl|rfl|rfl|rfl
   all_goals
    go_in;go_wp2_with fail
    apply(c _).mono;rintro e o⟨rfl,a⟩;have r:=(B.h a).cell 3;replace b:=b.trans a;clear B j a c;go_wp2;go_ret;exact⟨rfl,b⟩
  ·have l:(16:Int)≤k:=by omega
   simp only[d,decide_false,Bool.and_false,a4x,if_false];clear d;go_in;go_wp2_with fail
   apply(c _).mono;rintro e o⟨rfl,a⟩;have r:=(B.h a).cell 3;replace b:=b.trans a;clear B j a c;go_wp2;go_ret;exact⟨rfl,b⟩
 ·have n:(q==2)=Bf:=by simpa using m
  simp only[n,Bool.false_and,a4x,if_false];have t:(q !=2)=Bt:=by simp[bne,n]
  go_in;go_wp2_with fail
  apply(c _).mono;rintro e o⟨rfl,a⟩;replace b:=b.trans a;clear B j a c;go_wp2;go_ret;exact⟨rfl,b⟩
theorem a3p(i:i2)(hi:i.ok)(w:Wd):
  Ca prog 208 #[i.val] w fun e l=>e=X (I U1 (HC i))∧a9 w l:=by
 obtain⟨co,d,c,k⟩:=i;have g:HC ⟨co,d,c,k⟩=HC ⟨co,d,c,k⟩:=rfl
 conv at g=>rhs;unfold HC;dsimp only
 simp only[i2.val,i2.cells];have k0:0≤k:=hi.2.2.2.1;rw[g];have B:=b9.new w 116 #[I U1 co,I U8 d,I U8 c,I V k];obtain⟨p,q⟩:=B.d2 0 3;have h:=(a9.refl w).alloc (U #[I U1 co,I U8 d,I U8 c,I V k] 116);clear g hi B;by_cases f:co=96∨co=97
 ·have a:(co==96||co==97)=Bt:=by simpa using f
  rw[a];clear a;by_cases b:k<16
  ·simp only[b,decide_true,Bool.and_self,if_true]
   have j:k=0∨k=1∨k=2∨k=3∨k=4∨k=5∨k=6∨k=7∨k=8∨k=9∨k=10∨k=11∨k=12∨k=13∨k=14∨k=15:=by omega
   clear b k0;rcases f with rfl|rfl
   all_goals rcases j with rfl|rfl|rfl|rfl|rfl|rfl|rfl|rfl|rfl|rfl|rfl|rfl|rfl|rfl|rfl|rfl
   all_goals
    go_in;go_wp2;go_ret;exact⟨rfl,h⟩
  ·have o:(16:Int)≤k:=by omega
   simp only[b,decide_false,Bool.and_false,a4x,if_false];clear b;rcases f with rfl|rfl
   all_goals
    go_in;go_wp2;go_ret;exact⟨rfl,h⟩
 ·have m:(co !=96)=Bt:=by simp;omega
  have n:(co !=97)=Bt:=by simp;omega
  have a:(co==96||co==97)=Bf:=by simp;omega
  rw[a];simp only[Bool.false_and,a4x,if_false];go_in;go_wp2;go_ret;exact⟨rfl,h⟩
def aN(l:List Int):Array Va:=(l.map (I U1)).toArray
theorem pZ(l:List Int)(k:Nat)(a:k<l.length):(aN l)[k]? =So (I U1 l[k]):=by simp[aN,a]
theorem kQ(l:List Int)(k:Nat)(b:Int):(aN l).setIfInBounds k (I U1 b)=aN (l.set k b):=by simp[aN,List.map_set]
theorem a2B(c d b a n len:Nat)(m:Int)(S:List Int)(R:List Bool)(w:Wd)(x:S.length=len)(u:R.length=len)(y:n<len)(z:b≠a)(q:c≠a∧c≠b)(t:d≠a∧d≠b)
  (j:b9 w c 397 #[Z b len len]) (k:b9 w d 396 #[Z a len len])
  (f:b9 w b 4 (C7 R)) (g:b9 w a 114 (aN S)):
  Ca prog 279 #[I M n,I U1 m,K c,K d] w fun e l=>(∃v,e=X v)∧
   l=((if R.getD n Bf then w else w.setCell ⟨a,n,J⟩ (I U1 65535)).setCell ⟨b,n,J⟩ (O Bt)).setCell ⟨a,n,J⟩ (I U1 (bits .and U1 (if R.getD n Bf then S.getD n 0 else 65535) m)):=by
 have A:(0:Int)≤n:=by omega
 have B:(n:Int)<len:=by omega
 have C:=j.cell 0;have D:=k.cell 0;have E:=(f.cell n).trans (I8 R n (by omega));have F:=(g.cell n).trans (pZ S n (by omega));have h:R.getD n Bf=R[n]'(by omega):=by rw[a8,e9 (by omega)];rfl
 have i:S.getD n 0=S[n]'(by omega):=by rw[a8,e9 (by omega)];rfl
 rw[h,i];have o:=f.frozen n;have p:=g.frozen n;clear h i;generalize R[n]'(by omega)=r at*;generalize S[n]'(by omega)=s at*;cases r with
 |true=>
  simp only[if_true];go_in;go_wp2
  go_end0
  exact⟨⟨_,rfl⟩,rfl⟩
 |false=>
  simp only[a4x,if_false];go_in;go_wp2
  go_end0
  exact⟨⟨_,rfl⟩,rfl⟩
def jJ(S:List Int)(R:List Bool)(n:Nat)(m:Int):List Int:=S.set n (bits .and U1 (if R.getD n Bf then S.getD n 0 else 65535) m)
theorem HP{a c n len:Nat}{m:Int}{S:List Int}{R:List Bool}{w g:Wd}(f:a≠c)
  (j:b9 w a 4 (C7 R)) (k:b9 w c 114 (aN S))
  (e:g=((if R.getD n Bf then w else w.setCell ⟨c,n,J⟩ (I U1 65535)).setCell ⟨a,n,J⟩ (O Bt)).setCell ⟨c,n,J⟩ (I U1 (bits .and U1 (if R.getD n Bf then S.getD n 0 else 65535) m))):
  b9 g a 4 (C7 (R.set n Bt))∧b9 g c 114 (aN (jJ S R n m))∧g=w.heap.size∧∀b cs t,b9 w b t cs→b≠a→b≠c→b9 g b t cs:=by
 unfold jJ;cases l:R.getD n Bf with
 |true=>
  rw[l]at e;simp only[if_true]at e⊢;subst e;refine⟨?_,?_,by simp,fun b cs t d i h=>(d.far i _).far h _⟩
  ·rw[←L4];exact(j.f n _).far f _
  ·rw[←kQ];exact(k.far (Ne.symm f) _).f n _
 |false=>
  rw[l]at e;simp only[a4x,if_false]at e⊢;subst e;refine⟨?_,?_,by simp,fun b cs t d i h=>((d.far h _).far i _).far h _⟩
  ·rw[←L4];exact((j.far f _).f n _).far f _
  ·have d:=((k.f n (I U1 65535)).far (p:=⟨a,n,J⟩) (Ne.symm f) (O Bt)).f n (I U1 (bits .and U1 65535 m))
   rw[kQ,kQ,List.set_set]at d;exact d
attribute [local go_sem] Oper.semAt_some
def D6(m:Int)(s:List Int×List Bool)(n:Int):List Int×List Bool:=(jJ s.1 s.2 n.toNat m,s.2.set n.toNat Bt)
def lM(ps:List i2)(s:List Int×List Bool)(k:Nat):List Int×List Bool:=
 if s.2.getD k Bf then(lY ps k).foldl (D6 (bits .or U1 (s.1.getD k 0) (p4 (ps.getD k j5)))) s else s
def y1(ps:List i2)(k:Nat):List Int×List Bool:=(q5 k).foldl (lM ps) (a2A ps.length 0,T0 ps.length)
theorem aU(ps:List i2)(k:Nat):y1 ps (k+1)=lM ps (y1 ps k) k:=by simp[y1,List.range_succ,List.foldl_append]
def y5(ps:List i2)(k:Nat):List (Nat×Int):=(q5 k).filterMap fun j=>if(y1 ps j).2.getD j Bf then So (j,(y1 ps j).1.getD j 0)else J
theorem cS(ps:List i2)(k:Nat):y5 ps (k+1)=y5 ps k++(if(y1 ps k).2.getD k Bf then [(k,(y1 ps k).1.getD k 0)]else []):=by
 unfold y5;rw[List.range_succ,List.filterMap_append];congr 1;rw[List.filterMap_cons,List.filterMap_nil];split
 ·rename_i a
  split at a
  ·cases a
  ·rename_i b
   rw[if_neg b]
 ·rename_i a
  split at a
  ·rename_i b
   cases a;rw[if_pos b]
  ·cases a
theorem I7(m:Int):∀(a:List Int)(s:List Int×List Bool),(a.foldl (D6 m) s).1.length=s.1.length∧(a.foldl (D6 m) s).2.length=s.2.length
 |[],s=>⟨rfl,rfl⟩
 |n::a,s=>by
  have:=I7 m a (D6 m s n);simp only[List.foldl_cons];rw[this.1,this.2];simp[D6,jJ]
theorem LL(ps:List i2)(s:List Int×List Bool)(k:Nat):(lM ps s k).1.length=s.1.length∧(lM ps s k).2.length=s.2.length:=by
 unfold lM;split
 ·exact I7 _ _ _
 ·exact⟨rfl,rfl⟩
theorem Z8(ps:List i2):∀k,(y1 ps k).1.length=ps.length∧(y1 ps k).2.length=ps.length
 |0=>by simp[y1,T0]
 |k+1=>by rw[aU];have:=LL ps (y1 ps k) k;have h:=Z8 ps k;exact⟨this.1.trans h.1,this.2.trans h.2⟩
theorem OD(n:Nat):madeCells #[I U1 0] n=aN (a2A n 0):=by
 apply Array.toList_inj.1;rw[toList_madeCells_one];simp[aN]
theorem OY:(prog.info? 114).map (fun i=>(i.zero,i.size,i.bytes))=So (So (I U1 0),1,2):=by kernel_rfl
structure WB(OV:Wd→Nat→Prop)(n gS gR bS bR bc:Nat)(s:List Int×List Bool)(W:Wd):Prop where
 b1:b9 W bR 397 #[Z gR n n]
 b2:b9 W bS 396 #[Z gS n n]
 b3:b9 W gR 4 (C7 s.2)
 b4:b9 W gS 114 (aN s.1)
 b5:b9 W bc 328 #[Fc (.func 279) #[] #[K bR,K bS]]
 n1:¬OV W bR
 n2:¬OV W bS
 n3:¬OV W gR
 n4:¬OV W gS
 n5:¬OV W bc
theorem WB.h{d:Wd→Nat→Prop}{n j i g f h:Nat}{s:List Int×List Bool}{W W':Wd}(a:WB d n j i g f h s W)(e:a9 W W')(c:∀b,d W' b↔d W b):WB d n j i g f h s W':=
 ⟨a.b1.h e,a.b2.h e,a.b3.h e,a.b4.h e,a.b5.h e,fun k=>a.n1 ((c _).1 k),fun k=>a.n2 ((c _).1 k),fun k=>a.n3 ((c _).1 k),fun k=>a.n4 ((c _).1 k),fun k=>a.n5 ((c _).1 k)⟩
theorem WB.vk{b:Wd→Nat→Prop}{n g f d c e:Nat}{s:List Int×List Bool}{W W':Wd}(a:WB b n g f d c e s W)(k:VK b W W'):WB b n g f d c e s W':=
 ⟨(k.blk a.b1 a.n1).1,(k.blk a.b2 a.n2).1,(k.blk a.b3 a.n3).1,(k.blk a.b4 a.n4).1,(k.blk a.b5 a.n5).1,(k.blk a.b1 a.n1).2,(k.blk a.b2 a.n2).2,(k.blk a.b3 a.n3).2,(k.blk a.b4 a.n4).2,(k.blk a.b5 a.n5).2⟩
theorem WB.l{f:Wd→Nat→Prop}{n l j h g i:Nat}{s:List Int×List Bool}{W W':Wd}{row:Option Nat}(a:WB f n l j h g i s W)(d:W.grownBy W' row)(e:∀r,row=So r→∃c:Obj,W.heap[r]? =So c∧c.isCells=Bf)(c:∀b,f W' b↔f W b):WB f n l j h g i s W':=
 ⟨e8 a.b1 d e,e8 a.b2 d e,e8 a.b3 d e,e8 a.b4 d e,e8 a.b5 d e,fun k=>a.n1 ((c _).1 k),fun k=>a.n2 ((c _).1 k),fun k=>a.n3 ((c _).1 k),fun k=>a.n4 ((c _).1 k),fun k=>a.n5 ((c _).1 k)⟩
structure yH(gS gR:Nat)(W W':Wd):Prop where
 os:W'.os=W.os
 tape:W'.tape=W.tape
 output:W'.output=W.output
 size:W'=W.heap.size
 keep:∀b,b≠gR→b≠gS→W'.heap[b]? =W.heap[b]?
theorem LB{a c n:Nat}{b:Bool}{x:Int}{w j:Wd}
  (e:j=((if b then w else w.setCell ⟨a,n,J⟩ (I U1 65535)).setCell ⟨c,n,J⟩ (O Bt)).setCell ⟨a,n,J⟩ (I U1 x)):yH a c w j:=by
 subst e;have key:∀(W:Wd)(g:Nat)(u:Va),(g=c∨g=a)→yH a c W (W.setCell ⟨g,n,J⟩ u):=fun W g u l=>
  ⟨rfl,rfl,rfl,by simp,fun b f h=>Below.heap_setCell W ⟨g,n,J⟩ u b (by rcases l with rfl|rfl<;>assumption)⟩
 have tr:∀{i B C:Wd},yH a c i B→yH a c B C→yH a c i C:=fun d k=>⟨k.os.trans d.os,k.tape.trans d.tape,k.output.trans d.output,k.size.trans d.size,fun b f h=>(k.keep b f h).trans (d.keep b f h)⟩
 cases b with
 |true=>exact tr (key _ _ _ (.inl rfl)) (key _ _ _ (.inr rfl))
 |false=>exact tr (tr (key _ _ _ (.inr rfl)) (key _ _ _ (.inl rfl))) (key _ _ _ (.inr rfl))
theorem yH.off{d:Wd→Nat→Prop}{g f B:Nat}{W W':Wd}(c:yH g f W W')(j:B≤g∧B≤f)(h:¬d W f)(i:¬d W g):nG d B W W':=
 ⟨c.os,c.tape,c.output,by rw[c.size];exact a7 _,fun b k a=>c.keep b (fun e=>by subst e;rcases a with a|a;omega;exact h a) (fun e=>by subst e;rcases a with a|a;omega;exact i a)⟩
theorem yH.blk{c a:Nat}{W W':Wd}(d:yH c a W W'){b:Nat}{t:Ti}{cs:Array Va}(g:b9 W b t cs)(e:b≠a)(f:b≠c):b9 W' b t cs:=(d.keep b e f).trans g
theorem WB.come{g:Wd→Nat→Prop}{n c d i h j:Nat}{s:List Int×List Bool}{W W':Wd}(a:WB g n c d i h j s W)(u:d≠c)(o:h≠c∧h≠d)(p:i≠c∧i≠d)(q:j≠c∧j≠d)(z:Nat)(m:Int)
  (e:W'=((if s.2.getD z Bf then W else W.setCell ⟨c,z,J⟩ (I U1 65535)).setCell ⟨d,z,J⟩ (O Bt)).setCell ⟨c,z,J⟩ (I U1 (bits .and U1 (if s.2.getD z Bf then s.1.getD z 0 else 65535) m)))
  (f:∀b,g W' b↔g W b):WB g n c d i h j (D6 m s z) W':=by
 obtain⟨r,t,_,l⟩:=HP (len:=0) u a.b3 a.b4 e;refine⟨l _ _ _ a.b1 o.2 o.1,l _ _ _ a.b2 p.2 p.1,?_,?_,l _ _ _ a.b5 q.2 q.1,fun k=>a.n1 ((f _).1 k),fun k=>a.n2 ((f _).1 k),fun k=>a.n3 ((f _).1 k),fun k=>a.n4 ((f _).1 k),fun k=>a.n5 ((f _).1 k)⟩
 ·simpa[D6]using r
 ·simpa[D6]using t
structure WL(OV:Wd→Nat→Prop)(VI:List (Nat×Int)→Wd→Prop)(w:Wd)(n gS gR bS bR bc g7 g8 k:Nat)(P:i2)(Ds:List Nat)(vs:List (Nat×Int))(m:Int)(s:List Int×List Bool)(pre:List Int)(W:Wd):Prop where
 far:∀y∈pre,(k:Int)<y
 vi:VI vs W
 vk:VK OV w W
 wb:WB OV n gS gR bS bR bc (pre.foldl (D6 m) s) W
 b7:b9 W g7 3 #[I M k]
 b8:b9 W g8 116 P.cells
 marks:Q2 Ds W
theorem a4v(f:Wd→Nat→Prop)(o:List (Nat×Int)→Wd→Prop)(w:Wd)(g:yF f o w)(n F E y x A C D k:Nat)(P:i2)(l:List Nat)(R:List (Nat×Int))(m:Int)(s:List Int×List Bool)(B:Nat)(H:w≤B)(L:∀b∈l,b<B):
  OwnFrom B (WL f o w n F E y x A C D k P l R m s):=fun S W W' row a c i=>by
 have d:∀r,row=So r→∃j:Obj,W.heap[r]? =So j∧j.isCells=Bf:=fun r e=>(i r e).2
 have v:nG f w W W':=nG.of_grown c (fun r e=>⟨c8 H (i r e).1,fun h=>by
  obtain⟨cs,t,z,N⟩:=g.cells _ _ _ a.vi h;obtain⟨j,p,G⟩:=d r e;rw[N]at p;cases p;cases G⟩)
 obtain⟨Q,h⟩:=g.off a.vi v;refine⟨a.far,Q,g.vk a.vi v a.vk,a.wb.l c d h,e8 a.b7 c d,e8 a.b8 c d,a.marks.1,fun b u=> ?_⟩;have q:=a.marks.2 b u;exact(c.block b (Array.getElem?_eq_some_iff.1 q).1 (fun e=>by have:=(i b e.symm).1;have:=L b u;omega)).trans q
theorem fR(m:Int)(k:Nat):∀(a:List Int)(s:List Int×List Bool),(∀b∈a,(k:Int)<b)→(a.foldl (D6 m) s).1.getD k 0=s.1.getD k 0
 |[],s,_=>rfl
 |b::a,s,h=>by
  rw[List.foldl_cons,fR m k a _ (fun z d=>h z (by simp[d]))];have e:=h b (by simp);have c:b.toNat≠k:=by omega
  simp[D6,jJ,a8,List.getElem?_set,c]
theorem EX(n:Nat):D6 0 (a2A n 0,a2A n Bf) 0=(a2A n 0,T0 n):=by
 have h:((a2A n Bf).getD 0 Bf)=Bf:=by cases n<;>rfl
 unfold D6 jJ T0;simp only[Int.toNat_zero,h,a4x,if_false];rw[show bits .and U1 65535 0=0 by decide,List.set_replicate_self]
end
section
attribute [local go_sem] Oper.semAt_some
theorem a4O(ac:Option Ad)(n c:Nat)(ps:List i2)(it:ps.length=n)(lw:n≤4096)(fc:∀i∈ps,i.ok)
  (an:Nat) (lb:Array Va) (ev:∀args w,(callFunc an args).run prog w= .ok (.enter an args) w) (A:Wd→Nat→Prop) (ae:List (Nat×Int)→Wd→Prop) (w:Wd) (y:yF A ae w)
  (en:∀k W,k<n→(y1 ps k).2.getD k Bf=Bt→ae (y5 ps k) W→Ca prog an (#[I M k,I U1 ((y1 ps k).1.getD k 0)]++lb) W fun e W'=>(∃v,e=X v)∧ae (y5 ps k++[(k,(y1 ps k).1.getD k 0)]) W'∧VK A W W')
  (hv:h9 w ac (pc ps)) (hq:0<n→∀a,ac=So a→¬A w a.block) (ax:ae [] w):
  Ci .wide 3 prog 206 #[Z ac n c,Fc (.func an) #[] lb] w fun e av=>(∃v,e=X v)∧ae (y5 ps n) av∧VK A w av:=by
 have bf:¬(4096:Int)<n:=by omega
 have aw:=a6 it;have ki:∀w:Wd,(Instr.makeSlice 397 (I M (n:Int)) (I M (n:Int))).run prog w= .ok (Z w n n) (w.alloc (U (C7 (a2A n Bf)) 4)):=fun w=>by
  rw[←uW];exact G9 397 4 (O Bf) 1 underlying397 tQ rfl M M n n (a7 _) (by omega) (by decide) w
 have kj:∀w:Wd,(Instr.makeSlice 396 (I M (n:Int)) (I M (n:Int))).run prog w= .ok (Z w n n) (w.alloc (U (aN (a2A n 0)) 114)):=fun w=>by
  rw[←OD];exact G9 396 114 (I U1 0) 2 underlying396 OY rfl M M n n (a7 _) (by omega) (by decide) w
 clear it;refine Cm func206 rfl trivial ?_ rfl;simp only[ntmps206,uE,l9,a4D];gi_wp2_with fail
 refine wpIn_mono (Q:=fun e bm av=>e= .normal∧∃j r q p,bm= {tmps:= #[Z ac n c,Fc (.func an) #[] lb,Un,Un,K (So ⟨q,0,J⟩),K (So ⟨p,0,J⟩),Un,Un,Un,Un,Z ac n c,I M n,O Bf,Z ac n c,I M n,Z (So ⟨j,0,J⟩) n n,Z ac n c,I M n,Z (So ⟨r,0,J⟩) n n,Un,Un,Un,Un,Un,Un,Un,Un,Un,Un,Un,Un,Un,Un,Un,Un,Un,Un,Un,Un,Un,Un,Un,Un,Un,Un,Un,Un,Un,Un,Un,Un,Un,Un,Un,Un,Un,Un,Un,Un,Un],defers:=[]}∧
   a9 w av∧(w.heap.size≤j∧w.heap.size≤r∧w.heap.size≤q∧w.heap.size≤p)∧(j≠r∧j≠q∧j≠p∧r≠q∧r≠p∧q≠p)∧
   b9 av j 114 (aN (a2A n 0))∧b9 av r 4 (C7 (a2A n Bf))∧b9 av q 396 #[Z (So ⟨j,0,J⟩) n n]∧b9 av p 397 #[Z (So ⟨r,0,J⟩) n n]) ?Aa ?Ab
 case Aa=>
  clear hv hq ax y en ev fc aw;refine wpIn_wide.2 ?_
  go_region
  all_goals
   refine⟨rfl,_,_,_,_,rfl,(((((a9.refl w).alloc _).alloc _).alloc _).alloc _).drew,⟨by omega,by omega,by omega,by omega⟩,⟨by omega,by omega,by omega,by omega,by omega,by omega⟩,?_,?_,?_,?_⟩;all_goals first
    |exact b9.drew (b9.b (by simp))
    |exact b9.drew ((b9.b (by simp)).alloc _)
    |exact b9.drew (((b9.b (by simp)).alloc _).alloc _)
    |exact b9.drew ((((b9.b (by simp)).alloc _).alloc _).alloc _)
 case Ab=>
  rintro e bm ak⟨rfl,j,r,q,p,rfl,cy,⟨bc,bk,jn,jo⟩,⟨dr,dt,du,dv,dw,ml⟩,dy,dx,gq,gp⟩;have gr:=b9.new ak 328 #[Fc (.func 279) #[] #[K (So ⟨p,0,J⟩),K (So ⟨q,0,J⟩)]];have fd:=cy.alloc (U #[Fc (.func 279) #[] #[K (So ⟨p,0,J⟩),K (So ⟨q,0,J⟩)]] 328);obtain⟨hz,hw⟩:=y.off ax (nG.f (B:=w) fd);have bi:∀b,w.heap.size≤b→¬A (ak.alloc (U #[Fc (.func 279) #[] #[K (So ⟨p,0,J⟩),K (So ⟨q,0,J⟩)]] 328)) b:=fun b f D=>by
   have:=y.lt ax ((hw b).1 D);omega
  have ie:WB A n j r q p ak (a2A n 0,a2A n Bf) (ak.alloc (U #[Fc (.func 279) #[] #[K (So ⟨p,0,J⟩),K (So ⟨q,0,J⟩)]] 328)):=
   ⟨gp.alloc _,gq.alloc _,dx.alloc _,dy.alloc _,gr,bi _ jo,bi _ jn,bi _ bk,bi _ bc,bi _ cy.size⟩
  have ia:VK A w (ak.alloc (U #[Fc (.func 279) #[] #[K (So ⟨p,0,J⟩),K (So ⟨q,0,J⟩)]] 328)):=
   y.vk ax (nG.f fd) ⟨rfl,rfl,rfl,a7 _,fun b _ D=>⟨rfl,D⟩⟩
  have jm:ak.heap.size≠j∧ak.heap.size≠r:=⟨fun e=>by have:=dy.lt;omega,fun e=>by have:=dx.lt;omega⟩;have lq:=cy.size;clear gp gq dx dy gr bi hw ki kj ax;gi_wp2_with fail
  generalize ak.alloc (U #[Fc (.func 279) #[] #[K (So ⟨p,0,J⟩),K (So ⟨q,0,J⟩)]] 328)=ld at*;generalize ak.heap.size=ao at*;clear cy ak;refine wpIn_loop (fun a wr=>∃(ds:List Deferred)(jk jl gn fr jg jh ji jj da db dc dd fs ft fu fv fw fx fy fz ga gb gc gd gg gh gj gk gl gm de df dg dh di dj dk dl dm dn dp:Va),(∃k:Nat,k≤n∧fr=I M k∧ae (y5 ps k) wr∧VK A w wr∧WB A n j r q p ao (if k=0 then(a2A n 0,a2A n Bf)else y1 ps k) wr∧∃u:List Nat,ds=u.map a3G∧Q2 u wr∧∀g∈u,w.heap.size≤g)∧a= {tmps:= #[Z ac n c,Fc (.func an) #[] lb,Un,Un,K (So ⟨q,0,J⟩),K (So ⟨p,0,J⟩),K ao,jk,jl,gn,Z ac n c,I M n,O Bf,Z ac n c,I M n,Z (So ⟨j,0,J⟩) n n,Z ac n c,I M n,Z (So ⟨r,0,J⟩) n n,Fc (.func 279) #[] #[K (So ⟨p,0,J⟩),K (So ⟨q,0,J⟩)],Z ac n c,I M n,fr,jg,jh,ji,jj,da,db,dc,dd,fs,ft,fu,fv,fw,fx,fy,fz,ga,gb,gc,gd,gg,gh,gj,gk,gl,gm,de,df,dg,dh,di,dj,dk,dl,dm,dn,dp],defers:=ds})
   (fun a _=>n-(intOf (a.tmps.getD 22 Un)).toNat) ?Ac ?Ad
  case Ac=>
   refine⟨[],?_⟩;repeat apply Exists.intro
   exact⟨⟨0,i5 _,rfl,hz,ia,by rw[if_pos rfl];exact ie,[],rfl,⟨List.nodup_nil,fun g h=>by cases h⟩,fun g h=>by cases h⟩,rfl⟩
  case Ad=>
   clear hz ia ie fd ld;rintro a wr⟨ds,jk,jl,gn,fr,jg,jh,ji,jj,da,db,dc,dd,fs,ft,fu,fv,fw,fx,fy,fz,ga,gb,gc,gd,gg,gh,gj,gk,gl,gm,de,df,dg,dh,di,dj,dk,dl,dm,dn,dp,⟨k,lu,rfl,am,bx,cv,u,rfl,bg,ei⟩,rfl⟩;by_cases io:k<n
   ·have fb:k<ps.length:=by rw[aw.out];exact io
    have ek:=bx.inM hv (by rw[K9,aw.out];intro h a e;exact hq (by omega) a e);obtain⟨T,ab,rfl,_⟩:=K7 ek (by omega);obtain⟨jc,jd,je,jf⟩:=G1 ek fb;have k1:(0:Int)≤k:=by omega
    have k2:(k:Int)<n:=by omega
    have fa:=fc _ (a30 fb);have cf:ps.getD k j5=ps[k]:=by rw[a8,e9 fb];rfl
    have gx:lY ps k=aV (ps[k]) k n:=by
     unfold lY;rw[if_neg (by rw[aw.out];omega),a4A,cf,aw.out]
    have H:=aU ps k;unfold lM at H;rw[gx,cf]at H;have N:=cS ps k;have bd:=Z8 ps k;rw[aw.out]at bd;have gy:=a6 (fun W=>en k W io);have hb:k=0→y1 ps k=(a2A n 0,T0 n):=fun e=>by subst e;simp[y1,aw.out]
    have lh:=a6 cf;clear gx cf ek en fc;generalize ps[k]=P at*;generalize kn:y1 ps k=s at*;generalize ah:y1 ps (k+1)=s' at*;generalize kp:y5 ps k=dq at*;generalize ai:y5 ps (k+1)=me at*;have dz:=a6 (And.intro H (And.intro N (And.intro bd (And.intro hb (And.intro ai ah)))));clear H N bd hb kp ai kn ah;obtain⟨co,G,F,kk⟩:=P;dsimp only at jc jd je jf;refine wpIn_seq_k fun lj hs=> ?_
    have gu:=a6 hs;clear hs
    gi_wp2
    refine gu _ _ ?_;refine wpIn_seq_k fun lk ht=> ?_
    have gv:=a6 ht;clear ht
    gi_wp2
    refine gv _ _ ?_;clear gu gv;refine wpIn_seq_k fun ll jz=> ?_
    refine wpIn_block ?_;refine wpIn_seq_k fun lm hu=> ?_
    have gw:=a6 hu;clear hu
    gi_wp2
    refine gw _ _ ?_;clear gw jc jd je jf;have cc:=((a9.refl wr).alloc (U #[I M k] 3)).alloc (U #[I U1 co,I U8 G,I U8 F,I V kk] 116);have ci:b9 ((wr.alloc (U #[I M k] 3)).alloc (U #[I U1 co,I U8 G,I U8 F,I V kk] 116)) wr 3 #[I M k]:=(b9.new wr _ _).alloc _;have eg:b9 ((wr.alloc (U #[I M k] 3)).alloc (U #[I U1 co,I U8 G,I U8 F,I V kk] 116)) (wr+1) 116 #[I U1 co,I U8 G,I U8 F,I V kk]:=b9.b (by simp);obtain⟨ct,cq⟩:=y.off am (nG.f (B:=w) cc);have es:=y.vk am (nG.f cc) bx;have R:=cv.h cc cq;have cn:Q2 u ((wr.alloc (U #[I M k] 3)).alloc (U #[I U1 co,I U8 G,I U8 F,I V kk] 116)):=⟨bg.1,fun g C=>(cc.block (Array.getElem?_eq_some_iff.1 (bg.2 g C)).1).trans (bg.2 g C)⟩;have ff:¬A ((wr.alloc (U #[I M k] 3)).alloc (U #[I U1 co,I U8 G,I U8 F,I V kk] 116)) wr.heap.size:=fun h=>by have:=y.lt am ((cq _).1 h);omega
    have fh:¬A ((wr.alloc (U #[I M k] 3)).alloc (U #[I U1 co,I U8 G,I U8 F,I V kk] 116)) (wr+1):=fun h=>by have:=y.lt am ((cq _).1 h);omega
    have mi:j<wr.heap.size:=cv.b4.lt;have mj:r<wr.heap.size:=cv.b3.lt;have mk:w≤wr.heap.size:=bx.size;generalize(wr.alloc (U #[I M k] 3)).alloc (U #[I U1 co,I U8 G,I U8 F,I V kk] 116)=wa at*;generalize ls:wr.heap.size+1=ar at*;generalize lr:wr.heap.size=aq at*;clear cc cq bg am bx cv;refine wpIn_seq ?_;obtain⟨ch,hy⟩:∃ch:Exit→Act→Wd→Prop,ch=fun e bm W=>e= .normal∧∃da db dc dd,bm= {tmps:= #[Z (So ⟨T,ab,J⟩) n c,Fc (.func an) #[] lb,Un,Un,K (So ⟨q,0,J⟩),K (So ⟨p,0,J⟩),K ao,K aq,K ar,gn,Z (So ⟨T,ab,J⟩) n c,I M n,O Bf,Z (So ⟨T,ab,J⟩) n c,I M n,Z (So ⟨j,0,J⟩) n n,Z (So ⟨T,ab,J⟩) n c,I M n,Z (So ⟨r,0,J⟩) n n,Fc (.func 279) #[] #[K (So ⟨p,0,J⟩),K (So ⟨q,0,J⟩)],Z (So ⟨T,ab,J⟩) n c,I M n,I M k,O Bt,I M k,K (So ⟨T,ab+k*4,J⟩),.agg #[I U1 co,I U8 G,I U8 F,I V kk],da,db,dc,dd,fs,ft,fu,fv,fw,fx,fy,fz,ga,gb,gc,gd,gg,gh,gj,gk,gl,gm,de,df,dg,dh,di,dj,dk,dl,dm,dn,dp],defers:=u.map a3G}∧
     ae dq W∧VK A w W∧WB A n j r q p ao s W∧Q2 u W∧b9 W aq 3 #[I M k]∧b9 W ar 116 #[I U1 co,I U8 G,I U8 F,I V kk]∧¬A W aq∧¬A W ar:=⟨_,rfl⟩
    have cg:=a6 hy;clear hy;refine wpIn_mono (Q:=ch) ?Ae ?Af
    case Ae=>
     clear jz;have mc:=ci.cell 0;by_cases ik:k=0
     ·subst ik
      have jw:=dz.2.2.2.1 rfl;have mb:=R.b5.cell 0;have bl:Ca prog 279 #[I M 0,I U1 0,K (So ⟨p,0,J⟩),K (So ⟨q,0,J⟩)] wa _:=a2B p q r j 0 n 0 (a2A n 0) (a2A n Bf) wa (by simp) (by simp) (by omega) (Ne.symm dr) ⟨Ne.symm du,Ne.symm dw⟩ ⟨Ne.symm dt,Ne.symm dv⟩ R.b1 R.b2 R.b3 R.b4;have bl:=a6 bl;gi_wp2_with(refine⟨trivial,?_⟩;gi_at_call 279;apply((Cw (n:=2)).2 bl.out).mono;rintro e mf⟨⟨v,rfl⟩,bt⟩;have jp:=a6 bt;clear bt)
      have bt:=jp.out;rw[cg.out];have S:=LB bt;obtain⟨bh,el⟩:=y.off ct (S.off ⟨bc,bk⟩ R.n3 R.n4);refine⟨rfl,_,_,_,_,rfl,bh,y.vk ct (S.off ⟨bc,bk⟩ R.n3 R.n4) es,?_,⟨cn.1,fun g C=> ?_⟩,S.blk ci (by omega) (by omega),S.blk eg (by omega) (by omega),fun h=>ff ((el _).1 h),fun h=>fh ((el _).1 h)⟩
      ·rw[jw,←EX]
       exact R.come (Ne.symm dr) ⟨Ne.symm du,Ne.symm dw⟩ ⟨Ne.symm dt,Ne.symm dv⟩ jm 0 0 bt el
      ·have f:=cn.2 g C
       refine(S.keep g ?_ ?_).trans f
       ·rintro rfl;have:=R.b3;unfold b9 at this;rw[this]at f;cases f
       ·rintro rfl;have:=R.b4;unfold b9 at this;rw[this]at f;cases f
     ·rw[if_neg ik]at R
      have ln:¬(k:Int)=0:=by omega
      gi_wp2
      rw[cg.out];exact⟨rfl,_,_,_,_,rfl,ct,es,R,cn,ci,eg,ff,fh⟩
    case Af=>
     rw[cg.out];clear cg ch;rintro e bm W⟨rfl,ky,kz,la,lc,rfl,bh,et,az,bv,cj,hi,iv,iw⟩;clear ct es R cn ci eg ff fh;simp only[Exit.then];obtain⟨H,N,⟨il,im⟩,-,ai,ah⟩:=dz.out;clear dz;have kt:=az.b1.cell 0;have fk:=cj.cell 0;have cz:=(az.b3.cell k).trans (I8 s.2 k (by omega));have hn:s.2.getD k Bf=s.2[k]'(by omega):=by rw[a8,e9 (by omega)];rfl
     rw[←hn]at cz;clear hn;cases cb:s.2.getD k Bf with
     |false=>
      rw[cb]at cz H N;simp only[a4x,if_false,List.append_nil]at H N;have ce:=a6 (And.intro H (And.intro N (And.intro ai ah)));clear H N ai ah cb
      gi_wp2
      refine⟨?Ag,?Ah⟩
      case Ag=>
       repeat apply Exists.intro
       refine⟨?Bh,rfl⟩;obtain⟨H,N,ai,ah⟩:=ce.out;exact⟨k+1,by omega,by go_num,by rw[ai,N];exact bh,et,by rw[if_neg (by omega),ah,H];exact az,u,rfl,bv,ei⟩
      case Ah=>simp[intOf];omega
     |true=>
      rw[cb]at cz H N;simp only[if_true]at H N;have fj:=(az.b4.cell k).trans (pZ s.1 k (by omega));have bs:s.1.getD k 0=s.1[k]'(by omega):=by rw[a8,e9 (by omega)];rfl
      rw[←bs]at fj;clear bs;have gz:=a6 (fun W=>gy W cb);generalize ca:s.1.getD k 0=bb at*;have ce:=a6 (And.intro H (And.intro N (And.intro ai (And.intro ah ca))));clear H N ai ah cb gy ca;gi_wp2_with fail
      refine g4 (fun _=>trivial) rfl [.is ?Bi,.is (I M k),.is (Z (So ⟨j,0,J⟩) n n),.is (I M k),.is ?Bj,.is (I U1 bb)] (by kernel_rfl) ?Bk ?Ai ⟨?Aj,?Ak,?Al,?Am,?An,?Ao,trivial⟩ _ rfl rfl ?Ap
      case Ai=>intro x;simp only[e6,Act.put,uL,l9]<;>rfl
      case Aj|Ak|Al|Am|An|Ao=>
       intro x aj o;simp only[e5,g1,uV];repeat(intro d;try simp only[d])
       have ax:=(cj.h o).cell 0;have lg:=(az.b2.h o).cell 0;have bc:=o.cell fj;gi_wp2_with fail
       refine a0e ?_ rfl (a9.refl _);rfl
      case Ap=>
       intro x aj o;simp only[l8,e5,j8,uV];intro bn bf bo bp bq br;simp only[bn,bf,bo,bp,bq,br];clear bn bf bo bp bq br;obtain⟨er,cr⟩:=y.off bh (nG.f (B:=w) o);have ib:=y.vk bh (nG.f o) et;have ig:=az.h o cr;have ef:=cj.h o;have be:=hi.h o;have fg:¬A aj aq:=fun h=>iv ((cr _).1 h)
       have bj:¬A aj ar:=fun h=>iw ((cr _).1 h)
       have bw:Q2 u aj:=⟨bv.1,fun g C=>(o.block (Array.getElem?_eq_some_iff.1 (bv.2 g C)).1).trans (bv.2 g C)⟩;have ha:=a6 (gz aj er);clear kt fk cz fj bh et az bv cj hi iv iw cr o gz;have eb:=a6 (fun W=>a0i ⟨co,G,F,kk⟩ k n W);simp only[i2.val,i2.cells]at eb;gi_wp2_with(first|(refine⟨trivial,?_⟩;gi_at_call 280;apply(eb _).mono;rintro e al⟨rfl,ap⟩;have gs:=a6 ap;clear ap)|(refine⟨trivial,?_⟩;apply((Cw (n:=2)).2 ha.out).mono;rintro e L⟨⟨v,rfl⟩,eo,af⟩;have fk:=(af.blk ef fg).1.cell 0;have ku:=(af.blk be bj).1.cell 0;have kv:=(af.blk be bj).1.cell 1;have kw:=(af.blk be bj).1.cell 2;have kx:=(af.blk be bj).1.cell 3))
       clear fk ku kv kw kx eb ha;have cw:=ig.vk af;have hh:=(af.blk ef fg).1;have hj:=(af.blk be bj).1;have ck:Q2 u L:=⟨bw.1,fun g C=>((af.keep g (Array.getElem?_eq_some_iff.1 (bw.2 g C)).1 (fun D=>by
        obtain⟨cs,t,z,ag⟩:=y.cells _ _ _ er D;rw[bw.2 g C]at ag;cases ag)).1).trans (bw.2 g C)⟩
       have ic:=ib.trans af;have ap:=gs.out;have ba:a9 L al:=by rw[ap];exact(((a9.refl L).alloc _).alloc _).alloc _
       have fm:b9 al L 116 #[I U1 co,I U8 G,I U8 F,I V kk]:=by rw[ap];exact((b9.new L _ _).alloc _).alloc _
       have fo:b9 al (L+1) 3 #[I M k]:=by rw[ap];exact(b9.b (by simp)).alloc _
       have fq:b9 al (L+1+1) 3 #[I M n]:=by rw[ap];exact b9.b (by simp)
       clear ap gs;have ly:j<L.heap.size:=cw.b4.lt;have lz:r<L.heap.size:=cw.b3.lt;obtain⟨ep,hx⟩:=y.off eo (nG.f (B:=w) ba);have cu:=y.vk eo (nG.f ba) ic;have eu:=cw.h ba hx;have ee:=hh.h ba;have eh:=hj.h ba;have cm:Q2 u al:=⟨ck.1,fun g C=>(ba.block (Array.getElem?_eq_some_iff.1 (ck.2 g C)).1).trans (ck.2 g C)⟩;have hr:∀g∈u,g<al.heap.size:=fun g C=>(Array.getElem?_eq_some_iff.1 (cm.2 g C)).1
       have kq:w≤al.heap.size:=cu.size;clear er ib ig ef be fg bj bw eo af cw hh hj ck ic hx aj ba;have ma:L.heap.size+1≠j∧L.heap.size+1≠r∧L.heap.size+1+1≠j∧L.heap.size+1+1≠r:=by omega
       generalize L.heap.size+1+1=fp at*;generalize L.heap.size+1=fn at*;generalize L.heap.size=fl at*;obtain⟨ea,ec⟩:=i6 fa (fun W=>a0g ⟨co,G,F,kk⟩ fa W);simp only[i2.val,i2.cells]at ec;have ca:=ce.2.2.2.2;obtain⟨ju,bd⟩:=i6 ca (And.intro il im);clear ca fa il im;generalize ip:bits .or U1 bb (p4 ⟨co,G,F,kk⟩)=m at*;have jt:=a6 ip;clear ip;generalize p4 ⟨co,G,F,kk⟩=lf at*;refine kK rfl (by decide) (gf:=356) (lb:= #[K fl,K fn,K fp]) rfl trivial (Eo func356 (by kernel_rfl) rfl)
        (EI fl fn fp ⟨co,G,F,kk⟩ ea k n (by omega) (fun _ b=>b=j∨b=r) (fun W=>j<W.heap.size∧r<W.heap.size) (fun W b f D=>by rcases D with rfl|rfl;exact f.1;exact f.2) (fun W W' b f e D=>D) (fun W f=>⟨by omega,by omega,by omega⟩) al fm fo fq)
        (fun h k=>h.trans k)
        (fun W l fi ix kh h ag lx b cs t f D=> ?Aq) (Below.refl _ _) (fun _=>rfl)
        (fun x W l fi ix cp kh ag=>cp)
        (WL A ae w n j r q p ao aq ar k ⟨co,G,F,kk⟩ u (dq++[(k,bb)]) m s) (fun au W h=>⟨h.wb.b4.lt,h.wb.b3.lt⟩) (a4v A ae w y n j r q p ao aq ar k ⟨co,G,F,kk⟩ u (dq++[(k,bb)]) m s al kq hr)
        ⟨(fun ad fe=>by cases fe),ep,cu,eu,ee,eh,cm⟩
        (fun ad:Int=> {tmps:= #[Z (So ⟨T,ab,J⟩) n c,Fc (.func an) #[] lb,Un,Un,K (So ⟨q,0,J⟩),K (So ⟨p,0,J⟩),K ao,K aq,K ar,I M ad,Z (So ⟨T,ab,J⟩) n c,I M n,O Bf,Z (So ⟨T,ab,J⟩) n c,I M n,Z (So ⟨j,0,J⟩) n n,Z (So ⟨T,ab,J⟩) n c,I M n,Z (So ⟨r,0,J⟩) n n,Fc (.func 279) #[] #[K (So ⟨p,0,J⟩),K (So ⟨q,0,J⟩)],Z (So ⟨T,ab,J⟩) n c,I M n,I M k,O Bt,I M k,K (So ⟨T,ab+k*4,J⟩),.agg #[I U1 co,I U8 G,I U8 F,I V kk],ky,kz,la,lc,Z (So ⟨r,0,J⟩) n n,I M k,K (So ⟨r,k,J⟩),O Bt,O Bf,Fc (.func an) #[] lb,I M k,Z (So ⟨j,0,J⟩) n n,I M k,K (So ⟨j,k,J⟩),I U1 bb,v,.agg #[I U1 co,I U8 G,I U8 F,I V kk],I M k,Z (So ⟨T,ab,J⟩) n c,I M n,Fc (.func 356) #[] #[K fl,K fn,K fp],I M ad,de,df,dg,dh,di,dj,dk,dl,dm,dn,dp],defers:=[]}) ?Ar ?As ?At
       case Aq=>
        have kl:b≠l:=fun e=>by
         subst e;unfold b9 at f;rw[h]at f;injection f with f
         subst f;cases ag
        exact⟨f.grown (grownBy_putObj' W l ix) (fun e=>by injection e with e;exact kl e),D⟩
       case Ar=>
        intro l ad W li jy
        gi_wp2
        exact jy
       case As=>
        clear ep cu eu ee eh cm fm fo fq;rintro l au ad W2 ay cp lv;dsimp only;have kf:(k:Int)<ad∧ad<n:=by
         obtain⟨ho,hp⟩:=Y7 _ _ cp;have:=oE _ ea k (by omega) ad ho;simp at hp;omega
        obtain⟨z,rfl⟩:∃z:Nat,ad=(z:Int):=⟨ad.toNat,by omega⟩;clear cp ea;obtain⟨ew,ex,ij,bz,ey,ez,cx⟩:=ay;have jr:=a6 ew;have kb:=(I7 m au s).1.trans bd.1;have ka:=(I7 m au s).2.trans bd.2;have ih:=(fR m k au s ew).trans ju.out;have js:=a6 (show D6 m (au.foldl (D6 m) s) z=(au++[(z:Int)]).foldl (D6 m) s by rw[List.foldl_append];rfl);generalize au.foldl (D6 m) s=cd at*;have he:=bz.b5.cell 0;have hf:=bz.b2.cell 0;have hg:=ey.cell 0;obtain⟨iy,iz,ja,jb⟩:=ez.c4;have ed:=(bz.b4.cell k).trans (pZ cd.1 k (by omega));have bs:cd.1.getD k 0=cd.1[k]'(by omega):=by rw[a8,e9 (by omega)];rfl
        rw[←bs,ih]at ed;clear bs ih ew;refine wpIn_block ?_;refine g4 (fun _=>trivial) rfl [.is (Fc (.func 279) #[] #[K (So ⟨p,0,J⟩),K (So ⟨q,0,J⟩)]),.is ?Bl,.is (Z (So ⟨j,0,J⟩) n n),.is (I M k),.is ?Bm,.is (I U1 bb),.is (.agg #[I U1 co,I U8 G,I U8 F,I V kk]),.is (I U1 lf),.is (I U1 m)] (by kernel_rfl) ?Bn ?Au ⟨?Av,?Aw,?Ax,?Ay,?Az,?Ba,?Bb,?Bc,?Bd,trivial⟩ _ rfl rfl ?Be
        case Au=>intro x;simp only[e6,Act.put,uL,l9]<;>rfl
        case Av|Aw|Ax|Ay|Az|Ba|Bb|Bc|Bd=>
         intro x aj o;simp only[e5,g1,uV];repeat(intro d;try simp only[d])
         have ax:=o.cell he;have lg:=o.cell hf;have bc:=o.cell hg;have bk:=o.cell ed;have jn:=o.cell iy;have ho:=o.cell iz;have hp:=o.cell ja;have lo:=o.cell jb;have jo:=jt.out;gi_wp2_with(first|(refine⟨trivial,?_⟩;gi_at_call 281;refine(CallsIn.inRound l ((Cw (n:=0)).2 (ec _))).mono ?_;rintro e mg⟨rfl,kr⟩))
         refine a0e ?_ rfl (by first|exact kr|exact a9.refl _);rfl
        case Be=>
         intro x aj o;simp only[l8,e5,j8,uV];intro bn bf bo bp bq br hk hl hm;simp only[bn,bf,bo,bp,bq,br,hk,hl,hm];clear bn bf bo bp bq br hk hl hm;obtain⟨iu,iq⟩:=y.off ex (nG.f (B:=w) o);have kg:=y.vk ex (nG.f o) ij;have aa:=bz.h o iq;have kc:=ey.h o;have kd:=ez.h o;have ii:Q2 u aj:=⟨cx.1,fun g C=>(o.block (Array.getElem?_eq_some_iff.1 (cx.2 g C)).1).trans (cx.2 g C)⟩;have bl:=a6 (a2B p q r j z n m cd.1 cd.2 aj kb ka (by omega) (Ne.symm dr) ⟨Ne.symm du,Ne.symm dw⟩ ⟨Ne.symm dt,Ne.symm dv⟩ aa.b1 aa.b2 aa.b3 aa.b4);clear ex ij bz ey ez cx he hf hg iy iz ja jb ed iq;obtain⟨hc,em⟩:∃hc,hc=iL al.heap.size (KpO fun _ b=>b=j∨b=r) (WL A ae w n j r q p ao aq ar k ⟨co,G,F,kk⟩ u (dq++[(k,bb)]) m s) (au++[(z:Int)]) W2:=⟨_,rfl⟩;rw[←em];have jv:=a6 em;clear em;gi_wp2_with(refine⟨trivial,?_⟩;gi_at_call 279;refine(CallsIn.inRound l ((Cw (n:=0)).2 bl.out)).mono ?_;rintro e mh⟨⟨md,rfl⟩,bu⟩;have jq:=a6 bu;clear bu)
         have bu:=jq.out;rw[jv.out];have S:=LB bu;obtain⟨ko,km⟩:=y.off iu (S.off ⟨bc,bk⟩ aa.n3 aa.n4);refine⟨KeepsFrom.trans (KeepsOthers.from ⟨o.size,fun b fi f _=>(o.block (Array.getElem?_eq_some_iff.1 f).1).trans f⟩ _) ⟨by rw[S.size];exact a7 _,fun b fi _ f ag=>(S.keep b ?_ ?_).trans f⟩,fun b cs t f D=>⟨S.blk (f.h o) (fun e=>D (.inr e)) (fun e=>D (.inl e)),D⟩,?_,ko,y.vk iu (S.off ⟨bc,bk⟩ aa.n3 aa.n4) kg,?_,S.blk kc (by omega) (by omega),S.blk kd (by omega) (by omega),ii.1,fun g C=> ?_⟩
         ·rintro rfl;have:=aa.b3;unfold b9 at this;rw[this]at f;cases f;cases ag
         ·rintro rfl;have:=aa.b4;unfold b9 at this;rw[this]at f;cases f;cases ag
         ·intro ad fe
          rcases List.mem_append.1 fe with h|h
          ·exact jr ad h
          ·rw[List.mem_singleton.1 h];exact kf.1
         ·rw[←js.out]
          exact aa.come (Ne.symm dr) ⟨Ne.symm du,Ne.symm dw⟩ ⟨Ne.symm dt,Ne.symm dv⟩ jm z m bu km
         ·have f:=ii.2 g C
          refine(S.keep g ?_ ?_).trans f
          ·rintro rfl;have:=aa.b3;unfold b9 at this;rw[this]at f;cases f
          ·rintro rfl;have:=aa.b4;unfold b9 at this;rw[this]at f;cases f
       case At=>
        clear ep cu eu ee eh cm fm fo fq ec;rintro g xs W3 C ks ay jx;subst ks
        gi_wp2
        refine⟨?Bf,?Bg⟩
        case Bf=>
         repeat apply Exists.intro
         refine⟨?Bo,rfl⟩;obtain⟨H,N,ai,ah,_⟩:=ce.out;refine⟨k+1,by omega,by go_num,?_,ay.vk,?_,g::u,rfl,⟨List.nodup_cons.2 ⟨fun h=> ?_,ay.marks.1⟩,fun E ej=> ?_⟩,fun E ej=> ?_⟩
         ·rw[ai,N];exact ay.vi
         ·rw[if_neg (by omega),ah,H];exact ay.wb
         ·have:=hr g h;omega
         ·rcases List.mem_cons.1 ej with rfl|h
          ·exact jx
          ·exact ay.marks.2 E h
         ·rcases List.mem_cons.1 ej with rfl|h
          ·omega
          ·exact ei E h
        case Bg=>simp[intOf];omega
   ·obtain rfl:k=n:=by omega
    have lp:ae (y5 ps k) wr:=am
    gi_wp2
    refine iY u wr bg ⟨_,Rz rfl _ _ _,⟨_,rfl⟩,?_⟩;have ke:∀b,A wr b→b∉u:=fun b D f=>by
     obtain⟨cs,t,z,ag⟩:=y.cells _ _ _ am D;rw[bg.2 b f]at ag;cases ag
    have ir:nG A w wr (P5 u wr):=⟨(P4 u wr).1,(P4 u wr).2.1,(P4 u wr).2.2,by rw[iI];exact a7 _,fun b _ D=>fK u wr b (fun f=>by
     rcases D with D|D
     ·have:=ei b f;omega
     ·exact ke b D f)⟩
    exact⟨(y.off am ir).1,y.vk am ir bx⟩
theorem a0j(a:Option Ad)(n c:Nat)(g:4096<n)(b:Nat)(lb:Array Va)(w:Wd):
  Ca prog 206 #[Z a n c,Fc (.func b) #[] lb] w fun e d=>(∃v,e=X v)∧w=d:=by
 have f:(4096:Int)<n:=by omega
 refine(Cw (n:=3)).1 ?_;refine Cm func206 rfl trivial ?_ rfl;simp only[ntmps206,uE,l9,a4D]
 gi_wp2
 exact⟨_,Rz rfl _ _ _,⟨_,rfl⟩,rfl⟩
def X4(n:Nat)(a:List (Nat×Int)):List Int:=a.foldl (fun l v=>l.set v.1 v.2) (a2A n 65535)
theorem wT(n:Nat)(a:List (Nat×Int))(v:Nat×Int):X4 n (a++[v])=(X4 n a).set v.1 v.2:=by simp[X4,List.foldl_append]
theorem uA{e c:Type}(f:List c→e→List c)(d:∀l a,(f l a).length=l.length):∀(b:List e)(l:List c),(b.foldl f l).length=l.length
 |[],_=>rfl
 |v::b,l=>by rw[List.foldl_cons,uA f d b,d]
theorem mC(n:Nat)(b:List (Nat×Int)):(X4 n b).length=n:=by
 unfold X4;rw[uA _ (fun l a=>by simp)];simp
theorem PO{e:Wd→Nat→Prop}{w d W':Wd}(a:a9 w d)(k:VK e d W')(f:∀b,b<w.heap.size→¬e d b):a9 w W':=
 ⟨k.os.trans a.os,k.tape.trans a.tape,k.output.trans a.output,c8 a.size k.size,fun b c=>((k.keep b (Nat.lt_of_lt_of_le c a.size) (f b c)).1).trans (a.block c)⟩
def oR(ps:List i2):List Int:=if 4096<ps.length then []else X4 ps.length (y5 ps ps.length)
end
end Go.Proofs.YtiomenjfmagknaaGreat
