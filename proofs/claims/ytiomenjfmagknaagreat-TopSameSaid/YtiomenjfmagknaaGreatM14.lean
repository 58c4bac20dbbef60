/- A part of the proof of TopSame: lemmas on the walks of its calls. -/
import Derived.Test.YtiomenjfmagknaaGreatM13
set_option maxHeartbeats 12000000
set_option linter.all false
set_option maxRecDepth 100000
namespace Go.Proofs.YtiomenjfmagknaaGreat
open Go.RowKit Go.ChangeShapes Go.WideShapes Tryz
open Bool renaming false_eq_true→a4x,true→Bt,false→Bf
open Ending renaming returned→X
open Go renaming World→Wd,Value→Va,Calls→Ca,callsIn_wide→Cw,bodyPost_ret→Bp,TypeId→Ti,Addr→Ad,Program→Pg,callsIn_of_wp→Co
open IntKind renaming i64→M,u32→V,u64→U6,u16→U1,u8→U8
open Lib renaming hid→a6
open List renaming getElem?_eq_getElem→e9,length_cons→a3W,getElem_mem→a30,length_map→a32,take_succ_eq_append_getElem→a4a,length_take→a4C
open Nat renaming le_refl→a7,le_trans→c8,reduceAdd→l9,zero_le→i5,reduceSub→a4D,zero_add→a4E
open Obj renaming cells→U
open Operand renaming tmp→Tm
open Option renaming none→J,some→So
open Value renaming int→I,slice→Z,string→Y,pointer→K,bool→O,func→Fc,tuple→Tp,agg→Ag,nilFunc→Nf
def j9(s:ByteArray):ByteArray:=s.extract 0 (min s.size 60)
theorem lB{w:Wd}{g t base:Nat}{s:ByteArray}{f:Va}{i:List i0}(y:b9 w g 41 #[f])(z:b9 w t 9 #[Y s])(o:e4 w base 73 g6 f i)(h:base≤w)(ag:i.length+1≤1000000)(e:Int):
  Ca prog 308 #[I M e,K g,K t] w fun af A=>af=X (Tp #[])∧∃v',b9 A g 41 #[v']∧e4 A base 73 g6 v' (i++[⟨⟨#[]⟩,0,e,j9 s⟩])∧MV (jY g f) w (jY g v') A:=by
 refine(Cw (n:=1)).1 ?_;obtain⟨ac,ad,C⟩:=p7 y z o;have D:∀a,GA 73 g6 f.ownBlock base f i [⟨⟨#[]⟩,0,e,j9 s⟩] w a→b9 a g 41 #[f]:=fun a c=>ac.grown c.g (fun e=>o.ne y (by decide) e.symm)
 have E:∀a,GA 73 g6 f.ownBlock base f i [⟨⟨#[]⟩,0,e,j9 s⟩] w a→b9 a t 9 #[Y s]:=fun a c=>ad.grown c.g (fun e=>o.ne z (by decide) e.symm)
 obtain⟨B,ab⟩:=i6 D E;have ar:0≤min (s.size:Int) 60:=by omega
 have au:min (s.size:Int) 60≤s.size:=by omega
 have av:(min (s.size:Int) 60).toNat=min s.size 60:=by omega
 clear D E y z o;refine Co func308 rfl trivial ?_ rfl;simp only[ntmps308,uE,l9,a4D];gi_wp2_with fail
 refine s8 (R:=(GA 73 g6 f.ownBlock base f i [⟨⟨#[]⟩,0,e,j9 s⟩])) (fun _=>trivial) rfl [.is f,.is ?Am,.is (Y s),.is (Y s),.is ?An,.is ?Ao,.is (Y (j9 s)),.is (.agg #[Y ⟨#[]⟩,I M 0,I M e,Y (j9 s)]),(D4 #[Y ⟨#[]⟩,I M 0,I M e,Y (j9 s)]),(D1 w)] (by kernel_rfl) ?Ap ?Aa ⟨?Ab,?Ac,?Ad,?Ae,?Af,?Ag,?Ah,?Ai,?Aj,?Ak,trivial⟩ _ rfl rfl ?Al
 case Aa=>intro x;simp only[e6,Act.put,uL,l9]<;>rfl
 case Ab|Ac|Ad|Ae|Af|Ag|Ah|Ai=>
  intro x a c;simp only[e5,g1,uV,D4,D1];repeat(intro d;try simp only[d])
  have ao:=(B a c).cell 0;have ay:=(ab a c).cell 0;gi_wp2_with fail
  refine a0e ?_ rfl (fT.refl _);rfl
 case Aj=>
  intro x a c;simp only[e5,g1,uV,D4,D1];intro l;simp only[l];gi_wp2_with fail
  refine a0e ?_ rfl (GA.f ((a9.refl a).alloc _));exact⟨a,rfl,b9.new _ _ _,fun e=>by have:=((c.old C.out).lt e).2;omega⟩
 case Ak=>
  intro x a c;simp only[e5,g1,uV,D4,D1];rintro j⟨S,m,T,ai⟩;simp only[j,m];gi_wp2_with(gi_at_builtin;refine o9 rfl _ _ 41 73 rfl lX base f i rfl (c.old C.out) S 1 1 [⟨⟨#[]⟩,0,e,j9 s⟩] rfl rfl (h9.f T rfl) ag (c8 h c.g.size) ?_;intro aw ax aj ak al am an)
  refine a0e ?_ rfl (⟨ak,fun _=>al,am⟩);exact⟨aj,an.imp id (fun q b h=>by have:=q b h;have:=c.g.size;omega)⟩
 case Al=>
  intro x a c;simp only[l8,e5,g1,uV,D4,D1];rintro j F G H L N P l⟨S,m,T,ai⟩⟨r,W⟩;simp only[j,F,G,H,L,N,P,l,m];clear j F G H L N P l m;obtain⟨aa,ah,ae,Q⟩:=r.f;rw[Q]at r W;have p:=B a c;have ap:=p.cell 0;have aq:=p.frozen 0;simp only[Q];gi_wp2_with fail
  go_end0
  refine⟨rfl,_,p.f 0 _,r.kept (x4 _ g 0 _) (.inr (r.ne p (by decide))),(MV.l (Xa:=jY g f) (O1:=jY g (Z aa ah ae)) c.g (fun k v=> .inr v) ?_).trans (.l (x4 _ g 0 _) (fun k v=>by cases v;exact .inl rfl) fun b h=> .inl h)⟩;intro b h;rcases h with rfl|h
  ·exact .inl (.inl rfl)
  ·rcases W with u|u
   ·exact .inl (.inr (by rw[←u];exact h))
   ·exact .inr (u b h)
section
open Go.Lib
def hQ(m:Int)(inn:Bool)(a:Int)(xs:List o8)(n:ByteArray):List o8:=if inn then NC m xs n a else zD m xs n
def tO(e:Int)(w:ByteArray):i0:=⟨⟨#[]⟩,0,e,j9 w⟩
def nB(m:Int)(a:Bool):Bool:=if m=1 then !a else a
def rY(m:Int)(a b:Bool)(σ:List o8×List i0)(w:ByteArray):List o8×List i0:=
 if(J6 w).2=0 then
  if(aL (J6 w).1.name).2=0 then
   if(J6 w).1.has then
    if !b|| !a then((aL (J6 w).1.name).1.foldl (hQ m (nB m a) 0) σ.1,σ.2++[tO 161 w])
    else((aL (J6 w).1.name).1.foldl (hQ m Bt (J6 w).1.act) σ.1,σ.2)
   else((aL (J6 w).1.name).1.foldl (hQ m (nB m a) (J6 w).1.act) σ.1,σ.2)
  else(σ.1,σ.2++[tO (aL (J6 w).1.name).2 w])
 else(σ.1,σ.2++[tO (J6 w).2 w])
def dH(m:Int)(a:Bool):Int:=if m=0 then(if a then 2 else 1)else m
def J3(m:Int)(xs:List o8)(a:ByteArray)(b:Bool):Int×List o8×List i0:=
 if bO m xs then
  if(o6 a).length=0 then(0,[],[])
  else(dH m (l6 a).2,(o6 (l6 a).1).foldl (rY (dH m (l6 a).2) (l6 a).2 b) (xs,[]))
 else(m,xs,[])
theorem yO(s:ByteArray):∀x∈o6 s,x.size≤s.size:=fun x a=>by
 unfold o6 goFieldsP at a;obtain⟨b,_,rfl⟩:=List.mem_map.1 a;simp only[ByteArray.size_extract];omega
theorem aC(p:Nat→Bool)(s:ByteArray):∀(f c:Nat)(b:Option Nat)(a:List (Nat×Nat)),(spansFromP p s f c b a).1.length≤a.length+f
 |0,_,_,a=>a7 _
 |f+1,c,b,a=>by
  unfold spansFromP;split
  ·split
   ·cases b
    ·exact c8 (aC p s f _ _ _) (by omega)
    ·exact c8 (aC p s f _ _ _) (by simp;omega)
   ·cases b
    ·exact c8 (aC p s f _ _ _) (by omega)
    ·exact c8 (aC p s f _ _ _) (by omega)
  ·exact Nat.le_add_right _ _
theorem C9(s:ByteArray):(o6 s).length≤s.size+1:=by
 have a:=aC IC s s.size 0 J [];unfold o6 goFieldsP spansOfP;rw[a32];generalize spansFromP IC s s.size 0 J []=r at*;obtain⟨c,b⟩:=r;unfold closeSpans;simp only[List.length_nil]at a;cases b
 ·simp;omega
 ·simp;omega
theorem H7(s:ByteArray):(l6 s).1.size≤s.size:=by
 show(Lib.trimPrefix s.data.toList zA.data.toList).length≤s.data.size;unfold Lib.trimPrefix;split
 ·rw[List.length_drop,Array.length_toList];omega
 ·rw[Array.length_toList];exact a7 _
theorem aJ{d:Type}[DecidableEq d]:∀(l k:List d),l.Nodup→(∀x∈l,x∈k)→l.length≤k.length
 |[],k,_,_=>i5 _
 |x::r,k,hn,hs=>by
  have a:=hs x List.mem_cons_self;have f:=aJ r (k.erase x) (List.nodup_cons.1 hn).2 fun c b=>(List.mem_erase_of_ne (fun e:c=x=>(List.nodup_cons.1 hn).1 (by rw[←e];exact b))).2 (hs c (List.mem_cons_of_mem _ b))
  have:=List.length_erase_of_mem a;have:=List.length_pos_of_mem a;simp only[a3W];omega
def WG:List (List UInt8):=J8.map (·.1.toList)
theorem GO{s:ByteArray}(a:I3 s=Bt):s.toList∈WG:=by
 unfold I3 aR at a;cases b:J8.find? (fun c=>c.1.toList==s.toList)with
 |none=>rw[b]at a;cases a
 |some c=>
  have d:=List.mem_of_find?_eq_some b;have e:=List.find?_some b;rw[←eq_of_beq e];exact List.mem_map_of_mem d
theorem iQ:∀(xs:List o8)(p:Option ByteArray),ZW p xs=Bt→(xs.map (·.1.toList)).Pairwise (·<·)∧(∀x∈xs,I3 x.1=Bt∧R2 x.2=Bt)∧∀q,p=So q→∀x∈xs,q.toList<x.1.toList
 |[],p,_=>⟨List.Pairwise.nil,fun x b=>(by cases b),fun q _ x b=>(by cases b)⟩
 |x::r,p,b=>by
  unfold ZW at b;simp only[Bool.and_eq_true]at b;obtain⟨⟨⟨f,g⟩,h⟩,i⟩:=b;obtain⟨k,l,e⟩:=iQ r (So x.1) i;refine⟨?_,?_,?_⟩
  ·rw[List.map_cons]
   refine List.pairwise_cons.2 ⟨fun c a=> ?_,k⟩;obtain⟨z,j,rfl⟩:=List.mem_map.1 a;exact e x.1 rfl z j
  ·intro c a
   rcases List.mem_cons.1 a with rfl|a
   ·exact⟨f,g⟩
   ·exact l c a
  ·rintro q rfl c a
   have d:q.toList<x.1.toList:=by
    have:Op.bytesLess q.toList x.1.toList=Bt:=h;rw[bytesLess_eq]at this;exact of_decide_eq_true this
   rcases List.mem_cons.1 a with rfl|a
   ·exact d
   ·exact List.lt_trans d (e x.1 rfl c a)
theorem wS{m:Int}{xs:List o8}(h:bO m xs=Bt):ZW J xs=Bt:=by
 unfold bO at h;split at h
 ·cases h
 ·split at h
  ·cases h
  ·exact h
theorem iV{m:Int}{xs:List o8}(c:bO m xs=Bt):xs.length≤40:=by
 obtain⟨d,f,_⟩:=iQ xs J (wS c);have g:(xs.map (·.1.toList)).Nodup:=List.Pairwise.imp (R:=(·<·)) (S:=(·≠·)) (fun{a b} c(e:a=b)=>by rw[e]at c;exact List.lt_irrefl _ c) d;have:=aJ (xs.map (·.1.toList)) WG g fun j i=>by
  obtain⟨x,h,rfl⟩:=List.mem_map.1 i;exact GO (f x h).1
 rw[a32]at this;exact this
theorem BU{a:Type}(xs:List a)(i:Nat)(x:a):(V8 xs i x).length=xs.length+1:=by unfold V8;simp[a4C,List.length_drop];omega
theorem TO(m:Int)(xs:List o8)(s:ByteArray)(a:Int):(NC m xs s a).length≤max xs.length 41:=by
 unfold NC;split
 ·rename_i h
  have:=iV h;split
  ·simp;omega
  ·rw[BU];omega
 ·omega
theorem ZJ(m:Int)(inn:Bool)(a:Int)(xs:List o8)(n:ByteArray):(hQ m inn a xs n).length≤max xs.length 41:=by
 unfold hQ;split
 ·exact TO m xs n a
 ·unfold zD
  split
  ·exact c8 (List.length_filter_le _ _) (by omega)
  ·omega
theorem lL(m:Int)(inn:Bool)(a:Int):∀(l:List ByteArray)(xs:List o8),(l.foldl (hQ m inn a) xs).length≤max xs.length 41
 |[],xs=>by simp;omega
 |n::r,xs=>by
  have b:=ZJ m inn a xs n;have c:=lL m inn a r (hQ m inn a xs n);simp only[List.foldl_cons];omega
theorem SR(m:Int)(t s:Bool)(σ:List o8×List i0)(w:ByteArray):(rY m t s σ w).1.length≤max σ.1.length 41∧(rY m t s σ w).2.length≤σ.2.length+1:=by
 have h:=fun inn a=>lL m inn a (aL (J6 w).1.name).1 σ.1
 unfold rY;split
 ·split
  ·split
   ·split
    ·exact⟨h _ _,by simp⟩
    ·exact⟨h _ _,by simp⟩
   ·exact⟨h _ _,by simp⟩
  ·exact⟨by show σ.1.length≤_;omega,by simp⟩
 ·exact⟨by show σ.1.length≤_;omega,by simp⟩
theorem kC(m:Int)(t s:Bool):∀(l:List ByteArray)(σ:List o8×List i0),(l.foldl (rY m t s) σ).1.length≤max σ.1.length 41∧(l.foldl (rY m t s) σ).2.length≤σ.2.length+l.length
 |[],σ=>⟨by simp;omega,a7 _⟩
 |w::r,σ=>by
  have a:=SR m t s σ w;have b:=kC m t s r (rY m t s σ w);simp only[List.foldl_cons,a3W];omega
theorem CR(s:ByteArray):(Y0 s).1.length≤1000:=by
 unfold Y0;split
 ·exact i5 _
 ·split
  ·exact i5 _
  ·have b:=BR s
   have a:=Lib.compact_length_le (sX (lQ (cH 8 s)));show(uN _).length≤_;unfold uN;rw[nN];rw[L9,aD]at a;omega
theorem OC(s:ByteArray):(aL s).1.length≤1000:=by
 unfold aL;split
 ·exact CR s
 ·split<;>simp
end
section
def sT(S:List Ti):Obj→Bool
 |U _ t _=>S.contains t
 |_=>Bf
structure Tv(B:Nat)(S:List Ti)(w w':Wd):Prop where
 os:w'.os=w.os
 tape:w'.tape=w.tape
 output:w'.output=w.output
 size:w≤w'.heap.size
 keep:∀b o,w.heap[b]? =So o→b<B∨sT S o=Bf→w'.heap[b]? =So o
section
variable {B:Nat} {S:List Ti} {w w' w2 W:Wd}
theorem Tv.refl(B:Nat)(S:List Ti)(w:Wd):Tv B S w w:=⟨rfl,rfl,rfl,a7 _,fun _ _ h _=>h⟩
theorem Tv.trans(a:Tv B S w w')(k:Tv B S w' w2):Tv B S w w2:=⟨k.os.trans a.os,k.tape.trans a.tape,k.output.trans a.output,c8 a.size k.size,fun b d e c=>k.keep b d (a.keep b d e c) c⟩
theorem Tv.f(x:a9 w w'):Tv B S w w':=⟨x.os,x.tape,x.output,x.size,fun b c a _=>(x.block (Array.getElem?_eq_some_iff.1 a).1).trans a⟩
theorem Tv.h(h:Tv B S w w')(x:a9 w' w2):Tv B S w w2:=h.trans (.f x)
theorem Tv.b(a:Tv B S w w')(x:a9 W w)(f:W≤B):a9 W w':=
 ⟨a.os.trans x.os,a.tape.trans x.tape,a.output.trans x.output,c8 x.size a.size,fun b c=>by
  have d:b<w.heap.size:=Nat.lt_of_lt_of_le c x.size;have e:w.heap[b]? =So w.heap[b]:=Array.getElem?_eq_getElem d;rw[a.keep b _ e (.inl (by omega)),←e];exact x.block c⟩
theorem Tv.blk{g:Nat}{t:Ti}{cs:Array Va}(a:Tv B S w w')(k:b9 w g t cs)(b:g<B∨S.contains t=Bf):b9 w' g t cs:=a.keep g _ k b
theorem Tv.own{b:Type}{base:Nat}{e:Ti}{E:p6 b}{v:Va}{xs:List b}(f:Tv B S w w')(k:e4 w base e E v xs)(i:S.contains e=Bf):e4 w' base e E v xs:=by
 obtain⟨d,c,j,h,a⟩:=k;refine⟨d,c,j,h,?_⟩;rcases a with a|⟨g,cap,cur,k1,k2,k3,k4⟩
 ·exact .inl a
 ·exact .inr ⟨g,cap,cur,k1,k2,f.keep g _ k3 (.inr i),k4⟩
theorem Tv.l{row:Option Nat}(a:w.grownBy w' row)(i:∀k,row=So k→B≤k∧∃f,w.heap[k]? =So f∧sT S f=Bt):Tv B S w w':=
 ⟨a.os,a.tape,a.output,a.size,fun b f d c=>by
  refine(a.block b (Array.getElem?_eq_some_iff.1 d).1 fun e=> ?_).trans d;obtain⟨j,l,g,h⟩:=i b e.symm;rw[d]at g;cases g;rcases c with c|c
  ·omega
  ·rw[c]at h;cases h⟩
theorem Tv.r{g:Nat}{t:Ti}{cs:Array Va}(k:b9 w g t cs)(a:B≤g)(b:S.contains t=Bt)(i:Nat)(u:Va):Tv B S w (w.setCell ⟨g,i,J⟩ u):=
 .l (x4 _ _ _ u) fun d c=>by cases c;exact⟨a,_,k,b⟩
theorem Tv.ofOwn{d:Type}{base:Nat}{e:Ti}{E:p6 d}{v:Va}{xs:List d}(k:e4 w base e E v xs)(i:w.grownBy w' v.ownBlock)(f:B≤base)(h:S.contains e=Bt):Tv B S w w':=
 .l i fun j a=>⟨c8 f (k.lt a).1,by
  obtain⟨l,c,rfl,m,b⟩:=k;rcases b with⟨b,_⟩|⟨g,cap,cur,k1,k2,k3,k4⟩
  ·rw[b]at a;cases a
  ·rw[k1]at a;cases a;exact⟨_,k3,h⟩⟩
theorem Tv.ofBx{m:Type}{base bo:Nat}{e i:Ti}{E:p6 m}{v v':Va}{xs:List m}(l:b9 w bo i #[v])(k:e4 w base e E v xs)(f:MV (jY bo v) w (jY bo v') w')(r:B≤base)(s:B≤bo)(n:S.contains e=Bt)(o:S.contains i=Bt):Tv B S w w':=
 ⟨f.os,f.tape,f.output,f.size,fun b u h a=>by
  refine(f.keep b (Array.getElem?_eq_some_iff.1 h).1 fun d=> ?_).trans h;rcases d with rfl|d
  ·unfold b9 at l
   rw[h]at l;cases l;rcases a with a|a
   ·omega
   ·have:sT S (U #[v] i (0,0))=Bt:=o
    rw[a]at this;cases this
  ·have t:=(k.lt d).1
   obtain⟨p,c,rfl,q,j⟩:=k;rcases j with⟨j,_⟩|⟨g,cap,cur,k1,k2,k3,k4⟩
   ·rw[j]at d;cases d
   ·rw[k1]at d
    cases d;rw[k3]at h;cases h;rcases a with a|a
    ·omega
    ·have:sT S (U cur e (0,0))=Bt:=n
     rw[a]at this;cases this⟩
end
end
section
def S3:List Ti:=[36,41,73]
structure SI(w0 w:Wd)(F N Xa B:Nat)(m:Int)(v vn:Va)(xs:List o8)(ns:List i0):Prop where
 l:L7 w F B m v xs
 n:b9 w N 36 #[I U8 0,Z J 0 0]
 k:b9 w Xa 41 #[vn]
 o:e4 w B 73 g6 vn ns
 t:Tv B S3 w0 w
 hF:B≤F
 hK:B≤Xa
 hN:F≠N
 hB:B≤w
section
variable {w0 w w':Wd} {F N Xa B:Nat} {m:Int} {v vn:Va} {xs:List o8} {ns:List i0}
theorem SI.h(h:SI w0 w F N Xa B m v vn xs ns)(x:a9 w w'):SI w0 w' F N Xa B m v vn xs ns:=⟨h.l.h x,h.n.h x,h.k.h x,h.o.h x,h.t.h x,h.hF,h.hK,h.hN,c8 h.hB x.size⟩
theorem SI.own(h:SI w0 w F N Xa B m v vn xs ns):SI w w F N Xa B m v vn xs ns:=⟨h.l,h.n,h.k,h.o,.refl _ _ _,h.hF,h.hK,h.hN,h.hB⟩
theorem SI.from(h:SI w0 w F N Xa B m v vn xs ns){W:Wd}(t:Tv B S3 W w0):SI W w F N Xa B m v vn xs ns:=⟨h.l,h.n,h.k,h.o,t.trans h.t,h.hF,h.hK,h.hN,h.hB⟩
theorem SI.note(a:SI w0 w F N Xa B m v vn xs ns){v':Va}{e:List i0}(f:b9 w' Xa 41 #[v'])(h:e4 w' B 73 g6 v' e)(b:MV (jY Xa vn) w (jY Xa v') w'):SI w0 w' F N Xa B m v v' xs e:=by
 have d:∀{g:Nat}{cs:Array Va},b9 w g 36 cs→b9 w' g 36 cs:=fun k=>b.blk k fun c=>by
  rcases c with rfl|c
  ·exact k.ne a.k (by decide) rfl
  ·exact a.o.ne k (by decide) c
 have i:Tv B [41,73] w w':= .ofBx a.k a.o b (a7 _) a.hK (by decide) (by decide);exact⟨⟨d a.l.b,i.own a.l.o (by decide)⟩,d a.n,f,h,a.t.trans (.ofBx a.k a.o b (a7 _) a.hK (by decide) (by decide)),a.hF,a.hK,a.hN,c8 a.hB b.size⟩
theorem SI.put(a:SI w0 w F N Xa B m v vn xs ns){v':Va}{ys:List o8}(b:e4 w B 144 p5 v' ys):SI w0 ((w.setCell ⟨F,0,J⟩ (I U8 m)).setCell ⟨F,1,J⟩ v') F N Xa B m v' vn ys ns:=by
 have k0:Xa≠F:=fun e=>by have:=a.k;rw[e]at this;exact this.ne a.l.b (by decide) rfl
 have b1:=a.l.b.f 0 (I U8 m);exact⟨L7.put a.l.b b,(a.n.far (p:=⟨F,0,J⟩) a.hN.symm _).far (p:=⟨F,1,J⟩) a.hN.symm _,(a.k.far (p:=⟨F,0,J⟩) k0 _).far (p:=⟨F,1,J⟩) k0 _,
  (a.o.kept (x4 _ F 0 _) (.inr (a.o.ne a.l.b (by decide)))).kept (x4 _ F 1 _) (.inr (a.o.ne a.l.b (by decide))),
  (a.t.trans (.r a.l.b a.hF (by decide) 0 _)).trans (.r b1 a.hF (by decide) 1 _),a.hF,a.hK,a.hN,by simpa using a.hB⟩
theorem SI.far(a:SI w0 w F N Xa B m v vn xs ns){g:Nat}{t:Ti}{cs:Array Va}(k:b9 w g t cs)(c:t≠36)(f:t≠41)(h:t≠73)(j:t≠144)(q:w0≤g)(i:Nat)(u:Va):SI w0 (w.setCell ⟨g,i,J⟩ u) F N Xa B m v vn xs ns:=
 ⟨⟨a.l.b.far (p:=⟨g,i,J⟩) (fun e=>by subst e;exact k.ne a.l.b c rfl) u,a.l.o.kept (x4 _ g i u) (.inr (a.l.o.ne k (Ne.symm j)))⟩,a.n.far (p:=⟨g,i,J⟩) (fun e=>by subst e;exact k.ne a.n c rfl) u,a.k.far (p:=⟨g,i,J⟩) (fun e=>by subst e;exact k.ne a.k f rfl) u,
  a.o.kept (x4 _ g i u) (.inr (a.o.ne k (Ne.symm h))),⟨a.t.os,a.t.tape,a.t.output,by simpa using a.t.size,fun b o d l=>by
   have n:=(Array.getElem?_eq_some_iff.1 d).1;rw[(x4 w g i u).block b (Nat.lt_of_lt_of_le n a.t.size) (fun e=>by cases e;omega)];exact a.t.keep b o d l⟩,a.hF,a.hK,a.hN,by simpa using a.hB⟩
end
theorem ixA(aa:Wd):(Instr.index 422 (Ag #[O Bt,O Bf,O Bf,O Bt]) (I U8 0)).run prog aa= .ok (Ag #[O Bt,O Bf]) aa:=by kernel_rfl
theorem ixB(aa:Wd):(Instr.index 422 (Ag #[O Bt,O Bf,O Bf,O Bt]) (I U8 1)).run prog aa= .ok (Ag #[O Bf,O Bt]) aa:=by kernel_rfl
theorem ixC(aa:Wd)(a b:Bool):(Instr.index 421 (Ag #[O a,O b]) (I M 0)).run prog aa= .ok (O a) aa:=by kernel_rfl
theorem ixD(aa:Wd)(a b:Bool):(Instr.index 421 (Ag #[O a,O b]) (I M 1)).run prog aa= .ok (O b) aa:=by kernel_rfl
theorem CE(m:Int)(fi:0≤m)(ap:Option Ad)(c:Nat)(xs:List o8)(s:ByteArray)(H:Bool)(w:Wd)(jm:s.size≤100000)(jh:xs.length≤100000)(fm:h9 w ap (p5.row xs))(fj:∀a,ap=So a→a.spot=J):
  Ca prog 224 #[.agg #[I U8 m,Z ap xs.length c],Y s,O H] w fun e w'=>∃v vn,e=X (Tp #[.agg #[I U8 (J3 m xs s H).1,v],vn])∧e4 w' w 144 p5 v (J3 m xs s H).2.1∧e4 w' w 73 g6 vn (J3 m xs s H).2.2∧a9 w w':=by
 obtain⟨an,br⟩:∃an,an=(w.alloc (U #[I U8 m,Z ap xs.length c] 36)).alloc (U #[I U8 0,Z J 0 0] 36):=⟨_,rfl⟩;have ec:a9 w an:=by rw[br];exact((a9.refl w).alloc _).alloc _
 have fc:b9 an w 36 #[I U8 m,Z ap xs.length c]:=by rw[br];exact(b9.new w _ _).alloc _
 have fe:b9 an (w+1) 36 #[I U8 0,Z J 0 0]:=by rw[br];exact b9.b (by simp)
 have ed:an=w.heap.size+2:=by rw[br];simp
 have cy:=a6 (gU m ap c xs an (by omega) (fm.h ec) fj);have key:∀P v,e4 P (w+2) 144 p5 v xs→a9 an P→
   L7 ((P.setCell ⟨w,0,J⟩ (I U8 m)).setCell ⟨w,1,J⟩ v) w w m v xs∧b9 ((P.setCell ⟨w,0,J⟩ (I U8 m)).setCell ⟨w,1,J⟩ v) (w+1) 36 #[I U8 0,Z J 0 0]∧a9 w ((P.setCell ⟨w,0,J⟩ (I U8 m)).setCell ⟨w,1,J⟩ v)∧b9 P w 36 #[I U8 m,Z ap xs.length c]:=fun P v bu eb=>by
  have fd:=fc.h eb;have ew:=L7.put (m:=m) fd bu;exact⟨⟨ew.b,ew.o.mono (by omega)⟩,((fe.h eb).far (by simp) _).far (by simp) _,((ec.trans eb).set (p:=⟨w,0,J⟩) (a7 _) _).set (p:=⟨w,1,J⟩) (a7 _) _,fd⟩
 have em:=a6 key;obtain⟨R,ck⟩:∃R,R=J3 m xs s H:=⟨_,rfl⟩;rw[←ck];unfold J3 at ck;obtain⟨ev,bm⟩:=i6 ed ck;rw[ed]at cy;clear fm ec fc fe ed key fj ck;subst br;go_in;go_wp2_with fail
 apply cy.mono;rintro e P⟨v,rfl,bu,fx⟩;obtain⟨cj,fn,bs,ci⟩:=em P v bu fx;have jn:w+2≤P.heap.size:=by rw[←ev.out];exact fx.size
 clear ev cy;obtain⟨aw,bc,rfl⟩:=bu.b;obtain⟨hz,y⟩:=ci.c2;have hn:=ci.frozen 0;have dq:=ci.frozen 1;obtain⟨ia,ib⟩:=cj.b.c2;obtain⟨cc,cd,ce,bk⟩:=J5 cj fn bs (fun W(hr:a9 ((P.setCell ⟨w,0,J⟩ (I U8 m)).setCell ⟨w,1,J⟩ (Z aw xs.length bc)) W)=>jC m fi aw xs.length bc xs W rfl (by omega) (cj.o.h hr).i.1);clear bu cj fn bs ci em;have A:=bm.out;clear bm;rcases bd:bO m xs with _|_
 ·rw[bd]at A bk
  have D:=a6 (show R=(m,xs,[])from A);clear A bd;go_wp2_with fail
  apply(bk _ (a9.refl _)).mono;rintro e o⟨rfl,t⟩;have gg:=(cc.h t).b;obtain⟨ct,cu⟩:=gg.c2;have E:=cd.h t;obtain⟨eh,im⟩:=E.c2;have io:=E.frozen 0;have ip:=E.frozen 1;have al:=L7.put (m:=m) E (cc.h t).o;have am:=((ce.trans t).set (p:=⟨w+1,0,J⟩) (Nat.le_succ _) (I U8 m)).set (p:=⟨w+1,1,J⟩) (Nat.le_succ _) (Z aw xs.length bc);obtain⟨aj,bj⟩:=i6 al am;clear al am gg E;go_wp2_with fail
  exact Bp (h7 rfl _ _ _ _ _ _ rfl aj.b underlying36 rfl (by kernel_rfl)) rfl ⟨_,_,by rw[D.out],by rw[D.out];exact aj.o,by rw[D.out];exact e4.nil _ _ _ _,bj.out⟩
 ·have ht:=bd
  rw[bd]at A bk;rw[if_pos rfl]at A;have et:=a6 (R9 s (by omega));have jp:=C9 s;by_cases cp:(o6 s).length=0
  ·rw[if_pos cp]at A
   obtain⟨D,hf⟩:=i6 A cp;clear A bd;generalize o6 s=l at*;go_wp2_with fail
   apply(bk _ (a9.refl _)).mono;rintro e o⟨rfl,t⟩;go_wp2_with fail
   apply(et _).mono;rintro e eg⟨u,rfl,bv,bw⟩;obtain⟨gq,hh,rfl⟩:=bv.b;have E:=cd.h (t.trans bw);obtain⟨eh,im⟩:=E.c2;have io:=E.frozen 0;have ip:=E.frozen 1;have hx:((l.length:Int)==0)=Bt:=by rw[hf.out];rfl
   have al:=L7.put (m:=0) E (e4.nil eg w 144 p5);have am:=((ce.trans (t.trans bw)).set (p:=⟨w+1,0,J⟩) (Nat.le_succ _) (I U8 0)).set (p:=⟨w+1,1,J⟩) (Nat.le_succ _) (Z J 0 0);obtain⟨aj,bj⟩:=i6 al am;clear al am E bv;go_wp2_with fail
   exact Bp (h7 rfl _ _ _ _ _ _ rfl aj.b underlying36 rfl (by kernel_rfl)) rfl ⟨_,_,by rw[D.out],by rw[D.out];exact aj.o,by rw[D.out];exact e4.nil _ _ _ _,bj.out⟩
  ·rw[if_neg cp]at A
   have hx:(((o6 s).length:Int)==0)=Bf:=beq_eq_false_iff_ne.2 (by omega);clear bd;have es:=a6 (kB s);have hv:=H7 s;generalize l6 s=ij at*;obtain⟨rs,h⟩:=ij;dsimp only at A es hv;have hc:=a6 (R9 rs (by omega));have jo:=C9 rs;have hw:=yO rs;generalize o6 rs=l at*;have fq:bO m xs=Bt→dH m h=1∨dH m h=2:=fun aa=>by
    unfold bO at aa;unfold dH;split at aa
    ·cases aa
    ·by_cases ab:m=0
     ·rw[if_pos ab];cases h
      ·exact .inl rfl
      ·exact .inr rfl
     ·rw[if_neg ab];omega
   have da:=a6 (fq ht);clear fq cp;have bm:=a6 A;clear A;go_wp2_with fail
   apply(bk _ (a9.refl _)).mono;rintro e o⟨rfl,t⟩;go_wp2_with fail
   apply(et _).mono;rintro e eg⟨u,rfl,bv,bw⟩;obtain⟨gq,hh,rfl⟩:=bv.b;have fy:=t.trans bw;have di:=a6 fy;clear bv t bw fy
   go_upto_if 37 with(go_at_call 230;apply(es _).mono;rintro e gk⟨rfl,bf⟩)
   go_cut [10] (fun ic ag=>ic=I M (if h then 1 else 0)∧a9 eg ag)
   case first=>
    cases h;all_goals
     go_wp2_with fail
     go_meet
     exact⟨rfl,bf⟩
   case rest=>
    obtain⟨rfl,cq⟩:=hcut;clear bf;have cf:=cc.h (di.trans cq);have ex:=cd.h (di.trans cq);have fa:=ce.trans (di.trans cq);have ct:=cf.b.cell 0;have cu:=cf.b.frozen 0;obtain⟨ay,az,dj⟩:=p7 cf ex fa;clear cf ex fa cq;obtain⟨gm,dz⟩:∃gm:Int,gm=if h then 1 else 0:=⟨_,rfl⟩
    have eu:=a6 dz;rw[←dz];clear dz
    go_upto_if 40 with fail
    go_cut [] (fun ag=>L7 ag w w (dH m h) (Z aw xs.length bc) xs∧b9 ag (w+1) 36 #[I U8 0,Z J 0 0]∧a9 w ag)
    case first=>
     by_cases ab:m=0
     ·subst ab
      have be:=eu.out;cases h;all_goals
       simp only[a4x,if_false,if_true]at be;subst be;go_wp2_with fail
       go_meet
       exact⟨⟨ay.b.f 0 _,ay.o.kept (x4 _ w 0 _) (.inr (ay.o.ne ay.b (by decide)))⟩,az.far (p:=⟨w,0,J⟩) (by simp) _,dj.set (p:=⟨w,0,J⟩) (a7 _) _⟩
     ·have je:(m==0)=Bf:=beq_eq_false_iff_ne.2 ab
      have fs:dH m h=m:=if_neg ab;have gw:=a6 fs;clear fs ab;go_wp2_with fail
      go_meet
      exact⟨by rw[gw.out];exact ay.out,az.out,dj.out⟩
    case rest=>
     obtain⟨dl,ey,fb⟩:=hcut;clear ct cu ay az dj;generalize dH m h=b at*;have ct:=dl.b.cell 0;obtain⟨eo,ba,dk⟩:=p7 dl ey fb;clear dl ey fb;go_wp2_with fail
     apply(hc _).mono;rintro e bi⟨jz,rfl,dw,bg⟩;obtain⟨it,jd,rfl⟩:=dw.b;have he:=a6 dw;have fz:w≤wc.heap.size:=dk.size;have ds:SI bi bi w (w+1) wc w b (Z aw xs.length bc) (Z J 0 0) xs []:=
      ⟨(eo.h (((a9.refl wc).alloc _).trans bg)),ba.h (((a9.refl wc).alloc _).trans bg),(b9.new _ _ _).h bg,e4.nil _ _ _ _,.refl _ _ _,a7 _,fz,by omega,c8 fz (((a9.refl wc).alloc _).trans bg).size⟩
     obtain⟨hg,er⟩:=i6 (dk.trans (((a9.refl wc).alloc (U #[Z J 0 0] 41)).trans bg)) ds;generalize wc.heap.size=Xa at*;generalize(Z aw xs.length bc:Va)=v0 at ds er;clear dw ds ct eo ba dk bg cc cd ce ia ib hz y hn dq;obtain⟨σ,bx⟩:∃σ:Nat→List o8×List i0,σ=fun k=>(l.take k).foldl (rY b h H) (xs,[]):=⟨_,rfl⟩
     have gf:∀k(dt:k<l.length),σ (k+1)=rY b h H (σ k) l[k]:=fun k dt=>by rw[bx];simp only;rw[a4a dt,List.foldl_append];rfl
     have gc:∀k,(σ k).1.length≤100000∧(σ k).2.length≤k:=fun k=>by
      have aa:=kC b h H (l.take k) (xs,[]);rw[bx];simp only[a4C,List.length_nil]at aa⊢;omega
     have ga:σ 0=(xs,[]):=by rw[bx];rfl
     have gd:R=(b,σ l.length):=by rw[bm.out,bx];simp only[List.take_length]
     obtain⟨dh,df,de,dg⟩:=J5 gf gc ga gd;clear bx gf gc ga gd bm;go_wp2_with fail
     go_loopg [48] l.length (fun dr ig wr=>∃(k:Nat)(v' il:Va),k≤l.length∧l.length-k≤dr∧ig=I M k∧SI bi wr w (w+1) Xa w b v' il (σ k).1 (σ k).2)
     case atStart=>exact⟨0,v0,_,i5 _,by omega,rfl,by rw[de.out];exact er.out⟩
     case round=>
      obtain⟨k,v,vn,dt,jj,rfl,g⟩:=hrel;by_cases du:k<l.length
      ·have ea:=g.t.own he (by decide)
       obtain⟨hq,jc,iv,rfl,-,-,-,-,-,-,-⟩:=ea.blk (by omega);have iz:wr.cell? ⟨hq,k,J⟩=So (Y l[k]):=by
        have:=ea.i.1.elt0 du (r:=0) rfl;rwa[show k*F9.k+0=k from Nat.mul_one k]at this
       have i:=dh k du;unfold rY at i;have jq:=hw l[k] (a30 du);have hu:=df k;generalize l[k]=ac at*;generalize σ k=gp at*;obtain⟨ad,bh⟩:=gp;dsimp only at i hu g;obtain⟨ep,db⟩:=i6 (a0k ac (by omega)) (CG (J6 ac).1.name);have fr:=OC (J6 ac).1.name;generalize J6 ac=r at*;obtain⟨⟨nm,ar,bt⟩,dp⟩:=r;dsimp only[ZT.val]at i ep db fr;generalize aL nm=q at*;obtain⟨f,dn⟩:=q;dsimp only at i db fr;obtain⟨ek,gu⟩:=i6 g (b9.new wr 9 #[Y ac]);have jw:(k:Int)<l.length:=by omega
       clear ea g;go_wp2_with fail
       apply(ep _).mono;rintro e o⟨rfl,t⟩;obtain⟨ax,cw,cz⟩:=p7 (ek.h ((((a9.refl wr).alloc (U #[Y ac] 9)).trans t).alloc (U #[Y nm,I V ar,O bt] 416))) ((gu.h t).alloc (U #[Y nm,I V ar,O bt] 416)) (b9.new o 416 #[Y nm,I V ar,O bt]);by_cases cn:dp=0
       ·subst cn
        rw[if_pos rfl]at i;have cu:=cz.cell 0;go_wp2_with fail
        apply(db _).mono;rintro e gk⟨ka,rfl,dv,bf⟩;obtain⟨ei,ff,rfl⟩:=dv.b;obtain⟨ah,cx,ej,az⟩:=J5 (ax.h bf) (cw.h bf) (cz.h bf) dv;clear ax cw cz dv;by_cases cm:dn=0
        ·subst cm
         rw[if_pos rfl]at i;have eh:=ah.l.b.cell 0;have fv:IntKind.u8.wrap (b-1)=b-1:=by rcases da.out with rfl|rfl<;>rfl
         have hb:=a6 fv;have hs:bi≤o.heap.size:=c8 ek.t.size (((a9.refl wr).alloc (U #[Y ac] 9)).trans t).size;clear fv;go_wp2_with fail
         refine e7 rfl [.is (.agg #[O Bt,O Bf,O Bf,O Bt]),.is ?Aj,.is (I U8 b),.is (I U8 (b-1)),.is (.agg #[O (nB b Bf),O (nB b Bt)]),.is ?Ak,.is (O (nB b h)),.is (O (nB b h))] (by kernel_rfl) ?Al ?Aa ⟨?Ab,?Ac,?Ad,?Ae,?Af,?Ag,?Ah,?Ai,trivial⟩ ?Am
         case Aa=>intro x;simp only[e6,Act.put,uL,l9]<;>rfl
         case Ab|Ac|Ad|Ae|Ag|Ai=>
          intro x Q ao;simp only[e5,j8,uV];repeat(intro d;try simp only[d])
          have fi:=(ah.h ao).l.b.cell 0;have kc:=hb.out;go_wp2_with(go_at_call 311;apply(a1I Q).mono;rintro e gl⟨rfl,av⟩)
          refine a0e ?_ rfl (by first|exact av|exact a9.refl _);rfl
         case Af=>
          intro x Q ao;simp only[e5,j8,uV];intro bn bo;simp only[bn,bo]
          (refine da.elim (fun aa=> ?_) (fun aa=> ?_))<;>(have jr:=ixA Q;have js:=ixB Q;rw[aa];go_wp2_with fail;refine a0e ?_ rfl (a9.refl _);rfl)
         case Ah=>
          intro x Q ao;simp only[e5,j8,uV];intro bp bq;simp only[bp,bq]
          (refine(Bool.eq_false_or_eq_true h).elim (fun fw=> ?_) (fun fw=> ?_))<;>(have be:=eu.out;rw[fw]at be⊢;simp only[a4x,if_false,if_true]at be;rw[be];have jt:=ixC Q (nB b Bf) (nB b Bt);have ju:=ixD Q (nB b Bf) (nB b Bt);go_wp2_with fail;refine a0e ?_ rfl (a9.refl _);rfl)
         intro x Q ao;simp only[l8,e5,j8,uV];intro bn cg ch bo bp bq fg fh;simp only[bn,cg,ch,bo,bp,bq,fg,fh];clear bn cg ch bo bp bq fg fh;obtain⟨ae,gs,cb,ba⟩:=J5 (ah.h ao) (cx.h ao) (ej.h ao) (az.h ao);clear ah cx ej az;clear cu eh;obtain⟨ir,iq⟩:=cb.d2 2 1
         go_upto_block 2 with fail
         go_cut [18] (fun ie ag=>∃(inn:Bool)(cs:Va)(S:Int)(cr:List i0),ie=O inn∧SI bi ag w (w+1) Xa w b v cs ad cr∧b9 ag o 416 #[Y nm,I V S,O bt]∧e4 ag o 9 F9 (Z ei f.length ff) f∧σ (k+1)=(f.foldl (hQ b inn S) ad,cr))
         case first=>
          rcases bt with _|_
          ·rw[if_neg (by decide)]at i
           have ak:=a6 i;clear i;go_wp2_with fail
           go_meet
           exact⟨nB b h,vn,ar,bh,rfl,ae.out,cb.out,ba.mono (by simp),ak.out⟩
          ·rw[if_pos rfl]at i
           have bb:=a6 (lB ae.k gs ae.o ae.hB (by omega) 161);have key:(!H|| !h)=Bt→∀z L,b9 z Xa 41 #[L]→e4 z w 73 g6 L (bh++[tO 161 ac])→MV (jY Xa vn) Q (jY Xa L) z→b9 z o 416 #[Y nm,I V ar,O Bt]∧
             SI bi (z.setCell ⟨o,1,J⟩ (I V 0)) w (w+1) Xa w b v L ad (bh++[tO 161 ac])∧b9 (z.setCell ⟨o,1,J⟩ (I V 0)) o 416 #[Y nm,I V 0,O Bt]∧e4 (z.setCell ⟨o,1,J⟩ (I V 0)) o 9 F9 (Z ei f.length ff) f∧σ (k+1)=(f.foldl (hQ b (nB b h) 0) ad,bh++[tO 161 ac]):=fun dy z L y G C=>by
            have gj:Tv w S3 Q z:= .ofBx ae.k ae.o C (a7 _) ae.hK (by decide) (by decide);have T:=gj.blk cb (.inr (by decide));have gh:=(gj.own ba (by decide)).mono (b2:=o) (by simp);have ih:=ae.note y G C;exact⟨T,ih.far T (by decide) (by decide) (by decide) (by decide) hs 1 _,T.f 1 _,gh.kept (x4 _ o 1 _) (.inr (gh.ne T (by decide))),by rw[i,if_pos dy]⟩
           have en:=a6 key;have ft:(!H|| !h)=Bf→σ (k+1)=(f.foldl (hQ b Bt ar) ad,bh):=fun dy=>by rw[i,if_neg (by rw[dy];decide)]
           have gz:=a6 ft;clear i key ft;clear dh df de dg;cases H
           rotate_left
           ·cases h
            rotate_left
            ·have bl:=a6 (gz rfl)
             go_wp2_with fail
             go_meet
             exact⟨Bt,vn,ar,bh,rfl,ae.out,cb.out,ba.mono (by simp),bl.out⟩
            ·have bl:=a6 (en rfl)
             go_wp2_with fail
             apply bb.mono;rintro e z⟨rfl,L,y,G,C⟩;obtain⟨T,bz,ee,ef,ca⟩:=bl z L y G C;have dq:=T.cell 1;have ho:=T.frozen 1;obtain⟨aq,dc⟩:=i6 bz ca;clear bz ca y G C;go_wp2_with fail
             go_meet
             exact⟨_,L,0,_,rfl,aq.out,ee,ef,dc.out⟩
           ·have bl:=a6 (en rfl)
            go_wp2_with fail
            apply bb.mono;rintro e z⟨rfl,L,y,G,C⟩;obtain⟨T,bz,ee,ef,ca⟩:=bl z L y G C;have dq:=T.cell 1;have ho:=T.frozen 1;obtain⟨aq,dc⟩:=i6 bz ca;clear bz ca y G C;go_wp2_with fail
            go_meet
            exact⟨_,L,0,_,rfl,aq.out,ee,ef,dc.out⟩
         case rest=>
          obtain⟨inn,cs,S,cr,rfl,fl,fk,fo,fu⟩:=hcut;clear iq ir i;obtain⟨el,gv,gx,ha⟩:=J5 fl fk fo fu;have ab:0≤b:=by rcases da.out with aa|aa<;>omega
          clear fl fk fo fu;go_wp2_with fail
          go_loopg [97] f.length (fun dr ii mV=>∃(j:Nat)(v':Va),j≤f.length∧f.length-j≤dr∧ii=I M j∧SI wc mV w (w+1) Xa w b v' cs ((f.take j).foldl (hQ b inn S) ad) cr)
          case atStart=>exact⟨0,v,i5 _,by omega,rfl,el.own⟩
          case round=>
           obtain⟨j,v',jl,jk,rfl,n⟩:=hrel;by_cases fp:j<f.length
           ·have co:=n.t.own gx (by decide)
            obtain⟨hp,jb,iu,rfl,-,-,-,-,-,-,-⟩:=co.blk (by omega);have bn:wr.cell? ⟨hp,j,J⟩=So (Y f[j]):=by
             have:=co.i.1.elt0 fp (r:=0) rfl;rwa[show j*F9.k+0=j from Nat.mul_one j]at this
            have ji:=lL b inn S (f.take j) ad;have dx:(f.take (j+1)).foldl (hQ b inn S) ad=hQ b inn S ((f.take j).foldl (hQ b inn S) ad) f[j]:=by rw[a4a fp,List.foldl_append];rfl
            generalize f[j]=gn at*;generalize(f.take j).foldl (hQ b inn S) ad=ys at*;have cg:=(n.t.blk gv (.inr (by decide))).cell 1;obtain⟨ch,bo⟩:=n.l.b.c2;have bp:=n.l.b.frozen 0;have bq:=n.l.b.frozen 1;obtain⟨cv,dm,rfl⟩:=n.l.o.b;obtain⟨ai,ak⟩:=i6 n dx;have jv:(j:Int)<f.length:=by omega
            cases inn
            ·have dd:=a6 (XL b ab cv dm ys gn wr (by omega) n.l.o.i.1 n.l.o.spot)
             clear co n dx;go_wp2_with fail
             apply dd.mono;rintro e gl⟨ik,rfl,au,av⟩;have aq:=a6 ((ai.h av).put (au.mono ai.hB));have af:=(ai.h av).l.b;obtain⟨hj,hk⟩:=af.c2;have hl:=af.frozen 0;have hm:=af.frozen 1;obtain⟨gr,hy,hi,rfl⟩:=au.f;clear au af;go_wp2_with fail
             go_roundg (f.length-(j+1))
             case measure=>omega
             case rel=>exact⟨j+1,_,by omega,by omega,by go_num,by rw[ak.out];exact aq.out⟩
            ·have dd:=a6 (a1H b ab cv dm ys gn S wr (by omega) n.l.o.i.1 n.l.o.spot)
             clear co n dx;go_wp2_with fail
             apply dd.mono;rintro e gl⟨ik,rfl,au,av⟩;have aq:=a6 ((ai.h av).put (au.mono ai.hB));have af:=(ai.h av).l.b;obtain⟨hj,hk⟩:=af.c2;have hl:=af.frozen 0;have hm:=af.frozen 1;obtain⟨gr,hy,hi,rfl⟩:=au.f;clear au af;go_wp2_with fail
             go_roundg (f.length-(j+1))
             case measure=>omega
             case rel=>exact⟨j+1,_,by omega,by omega,by go_num,by rw[ak.out];exact aq.out⟩
           ·obtain rfl:j=f.length:=by omega
            rw[List.take_length]at n;have ai:=a6 (n.from el.t);clear n;go_wp2_with fail
            go_roundg (l.length-(k+1))
            case measure=>omega
            case rel=>exact⟨k+1,v',cs,by omega,by omega,by go_num,by rw[ha.out];exact ai.out⟩
        ·rw[if_neg cm]at i
         have ch:(dn !=0)=Bt:=by simp[cm]
         obtain⟨ak,bb⟩:=i6 i (lB ah.k cx ah.o ah.hB (by omega) dn);clear i cm;go_wp2_with fail
         apply bb.mono;rintro e kb⟨rfl,v',y,G,C⟩;go_wp2_with fail
         go_roundg (l.length-(k+1))
         case measure=>omega
         case rel=>exact⟨k+1,v,v',by omega,by omega,by go_num,by rw[ak.out];exact ah.note y G C⟩
       ·rw[if_neg cn]at i
        have cg:(dp !=0)=Bt:=by simp[cn]
        obtain⟨ak,bb⟩:=i6 i (lB ax.k cw ax.o ax.hB (by omega) dp);clear i cn;go_wp2_with fail
        apply bb.mono;rintro e gk⟨rfl,v',y,G,C⟩;go_wp2_with fail
        go_roundg (l.length-(k+1))
        case measure=>omega
        case rel=>exact⟨k+1,v,v',by omega,by omega,by go_num,by rw[ak.out];exact ax.note y G C⟩
      ·obtain rfl:k=l.length:=by omega
       have gb:=dg.out;generalize σ l.length=gp at*;have D:=a6 gb;obtain⟨iw,b1⟩:=g.l.b.c2;have b2:=g.k.cell 0;obtain⟨b3,b4⟩:=g.n.c2;have ix:=g.n.frozen 0;have iy:=g.n.frozen 1;have bs:=g.t.b hg (a7 _);have jg:Xa≠w+1:=fun e=>by have k:=g.k;rw[e]at k;exact k.ne g.n (by decide) rfl
       have jf:w≠w.heap.size+1:=by omega
       have al:=L7.put (m:=b) g.n g.l.o;have ez:=(g.o.kept (x4 _ (w+1) 0 (I U8 b)) (.inr (g.o.ne g.n (by decide)))).kept (x4 _ (w+1) 1 v) (.inr (g.o.ne g.n (by decide)));have am:=(bs.set (p:=⟨w+1,0,J⟩) (Nat.le_succ _) (I U8 b)).set (p:=⟨w+1,1,J⟩) (Nat.le_succ _) v;obtain⟨cv,jy,dm,rfl⟩:=g.l.o.f;obtain⟨Ak,jx,ja,rfl⟩:=g.o.f;obtain⟨aj,gy,bj⟩:=p7 al ez am;clear al ez am bs g gb dg dh df de;go_wp2_with fail
       go_region
       all_goals
        go_wp2_with fail
        exact Bp (h7 rfl _ _ _ _ _ _ rfl aj.b.drew underlying36 rfl (by kernel_rfl)) rfl ⟨_,_,by rw[D.out],by rw[D.out];exact aj.o.h (a9.refl _).drew,by rw[D.out];exact gy.h (a9.refl _).drew,bj.drew⟩
end
def V7:p6 Int:=⟨1,fun x=>[I M x],fun _=>rfl,by simp[Value.oneCell']⟩
def N4:p6 Int:=⟨1,fun x=>[I V x],fun _=>rfl,by simp[Value.oneCell']⟩
theorem a3X:mU prog 33 3 (I M 0) 1 8:=⟨underlying33,by kernel_rfl,rfl,by decide,by decide⟩
theorem a0o:mU prog 37 26 (I V 0) 1 4:=⟨underlying37,by kernel_rfl,rfl,by decide,by decide⟩
structure i1 where
 ar:List Int
 fm:Int
 fc:List o8
 dy:Int
 lm:Int
 lc:List o8
 fa:List Int
 am:Int
 sp:Int
 we:Bool
 pe:Bool
 rt:Bool
 np:Bool
def i4(p:i1)(a b c d:Va):Array Va:= #[a,I U8 p.fm,b,I V p.dy,I U8 p.lm,c,d,I U8 p.am,I U6 p.sp,O p.we,O p.pe,O p.rt,O p.np]
def LH{d:Type}(w:Wd)(E:p6 d)(v:Va)(xs:List d):Prop:=∃b c,v=Z b xs.length c∧h9 w b (E.row xs)∧∀a,b=So a→a.spot=J
theorem LH.h{b:Type}{w a:Wd}{E:p6 b}{v:Va}{xs:List b}(d:LH w E v xs)(x:a9 w a):LH a E v xs:=let⟨A,c,e,m,s⟩:=d;⟨A,c,e,m.h x,s⟩
theorem e4.rd{b:Type}{w:Wd}{base:Nat}{e:Ti}{E:p6 b}{v:Va}{xs:List b}(a:e4 w base e E v xs):LH w E v xs:=by
 obtain⟨d,c,rfl⟩:=a.b;exact⟨d,c,rfl,a.i.1,a.spot⟩
theorem e4.low{c:Type}{w:Wd}{base:Nat}{e:Ti}{E:p6 c}{v:Va}{xs:List c}(a:e4 w base e E v xs){b:Nat}(d:b<base)(i:Nat)(u:Va):e4 (w.setCell ⟨b,i,J⟩ u) base e E v xs:=
 a.kept (x4 _ b i u) (.inr fun e=>by have:=(a.lt e).1;omega)
structure R3(w:Wd)(p:i1)(va vf vl vm:Va):Prop where
 a:LH w V7 va p.ar
 f:LH w p5 vf p.fc
 l:LH w p5 vl p.lc
 m:LH w N4 vm p.fa
structure r6(w:Wd)(base:Nat)(p:i1)(va vf vl vm:Va):Prop where
 a:e4 w base 3 V7 va p.ar
 f:e4 w base 144 p5 vf p.fc
 l:e4 w base 144 p5 vl p.lc
 m:e4 w base 26 N4 vm p.fa
structure i1.small(p:i1):Prop where
 a:p.ar.length≤100000
 f:p.fc.length≤100000
 l:p.lc.length≤100000
 m:p.fa.length≤100000
theorem r6.rd{w:Wd}{base:Nat}{p:i1}{b c d e:Va}(a:r6 w base p b c d e):R3 w p b c d e:=⟨a.a.rd,a.f.rd,a.l.rd,a.m.rd⟩
theorem r6.h{w f:Wd}{base:Nat}{p:i1}{b c d e:Va}(a:r6 w base p b c d e)(x:a9 w f):r6 f base p b c d e:=⟨a.a.h x,a.f.h x,a.l.h x,a.m.h x⟩
theorem R3.h{w f:Wd}{p:i1}{b c d e:Va}(a:R3 w p b c d e)(x:a9 w f):R3 f p b c d e:=⟨a.a.h x,a.f.h x,a.l.h x,a.m.h x⟩
theorem HZ{P:Pg}{a:Go.Shelf.Ren}{f:Type}(h:SlLaysE0.n41 P a)(E:p6 f){z:Va}{b:Nat}(i:mU P (a.t 22) (a.t 23) z E.k b)(m:∀w,(Go.sizeOf (a.t 23)).run P w= .ok E.k w){v:Va}{xs:List f}{w:Wd}(l:xs.length≤1000000)(j:LH w E v xs):
  Ca P (a.f 41) #[v] w fun e d=>∃v,e=X v∧e4 d w (a.t 23) E v xs∧a9 w d:=by
 obtain⟨g,c,rfl,k,n⟩:=j;exact clE h E i m g c xs w l k
def CpS(i:FuncId):Prop:=∀(p:i1)(a b d g:Va)(w:Wd),p.small→R3 w p a b d g→Ca prog i #[Ag (i4 p a b d g)] w fun e h=>∃va' c f vm',e=X (Ag (i4 p va' c f vm'))∧r6 h w p va' c f vm'∧a9 w h
theorem tJ:CpS 112∧CpS 114:=by
 constructor<;>(
  intro p cb cc cd ce w x c;obtain⟨ba,bf,bg,bh⟩:=J5 (fun a(i:a9 w a)=>show Ca prog 164 #[cb] a _ from HZ WE V7 a3X sizeOf3 (by have:=x.a;omega) (c.a.h i)) (fun a(i:a9 w a)=>show Ca prog 166 #[cc] a _ from HZ wW p5 a15 sizeOf144 (by have:=x.f;omega) (c.f.h i)) (fun a(i:a9 w a)=>show Ca prog 166 #[cd] a _ from HZ wW p5 a15 sizeOf144 (by have:=x.l;omega) (c.l.h i)) (fun a(i:a9 w a)=>show Ca prog 165 #[ce] a _ from HZ WD N4 a0o sizeOf26 (by have:=x.m;omega) (c.m.h i));obtain⟨R,aa,rfl,-,-⟩:=c.a;obtain⟨S,ab,rfl,-,-⟩:=c.f;obtain⟨T,ac,rfl,-,-⟩:=c.l;obtain⟨W,ad,rfl,-,-⟩:=c.m;clear c x;obtain⟨ar,fm,fc,dy,lm,lc,fa,am,sp,we,pe,rt,np⟩:=p;dsimp only[i4]at*;have ae:∀H,b9 ((w.alloc (U #[Z R ar.length aa,I U8 fm,Z S fc.length ab,I V dy,I U8 lm,Z T lc.length ac,Z W fa.length ad,I U8 am,I U6 sp,O we,O pe,O rt,O np] 39)).alloc (U H 39)) w 39 #[Z R ar.length aa,I U8 fm,Z S fc.length ab,I V dy,I U8 lm,Z T lc.length ac,Z W fa.length ad,I U8 am,I U6 sp,O we,O pe,O rt,O np]:=fun H=>(b9.new w _ _).alloc _
  have ax:=fun H=>(ae H).cell 0
  have be:=a6 ae;clear ae;first
   |go_in
   |go_in
  go_wp2_with fail
  refine(ba _ (((a9.refl w).alloc _).alloc _)).mono ?_;rintro e db⟨cx,rfl,z,af⟩;have G:=(be _).h af;have av:=(((a9.refl w).alloc _).alloc _).trans af;have au:=(b9.b (w:=w.alloc (U #[Z R ar.length aa,I U8 fm,Z S fc.length ab,I V dy,I U8 lm,Z T lc.length ac,Z W fa.length ad,I U8 am,I U6 sp,O we,O pe,O rt,O np] 39)) (t:=39) (g:=w+1) (by simp)).h af;replace z:=z.mono (b2:=w+2) (by simp);obtain⟨F,P,L,rfl⟩:=z.f;have bu:=G.frozen 0;have ag:=G.f 0 (Z F P L);obtain⟨k1,bx⟩:=G.d2 6 0;obtain⟨bb,ak,bj,ao⟩:=J5 ag (au.far (p:=⟨w,0,J⟩) (by simp) (Z F P L)) (z.low (b:=w) (by omega) 0 (Z F P L)) (av.set (p:=⟨w,0,J⟩) (a7 _) (Z F P L));clear G ag av au z ax;go_wp2_with fail
  apply(bh _ ao.out).mono;rintro e dc⟨cy,rfl,A,Q⟩;have r:=bb.h Q;replace A:=A.mono (b2:=w+2) (by have:=(ak.out).lt;simp at this⊢;omega);obtain⟨q,y,u,rfl⟩:=A.f;have bv:=r.frozen 6;have bz:=r.cell 6;have ah:=r.f 6 (Z q y u);have k2:=r.cell 2;obtain⟨bc,al,bk,bn,ap⟩:=gP ah ((ak.h Q).far (p:=⟨w,6,J⟩) (by simp) (Z q y u)) (A.low (b:=w) (by omega) 6 (Z q y u)) ((bj.h Q).low (b:=w) (by omega) 6 (Z q y u)) ((ao.trans Q).set (p:=⟨w,6,J⟩) (a7 _) (Z q y u));clear r ah A k1 bu bx;go_wp2_with fail
  apply(bf _ ap.out).mono;rintro e dd⟨cz,rfl,B,D⟩;have s:=bc.h D;replace B:=B.mono (b2:=w+2) (by have:=(al.out).lt;simp at this⊢;omega);obtain⟨j,n,m,rfl⟩:=B.f;have bw:=s.frozen 2;have ca:=s.cell 2;have ai:=s.f 2 (Z j n m);have k3:=s.cell 5;obtain⟨bd,an,bl,bo,bq,aq⟩:=jX ai ((al.h D).far (p:=⟨w,2,J⟩) (by simp) (Z j n m)) (B.low (b:=w) (by omega) 2 (Z j n m)) ((bn.h D).low (b:=w) (by omega) 2 (Z j n m)) ((bk.h D).low (b:=w) (by omega) 2 (Z j n m)) ((ap.trans D).set (p:=⟨w,2,J⟩) (a7 _) (Z j n m));clear s ai B k2 bv bz;go_wp2_with fail
  apply(bg _ aq.out).mono;rintro e cf⟨da,rfl,C,o⟩;have l:=bd.h o;replace C:=C.mono (b2:=w+2) (by have:=(an.out).lt;simp at this⊢;omega);obtain⟨d,h,f,rfl⟩:=C.f;have ci:=l.frozen 5;have cj:=l.cell 5;have aj:=l.f 5 (Z d h f);obtain⟨ax,ck,cp,cq,cr,cs,ct,cu,cv⟩:=(l).c9;obtain⟨cw,cm,cn,co⟩:=(l).d4 9 10 11 12;obtain⟨ch,bi,bm,bp,br,bs⟩:=jX aj ((an.h o).far (p:=⟨w,5,J⟩) (by simp) (Z d h f)) (C.low (b:=w) (by omega) 5 (Z d h f)) ((bo.h o).low (b:=w) (by omega) 5 (Z d h f)) ((bq.h o).low (b:=w) (by omega) 5 (Z d h f)) ((bl.h o).low (b:=w) (by omega) 5 (Z d h f));have bt:=a6 ((aq.trans o).set (p:=⟨w,5,J⟩) (a7 _) (Z d h f));clear l aj C k3 bw ca;go_wp2_with(refine c7 rfl 39 (Tm 2) (Tm 23) rfl (w+1) _ _ _ rfl rfl bi rfl (by kernel_rfl) (by simp[Value.oneCell']) ?_;intro cg az aw)
  have N:∀{v:Va}{ay:Type}{e:Ti}{E:p6 ay}{xs:List ay},e4 ((cf.setCell ⟨w,5,J⟩ (Z d h f))) (w+2) e E v xs→e4 cg w e E v xs:=fun k=>(k.kept aw (.inr fun e=>by have:=(k.lt e).1;omega)).mono (by omega)
  exact Bp (g0 rfl _ _ _ _ _ _ rfl az underlying39 rfl (by kernel_rfl)) rfl ⟨_,_,_,_,rfl,⟨N bp.out,N bs.out,N bm.out,N br.out⟩,bt.f aw (fun k e=>by cases e;omega)⟩)
def Q6(s:ByteArray):Int×Int:=if s.toList==[]||s.toList==[107,105,108,108]then(2147483648,0)else if(O4 s).2=0 then(bits .or V 327680 (O4 s).1,0)else(0,(O4 s).2)
theorem XR(s:ByteArray)(m:s.size≤1000000)(W:Wd):Ca prog 163 #[Y s] W fun e o=>e=X (Tp #[I V (Q6 s).1,I M (Q6 s).2])∧a9 W o:=by
 have h:=a6 (JY s m);obtain⟨R,f⟩:∃R,R=Q6 s:=⟨_,rfl⟩;rw[←f];unfold Q6 at f;generalize O4 s=q at*;obtain⟨n,l⟩:=q;dsimp only at f h;have b:=a6 f;clear f;go_in;rcases i:s.toList==[]with _|_
 ·rcases k:s.toList==[107,105,108,108]with _|_
  ·have a:=b.out
   rw[i,k,if_neg (by decide)]at a;by_cases g:l=0
   ·subst g
    have c:=a6 (a.trans (if_pos rfl));clear a b;go_wp2_with fail
    apply(h _).mono;rintro e p⟨rfl,j⟩;go_wp2_with fail
    go_ret2
    exact⟨by rw[c.out];rfl,j⟩
   ·have c:=a6 (a.trans (if_neg g))
    have d:(l !=0)=Bt:=by simp[g]
    clear a b g;go_wp2_with fail
    apply(h _).mono;rintro e p⟨rfl,j⟩;go_wp2_with fail
    go_ret2
    exact⟨by rw[c.out];rfl,j⟩
  ·have a:=b.out
   rw[i,k,if_pos (by decide)]at a;have c:=a6 a;clear a b;go_wp2_with fail
   go_ret2
   exact⟨by rw[c.out];rfl,a9.refl _⟩
 ·have a:=b.out
  rw[i,if_pos (by simp)]at a;have c:=a6 a;clear a b;go_wp2_with fail
  go_ret2
  exact⟨by rw[c.out];rfl,a9.refl _⟩
section
def bA:p6 Sy:=⟨4,fun s=>[I U1 s.code,I V s.k,I M s.th,I M s.el],fun _=>rfl,by simp[Value.oneCell']⟩
theorem a56:mU prog 159 374 (Ag #[I U1 0,I V 0,I M 0,I M 0]) 4 24:=⟨underlying159,by kernel_rfl,rfl,by decide,by decide⟩
def W2:List Ti:=[288,374]
structure sN(w:Wd)(g base:Nat)(vl vt:Va)(rs:List Sy):Prop where
 b:b9 w g 288 #[vl,vt]
 o:e4 w base 374 bA vl rs
 hg:base≤g
 hs:base≤w
section
variable {w w':Wd} {g base:Nat} {vl vt:Va} {rs:List Sy}
theorem sN.h(h:sN w g base vl vt rs)(x:a9 w w'):sN w' g base vl vt rs:=⟨h.b.h x,h.o.h x,h.hg,c8 h.hs x.size⟩
end
theorem KZ{w:Wd}{g base:Nat}{vl vt:Va}{rs:List Sy}(b:sN w g base vl vt rs)(f:Option Ad)(n c:Nat)(xs:List Sy)(p:xs.length=n)(o:rs.length+n≤1000000)(m:h9 w f (bA.row xs)):
  Ca prog 254 #[K g,Z f n c] w fun e w'=>e=X (Tp #[])∧∃r,sN w' g base r vt (rs++xs)∧Tv base W2 w w':=by
 have t:=b.b.cell 0;have H:=a6 b;clear b;go_in;go_wp2_with(at_builtin;refine j3 rfl (Tm 8) (Tm 9) 159 374 rfl a56 base vl rs rfl H.o _ _ _ xs rfl p m o H.hs ?_;intro z s d y h x;have a:=H.b.grown h (fun e=>H.o.ne H.b (by decide) e.symm);have v:=a.frozen 0;have u:=a.cell 0;have i:Tv base W2 w s:= .ofOwn H.o h (a7 _) (by decide);obtain⟨k,q,l,rfl⟩:=d.f)
 go_end0
 have j:=Tv.r a H.hg (S:=W2) (by decide) 0 (Z k q l);exact⟨rfl,_,⟨a.f 0 _,d.kept (x4 _ g 0 _) (.inr (d.ne a (by decide))),H.hg,by have:=H.hs;have:=i.size;have:=j.size;omega⟩,i.trans j⟩
theorem rB{w W:Wd}{g base:Nat}{vl vt:Va}{rs:List Sy}(d:sN w g base vl vt rs)(s:Sy)(k:rs.length+1≤1000000)(c:a9 w W)(b:Nat)(i:b9 W b 374 #[I U1 s.code,I V s.k,I M s.th,I M s.el]):
  Ca prog 254 #[K g,Z b 1 1] W fun e w'=>e=X (Tp #[])∧∃a,sN w' g base a vt (rs++[s])∧Tv base W2 w w':=
 (KZ (d.h c) _ 1 1 [s] rfl k (h9.f i rfl)).mono fun e w'⟨j,a,f,h⟩=>⟨j,a,f,(Tv.f c).trans h⟩
theorem a1T{w:Wd}{g base:Nat}{vl vt:Va}{rs:List Sy}(b:sN w g base vl vt rs)(k:Int)(h:rs.length+1≤1000000):
  Ca prog 192 #[K g,I V k] w fun e w'=>e=X (Tp #[])∧∃a,sN w' g base a vt (rs++[⟨6,k,0,0⟩])∧Tv base W2 w w':=by
 have c:=a6 (rB b ⟨6,k,0,0⟩ h ((a9.refl w).alloc (U #[I U1 6,I V k,I M 0,I M 0] 374)) w (b9.new w _ _));clear b;go_in;go_wp2_with fail
 apply c.mono;rintro e i⟨rfl,a,d,f⟩;go_wp2_with fail
 go_end0
 exact⟨rfl,a,d,f⟩
theorem YL{w:Wd}{g base:Nat}{vl vt:Va}{rs:List Sy}(b:sN w g base vl vt rs)(k:Int)(h:rs.length+1≤1000000):
  Ca prog 188 #[K g,I V k] w fun e w'=>e=X (Tp #[])∧∃a,sN w' g base a vt (rs++[⟨32,k,0,0⟩])∧Tv base W2 w w':=by
 have c:=a6 (rB b ⟨32,k,0,0⟩ h ((a9.refl w).alloc (U #[I U1 32,I V k,I M 0,I M 0] 374)) w (b9.new w _ _));clear b;go_in;go_wp2_with fail
 apply c.mono;rintro e i⟨rfl,a,d,f⟩;go_wp2_with fail
 go_end0
 exact⟨rfl,a,d,f⟩
theorem YN{w:Wd}{g base:Nat}{vl vt:Va}{rs:List Sy}(a:sN w g base vl vt rs)(lb:Nat)(v:Int)(d:b9 w lb 291 #[I M v])(k:base≤lb):
  Ca prog 191 #[K g,K lb] w fun e w'=>e=X (Tp #[])∧sN w' g base vl vt rs∧b9 w' lb 291 #[I M rs.length]∧w.grownBy w' (So lb):=by
 have f:=a.b.cell 0;have i:=d.cell 0;have j:=d.frozen 0;obtain⟨H,b⟩:=i6 a d;obtain⟨h,c,e,_⟩:=a.o.inM;rw[e]at f;clear a e;go_in;go_wp2_with fail
 go_end0
 exact⟨rfl,⟨H.b.grown (x4 _ lb 0 _) (fun e=>by injection e with e;exact H.b.ne b (by decide) e),H.o.kept (x4 _ lb 0 _) (.inr (H.o.ne b (by decide))),H.hg,c8 H.hs (x4 _ lb 0 (I M rs.length)).size⟩,b.f 0 _,x4 _ _ _ _⟩
end
section
attribute [local go_sem] Oper.semAt_some
structure p0 where
 bt:Nat
 bw:Nat
 ba:Nat
 bc:Nat
 be:Nat
def a1k(l:p0):Va:=Fc (.func 255) #[] #[K l.bt,K l.bw,K l.ba,K l.bc,K l.be]
def wV:p6 p0:=⟨1,fun l=>[a1k l],fun _=>rfl,by simp[a1k,Value.oneCell']⟩
theorem a6n:mU prog 286 1 Nf 1 8:=⟨underlying286,by kernel_rfl,rfl,by decide,by decide⟩
def W3:List Ti:=[288,374,1]
theorem YM{w:Wd}{g base:Nat}{G f:Va}{rs:List Sy}{o:List p0}(s:sN w g base G f rs)(B:e4 w base 1 wV f o)(co k:Int)(th:Nat)(el:Option Ad)(bd:rs.length+1≤1000000)(be:o.length+1≤1000000):
  Ca prog 190 #[K g,I U1 co,I V k,K th,K el] w fun e j=>e=X (Tp #[])∧∃bn ar,sN j g base bn ar (rs++[⟨co,k,0,0⟩])∧e4 j base 1 wV ar (o++[⟨w+2,w,w+4,w+1,w+3⟩])∧
   b9 j w 285 #[K g]∧b9 j (w+1) 114 #[I U1 co]∧b9 j (w+2) 289 #[K th]∧b9 j (w+3) 289 #[K el]∧b9 j (w+4) 3 #[I M rs.length]∧Tv base W3 w j:=by
 refine(Cw (n:=1)).1 ?_;obtain⟨H,aw⟩:=i6 s B;have E:w.cell? ⟨g,0,J⟩=So G:=s.b.cell 0;obtain⟨au,ax,F,_⟩:=s.o.inM;rw[F]at E;have bq:=s.b.lt;have ay:((((w.alloc (U #[K g] 285)).alloc (U #[I U1 co] 114)).alloc (U #[K th] 289)).alloc (U #[K el] 289)).cell? ⟨g,0,J⟩=So (Z au rs.length ax):=by
  have q:((((w.alloc (U #[K g] 285)).alloc (U #[I U1 co] 114)).alloc (U #[K th] 289)).alloc (U #[K el] 289)).cell? ⟨g,0,J⟩=So G:=((((s.b.alloc _).alloc _).alloc _).alloc _).cell 0;rw[q,F]
 clear s B F;refine Co func190 rfl trivial ?_ rfl;simp only[ntmps190,uE,l9,a4D];gi_wp2_with fail
 have N:a9 w (((((w.alloc (U #[K g] 285)).alloc (U #[I U1 co] 114)).alloc (U #[K th] 289)).alloc (U #[K el] 289)).alloc (U #[I M rs.length] 3)):=(((((a9.refl w).alloc _).alloc _).alloc _).alloc _).alloc _;have k0:b9 (((((w.alloc (U #[K g] 285)).alloc (U #[I U1 co] 114)).alloc (U #[K th] 289)).alloc (U #[K el] 289)).alloc (U #[I M rs.length] 3)) w 285 #[K g]:=((((b9.new w _ _).alloc _).alloc _).alloc _).alloc _;have k1:b9 (((((w.alloc (U #[K g] 285)).alloc (U #[I U1 co] 114)).alloc (U #[K th] 289)).alloc (U #[K el] 289)).alloc (U #[I M rs.length] 3)) (w+1) 114 #[I U1 co]:=(((b9.b (by simp)).alloc _).alloc _).alloc _;have k2:b9 (((((w.alloc (U #[K g] 285)).alloc (U #[I U1 co] 114)).alloc (U #[K th] 289)).alloc (U #[K el] 289)).alloc (U #[I M rs.length] 3)) (w+1+1) 289 #[K th]:=((b9.b (by simp)).alloc _).alloc _;have k3:b9 (((((w.alloc (U #[K g] 285)).alloc (U #[I U1 co] 114)).alloc (U #[K th] 289)).alloc (U #[K el] 289)).alloc (U #[I M rs.length] 3)) (w+1+1+1) 289 #[K el]:=(b9.b (by simp)).alloc _;have k4:b9 (((((w.alloc (U #[K g] 285)).alloc (U #[I U1 co] 114)).alloc (U #[K th] 289)).alloc (U #[K el] 289)).alloc (U #[I M rs.length] 3)) (w+1+1+1+1) 3 #[I M rs.length]:=b9.b (by simp);have bf:(((((w.alloc (U #[K g] 285)).alloc (U #[I U1 co] 114)).alloc (U #[K th] 289)).alloc (U #[K el] 289)).alloc (U #[I M rs.length] 3)).heap.size=w.heap.size+1+1+1+1+1:=by simp
 generalize(((((w.alloc (U #[K g] 285)).alloc (U #[I U1 co] 114)).alloc (U #[K th] 289)).alloc (U #[K el] 289)).alloc (U #[I M rs.length] 3))=w5 at*;have kn:=b9.new w5 374 #[I U1 co,I V k,I M 0,I M 0];have h:=(a9.refl w5).alloc (U #[I U1 co,I V k,I M 0,I M 0] 374);have T:=a6 (KZ ((H.h N).h h) w5 1 1 [⟨co,k,0,0⟩] rfl bd (h9.f kn rfl));rw[bf]at T;refine⟨trivial,?_⟩
 gi_at_call 254
 apply((Cw (n:=0)).2 T.out).mono;rintro e p⟨rfl,L,ab,i⟩;have O1:=i.own ((aw.h N).h h) (by decide);have D:=i.blk (k0.h h) (.inr (by decide));have b1:=i.blk (k1.h h) (.inr (by decide));have b2:=i.blk (k2.h h) (.inr (by decide));have b3:=i.blk (k3.h h) (.inr (by decide));have b4:=i.blk (k4.h h) (.inr (by decide));have r:Tv base W2 w p:=(Tv.f (N.trans h)).trans i;have br:w+5≤p.heap.size:=by have:=i.size;have:=h.size;omega
 obtain⟨v,l⟩:=i6 ab O1;have W:∀a,GA 1 wV f.ownBlock base f o [⟨w+1+1,w,w+1+1+1+1,w+1,w+1+1+1⟩] p a→b9 a g 288 #[L,f]:=fun a c=>v.b.grown c.g (fun e=>l.ne v.b (by decide) e.symm)
 have aa:∀a,GA 1 wV f.ownBlock base f o [⟨w+1+1,w,w+1+1+1+1,w+1,w+1+1+1⟩] p a→b9 a w 285 #[K g]:=fun a c=>D.grown c.g (fun e=>l.ne D (by decide) e.symm)
 obtain⟨Q,av⟩:=i6 W aa;clear W aa ab O1 k0 k1 k2 k3 k4 E ay;gi_wp2_with fail
 refine s8 (R:=(GA 1 wV f.ownBlock base f o [⟨w+1+1,w,w+1+1+1+1,w+1,w+1+1+1⟩])) (fun _=>trivial) rfl [.is (K g),.is (K g),.is ?Am,.is ?An,.is f,.is ?Ao,(D4 #[a1k ⟨w+1+1,w,w+1+1+1+1,w+1,w+1+1+1⟩]),(D1 p),.is ?Ap,.is ?Aq] (by kernel_rfl) ?Ar ?Aa ⟨?Ab,?Ac,?Ad,?Ae,?Af,?Ag,?Ah,?Ai,?Aj,?Ak,trivial⟩ _ rfl rfl ?Al
 case Aa=>intro x;simp only[e6,Act.put,uL,l9]<;>rfl
 case Ab|Ac|Ad|Ae|Af|Ag|Aj|Ak=>
  intro x a c;simp only[e5,g1,uV,D4,D1];repeat(intro d;try simp only[d])
  have E:=(av a c).cell 0;have bu:a.cell? ⟨g,1,J⟩=So f:=(Q a c).cell 1;gi_wp2_with fail
  refine a0e ?_ rfl (fT.refl _);rfl
 case Ah=>
  intro x a c;simp only[e5,g1,uV,D4,D1];intro z;simp only[z];gi_wp2_with fail
  refine a0e ?_ rfl (GA.f ((a9.refl a).alloc _));exact⟨a,rfl,b9.new _ _ _,fun e=>by have:=((c.old l.out).lt e).2;omega⟩
 case Ai=>
  intro x a c;simp only[e5,g1,uV,D4,D1];rintro y⟨al,A,am,bg⟩;simp only[y,A];gi_wp2_with(gi_at_builtin;refine o9 rfl _ _ 286 1 rfl a6n base f o rfl (c.old l.out) al 1 1 [⟨w+1+1,w,w+1+1+1+1,w+1,w+1+1+1⟩] rfl rfl (h9.f am rfl) be (c8 v.hs c.g.size) ?_;intro bs bt bi bj bk bl bm)
  refine a0e ?_ rfl (⟨bj,fun _=>bk,bl⟩);exact⟨bi,bm.imp id (fun q b bb=>by have:=q b bb;have:=c.g.size;omega)⟩
 case Al=>
  intro x a c;simp only[l8,e5,g1,uV,D4,D1];rintro ad ae af ag y z⟨al,A,am,bg⟩⟨C,bh⟩ ah ai;simp only[ad,ae,af,ag,y,z,A,ah,ai];clear ad ae af ag y z A ah ai;obtain⟨P,an,ac,aj⟩:=C.f;rw[aj]at C bh;have m:=Q a c;have bp:=m.frozen 1;have bo:a.cell? ⟨g,1,J⟩=So f:=m.cell 1;have row:e4 a base 374 bA L (rs++[⟨co,k,0,0⟩]):=v.o.apart l (by decide) c.g;have ak:∀(b:Nat)(t:Ti)(cs:Array Va),b9 p b t cs→t≠1→t≠288→b9 (a.setCell ⟨g,1,J⟩ (Z P an ac)) b t cs:=fun b t cs k az ba=>by
   have k2:=k.grown c.g (fun e=>l.ne k (fun q=>az q.symm) e.symm);exact k2.grown (x4 _ g 1 _) (fun e=>by injection e with e;exact k2.ne m ba e)
  have u:=a6 ak;clear ak;simp only[aj];gi_wp2_with fail
  go_end0
  have ap:Tv base W3 p a:= .ofOwn l c.g (a7 _) (by decide);have aq:=Tv.r m H.hg (S:=W3) (by decide) 1 (Z P an ac);refine⟨rfl,L,_,⟨m.f 1 _,row.kept (x4 _ g 1 _) (.inr (row.ne m (by decide))),H.hg,?_⟩,C.kept (x4 _ g 1 _) (.inr (C.ne m (by decide))),u _ _ _ D (by decide) (by decide),u _ _ _ b1 (by decide) (by decide),u _ _ _ b2 (by decide) (by decide),u _ _ _ b3 (by decide) (by decide),u _ _ _ b4 (by decide) (by decide),?_⟩
  ·have:=H.hs;have:=r.size;have:=ap.size;have:=aq.size;omega
  ·refine Tv.trans ⟨r.os,r.tape,r.output,r.size,fun b ao B bc=>r.keep b ao B (bc.imp id fun q=> ?_)⟩ (ap.trans aq)
   cases ao<;>first|rfl|(simp[sT,W2,W3]at q⊢;omega)|(simp[sT,W2,W3]at q⊢;exact⟨q.1,q.2.1⟩)
end
section
attribute [local go_sem] Oper.semAt_some
theorem p6.row_set{b:Type}{E:p6 b}:∀(xs:List b)(j r:Nat)(c:j<xs.length)(u:Va)(a:b),r<E.k→(E.c xs[j]).set r u=E.c a→(E.row xs).set (j*E.k+r) u=E.row (xs.set j a)
 |x::xs,0,r,_,u,a,hr,hy=>by
  rw[E.row_cons,Nat.zero_mul,a4E,List.set_append_left _ _ (by rw[E.len];exact hr),List.set_cons_zero,E.row_cons];congr 1
 |x::xs,j+1,r,c,u,a,hr,hy=>by
  have d:j<xs.length:=by simpa using c
  rw[E.row_cons,List.set_append_right _ _ (by rw[E.len,Nat.succ_mul];omega),E.len,show(j+1)*E.k+r-E.k=j*E.k+r by rw[Nat.succ_mul];omega,p6.row_set xs j r d u a hr (by simpa using hy),List.set_cons_succ,E.row_cons]
theorem e4.setF{b:Type}{w:Wd}{base g cap:Nat}{e:Ti}{E:p6 b}{xs:List b}(f:e4 w base e E (Z g xs.length cap) xs)(j r:Nat)(i:j<xs.length)(l:r<E.k)(u:Va)(a:b)(n:(E.c xs[j]).set r u=E.c a):
  e4 (w.setCell ⟨g,j*E.k+r,J⟩ u) base e E (Z g xs.length cap) (xs.set j a)∧w.grownBy (w.setCell ⟨g,j*E.k+r,J⟩ u) (So g):=by
 obtain⟨o,c,m,k⟩:=f;cases m;obtain⟨d,h⟩:=k.stored (j*E.k+r) u;rw[p6.row_set xs j r i u a l n]at d;exact⟨⟨_,cap,by rw[List.length_set],by rw[List.length_set];exact d⟩,h⟩
def qP(rs:List Sy)(a:Nat)(co b E:Int):List Sy:=match rs[a]? with
 |none=>rs
 |some s=>rs.set a ⟨s.code,s.k,b,if co=5 then s.el else E⟩
def s4(co:Int)(el:Nat):Option Ad:=if co=5 then J else So ⟨el,0,J⟩
structure rR(w:Wd)(l:p0)(g:Nat)(co:Int)(at_:Nat)(th el:Nat)(T E:Int):Prop where
 bt:b9 w l.bt 289 #[K th]
 bw:b9 w l.bw 285 #[K g]
 ba:b9 w l.ba 3 #[I M at_]
 bc:b9 w l.bc 114 #[I U1 co]
 be:b9 w l.be 289 #[K (s4 co el)]
 th:b9 w th 291 #[I M T]
 el:b9 w el 291 #[I M E]
theorem rR.h{w d:Wd}{l:p0}{g:Nat}{co:Int}{c th el:Nat}{b E:Int}(a:rR w l g co c th el b E)(x:a9 w d):rR d l g co c th el b E:=⟨a.bt.h x,a.bw.h x,a.ba.h x,a.bc.h x,a.be.h x,a.th.h x,a.el.h x⟩
theorem rR.row{w c:Wd}{l:p0}{g:Nat}{co:Int}{h th el:Nat}{d E:Int}(a:rR w l g co h th el d E){base:Nat}{v:Va}{rs:List Sy}(j:e4 w base 374 bA v rs)(x:w.grownBy c v.ownBlock):rR c l g co h th el d E:=
 have f:∀b t cs,b9 w b t cs→374≠t→b9 c b t cs:=fun b t cs k i=>k.grown x (fun e=>j.ne k i e.symm)
 ⟨f _ _ _ a.bt (by decide),f _ _ _ a.bw (by decide),f _ _ _ a.ba (by decide),f _ _ _ a.bc (by decide),f _ _ _ a.be (by decide),f _ _ _ a.th (by decide),f _ _ _ a.el (by decide)⟩
theorem rR.be5{w:Wd}{l:p0}{g:Nat}{co:Int}{b th el:Nat}{a E:Int}(c:rR w l g co b th el a E)(d:¬co=5):w.cell? ⟨l.be,0,J⟩=So (K el):=by
 have:=c.be.cell 0;unfold s4 at this;rwa[if_neg d]at this
theorem a1U{w:Wd}{g base:Nat}{ab au:Va}{rs:List Sy}(ad:sN w g base ab au rs)(l:p0)(co:Int)(a th el:Nat)(b E:Int)(aj:rR w l g co a th el b E)(m:a<rs.length)(bl:rs.length≤1000000):
  Ca prog 255 #[K l.bt,K l.bw,K l.ba,K l.bc,K l.be] w fun e av=>e=X (Tp #[])∧sN av g base ab au (qP rs a co b E)∧w.grownBy av ab.ownBlock:=by
 refine(Cw (n:=1)).1 ?_;obtain⟨gb,cap,rfl⟩:∃gb cap,ab=Z (So ⟨gb,0,J⟩) rs.length cap:=by
  obtain⟨ae,c,W,G⟩:=ad.o;rcases G.2 with⟨ap,bj⟩|⟨gb,cap,cur,ap,_⟩
  ·omega
  ·exact⟨gb,cap,ap⟩
 obtain⟨s,T⟩:∃s,s=rs[a]:=⟨_,rfl⟩;have bk:(a:Int)<rs.length:=by omega
 obtain⟨H,o⟩:=i6 ad aj;clear ad aj;refine Co func255 rfl trivial ?_ rfl;simp only[ntmps255,uE,l9,a4D];gi_wp2_with fail
 refine g4 (fun _=>trivial) rfl [.is (K g),.is ?Ba,.is ?Bb,.is (Z (So ⟨gb,0,J⟩) rs.length cap),.is (I M a),.is (K th),.is ?Bc,.is ?Bd,.is (I M b),.is ?Be,.is ?Bf] (by kernel_rfl) ?Bg ?Aa ⟨?Ab,?Ac,?Ad,?Ae,?Af,?Ag,?Ah,?Ai,?Aj,?Ak,?Al,trivial⟩ _ rfl rfl ?Am
 case Aa=>intro x;simp only[e6,Act.put,uL,l9]<;>rfl
 case Ab|Ac|Ad|Ae|Af|Ag|Ah|Ai|Aj|Ak|Al=>
  intro x h f;simp only[e5,g1,uV];repeat(intro d;try simp only[d])
  have bb:=(o.h f).bw.cell 0;have bd:h.cell? ⟨g,0,J⟩=So (Z (So ⟨gb,0,J⟩) rs.length cap):=(H.h f).b.cell 0;have be:=(o.h f).ba.cell 0;have bf:=(o.h f).bt.cell 0;have bg:=(o.h f).th.cell 0;gi_wp2_with fail
  refine a0e ?_ rfl (a9.refl _);rfl
 case Am=>
  intro x h f;simp only[l8,e5,j8,uV];intro p q u v y j z A B C t;simp only[p,q,u,v,y,j,z,A,B,C,t];clear p q u v y j z A B C t;have i:=H.h f;have ah:=o.h f;have al:h.frozen? ⟨gb,a*4+2,J⟩=Bf:=by obtain⟨ae,c,W,G⟩:=i.o;cases W;exact G.frozenAt (a*4+2)
  obtain⟨aw,ba,ev,_,_,aa⟩:=i.o.inM;cases ev;have bc:h.cell? ⟨gb,a*4+2,J⟩=So (I M s.th):=aa.elt0 m (r:=2) (by rw[←T];rfl);obtain⟨L,D⟩:=i.o.setF a 2 m (by decide) (I M b) ⟨s.code,s.k,b,s.el⟩ (by rw[←T];rfl);have P:=ah.row i.o D;have b2:=i.b.grown D (fun e=>i.o.ne i.b (by decide) e.symm);have ar:=P.bc.cell 0
  change h.grownBy (h.setCell ⟨gb,a*4+2,J⟩ (I M b)) (So gb)at D
  change e4 (h.setCell ⟨gb,a*4+2,J⟩ (I M b)) _ _ _ _ _ at L
  change rR (h.setCell ⟨gb,a*4+2,J⟩ (I M b)) _ _ _ _ _ _ _ _ at P
  change b9 (h.setCell ⟨gb,a*4+2,J⟩ (I M b)) _ _ _ at b2
  change(h.setCell ⟨gb,a*4+2,J⟩ (I M b)).cell? _=_ at ar
  have R:w.grownBy (h.setCell ⟨gb,a*4+2,J⟩ (I M b)) (So gb):=(h8 f (So gb)).trans D;have an:=H.hs;by_cases k:co=5
  ·have j:(co !=5)=Bf:=by simp[k]
   have F:qP rs a co b E=rs.set a ⟨s.code,s.k,b,s.el⟩:=by
    unfold qP;rw[e9 m,←T];show rs.set a ⟨s.code,s.k,b,if co=5 then s.el else E⟩=_;rw[if_pos k]
   have ac:=a6 F;clear k F;gi_wp2_with fail
   go_end0
   exact⟨rfl,⟨b2,by rw[ac.out];exact L,H.hg,c8 an R.size⟩,R⟩
  ·have j:(co !=5)=Bt:=by simp[k]
   have F:qP rs a co b E=(rs.set a ⟨s.code,s.k,b,s.el⟩).set a ⟨s.code,s.k,b,E⟩:=by
    unfold qP;rw[e9 m,←T];show rs.set a ⟨s.code,s.k,b,if co=5 then s.el else E⟩=_;rw[if_neg k,List.set_set]
   have ac:=a6 F;have S:(rs.set a ⟨s.code,s.k,b,s.el⟩).length=rs.length:=List.length_set;have ax:=a6 k;have ao:(rs.set a ⟨s.code,s.k,b,s.el⟩)[a]'(by rw[S];exact m)=⟨s.code,s.k,b,s.el⟩:=by simp
   clear k F;gi_wp2_with fail
   generalize h.setCell ⟨gb,a*4+2,J⟩ (I M b)=bh at*;rw[←S]at L;obtain⟨ag,az,N,ay⟩:=J5 b2 L P R;clear i ah al bc D aa ar b2 L P R f;refine g4 (fun _=>trivial) rfl [.is (K g),.is ?Bh,.is ?Bi,.is (Z (So ⟨gb,0,J⟩) rs.length cap),.is (I M a),.is (K el),.is ?Bj,.is ?Bk,.is (I M E),.is ?Bl,.is ?Bm] (by kernel_rfl) ?Bn ?An ⟨?Ao,?Ap,?Aq,?Ar,?As,?At,?Au,?Av,?Aw,?Ax,?Ay,trivial⟩ _ rfl rfl ?Az
   case An=>intro x;simp only[e6,Act.put,uL,l9]<;>rfl
   case Ao|Ap|Aq|Ar|As|At|Au|Av|Aw|Ax|Ay=>
    intro x h f;simp only[e5,g1,uV];repeat(intro d;try simp only[d])
    have bb:=(N.h f).bw.cell 0;have bd:h.cell? ⟨g,0,J⟩=So (Z (So ⟨gb,0,J⟩) rs.length cap):=(ag.h f).cell 0;have be:=(N.h f).ba.cell 0;have bf:=(N.h f).be5 ax.out;have bg:=(N.h f).el.cell 0;gi_wp2_with fail
    refine a0e ?_ rfl (a9.refl _);rfl
   case Az=>
    intro x h f;simp only[l8,e5,j8,uV];intro p q u v y j z A B C t;simp only[p,q,u,v,y,j,z,A,B,C,t];clear p q u v y j z A B C t;have Q:=az.h f;have af:=ag.h f;have ak:a<(rs.set a ⟨s.code,s.k,b,s.el⟩).length:=by rw[S];exact m
    have al:h.frozen? ⟨gb,a*4+3,J⟩=Bf:=by obtain⟨ae,c,W,G⟩:=Q;cases W;exact G.frozenAt (a*4+3)
    obtain⟨aw,ba,ev,_,_,aa⟩:=Q.inM;cases ev;have bi:h.cell? ⟨gb,a*4+3,J⟩=So (I M s.el):=aa.elt0 ak (r:=3) (by rw[ao];rfl);obtain⟨aq,ai⟩:=Q.setF a 3 ak (by decide) (I M E) ⟨s.code,s.k,b,E⟩ (by rw[ao];rfl);have b3:=af.grown ai (fun e=>Q.ne af (by decide) e.symm);have am:=(ay.trans (h8 f (So gb))).trans ai;rw[S]at aq;gi_wp2_with fail
    go_end0
    exact⟨rfl,⟨b3,by rw[ac.out];exact aq,H.hg,c8 an am.size⟩,am⟩
end
end Go.Proofs.YtiomenjfmagknaaGreat
