/- A part of the proof of TopFront: lemmas on the walks of its calls. -/
import Derived.BigQuiet
import Derived.Deep.AppendLies
import Derived.Deep.DeepCutAuto
import Derived.Deep.RegionHeld3
import Derived.Handy
import Derived.Laws.CopyOwn
import Derived.Lib.AppendZeros
import Derived.Lib.Hide
import Derived.Lib.SmallJoins
import Derived.RangeFuncBound
import Derived.RangeFuncNested
import Derived.Shelf.Bytes.SlSmallAll
import Derived.Test.YtcljlejgllkcjaaGreatProg
import Derived.WalkLawsBesides
import Derived.WalkSpells
set_option maxHeartbeats 12000000
set_option linter.all false
set_option maxRecDepth 100000
namespace Go.Proofs.YtcljlejgllkcjaaGreat
open Go.RowKit Go.ChangeShapes Go.WideShapes Tryz
open Bool renaming and_eq_true→j3,true→Bt,false→Bf
open Decidable renaming decide→Dc
open Ending renaming returned→X
open Go renaming World→Wd,Value→Va,Calls→Ca,undef→Un,bodyPost_ret→Bp,TypeId→Ti,Addr→Ad,Program→Pg,strOfNums→Sn,CallsIn→Ci,wpList→Wp
open IntKind renaming i64→M,u32→V,u64→U6,u8→U8
open IntWalk renaming i64_in→h7
open List renaming getD_eq_getElem?_getD→b9,getElem?_eq_getElem→e9,length_append→g1,getElem_mem→g3,length_map→i1,length_cons→i4,append_assoc→p6,length→D
open Nat renaming le_refl→a7,le_trans→b6,add_zero→j8
open Obj renaming cells→U
open Operand renaming tmp→Tm
open Option renaming none→J,some→So
open Value renaming int→I,slice→Z,string→Y,bool→O,func→Fc,tuple→Tp,agg→Ag
section
abbrev g4:=ByteArray
abbrev o5:=List Int
abbrev C2:=List g4
abbrev R8:=List Nat
abbrev p1:=Option Ad
def w6(p:Prop):=p
theorem a6{p:Prop}(h:p):w6 p:=h
theorem w6.O{p:Prop}(h:w6 p):p:=h
theorem w6.out{p:Prop}(h:w6 p):p:=h
theorem j0{a b:Prop}(aa:a)(bb:b):w6 a/\w6 b:=⟨aa,bb⟩
theorem r6{a b c:Prop}(aa:a)(bb:b)(cc:c):w6 a/\w6 b/\w6 c:=⟨aa,bb,cc⟩
theorem F6{a b c d:Prop}(aa:a)(bb:b)(cc:c)(dd:d):w6 a/\w6 b/\w6 c/\w6 d:=⟨aa,bb,cc,dd⟩
theorem Y2{a b c d e:Prop}(aa:a)(bb:b)(cc:c)(dd:d)(ee:e):w6 a/\w6 b/\w6 c/\w6 d/\w6 e:=⟨aa,bb,cc,dd,ee⟩
theorem dK{a b c d e f:Prop}(aa:a)(bb:b)(cc:c)(dd:d)(ee:e)(ff:f):w6 a/\w6 b/\w6 c/\w6 d/\w6 e/\w6 f:=⟨aa,bb,cc,dd,ee,ff⟩
instance :CoeOut Wd Nat:=⟨λw=>w.heap.size⟩
instance :Coe Nat (Option Ad):=⟨λg=>So ⟨g,0,J⟩⟩
def uE:=And.intro @List.size_toArray.{0} (And.intro @i4.{0} (And.intro @List.length_nil.{0} (And.intro @Array.replicate_succ.{0} (And.intro @Array.replicate_zero.{0} (And.intro @List.push_toArray.{0} (And.intro @List.append_toArray.{0} (And.intro @List.nil_append.{0} @List.cons_append.{0})))))))
def uL:=And.intro @List.setIfInBounds_toArray.{0} (And.intro @List.set_cons_zero.{0} @List.set_cons_succ.{0})
def uB:=And.intro @cond_true.{1} (And.intro @cond_false.{1} (And.intro @Bool.not_true (And.intro @Bool.not_false (And.intro @Bool.and_true (And.intro @Bool.true_and (And.intro @Bool.and_false (And.intro @Bool.false_and (And.intro @Bool.or_true (And.intro @Bool.true_or (And.intro @Bool.or_false @Bool.false_or))))))))))
theorem ZH{p:Prop}(h:p:=by intro e;cases e):p:=h
theorem aL{p:Prop}(h:p:=by intro k e;cases e):p:=h
theorem HW{p:Prop}(h:p:=by dsimp only;omega):p:=h
theorem DF{p:Prop}(h:p:=by assumption):p:=h
theorem mZ{p:Prop}(h:p:=by first|rfl|trivial):p:=h
theorem nA{p:Prop}(h:p:=by simp[Value.oneCell']):p:=h
theorem eX{p:Prop}(h:p:=by first|rfl|simp):p:=h
theorem yA{p:Prop}(h:p:=by decide+kernel):p:=h
theorem G6{p:Prop}(h:p:=by simp;omega):p:=h
theorem o3{p:Prop}(h:p:=by go_num):p:=h
theorem i3{p:Prop}(h:p:=by simp):p:=h
theorem g6{p:Prop}(h:p:=by kernel_rfl):p:=h
theorem e6{p:Prop}(h:p:=by decide):p:=h
theorem a8{p:Prop}(h:p:=by omega):p:=h
theorem C0{s:Fence}{n:Nat}{P:Pg}{f:Nat}{a:Array Va}{w:Wd}{v:Va}{R:Wd->Prop}{Q:Ending->Wd->Prop}(c:Ci s n P f a w λe b=>e=X v/\R b)(k:∀b,R b->Q (X v) b):Ci s n P f a w Q:=c.mono λe b⟨p,q⟩=>p▸k b q
theorem l4{P:Pg}{f:Nat}{a:Array Va}{w:Wd}{v:Va}{R:Wd->Prop}{Q:Ending->Wd->Prop}(c:Ca P f a w λe b=>e=X v/\R b)(k:∀b,R b->Q (X v) b):Ca P f a w Q:=c.mono λe b⟨p,q⟩=>p▸k b q
theorem ZS{s:Fence}{n:Nat}{P:Pg}{f:Nat}{a:Array Va}{w:Wd}{v:Va}{u:Wd}{Q:Ending->Wd->Prop}(c:Ci s n P f a w λe b=>e=X v/\b=u)(k:Q (X v) u):Ci s n P f a w Q:=c.mono λe b⟨p,q⟩=>p▸q▸k
theorem ZG{P:Pg}{f:Nat}{a:Array Va}{w:Wd}{v:Va}{u:Wd}{Q:Ending->Wd->Prop}(c:Ca P f a w λe b=>e=X v/\b=u)(k:Q (X v) u):Ca P f a w Q:=c.mono λe b⟨p,q⟩=>p▸q▸k
def a9(w w':Wd):Prop:=Below w w w'
theorem a9.refl(w:Wd):a9 w w:=Below.refl _ _
theorem a9.trans{a b c:Wd}(h:a9 a b)(k:a9 b c):a9 a c:=Below.trans h (Below.mono k h.size)
theorem a9.drew{a b:Wd}(h:a9 a b):a9 a b.drew:=Below.drew h
theorem a9.drewN{a b:Wd}(h:a9 a b)(n:Nat):a9 a (b.drewN n):=⟨h.os,h.tape,h.output,h.size,h.block⟩
theorem a9.alloc{a b:Wd}(h:a9 a b)(o:Obj):a9 a (b.alloc o):=Below.alloc h h.size o
theorem a9.set{a b:Wd}(c:a9 a b){p:Ad}(d:a<=p.block)(u:Va):a9 a (b.setCell p u):=Below.setCell c d u
theorem a9.grown{a b c:Wd}{row:Option Nat}(d:a9 a b)(e:b.grownBy c row)(f:∀k,row=So k->a.heap.size<=k):a9 a c:=Below.grown d e d.size f
theorem a9.size{a b:Wd}(h:a9 a b):a<=b.heap.size:=Below.size h
theorem a9.cell{a b:Wd}(d:a9 a b){p:Ad}{u:Va}(c:a.cell? p=So u):b.cell? p=So u:=
 (Below.cell d (block_lt_of_cell c)).trans c
theorem a9.frozen{a b:Wd}(c:a9 a b){p:Ad}(d:p.block<a):b.frozen? p=a.frozen? p:=Below.frozen c d
theorem a9.block{a b:Wd}(c:a9 a b){k:Nat}(d:k<a):b.heap[k]? =a.heap[k]? :=Below.block c k d
theorem a9.below{a b:Wd}(c:a9 a b){B:Nat}(d:B<=a):Below B a b:=Below.mono c d
def i5(w:Wd)(A:p1)(xs:List Va):Prop:=
 ∀j u,xs[j]? =So u->∃b a,A=So ⟨b,a,J⟩/\w.cell? ⟨b,a+j,J⟩=So u
theorem i5.nil(w:Wd)(A:p1):i5 w A []:=λj u h=>by simp at h
theorem i5.h{w w':Wd}{A:p1}{xs:List Va}(a:i5 w A xs)(e:a9 w w'):i5 w' A xs:=λj u f=>by obtain⟨b,h,c,d⟩:=a j u f;exact⟨b,h,c,e.cell d⟩
theorem i5.at_{w:Wd}{A:p1}{xs:List Va}(d:i5 w A xs){k:Nat}(f:k<D xs):
 ∃b a,A=So ⟨b,a,J⟩/\b<w.heap.size/\w.cell? ⟨b,a+k,J⟩=So xs[k]:=by
 obtain⟨b,a,e,c⟩:=d k _ (e9 f);exact⟨b,a,e,block_lt_of_cell c,c⟩
theorem i5.cell{w:Wd}{b c:Nat}{xs:List Va}(d:i5 w (So ⟨b,c,J⟩) xs){k:Nat}{u:Va}(f:xs[k]? =So u):
 w.cell? ⟨b,c+k,J⟩=So u:=by
 obtain⟨h,i,a,e⟩:=d k _ f;injection a with a
 injection a with h1 h2
 subst h1 h2;exact e
theorem i5.some_{w:Wd}{A:p1}{xs:List Va}(c:i5 w A xs)(f:0<D xs):∃b a,A=So ⟨b,a,J⟩/\b<w.heap.size:=by obtain⟨b,a,d,e,_⟩:=c.at_ f;exact⟨b,a,d,e⟩
theorem i5.prefix_{w:Wd}{A:p1}{xs ys:List Va}(b:i5 w A (xs++ys)):i5 w A xs:=λj u a=>by refine b j u ?_;rw[List.getElem?_append_left ((List.getElem?_eq_some_iff.1 a).1)];exact a
theorem i5.take{w:Wd}{A:p1}{xs:List Va}(b:i5 w A xs)(k:Nat):i5 w A (xs.take k):=λj u a=>by refine b j u ?_;rw[List.getElem?_take]at a;split at a;exact a;cases a
theorem i5.drop{w:Wd}{b a:Nat}{xs:List Va}(d:i5 w (So ⟨b,a,J⟩) xs)(k:Nat):i5 w (So ⟨b,a+k,J⟩) (xs.drop k):=λj u c=>by rw[List.getElem?_drop]at c;refine⟨b,a+k,rfl,?_⟩;have:=d.cell c;rwa[<-Nat.add_assoc]at this
def e7(w:Wd)(g:Nat)(t:Ti)(cs:Array Va):Prop:=w.heap[g]? =So (U cs t (0,0))
section
variable {w w':Wd} {g:Nat} {t:Ti} {cs:Array Va}
theorem e7.lt(h:e7 w g t cs):g<w.heap.size:=(Array.getElem?_eq_some_iff.1 h).1
theorem e7.cell(h:e7 w g t cs)(i:Nat):w.cell? ⟨g,i,J⟩=cs[i]? :=cell_of_row w g i cs t (0,0) h
theorem e7.frozen(h:e7 w g t cs)(i:Nat):w.frozen? ⟨g,i,J⟩=Bf:=by unfold e7 at h;simp[World.frozen?,h]
theorem e7.new(w:Wd)(t:Ti)(cs:Array Va):e7 (w.alloc (U cs t)) w t cs:=heap_alloc_new w _
theorem e7.h(h:e7 w g t cs)(e:a9 w w'):e7 w' g t cs:=(e.block h.lt).trans h
theorem e7.alloc(h:e7 w g t cs)(o:Obj):e7 (w.alloc o) g t cs:=h.h ((a9.refl w).alloc o)
theorem e7.drew(h:e7 w g t cs):e7 w.drew g t cs:=h
theorem e7.drewN(h:e7 w g t cs)(n:Nat):e7 (w.drewN n) g t cs:=h
theorem e7.f(h:e7 w g t cs)(i:Nat)(u:Va):e7 (w.setCell ⟨g,i,J⟩ u) g t (cs.setIfInBounds i u):=by unfold e7 at h⊢;simp[World.setCell,Array.getElem?_modify,h]
theorem e7.far(a:e7 w g t cs){p:Ad}(b:g≠p.block)(u:Va):e7 (w.setCell p u) g t cs:=(Below.heap_setCell w p u g b).trans a
theorem e7.inM(a:e7 w g t cs):i5 w g cs.toList:=λj u b=>⟨g,0,rfl,by rw[Nat.zero_add,a.cell];simpa using b⟩
theorem e7.below{B:Nat}(a:e7 w g t cs)(b:Below B w w')(c:g<B):e7 w' g t cs:=(b.block g c).trans a
theorem e7.grown{row:Option Nat}(a:e7 w g t cs)(b:w.grownBy w' row)(c:So g≠row):e7 w' g t cs:=(b.block g a.lt c).trans a
end
theorem i5.f{w:Wd}{g:Nat}{t:Ti}{cs:Array Va}{xs:List Va}(h:e7 w g t cs)(e:cs.toList=xs):i5 w g xs:=e▸h.inM
abbrev l8(k:IntKind)(xs:o5):List Va:=xs.map (I k)
theorem Q9{k:IntKind}{xs:o5}{j:Nat}(h:j<D xs):(l8 k xs)[j]? =So (I k xs[j]):=by simp[l8,h]
theorem i5.seg{w:Wd}{b c:Nat}{a:IntKind}{xs:o5}(d:i5 w (So ⟨b,c,J⟩) (l8 a xs))(k m:Nat):i5 w (So ⟨b,c+k,J⟩) (l8 a ((xs.drop k).take m)):=by have:=(d.drop k).take m;rwa[<-List.map_drop,<-List.map_take]at this
theorem i5.num{w:Wd}{A:p1}{c:IntKind}{xs:o5}(d:i5 w A (l8 c xs)){k:Nat}(i:k<D xs):
 ∃b a,A=So ⟨b,a,J⟩/\b<w.heap.size/\w.cell? ⟨b,a+k,J⟩=So (I c xs[k]):=by
 obtain⟨b,a,e,f,h⟩:=d.at_ (k:=k) (by simpa[l8]using i);exact⟨b,a,e,f,by simpa[l8]using h⟩
theorem eQ(b a j:Nat):(⟨b,a,J⟩:Ad).add j=⟨b,a+j,J⟩:=by unfold Addr.add;split<;>simp_all
theorem i5.add{w:Wd}{c:Ad}{xs:List Va}(d:i5 w (So c) xs){j:Nat}{u:Va}(f:xs[j]? =So u):w.cell? (c.add j)=So u:=by
 obtain⟨b,h,a,e⟩:=d j u f;injection a with a
 subst a;rw[eQ];exact e
theorem wI{w:Wd}{base:Nat}{e:Ti}{h n m c:Nat}{A:p1}{xs:List Va}(a:w.ownsRow base e h (Z A m c) n xs):i5 w A xs:=λj u b=>by
 rcases a.2 with⟨d,f⟩|⟨g,cap,cur,d,_,_,_⟩
 have:xs=[]:=List.eq_nil_of_length_eq_zero (by rw[a.1,f];simp);subst this;simp at b;injection d with hA
 subst hA;have:=a.cells (g:=g) rfl j u b;rw[eQ]at this;exact⟨g,0,rfl,this⟩
theorem TW{w:Wd}{base:Nat}{e:Ti}{f n m c b d:Nat}{xs:List Va}(a:w.ownsRow base e f (Z (So ⟨b,d,J⟩) m c) n xs):base<=b:=(a.lt b rfl).1
theorem dY{P:Pg}(w:Wd)(base:Nat)(t ty e:Ti)(i:TypeInfo)(f:Nat)(a:P.underlying t=So (.slice e))(hi:P.info? e=So i)
 (v:Va) (n:Nat) (xs:List Va) (d:w.ownsRow base e f v n xs) (c:Nat):(Builtin.append_ #[t,t] ty #[v,.slice J 0 c]).run P w= .ok v w:=by
 rcases d.2 with⟨rfl,rfl⟩|⟨g,cap,cur,rfl,_,_,b,_⟩
 simp[Builtin.append_,run_underlying a,sizeOf,typeInfo,hi,Builtin.lenOf,Builtin.firstCells];simp[Builtin.append_,run_underlying a,sizeOf,typeInfo,hi,Builtin.lenOf,Builtin.firstCells,b,storeCells]
theorem aN{P:Pg}{w:Wd}{W:Array Oper}{rest:List Oper}{o:Oper}{a:Act}{Q:Exit->Act->Wd->Prop}(am:o.guard=J)(s x:Operand)(t:Ti)
 (ao:o.op= .call {callee:= .builtin .append,args:= #[s,x],argTypes:= #[t,t]})
 (base:Nat) (e:Ti) (i:TypeInfo) (z:Va) (d l:Nat) (T:P.underlying t=So (.slice e)) (hi:P.info? e=So i) (av:i.zero=So z)
 (aq:i.size=d) (ak:i.bytes=l) (aw:z.cells.size=d) (S:0<d)
 (A:p1) (n c:Nat) (xs:List Va) (ap:a.eval s= .slice A n c) (E:w.ownsRow base e d (.slice A n c) n xs)
 (B:p1) (m p:Nat) (k:List Va) (au:a.eval x= .slice B m p) (N:D k=m*d) (L:i5 w B k) (ac:∀u∈k,u.oneCell'=Bt)
 (af:n+m<=1000000) (al:l<=10000) (ai:base<=w)
 (ab:∀f h w',w'.ownsRow base e d (.slice f (n+m) h) (n+m) (xs++k)->w.grownBy w' (Z A n c).ownBlock->
 ((Z f (n+m) h).ownBlock=(Z A n c).ownBlock\/(Z f (n+m) h).ownBlock=So w.heap.size)->
 Wp P W Q rest (a.put o.dst (.slice f (n+m) h)) w'):Wp P W Q (o::rest) a w:=by
 have aj:(n+m)*l<=140737488355328:=b6 (Nat.mul_le_mul af al) a8;have key:∃v' w',(Builtin.append_ #[t,t] o.type #[.slice A n c,.slice B m p]).run P w= .ok v' w'/\w'.ownsRow base e d v' (n+m) (xs++k)/\w.grownBy w' (Z A n c).ownBlock/\
   (v'.ownBlock=(Z A n c).ownBlock\/v'.ownBlock=So w.heap.size):=by
  rcases B with _|aa
  ·have C:k=[]:=by
    rcases k with _|⟨u,r⟩
    ·rfl
    ·obtain⟨b,ax,ag,_⟩:=L 0 u rfl
     cases ag
   subst C
   have an:m=0:=by
    rcases Nat.eq_zero_or_pos m with v|v
    ·exact v
    ·have:=Nat.mul_pos v S
     simp only[List.length_nil]at N
     omega
   subst an
   exact⟨_,w,dY w base t o.type e i d T hi _ n xs E p,by simpa using E,World.grownBy.refl w _,.inl rfl⟩
  ·obtain⟨v',w',F,q,y,_,ae⟩:=run_append_own_at (P:=P) w base t o.type e i z d l T hi av aq ak aw S _ n xs E aa m p k N (λj u ar=>L.add ar) ac (by unfold maxLen;omega) aj ai
   exact⟨v',w',F,q,y,ae⟩
 obtain⟨v',w',F,q,y,ad⟩:=key;obtain⟨f,h,rfl⟩:∃f h,v'= .slice f (n+m) h:=by
  rcases q.2 with⟨H,C⟩|⟨g,cap,cur,H,_⟩
  exact⟨J,0,by rw[H,C]⟩;exact⟨_,_,H⟩
 refine wpList_plain am λXa ah=> ?_
 unfold Oper.wp execOp;simp only[ao,resolve,invoke,builtin,Sem.run_bind,Sem.run_pure,Result.andThen_ok,List.map_toArray,List.map_cons,List.map_nil,ap,au,F];exact ah _ _ (ab f h w' q y ad)
theorem a9.app{a w w':Wd}{base:Nat}{e:Ti}{i n:Nat}{v:Va}{xs:List Va}(b:a9 a w)(h:w.ownsRow base e i v n xs)(c:a<=base)(d:w.grownBy w' v.ownBlock):a9 a w':=
 b.grown d λk f=>b6 c (h.lt k f).1
theorem UJ{k:IntKind}{xs:o5}:∀u∈l8 k xs,u.oneCell'=Bt:=λu a=>by obtain⟨x,_,rfl⟩:=List.mem_map.1 a;rfl
theorem VG{P:Pg}(t e:Ti)(i:TypeInfo)(z:Va)(k:P.underlying t=So (.slice e))(hi:P.info? e=So i)(l:i.zero=So z)
 (f d:IntKind) (n c:Nat) (m:n<=c) (a:c<=1000000) (h:i.bytes<=10000) (w:Wd):
 (Instr.makeSlice t (.int f (n:Int)) (.int d (c:Int))).run P w= .ok (.slice w n c) (w.alloc (.cells (madeCells z.cells (c*i.size)) e)):=by
 have j:(i.bytes:Int)*(c:Int)<=281474976710656:=by have a:i.bytes*c<=281474976710656:=b6 (Nat.mul_le_mul h a) a8;have a:((i.bytes*c:Nat):Int)<=281474976710656:=a8;rwa[Int.natCast_mul]at a
 have b:=run_make (P:=P) w t e i z k hi l f d n c a8 a8 j a8;simp only[Int.toNat_natCast]at b;exact b
theorem J3{P:Pg}(t e:Ti)(z:Va)(a:Nat)(m:P.underlying t=So (.slice e))(j:(P.info? e).map (λi=>(i.zero,i.size,i.bytes))=So (So z,1,a))(p:z.cells= #[z])
 (f d:IntKind) (n c:Nat) (k:n<=c) (h:c<=1000000) (q:a<=10000) (w:Wd):
 (Instr.makeSlice t (.int f (n:Int)) (.int d (c:Int))).run P w= .ok (.slice w n c) (w.alloc (.cells (madeCells #[z] c) e)):=by
 obtain⟨i,hi,b⟩:=Option.map_eq_some_iff.1 j;simp only[Prod.mk.injEq]at b;obtain⟨o,l,r⟩:=b;have:=VG (P:=P) t e i z m hi o f d n c k h a8 w;rw[l,Nat.mul_one,p]at this;exact this
theorem pB{a b:Bool}(h:a=b):X (O a)=X (O b):=by rw[h]
theorem c8(w:Wd)(g i:Nat)(u:Va):w.grownBy (w.setCell ⟨g,i,J⟩ u) (So g):=
 ⟨rfl,rfl,rfl,i3,λk _ h=>Below.heap_setCell w ⟨g,i,J⟩ u k (λe=>h (by rw[e]))⟩
theorem e7.b{w:Wd}{t:Ti}{cs:Array Va}{g:Nat}(h:g=w):e7 (w.alloc (U cs t)) g t cs:=by subst h;exact e7.new _ _ _
theorem K3{a:Type}(L cs:List a)(b:D cs=D L):splice L 0 cs=cs:=by unfold splice;rw[List.drop_eq_nil_of_le a8];simp
theorem Y0{P:Pg}(w:Wd)(g o:Nat)(t ty:Ti)(cur:List Va)(cs:Array Va)(c:e7 w g t cur.toArray)(d:o+cs.size<=D cur)(hi:(P.info? ty).map (·.size)=So cs.size)(b:∀v∈cs.toList,v.oneCell'=Bt):
 (storeVar ty ⟨g,o,J⟩ (Ag cs)).run P w= .ok () (w.setRow g (splice cur o cs.toList).toArray):=by
 have:=run_storeCells_at P g o t cs.toList 0 cur.toArray w c (by simpa using d) b;cases a:P.info? ty with
 |none=>simp[a]at hi
 |some i=>
  have e:cs.size=i.size:=by simp[a]at hi;omega
  simp only[j8]at this
  simp[storeVar,sizeOf,typeInfo,a,Value.cells,e,this,splice,p6]
theorem H0(w:Wd)(g:Nat)(cs:Array Va):w.grownBy (w.setRow g cs) (So g):=
 ⟨rfl,rfl,rfl,i3,λk _ a=>setRow_other w g k cs (λe=>a (by rw[e]))⟩
theorem D2{P:Pg}{w:Wd}{d:Array Oper}{rest:List Oper}{b:Oper}{a:Act}{Q:Exit->Act->Wd->Prop}(k:b.guard=J)(ty:Ti)(x e:Operand)(l:b.op= .store ty x e)
 (g o:Nat) (t:Ti) (cur:List Va) (cs:Array Va) (m:a.eval x= .pointer (So ⟨g,o,J⟩)) (n:a.eval e=Ag cs) (c:e7 w g t cur.toArray) (j:o+cs.size<=D cur)
 (hi:(P.info? ty).map (·.size)=So cs.size) (h:∀v∈cs.toList,v.oneCell'=Bt)
 (f:∀w',e7 w' g t (splice cur o cs.toList).toArray->w.grownBy w' (So g)->Wp P d Q rest (a.put b.dst Un) w'):Wp P d Q (b::rest) a w:=by
 refine wpList_plain k λXa i=> ?_
 unfold Oper.wp execOp;simp only[l,m,n,Instr.storeAt,Instr.sureAddr,Sem.run_bind,Sem.run_pure,Result.andThen_ok,Y0 w g o t ty cur cs c j hi h];exact i _ _ (f _ (setRow_heap w g _ _ t _ c) (H0 w g _))
theorem j1{P:Pg}{w:Wd}{d:Array Oper}{rest:List Oper}{b:Oper}{a:Act}{Q:Exit->Act->Wd->Prop}(j:b.guard=J)(ty:Ti)(x c:Operand)(k:b.op= .store ty x c)
 (g:Nat) (t:Ti) (cur cs:Array Va) (l:a.eval x= .pointer g) (m:a.eval c=Ag cs) (n:e7 w g t cur) (o:cs.size=cur.size)
 (hi:(P.info? ty).map (·.size)=So cs.size) (f:∀v∈cs.toList,v.oneCell'=Bt)
 (e:∀w',e7 w' g t cs->w.grownBy w' (So g)->Wp P d Q rest (a.put b.dst Un) w'):Wp P d Q (b::rest) a w:=by
 refine D2 j ty x c k g 0 t cur.toList cs l m (by rwa[Array.toArray_toList]) G6 hi f λw' h i=>e w' ?_ i
 rwa[K3 _ _ G6,Array.toArray_toList]at h
theorem q6{P:Pg}{w:Wd}{d:Array Oper}{rest:List Oper}{b:Oper}{a:Act}{Q:Exit->Act->Wd->Prop}{ty:Ti}{x c:Operand}{g:Nat}{t:Ti}{cur cs:Array Va}(f:e7 w g t cur)(e:∀w',e7 w' g t cs->w.grownBy w' (So g)->Wp P d Q rest (a.put b.dst Un) w')(i:b.op=.store ty x c:=by exact rfl)(k:a.eval x=.pointer (So ⟨g,0,J⟩):=by exact rfl)(l:a.eval c=Ag cs:=by exact rfl)(h:b.guard=J:=by exact rfl)(j:cs.size=cur.size:=by first|exact rfl|kernel_rfl)(hi:(P.info? ty).map (·.size)=So cs.size:=by kernel_rfl)(hx1q:∀v∈cs.toList,v.oneCell'=Bt:=by simp[Value.oneCell']):Wp P d Q (b::rest) a w:=j1 h ty x c i g t cur cs k l f j hi hx1q e
theorem bQ{P:Pg}{w:Wd}{d:Array Oper}{rest:List Oper}{c:Oper}{a:Act}{Q:Exit->Act->Wd->Prop}(i:c.guard=J)(ty:Ti)(x:Operand)(j:c.op= .load ty x)
  (g:Nat) (t:Ti) (cs:Array Va) (b:TypeDesc) (l:a.eval x= .pointer g) (f:e7 w g t cs)
  (k:P.underlying ty=So b) (h:b.isRow=Bt) (hi:(P.info? ty).map (·.size)=So cs.size)
  (e:Wp P d Q rest (a.put c.dst (Ag cs)) w):Wp P d Q (c::rest) a w:=
 wpList_load_row i ty x j g l t cs (0,0) b f k (by cases b<;>first|rfl|(simp[TypeDesc.isRow]at h)) hi e
theorem D1{P:Pg}{w:Wd}{d:Array Oper}{rest:List Oper}{b:Oper}{a:Act}{Q:Exit->Act->Wd->Prop}{ty:Ti}{x:Operand}{g:Nat}{t:Ti}{cs:Array Va}{c:TypeDesc}(f:e7 w g t cs)(k:P.underlying ty=So c)(e:Wp P d Q rest (a.put b.dst (Ag cs)) w)(j:b.op=.load ty x:=by exact rfl)(l:a.eval x=.pointer (So ⟨g,0,J⟩):=by exact rfl)(i:b.guard=J:=by exact rfl)(h:c.isRow=Bt:=by exact rfl)(hi:(P.info? ty).map (·.size)=So cs.size:=by kernel_rfl):Wp P d Q (b::rest) a w:=bQ i ty x j g t cs c l f k h hi e
theorem vY{b:Func}{p q:Tmp}{ty:Ti}{P:Pg}(c:b.results= #[.cell p ty,.tmp q])(tmps:Array Va)(w:Wd)(g:Nat)(t:Ti)(cs:Array Va)(a:TypeDesc)
 (f:tmps.getD p Un= .pointer g) (e:e7 w g t cs)
 (i:P.underlying ty=So a) (d:a.isRow=Bt) (hi:(P.info? ty).map (·.size)=So cs.size):
 (results b tmps).run P w= .ok (.tuple #[.agg cs,tmps.getD q Un]) w:=by
 have h:tmps[p]?.getD Un= .pointer g:=by simpa using f
 simp[results,c,h,asAddr,run_loadVar_row w g t ty cs (0,0) a e i (by cases a<;>first|rfl|(simp[TypeDesc.isRow]at d)) hi]
theorem s0{P:Pg}{c:Func}{R:Ending->Wd->Prop}{a:Act}{w:Wd}{p q:Tmp}{ty:Ti}{g:Nat}{t:Ti}{cs:Array Va}{b:TypeDesc}(e:c.results= #[.cell p ty,.tmp q])(h:e7 w g t cs)(j:P.underlying ty=So b)(r:R (.returned (.tuple #[.agg cs,a.tmps.getD q Un])) w)(i:a.tmps.getD p Un=.pointer (So ⟨g,0,J⟩):=by exact rfl)(f:b.isRow=Bt:=by exact rfl)(hi:(P.info? ty).map (·.size)=So cs.size:=by kernel_rfl)(d:a.defers=[]:=by exact rfl):bodyPost P c R .ret a w:=Bp (vY e a.tmps w g t cs b i h j f hi) d r
theorem aV{b:Func}{p:Tmp}{ty:Ti}{P:Pg}(c:b.results= #[.cell p ty])(tmps:Array Va)(w:Wd)(g:Nat)(t:Ti)(cs:Array Va)(a:TypeDesc)
  (f:tmps.getD p Un= .pointer g) (e:e7 w g t cs)
  (h:P.underlying ty=So a) (d:a.isRow=Bt) (hi:(P.info? ty).map (·.size)=So cs.size):
  (results b tmps).run P w= .ok (Ag cs) w:=results_cell_row c tmps w g t cs (0,0) a f e h (by cases a<;>first|rfl|(simp[TypeDesc.isRow]at d)) hi
theorem F9{P:Pg}{c:Func}{R:Ending->Wd->Prop}{a:Act}{w:Wd}{p:Tmp}{ty:Ti}{g:Nat}{t:Ti}{cs:Array Va}{b:TypeDesc}(h:e7 w g t cs)(j:P.underlying ty=So b)(r:R (X (Ag cs)) w)(e:c.results= #[.cell p ty]:=by exact rfl)(i:a.tmps.getD p Un=.pointer (So ⟨g,0,J⟩):=by exact rfl)(f:b.isRow=Bt:=by exact rfl)(hi:(P.info? ty).map (·.size)=So cs.size:=by kernel_rfl)(d:a.defers=[]:=by exact rfl):bodyPost P c R .ret a w:=Bp (aV e a.tmps w g t cs b i h j f hi) d r
theorem eH{w w':Wd}{base:Nat}{e:Ti}{b n:Nat}{v:Va}{xs:List Va}(c:w.ownsRow base e b v n xs)(a:a9 w w'):w'.ownsRow base e b v n xs:=
 c.kept (row:=J) ⟨a.os,a.tape,a.output,a.size,λk d _=>a.block d⟩ (by
  rcases f:v.ownBlock with _|g
  ·exact .inl rfl
  ·exact .inr i3)
class L6(R:Wd->Wd->Prop):Prop where
 refl:∀w,R w w
 trans:∀a b c,R a b->R b c->R a c
 drew:∀w:Wd,R w w.drew
instance :L6 a9:=⟨a9.refl,λ_ _ _ h k=>h.trans k,λw=>(a9.refl w).drew⟩
structure VR(R:Wd->Wd->Prop) where
 p:Va->Wd->Prop
 st:∀v w w',p v w->R w w'->p v w'
def VR.is{R:Wd->Wd->Prop}(aa:Va):VR R:=⟨λv _=>v=aa,λ_ _ _ h _=>h⟩
def VR.any{R:Wd->Wd->Prop}:VR R:=⟨λ_ _=>True,λ_ _ _ _ _=>trivial⟩
abbrev VP:=VR a9
def VP.row(n:Nat)(xs:List Va):VP:=⟨λv w=>∃A c,v=Z A n c/\i5 w A xs,λ_ _ _⟨A,c,h,k⟩ e=>⟨A,c,h,k.h e⟩⟩
def VP.ptr(t:Ti)(cs:Array Va):VP:=⟨λv w=>∃g,v= .pointer (So ⟨g,0,J⟩)/\e7 w g t cs,λ_ _ _⟨g,h,k⟩ e=>⟨g,h,k.h e⟩⟩
def VP.blk(n:Nat)(t:Ti)(cs:Array Va):VP:=⟨λv w=>∃g,v=Z (So ⟨g,0,J⟩) n n/\e7 w g t cs,λ_ _ _⟨g,h,k⟩ e=>⟨g,h,k.h e⟩⟩
def VP.ex{c:Type}(a:c->VP):VP:=⟨λv w=>∃x,(a x).p v w,λv w w'⟨x,b⟩ e=>⟨x,(a x).st v w w' b e⟩⟩
def VP.and(aa:VP)(p:Prop):VP:=⟨λv w=>aa.p v w/\p,λv w w' h e=>⟨aa.st v w w' h.1 e,h.2⟩⟩
def VP.of(q:Va->Prop):VP:=⟨λv _=>q v,λ_ _ _ h _=>h⟩
def x0(a:Act):Option Tmp->Va
 |some d=>a.tmps.getD d Un
 |none=>Un
theorem zP(a:Act)(b:Option Tmp):a.put b (x0 a b)=a:=by
 cases b with
 |none=>rfl
 |some b=>
  obtain⟨t,f⟩:=a
  simp only[Act.put,x0,Act.mk.injEq,and_true]
  apply Array.ext
  ·simp
  ·intro i e d
   rw[Array.getElem_setIfInBounds]
   split
   ·rename_i c;subst c;simp[d]
   ·rfl
theorem IJ(a:Act)(d:Option Tmp)(u v:Va):(a.put d u).put d v=a.put d v:=by
 cases d with
 |none=>rfl
 |some d=>simp[Act.put]
theorem lJ(a:Act)(d:Option Tmp)(v:Va):a.put d (x0 (a.put d v) d)=a.put d v:=by have:=zP (a.put d v) d;rw[IJ]at this;exact this
theorem J0(a:Act)(d:Option Tmp)(v:Va):(a.put d v).defers=a.defers:=by cases d<;>rfl
def m0:List Oper->(Nat->Va)->Nat->Act->Act
 |[],_,_,a=>a
 |o::os,x,i,a=>m0 os x (i+1) (a.put o.dst (x i))
def D6:List Oper->Bool
 |[]=>Bt
 |o::os=>(os.all λa=>o.dst.isNone||a.dst !=o.dst)&&D6 os
def a2O:List Oper->Nat->Bool
 |[],_=>Bt
 |o::os,i=>(o.after.toList.all λe=> !Region.binds .any e||decide (e.on<i))&&a2O os (i+1)
def DB(x:Nat->Va)(j:Nat)(v:Va):Nat->Va:=λm=>if m=j then v else x m
theorem gI:∀(os:List Oper)(x b:Nat->Va)(k:Nat)(a:Act),(∀m,k<=m->x m=b m)->m0 os x k a=m0 os b k a
 |[],_,_,_,_,_=>rfl
 |o::os,x,b,k,a,h=>by simp only[m0];rw[h k (a7 _)];exact gI os x b (k+1) _ λm c=>h m a8
theorem uM:∀(os:List Oper)(x:Nat->Va)(k:Nat)(a:Act)(b:Option Tmp)(v:Va),(os.all λf=>b.isNone||f.dst !=b)=Bt->(m0 os x k a).put b v=m0 os x k (a.put b v)
 |[],_,_,_,_,_,_=>rfl
 |o::os,x,k,a,b,v,h=>by
  simp only[List.all_cons,j3]at h;simp only[m0];rw[uM os x (k+1) _ b v h.2];congr 1;refine Act.put_comm a (x k) v λe d c=> ?_
  subst c;simp[d]at h
theorem qK:∀(os:List Oper)(x:Nat->Va)(k:Nat)(a:Act)(i:Nat)(o:Oper)(v:Va),D6 os=Bt->os[i]? =So o->(m0 os x k a).put o.dst v=m0 os (DB x (k+i) v) k a
 |[],_,_,_,_,_,_,_,h=>by simp at h
 |o'::os,x,k,a,0,o,v,hd,h=>by
  simp only[List.getElem?_cons_zero,Option.some.injEq]at h;subst h;simp only[D6,j3]at hd;simp only[m0];rw[uM os x (k+1) _ _ v hd.1,IJ];have:DB x (k+0) v k=v:=by simp[DB]
  rw[this];exact gI os _ _ (k+1) _ λm c=>by simp only[DB];rw[if_neg a8]
 |o'::os,x,k,a,i+1,o,v,hd,h=>by
  simp only[List.getElem?_cons_succ]at h;simp only[D6,j3]at hd;simp only[m0];rw[qK os x (k+1) _ i o v hd.2 h];have e:DB x (k+1+i) v=DB x (k+(i+1)) v:=by rw[show k+1+i=k+(i+1)from a8]
  have b:DB x (k+(i+1)) v k=x k:=by simp only[DB];rw[if_neg a8]
  rw[e,b]
theorem gH:∀(os:List Oper)(k:Nat)(a:Act),∃x,m0 os x k a=a
 |[],_,_=>⟨λ_=>Un,rfl⟩
 |o::os,k,a=>by obtain⟨x,b⟩:=gH os (k+1) a;refine⟨DB x k (x0 a o.dst),?_⟩;simp only[m0];rw[show DB x k (x0 a o.dst) k=x0 a o.dst from by simp[DB],zP];rw[gI os _ x (k+1) a λm c=>by simp only[DB];rw[if_neg a8]];exact b
section
variable {R:Wd->Wd->Prop}
def g0(Vs:List (VR R))(x:Nat->Va)(w:Wd)(G:Prop):List Edge->Prop
 |[]=>G
 |e::es=>match e.ground with
  | .data| .guard=>(Vs.getD e.on .any).p (x e.on) w->g0 Vs x w G es
  |_=>g0 Vs x w G es
theorem kQ{Vs:List (VR R)}{x:Nat->Va}{w:Wd}{G:Prop}:∀(a:List Edge),(∀e∈a,Region.binds .any e=Bt->(Vs.getD e.on .any).p (x e.on) w)->g0 Vs x w G a->G
 |[],_,h=>h
 |e::a,hk,h=>by
  have ih:=kQ (Vs:=Vs) (x:=x) (w:=w) (G:=G) a λc d=>hk c (List.mem_cons_of_mem _ d)
  unfold g0 at h;split at h;rename_i b;exact ih (h (hk e (List.mem_cons_self ..) (by unfold Region.binds;rw[b])));rename_i b;exact ih (h (hk e (List.mem_cons_self ..) (by unfold Region.binds;rw[b])));exact ih h
def n9(x:Nat->Va)(w:Wd)(G:Prop):List (VR R)->Nat->Prop
 |[],_=>G
 |aa::Vs,i=>aa.p (x i) w->n9 x w G Vs (i+1)
theorem eP{x:Nat->Va}{w:Wd}{G:Prop}:∀(Vs:List (VR R))(i:Nat),(∀j(a:VR R),Vs[j]? =So a->a.p (x (i+j)) w)->n9 x w G Vs i->G
 |[],_,_,h=>h
 |a::Vs,i,hk,h=>by refine eP Vs (i+1) (λj W b=> ?_) (h (hk 0 a rfl));have:=hk (j+1) W (by simpa using b);rwa[(a8:i+(j+1)=i+1+j)]at this
def sO(aa:VR R)(d:Option Tmp)(ds:List Deferred)(w0:Wd):Exit->Act->Wd->Prop
 | .normal,a',w'=>aa.p (x0 a' d) w'/\a'.defers=ds/\R w0 w'
 |_,_,_=>False
theorem e8{b:VR R}{c:Option Tmp}{ds:List Deferred}{w0 w':Wd}{a:Act}(d:b.p (x0 a c) w')(e:a.defers=ds)(f:R w0 w'):sO b c ds w0 .normal a w':=⟨d,e,f⟩
end
def bY:List Oper->Nat->Option Tmp
 |[],_=>J
 |o::_,0=>o.dst
 |_::os,j+1=>bY os j
def I1:Va->Option Bool
 |O b=>So b
 |_=>J
def lU(d:Option Bool)(c:Bool)(a b:Prop):Prop:=if d=So c then a else b
theorem a2E{c:Option Bool}{b:Bool}{a e:Prop}(d:c=So b)(k:a):lU c b a e:=by unfold lU;rw[if_pos d];exact k
theorem a2B{c:Option Bool}{b:Bool}{e a:Prop}(d:c≠So b)(k:a):lU c b e a:=by unfold lU;rw[if_neg d];exact k
def o7(P:Pg)(l:List Oper)(aa:VP)(ds:List Deferred)(w:Wd)(a:Act):Oper->Prop
 |⟨dst,op,type,pos,after,J⟩=>Wp P #[] (sO aa dst ds w) [⟨dst,op,type,pos,after,J⟩] a w
 |⟨dst,op,type,pos,after,So (j,want)⟩=>lU (I1 (x0 a (bY l j))) want (Wp P #[] (sO aa dst ds w) [⟨dst,op,type,pos,after,J⟩] a w) (aa.p Un w)
def Obl(P:Pg)(l:List Oper)(A:(Nat->Va)->Act)(ds:List Deferred)(w:Wd)(Vs:List VP):List Oper->List VP->Prop
 |[],[]=>True
 |o::os,aa::Ws=>(∀x w',a9 w w'->g0 Vs x w' (o7 P l aa ds w' (A x) o) o.after.toList)/\Obl P l A ds w Vs os Ws
 |_,_=>False
theorem CE:∀(l:List Oper)(j:Nat),bY l j=(l[j]?).bind (·.dst)
 |[],_=>by simp[bY]
 |_::_,0=>rfl
 |_::os,j+1=>by simp only[bY,List.getElem?_cons_succ];exact CE os j
theorem sS(l:List Oper)(o:Oper)(a:Act)(j:Nat)(b:Bool)(c:o.guard=So (j,b)):Region.wanted o (yielded l.toArray a.tmps)=Bt↔I1 (x0 a (bY l j))=So b:=by
 unfold Region.wanted yielded;rw[c,CE];simp only[List.getElem?_toArray,beq_iff_eq];cases(l[j]?).bind (·.dst)with
 |none=>simp[x0,I1,Un]
 |some d=>
  simp only[Option.bind_some,x0,Array.getD_eq_getD_getElem?]
  cases a.tmps[d]? with
  |none=>simp[I1,Un]
  |some v=>cases v<;>simp[I1]
theorem fC(a:Act)(b:Option Tmp):x0 (a.put b Un) b=Un:=by
 cases b with
 |none=>rfl
 |some b=>
  simp only[Act.put,x0,Array.getD_eq_getD_getElem?,Array.getElem?_setIfInBounds]
  split
  ·split<;>rfl
  ·rename_i c
   cases d:a.tmps[b]? with
   |none=>rfl
   |some v=>exact absurd trivial c
theorem o7.toList{P:Pg}{l:List Oper}{f:VP}{ds:List Deferred}{w:Wd}{a:Act}{o:Oper}(m:a.defers=ds)(b:o7 P l f ds w a o):Wp P l.toArray (sO f o.dst ds w) [o] a w:=by
 obtain⟨i,n,q,p,after,k⟩:=o;cases k with
 |none=>exact b
 |some g=>
  obtain⟨j,d⟩:=g
  have h:=sS l ⟨i,n,q,p,after,So (j,d)⟩ a j d rfl
  simp only[o7]at b
  unfold lU at b
  simp only[Wp]at b⊢
  by_cases c:I1 (x0 a (bY l j))=So d
  ·rw[if_pos (h.2 c)]
   rw[if_pos c]at b
   exact b
  ·rw[if_neg (λe=>c (h.1 e))]
   rw[if_neg c]at b
   exact⟨by rw[fC];exact b,by rw[J0];exact m,a9.refl _⟩
theorem IT{P:Pg}{l:List Oper}{A:(Nat->Va)->Act}{ds:List Deferred}{w:Wd}{Vs:List VP}:∀(os:List Oper)(Ws:List VP),Obl P l A ds w Vs os Ws->D os=D Ws
 |[],[],_=>rfl
 |[],_::_,h=>h.elim
 |_::_,[],h=>h.elim
 |_::os,_::Ws,h=>by simp[IT os Ws h.2]
theorem UG{P:Pg}{l:List Oper}{A:(Nat->Va)->Act}{ds:List Deferred}{w:Wd}{Vs:List VP}:∀(os:List Oper)(Ws:List VP)(i:Nat)(o:Oper),Obl P l A ds w Vs os Ws->os[i]? =So o->
 ∃aa,Ws[i]? =So aa/\∀x w',a9 w w'->g0 Vs x w' (o7 P l aa ds w' (A x) o) o.after.toList
 |[],_,_,_,_,h=>by simp at h
 |_::_,[],_,_,h,_=>h.elim
 |o'::os,aa::Ws,0,o,h,ho=>by simp only[List.getElem?_cons_zero,Option.some.injEq]at ho;subst ho;exact⟨aa,rfl,h.1⟩
 |o'::os,aa::Ws,i+1,o,h,ho=>by simp only[List.getElem?_cons_succ]at ho⊢;exact UG os Ws i o h.2 ho
theorem UA{P:Pg}{o:Oper}{a:Act}{w:Wd}{Xa k:Act->Wd->Prop}{j i:Exit->Act->Wd->Prop}(b:o.wp P a w Xa j)(s:∀l w',Xa l w'->l.defers=a.defers)
 (h:∀v w',Xa (a.put o.dst v) w'->k (a.put o.dst v) w') (m:∀c a w,j (.panic c) a w->i (.panic c) a w) (u:∀a w,j .outgrown a w->i .outgrown a w):o.wp P a w k i:=by
 unfold Oper.wp at*;generalize(execOp a.eval o).run P w=r at*;cases r with
 |ok n w'=>
  cases n<;>simp only[Oper.upon]at b⊢
  case value=>exact h _ _ b
  case skip=>exact h _ _ b
  case defer d=>
   have:=s _ _ b
   rw[J0]at this
   have:=congrArg List.length this
   simp at this
  case enter=>
   refine Calls.mono b λe y f=> ?_
   cases e with
   |returned v=>exact h _ _ f
   |panicked c=>exact m _ _ _ f
   |outgrown=>obtain⟨p,w0,q⟩:=f;exact⟨p,w0,u _ _ q⟩
  case row=>exact Rows.mono b λ_ _ f=>h _ _ f
 |halt x w'=>
  cases x<;>simp only[Oper.upon]at b⊢
  case panic=>exact m _ _ _ b
theorem kS:∀(l:List Bool)(i:Nat),l[i]? =So Bf->(l.set i Bt).count Bf+1=l.count Bf
 |[],_,h=>by simp at h
 |b::l,0,h=>by simp only[List.getElem?_cons_zero,Option.some.injEq]at h;subst h;simp
 |b::l,i+1,h=>by simp only[List.getElem?_cons_succ]at h;have:=kS l i h;simp only[List.set_cons_succ,List.count_cons];omega
theorem H1:∀(os:List Oper)(k i:Nat)(o:Oper),a2O os k=Bt->os[i]? =So o->∀e∈o.after,Region.binds .any e=Bt->e.on<k+i
 |[],_,_,_,_,h=>by simp at h
 |o'::os,k,0,o,hb,h=>by simp only[List.getElem?_cons_zero,Option.some.injEq]at h;subst h;simp only[a2O,j3,List.all_eq_true,Array.mem_toList_iff]at hb;intro e b a;have:=hb.1 e b;simpa[a]using this
 |o'::os,k,i+1,o,hb,h=>by simp only[List.getElem?_cons_succ]at h;simp only[a2O,j3]at hb;intro e b a;have:=H1 os (k+1) i o hb.2 h e b a;omega
theorem y2{P:Pg}{b:Array Oper}{Q:Exit->Act->Wd->Prop}{a:Act}{w:Wd}{id:Nat}(ar:P.follows .mixedOrders=Bt)
 (Vs:List VP) (af:(D6 b.toList&&a2O b.toList 0)=Bt) (A:(Nat->Va)->Act) (al:∀x,m0 b.toList x 0 a=A x)
 (ah:Obl P b.toList A a.defers w Vs b.toList Vs)
 (ap:∀x w',a9 w w'->n9 x w' (Q .normal (A x) w') Vs 0):(Code.region id b Bt).wp P Q a w:=by
 simp only[j3]at af;obtain⟨ao,ag⟩:=af;obtain rfl:(λx=>m0 b.toList x 0 a)=A:=funext al;have bc:b.size=D Vs:=by rw[<-IT _ _ ah];simp
 have ac:∀(os:List Oper)(x:Nat->Va)(k:Nat)(a:Act),(m0 os x k a).defers=a.defers:=by
  intro os;induction os with
  |nil=>intro _ _ _;rfl
  |cons o os ih=>intro x k a;simp only[m0];rw[ih,J0]
 have key:∀(s:Nat)(c:Array Bool)(x:Nat->Va)(d:Wd),a9 w d->(∀j(h:VP),c[j]? =So Bt->Vs[j]? =So h->h.p (x j) d)->
   c.size=b.size->c.toList.count Bf<=s->wpAny P .any b Q s c (m0 b.toList x 0 a) d:=by
  intro s
  have ae:∀(c:Array Bool)(x:Nat->Va)(d:Wd),a9 w d->(∀j(h:VP),c[j]? =So Bt->Vs[j]? =So h->h.p (x j) d)->c.size=b.size->
    Region.ready .any b c=[]->Q .normal (m0 b.toList x 0 a) d:=by
   intro c x d r q B F
   have N:∀n j,j<n->j<b.size->c[j]? =So Bt:=by
    intro n
    induction n with
    |zero=>intro j m;omega
    |succ n ih=>
     intro j m T
     have p:j<c.size:=a8
     cases u:c[j]with
     |true=>rw[Array.getElem?_eq_getElem p,u]
     |false=>
      have:j∈Region.ready .any b c:=by
       rw[mem_ready]
       refine⟨by simp[Array.getElem?_eq_getElem p,u],b[j],Array.getElem?_eq_getElem T,λe E C=> ?_⟩
       have av:=H1 b.toList 0 j b[j] ag (by simp[T]) e E C
       have:=ih e.on a8 a8
       simp[this]
      rw[F]at this
      cases this
   refine eP Vs 0 (λj h m=> ?_) (ap x d r)
   rw[Nat.zero_add]
   have:j<D Vs:=(List.getElem?_eq_some_iff.1 m).1
   exact q j h (N (j+1) j a8 a8) m
  induction s with
  |zero=>
   intro c x d r q B an
   have F:Region.ready .any b c=[]:=by
    rw[List.eq_nil_iff_forall_not_mem]
    intro j m
    rw[mem_ready]at m
    obtain⟨L,o,z,_⟩:=m
    have T:j<b.size:=(Array.getElem?_eq_some_iff.1 z).1
    have p:j<c.size:=a8
    have u:c[j]=Bf:=by simpa[Array.getElem?_eq_getElem p]using L
    have:0<c.toList.count Bf:=List.count_pos_iff.2 (by rw[<-u];exact Array.getElem_mem_toList p)
    omega
   exact⟨F,ae c x d r q B F⟩
  |succ s ih=>
   intro c x d r q B an
   refine⟨ae c x d r q B,λi hi=> ?_⟩
   rw[mem_ready]at hi
   obtain⟨L,o,z,N⟩:=hi
   have bb:i<b.size:=(Array.getElem?_eq_some_iff.1 z).1
   have p:i<c.size:=a8
   have u:c[i]=Bf:=by simpa[Array.getElem?_eq_getElem p]using L
   have aa:b.toList[i]? =So o:=by simpa using z
   obtain⟨h,am,au⟩:=UG _ _ i o ah aa
   have l:=kQ o.after.toList (λe E C=>by
    have av:=H1 b.toList 0 i o ag aa e (by simpa using E) C
    have aq:=N e (by simpa using E) C
    have ak:c[e.on]? =So Bt:=by
     have:e.on<c.size:=a8
     rw[Array.getElem?_eq_getElem this]
     simpa[Array.getElem?_eq_getElem this]using aq
    have ad:e.on<D Vs:=a8
    rw[b9,e9 ad]
    exact q e.on _ ak (e9 ad)) (au x d r)
   have aj:∀v H,h.p (x0 ((m0 b.toList x 0 a).put o.dst v) o.dst) H->a9 d H->wpAny P .any b Q s (c.setIfInBounds i Bt) ((m0 b.toList x 0 a).put o.dst v) H:=by
    intro v H aw ai
    rw[<-lJ,qK b.toList x 0 a i o _ ao aa,Nat.zero_add]
    refine ih _ _ _ (r.trans ai) (λj W m y=> ?_) (by simpa using B) ?_
    ·by_cases S:j=i
     ·subst S
      rw[am]at y
      injection y with y
      subst y
      simp only[DB,if_true]
      exact aw
     ·simp only[DB,if_neg S]
      rw[Array.getElem?_setIfInBounds_ne (Ne.symm S)]at m
      exact W.st _ _ _ (q j W m y) ai
    ·have:=kS c.toList i (by simp[p,u])
     simp only[Array.toList_setIfInBounds]
     omega
   unfold wpOp
   rw[z]
   dsimp only
   have l:Wp P b (sO h o.dst a.defers d) [o] (m0 b.toList x 0 a) d:=by
    have:=o7.toList (ac _ _ _ _) l
    rwa[Array.toArray_toList]at this
   simp only[Wp]at l
   split
   ·rename_i ab
    rw[if_pos ab]at l
    rcases l with l|⟨_,ba,w0,f⟩
    ·refine .inl (UA l (λaz w' f=>by rw[ac];exact f.2.1) (λv w' f=>aj v w' f.1 f.2.2) (λ_ _ _ f=>f.elim) (λ_ _ f=>f.elim))
    ·exact f.elim
   ·rename_i ab
    rw[if_neg ab]at l
    exact aj _ _ l.1 l.2.2
 obtain⟨ay,ax⟩:=gH b.toList 0 a;refine wp_region_any ar ?_;have:=key b.size (Array.replicate b.size Bf) ay {w with drawn:=w.drawn+1} ((a9.refl w).drew) (λj h f _=>by simp[Array.getElem?_replicate]at f) i3 i3
 rw[ax]at this;exact this
section
variable {R:Wd->Wd->Prop} {Xa:VR R->Wd->Act->Oper->Prop} {A:(Nat->Va)->Act} {w:Wd} {G:List (VR R)->Prop}
theorem CG{Vs Ws:List (VR R)}{x:Nat->Va}{w:Wd}{G:Prop}:∀(a:List Edge),(∀e∈a,Region.binds .any e=Bt->e.on<D Vs)->g0 Vs x w G a->g0 (Vs++Ws) x w G a
 |[],_,h=>h
 |e::a,hk,h=>by
  have ih:=CG (Vs:=Vs) (Ws:=Ws) (x:=x) (w:=w) (G:=G) a λc f=>hk c (List.mem_cons_of_mem _ f)
  have i:Region.binds .any e=Bt->(Vs++Ws).getD e.on .any=Vs.getD e.on .any:=λd=>by rw[b9,b9,List.getElem?_append_left (hk e (List.mem_cons_self ..) d)]
  unfold g0 at h⊢;cases b:e.ground<;>simp only[b]at h⊢;all_goals first|exact ih h|(rw[i (by unfold Region.binds;rw[b])];exact λp=>ih (h p))
def Sq(Xa:VR R->Wd->Act->Oper->Prop)(A:(Nat->Va)->Act)(w:Wd)(G:List (VR R)->Prop):List Oper->List (VR R)->Prop
 |[],Vs=>G Vs
 |o::os,Vs=>∃aa:VR R,(∀x w',R w w'->g0 Vs x w' (Xa aa w' (A x) o) o.after.toList)/\Sq Xa A w G os (Vs++[aa])
def ObK(Xa:VR R->Wd->Act->Oper->Prop)(A:(Nat->Va)->Act)(w:Wd)(Vs:List (VR R)):List Oper->List (VR R)->Prop
 |[],[]=>True
 |o::os,aa::Ws=>(∀x w',R w w'->g0 Vs x w' (Xa aa w' (A x) o) o.after.toList)/\ObK Xa A w Vs os Ws
 |_,_=>False
theorem r7{o:Oper}{os:List Oper}{Vs:List (VR R)}(aa:VR R)(h:∀x w',R w w'->g0 Vs x w' (Xa aa w' (A x) o) o.after.toList)(k:Sq Xa A w G os (Vs++[aa])):Sq Xa A w G (o::os) Vs:=⟨aa,h,k⟩
theorem D7{o:Oper}{os:List Oper}{Vs:List (VR R)}{v:Va}(h:∀x w',R w w'->g0 Vs x w' (Xa (.is v) w' (A x) o) o.after.toList)(k:Sq Xa A w G os (Vs++[.is v])):Sq Xa A w G (o::os) Vs:=⟨_,h,k⟩
theorem vQ:∀(os:List Oper)(Vs:List (VR R)),a2O os (D Vs)=Bt->Sq Xa A w G os Vs->∃Ws,ObK Xa A w (Vs++Ws) os Ws/\G (Vs++Ws)
 |[],Vs,_,h=>⟨[],trivial,by rw[List.append_nil];exact h⟩
 |o::os,Vs,he,h=>by obtain⟨a,d,f⟩:=h;simp only[a2O,j3,List.all_eq_true]at he;obtain⟨Ws,b,c⟩:=vQ os (Vs++[a]) (by rw[g1];exact he.2) f;rw[p6]at b c;exact⟨a::Ws,⟨λx w' q=>CG _ (λe j i=>by have:=he.1 e j;simpa[i]using this) (d x w' q),b⟩,c⟩
theorem dn{v:Va}{b:Option Tmp}{ds:List Deferred}{w0 w':Wd}{a:Act}(c:x0 a b=v)(d:a.defers=ds)(e:R w0 w'):sO (VR.is (R:=R) v) b ds w0 .normal a w':=⟨c,d,e⟩
end
theorem IU{P:Pg}{l:List Oper}{A:(Nat->Va)->Act}{ds:List Deferred}{w:Wd}{Vs:List VP}:∀(os:List Oper)(Ws:List VP),ObK (λaa w' b o=>o7 P l aa ds w' b o) A w Vs os Ws->Obl P l A ds w Vs os Ws
 |[],[],_=>trivial
 |[],_::_,h=>h.elim
 |_::_,[],h=>h.elim
 |_::os,_::Ws,h=>⟨h.1,IU os Ws h.2⟩
theorem gP{P:Pg}{c:Array Oper}{Q:Exit->Act->Wd->Prop}{a:Act}{w:Wd}{id:Nat}{A:(Nat->Va)->Act}
 (h:Sq (λf w' b o=>o7 P c.toList f a.defers w' b o) A w (λVs=>∀x w',a9 w w'->n9 x w' (Q .normal (A x) w') Vs 0) c.toList [])
 (l:P.follows .mixedOrders=Bt:=by exact rfl) (d:(D6 c.toList&&a2O c.toList 0)=Bt:=by kernel_rfl)
 (k:∀x,m0 c.toList x 0 a=A x:=by intro x;(conv=>lhs;simp only[List.dropLast,m0,Act.put,uL,Nat.reduceAdd])<;>rfl):(Code.region id c Bt).wp P Q a w:=by
 have e:=d;rw[j3]at e;obtain⟨Ws,i,j⟩:=vQ _ _ e.2 h;exact y2 l Ws d A k (IU _ _ i) j
def aH{b:Type}(c:Fence)(n:Nat)(P:Pg)(g:Nat)(lb:Array Va)(encs:b->Array Va)(G:b->Wd->Prop)(Kp:Wd->Wd->Prop)(S:List b->Prop)(N:Nat)(w:Wd):Prop:=
 ∀(l:Nat)(Jq:List b->Wd->Prop)(W:Wd),Below w w W->AbidesFrom W Jq->
  (∀pre x a,Jq pre a->G x a->D pre<N->YieldAt c (n-1) P l (encs x) a λe W'=>e=X (O Bt)/\Jq (pre++[x]) W'/\Kp a W')->
  Jq [] W->
  Ci c n P g (#[Fc (.yield l) #[] #[]]++lb) W λe W'=>(∃v,e=X v)/\∃xs,S xs/\Jq xs W'
def oX{a:Type}(B:Nat)(Kp:Wd->Wd->Prop)(b:List a->Wd->Prop)(xs:List a)(W:Wd):Exit->Act->Wd->Prop
 | .normal,_,W'=>KeepsFrom B W W'/\Kp W W'/\b xs W'
 |_,_,_=>False
def YX{b:Type}(c:Fence)(n:Nat)(P:Pg)(g:Nat)(lb:Array Va)(encs:b->Array Va)(G:b->Wd->Prop)(Kp:Wd->Wd->Prop)(Bd:Wd->Prop)(S:List b->Prop)(N:Nat)(w:Wd):Prop:=
 ∀(l:Nat)(Jq:List b->Wd->Prop)(W:Wd),Below w w W->AbidesFrom W Jq->(∀pre W,Jq pre W->Bd W)->
  (∀pre x a,Jq pre a->G x a->D pre<N->YieldAt c (n-1) P l (encs x) a λe W'=>e=X (O Bt)/\Jq (pre++[x]) W'/\Kp a W')->
  Jq [] W->
  Ci c n P g (#[Fc (.yield l) #[] #[]]++lb) W λe W'=>(∃v,e=X v)/\∃xs,S xs/\Jq xs W'
theorem aH.toB{d:Type}{e:Fence}{n:Nat}{P:Pg}{g:Nat}{lb:Array Va}{encs:d->Array Va}{G:d->Wd->Prop}{Kp:Wd->Wd->Prop}{S:List d->Prop}{N:Nat}{w:Wd}(h:aH e n P g lb encs G Kp S N w):YX e n P g lb encs G Kp (λ_=>True) S N w:=λl Jq W a b _ c f=>h l Jq W a b c f
theorem G8{F:Fence}{n:Nat}{P:Pg}{α:Type}{g:Operand}{ps:Array Tmp}{assign body:Code}{Q:Exit->Act->Wd->Prop}{a:Act}{w:Wd}
 (hro:F.round=J) (h1:1<=n) {gf:Nat} {lb:Array Va} (hg:a.eval g=Fc (.func gf) #[] lb) (hFg:F.fn gf) (eg:∀args w,(callFunc gf args).run P w= .ok (.enter gf args) w)
 {encs:α->Array Va} {G:α->Wd->Prop} {Kp:Wd->Wd->Prop} {Bd:Wd->Prop} {S:List α->Prop} {N:Nat} {w0:Wd} (hseq:YX F (n-1) P gf lb encs G Kp Bd S N w0)
 (hKt:∀{A B C:Wd},Kp A B->Kp B C->Kp A C) (hKb:∀(W:Wd)(l:Nat)(o o':Obj),w<=l->W.heap[l]? =So o->o.isCells=Bf->o.isWalk=Bf->Kp W (W.putObj l o'))
 (hb0:Below w0 w0 w) (hps:∀x,(encs x).size=ps.size)
 (hG:∀(x:α)(W:Wd)(l:Nat)(o o':Obj),G x W->W.heap[l]? =So o->o.isCells=Bf->G x (W.putObj l o'))
 (ab:List α->Wd->Prop) (hBd:∀pre W,ab pre W->Bd W) (hI:OwnFrom w ab) (h0:ab [] w) (a₁:α->Act)
 (hassign:∀(l:Nat)(x:α)(W:Wd)(Xa:Act->Wd->Prop),Xa (a₁ x) W->
 assign.wpIn (F.inRound l) (n-1-1) P (Exit.then Xa (λ_ _ _=>False)) {tmps:=(ps.zip (encs x)).foldl (λt(p,v)=>t.setIfInBounds p v) a.tmps,defers:=[]} W)
 (hbody:∀(l:Nat)(pre:List α)(x:α)(W:Wd),ab pre W->G x W->D pre<N->body.wpIn (F.inRound l) (n-1-1) P (oX w Kp ab (pre++[x]) W) (a₁ x) W)
 (hdone:∀(aa:Nat)(xs:List α)(W:Wd),w<=aa->S xs->ab xs W->W.heap[aa]? =So (.deferred (So []))->Q .normal {a with defers:= {target:= .collected aa,args:= #[]}::a.defers} W):
 (Code.rangeFunc g ps assign body).wpIn F n P Q a w:=by
 refine wpIn_rangeFunc λfn hfn=> ?_
 rw[hro];obtain⟨rec,hrec⟩:∃rec:LoopState->Option Code->Loop,rec=λst pe=> {state:=st,pending:=pe,fn,tmps:=a.tmps,params:=ps,assign,body,defers:=w}:=⟨_,rfl⟩
 obtain⟨ac,hV⟩:∃ac,(w.alloc (.deferred (So []))).alloc (.loop (rec .ready J))=ac:=⟨_,rfl⟩;have hL:ac.heap[w.heap.size+1]? =So (.loop (rec .ready J)):=by have:=World.alloc_heap_new (w.alloc (.deferred (So []))) (.loop (rec .ready J));rw[World.size_alloc]at this;rw[<-hV];exact this
 have hD:ac.heap[w.heap.size]? =So (.deferred (So [])):=by rw[<-hV];exact(Below.heap_alloc _ _ _ i3).trans (World.alloc_heap_new w _)
 have hIV:ab [] ac:=by rw[<-hV];exact hI.alloc _ (hI.alloc _ h0)
 have hbV:Below w0 w0 ac:=by rw[<-hV];exact hb0.trans ((((Below.refl _ w).alloc (a7 _) _).alloc i3 _).mono hb0.size)
 have hz:w+2<=ac.heap.size:=by rw[<-hV];simp
 have hE:(Instr.enterLoop fn a.tmps ps assign body J).run P w= .ok (w+1,[{target:= .collected w,args:= #[]}]) ac:=by rw[<-hV,hrec];exact run_enterLoop_outer _ _ _ _ _
 clear hV;refine⟨w+1,[{target:= .collected w,args:= #[]}],ac,{target:= .fn (.func gf) lb,args:= #[Fc (.yield (w+1)) #[] #[]]},ac,gf,
  #[Fc (.yield (w+1)) #[] #[]]++lb,ac,?_,?_,?_,?_,λ_=>h1,?_⟩
 exact hE;simp only[resolve,hg];simp[go_sem];intro f' hf';simp[Target.leads]at hf';subst hf';exact hFg;simp[invoke,go_sem,eg];have far:∀{A B:Wd}{row:Option Nat},(∀r,row=So r->ac.heap.size<=r/\∃o:Obj,A.heap[r]? =So o/\o.isWalk=Bt)->(∀r,row=So r->w.heap.size<=r/\∃o:Obj,A.heap[r]? =So o/\o.isCells=Bf):=
  λhr r e=>by
   obtain⟨hB,o,ho,hw⟩:=hr r e
   exact⟨a8,o,ho,Obj.not_cells_of_walk hw⟩
 refine(hseq (w+1) (λpre W=>ab pre W/\W.heap[w.heap.size+1]? =So (.loop (rec .ready J))/\W.heap[w.heap.size]? =So (.deferred (So []))) ac hbV
  (λs A B row hs hg' hr=>⟨hI s A B row hs.1 hg' (far (B:=B) hr),(grownBy_keeps hg' (λr e=>(hr r e).2) hs.2.1 rfl).trans hs.2.1,(grownBy_keeps hg' (λr e=>(hr r e).2) hs.2.2 rfl).trans hs.2.2⟩)
  (λpre W hs=>hBd pre W hs.1) ?_ ⟨hIV,hL,hD⟩).mono ?_
 ·rintro pre x W⟨hi,hl,hk⟩ hgx hlen;have hlt:w+1<W.heap.size:=(Array.getElem?_eq_some_iff.1 hl).1;have hy:=run_yield (P:=P) (args:=encs x) hl (by rw[hrec];exact hps x);rw[hrec]at hy;refine⟨fn,_,assign,body,hy,roundIn_of_wpIn hfn (hassign _ x W _ ⟨_,run_beginRound hl (by rw[hrec]),?_⟩)⟩;generalize hW2:W.putObj (w+1) (.loop {rec .ready J with state:= .busy})=W2;have hl2:W2.heap[w.heap.size+1]? =So (.loop {rec .ready J with state:= .busy}):=by rw[<-hW2];exact World.putObj_heap_same hlt
  have hk2:W2.heap[w.heap.size]? =So (.deferred (So [])):=by rw[<-hW2];exact(World.putObj_heap_other a8).trans hk
  have hw2:Kp W W2:=by rw[<-hW2];exact hKb _ _ _ _ a8 hl rfl rfl
  have hi2:ab pre W2:=by rw[<-hW2];exact hI.putObj _ hi a8 hl rfl
  have hg2:G x W2:=by rw[<-hW2];exact hG x W _ _ _ hgx hl rfl
  refine wpIn_mono (hbody _ pre x _ hi2 hg2 hlen) ?_;rintro e a3 W3 hp;cases e with
  |normal=>
   obtain⟨hk3,hkp3,hi3⟩:=hp
   have hl3:=hk3.same _ _ a8 hl2 rfl
   have hr:=run_endRound (P:=P) J hl3
   rw[hrec]at hr
   exact⟨_,_,hr,rfl,⟨hI.putObj _ hi3 a8 hl3 rfl,by rw[hrec];exact World.putObj_heap_same (Array.getElem?_eq_some_iff.1 hl3).1,(World.putObj_heap_other a8).trans (hk3.same _ _ (a7 _) hk2 rfl)⟩,hKt (hKt hw2 hkp3) (hKb _ _ _ _ a8 hl3 rfl rfl)⟩
  |ret=>exact hp.elim
  |exit id=>exact hp.elim
  |goto t=>exact hp.elim
  |panic ch=>exact hp.elim
  |outgrown=>exact hp.elim
 rintro e W2⟨⟨v,rfl⟩,xs,hS,hi,hl,hk⟩;have hr:=run_endLoop (P:=P) hl (by rw[hrec];simp);rw[hrec]at hr;exact⟨J,_,hr,hdone _ xs _ (a7 _) hS (hI.putObj _ hi a8 hl rfl) ((World.putObj_heap_other a8).trans hk)⟩
theorem e7.d2{W:Wd}{G:Nat}{T:Ti}{C:Array Va}(H:e7 W G T C)(a b:Nat):W.cell? ⟨G,a,J⟩=C[a]?/\W.cell? ⟨G,b,J⟩=C[b]?:=⟨H.cell a,H.cell b⟩
theorem e7.d4{W:Wd}{G:Nat}{T:Ti}{C:Array Va}(H:e7 W G T C)(a b c d:Nat):W.cell? ⟨G,a,J⟩=C[a]?/\W.cell? ⟨G,b,J⟩=C[b]?/\W.cell? ⟨G,c,J⟩=C[c]?/\W.cell? ⟨G,d,J⟩=C[d]?:=⟨H.cell a,H.cell b,H.cell c,H.cell d⟩
theorem e7.d5{W:Wd}{G:Nat}{T:Ti}{C:Array Va}(H:e7 W G T C)(a b c d e:Nat):W.cell? ⟨G,a,J⟩=C[a]?/\W.cell? ⟨G,b,J⟩=C[b]?/\W.cell? ⟨G,c,J⟩=C[c]?/\W.cell? ⟨G,d,J⟩=C[d]?/\W.cell? ⟨G,e,J⟩=C[e]?:=⟨H.cell a,H.cell b,H.cell c,H.cell d,H.cell e⟩
theorem e7.d6{W:Wd}{G:Nat}{T:Ti}{C:Array Va}(H:e7 W G T C)(a b c d e f:Nat):W.cell? ⟨G,a,J⟩=C[a]?/\W.cell? ⟨G,b,J⟩=C[b]?/\W.cell? ⟨G,c,J⟩=C[c]?/\W.cell? ⟨G,d,J⟩=C[d]?/\W.cell? ⟨G,e,J⟩=C[e]?/\W.cell? ⟨G,f,J⟩=C[f]?:=⟨H.cell a,H.cell b,H.cell c,H.cell d,H.cell e,H.cell f⟩
theorem e7.d7{W:Wd}{G:Nat}{T:Ti}{C:Array Va}(H:e7 W G T C)(a b c d e f g:Nat):W.cell? ⟨G,a,J⟩=C[a]?/\W.cell? ⟨G,b,J⟩=C[b]?/\W.cell? ⟨G,c,J⟩=C[c]?/\W.cell? ⟨G,d,J⟩=C[d]?/\W.cell? ⟨G,e,J⟩=C[e]?/\W.cell? ⟨G,f,J⟩=C[f]?/\W.cell? ⟨G,g,J⟩=C[g]?:=⟨H.cell a,H.cell b,H.cell c,H.cell d,H.cell e,H.cell f,H.cell g⟩
theorem e7.c2{w:Wd}{g:Nat}{t:Ti}{cs:Array Va}(h:e7 w g t cs):w.cell? ⟨g,0,J⟩=cs[0]?/\w.cell? ⟨g,1,J⟩=cs[1]?:=⟨h.cell 0,h.cell 1⟩
theorem e7.c3{w:Wd}{g:Nat}{t:Ti}{cs:Array Va}(h:e7 w g t cs):w.cell? ⟨g,0,J⟩=cs[0]?/\w.cell? ⟨g,1,J⟩=cs[1]?/\w.cell? ⟨g,2,J⟩=cs[2]?:=⟨h.cell 0,h.cell 1,h.cell 2⟩
theorem e7.c4{w:Wd}{g:Nat}{t:Ti}{cs:Array Va}(h:e7 w g t cs):w.cell? ⟨g,0,J⟩=cs[0]?/\w.cell? ⟨g,1,J⟩=cs[1]?/\w.cell? ⟨g,2,J⟩=cs[2]?/\w.cell? ⟨g,3,J⟩=cs[3]?:=⟨h.cell 0,h.cell 1,h.cell 2,h.cell 3⟩
theorem e7.c5{w:Wd}{g:Nat}{t:Ti}{cs:Array Va}(h:e7 w g t cs):w.cell? ⟨g,0,J⟩=cs[0]?/\w.cell? ⟨g,1,J⟩=cs[1]?/\w.cell? ⟨g,2,J⟩=cs[2]?/\w.cell? ⟨g,3,J⟩=cs[3]?/\w.cell? ⟨g,4,J⟩=cs[4]?:=⟨h.cell 0,h.cell 1,h.cell 2,h.cell 3,h.cell 4⟩
theorem e7.c9{w:Wd}{g:Nat}{t:Ti}{cs:Array Va}(h:e7 w g t cs):w.cell? ⟨g,0,J⟩=cs[0]?/\w.cell? ⟨g,1,J⟩=cs[1]?/\w.cell? ⟨g,2,J⟩=cs[2]?/\w.cell? ⟨g,3,J⟩=cs[3]?/\w.cell? ⟨g,4,J⟩=cs[4]?/\w.cell? ⟨g,5,J⟩=cs[5]?/\w.cell? ⟨g,6,J⟩=cs[6]?/\w.cell? ⟨g,7,J⟩=cs[7]?/\w.cell? ⟨g,8,J⟩=cs[8]?:=⟨h.cell 0,h.cell 1,h.cell 2,h.cell 3,h.cell 4,h.cell 5,h.cell 6,h.cell 7,h.cell 8⟩
def uV:=And.intro @bY.eq_1 (And.intro @bY.eq_2 (And.intro @bY.eq_3 (And.intro @x0.eq_1 (And.intro @x0.eq_2 (And.intro @I1.eq_1 (And.intro @I1.eq_2 (And.intro @VR.is.eq_1 (And.intro @VR.any.eq_1 (And.intro @VP.row.eq_1 (And.intro @VP.ptr.eq_1 (And.intro @VP.blk.eq_1 (And.intro @VP.ex.eq_1 (And.intro @VP.and.eq_1 (And.intro @VP.of.eq_1 (And.intro @List.getD_cons_zero.{0} (And.intro @List.getD_cons_succ.{0} (And.intro @List.nil_append.{0} @List.cons_append.{0})))))))))))))))))
end
section
def leB:Nat->Int->o5
 |0,_=>[]
 |n+1,x=>x % 256::leB n (x/256)
def sP(a:o5):Prop:=∀x∈a,0<=x/\x<256
theorem sP.drop{a:o5}(b:sP a)(k:Nat):sP (a.drop k):=λx c=>b x (List.mem_of_mem_drop c)
theorem sP.take{a:o5}(b:sP a)(k:Nat):sP (a.take k):=λx c=>b x (List.mem_of_mem_take c)
theorem sP.append{a b:o5}(d:sP a)(k:sP b):sP (a++b):=λx c=>by
 rcases List.mem_append.1 c with c|c
 exact d x c;exact k x c
theorem AF(k:IntKind)(x y:Int):bits .or k x y=bits .or k y x:=by simp only[bits];rw[BitVec.or_comm]
theorem DG(n:Int)(a:0<=n)(b:n<2^32):IntKind.u32.wrap n=n:=IntWalk.u32_in n a8
theorem KS(x a:Int)(b:0<=x/\x<65536)(c:0<=a/\a<256):bits .or V x (a*65536)=x+a*65536:=by rw[AF,bits_join V 32 e6 DG 16 (a*65536) x a8 a8 a8 b.1 a8 a8];omega
theorem a4a(x:Int)(w:Wd)(j:0<=x)(f:x<256^8):
 Ca prog 344 #[I U6 x] w λe i=>e=X (Tp #[I V (x % 4294967296),I V (x/4294967296)])/\w=i:=by
 have h:=a6 f;clear f;go_in;go_wp2;go_ret2;have f:=h.O;refine⟨?_,rfl⟩;have e:∀a b c d:Int,a=b->c=d->X (Tp #[I V a,I V c])=X (Tp #[I V b,I V d]):=λa b c d g k=>by rw[g,k]
 exact e _ _ _ _ a8 a8
theorem qW(a:p1)(n c:Nat)(xs:o5)(w:Wd)(e:D xs=n)(f:i5 w a (l8 U8 xs)):
 (convert 22 9 (Z a n c)).run prog w= .ok (Y (Sn xs)) w:=by
 rcases Nat.eq_zero_or_pos n with d|d
 subst d;obtain rfl:xs=[]:=List.eq_nil_of_length_eq_zero e;exact run_convert_bytes_zero w 22 5 underlying22 underlying5 a c 9 underlying9;obtain⟨b,o,rfl,_⟩:=f.some_ (by simpa[l8,e]using d);refine run_convert_bytes_arg (P:=prog) w 22 5 underlying22 underlying5 b o n c xs e (λi hi=> ?_) 9 underlying9;rw[b9,e9 a8];exact f.cell (Q9 _)
open Go.ChangeAt
open Go.ChangeMaps (open_string shut_string)
theorem TV:ownKnob prog.godebug=J:=g6
theorem AZ:laidOutB prog=Bt:=g6
section
variable {H:Type} {enc:Ti×Va->H} {W:Wd}
theorem a4R{x:Int}(h:(Lit.int U8 x).wf=Bt):0<=x/\x<256:=by have:=bounds_u8 h;omega
end
def gb(n:Nat)(a:Int)(k:Nat):Bool:=Dc (0<=a/\a<=(n:Int)-k)
theorem keep{P:Pg}{f:FuncId}{args:Array Va}{w:Wd}{x:Ending}(b:Ca P f args w λe a=>e=x/\w=a):Ca P f args w λe a=>e=x/\a9 w a:=
 b.mono λe a⟨c,d⟩=>⟨c,d▸a9.refl w⟩
theorem a9.one{w a:Wd}{o:Obj}(b:a9 (w.alloc o) a):a9 w a:=((a9.refl w).alloc o).trans b
end
theorem i5.far{W:Wd}{c:p1}{xs:List Va}(d:i5 W c xs){p:Ad}(f:∀a,c=So a->a.block≠p.block)(u:Va):i5 (W.setCell p u) c xs:=λj v g=>by obtain⟨b,h,rfl,e⟩:=d j v g;refine⟨b,h,rfl,?_⟩;have:=Below.heap_setCell W p u b (f _ rfl);unfold World.cell? at*;simp only at*;rw[this];exact e
structure mY where
 nr:Int
 arch:Int
 ip:Int
 a0:Int
 a1:Int
 a2:Int
 a3:Int
 a4:Int
 a5:Int
def QA(x:Int):Prop:=0<=x/\x<4294967296
def kY(x:Int):Prop:=0<=x/\x<256^8
structure mY.ok(d:mY):Prop where
 nr:QA d.nr
 arch:QA d.arch
 ip:kY d.ip
 a0:kY d.a0
 a1:kY d.a1
 a2:kY d.a2
 a3:kY d.a3
 a4:kY d.a4
 a5:kY d.a5
abbrev a5Z(i g h a b c d e f:Int):Va:=Ag #[I V i,I V g,I U6 h,I U6 a,I U6 b,I U6 c,I U6 d,I U6 e,I U6 f]
abbrev mY.val(d:mY):Va:=a5Z d.nr d.arch d.ip d.a0 d.a1 d.a2 d.a3 d.a4 d.a5
def lo(x:Int):Int:=x % 4294967296
def hi(x:Int):Int:=x/4294967296
def mY.words(d:mY):o5:=[d.nr,d.arch,lo d.ip,hi d.ip,lo d.a0,hi d.a0,lo d.a1,hi d.a1,lo d.a2,hi d.a2,lo d.a3,hi d.a3,lo d.a4,hi d.a4,lo d.a5,hi d.a5]
theorem WJ:(prog.info? 34).map (λi=>(i.zero,i.size,i.bytes))=So (So (I U6 0),1,8):=g6
theorem QT(x:Int)(a:p1)(n c:Nat)(xs:o5)(w:Wd)(f:D xs=n)(A:n<=1000)(t:i5 w a (l8 U6 xs)):
 Ca prog 343 #[I U6 x,Z a n c] w λe l=>∃B d,e=X (Z B (1+n) d)/\i5 l B (l8 U6 (x::xs))/\(∀b o,B=So ⟨b,o,J⟩->w.heap.size<=b)/\a9 w l:=by
 obtain⟨y,hi,i,j,k⟩:=info_parts WJ;have m:=a6 hi;have p:=a6 i;have q:=a6 j;have r:=a6 k;clear hi i j k;have s:=a6 f;clear f;have g:(w.alloc (U #[I U6 x] 34)).ownsRow w 34 1 (Z w 1 1) 1 [I U6 x]:=
  ⟨rfl,.inr ⟨w,1,_,rfl,a7 _,heap_alloc_new w _,a7 _,by unfold maxLen;omega,rfl,rfl⟩⟩
 have u:=t.h ((a9.refl w).alloc (U #[I U6 x] 34));go_in;go_wp2_with(at_builtin;refine aN rfl (Tm 6) (Tm 7) _ rfl w 34 y _ 1 8 underlying405 m p q r rfl a8 _ 1 1 [I U6 x] rfl g a n c (l8 U6 xs) rfl (by rw[i1,s.O,Nat.mul_one]) u UJ a8 a8 i3 ?_;intro B d C h v z);go_ret;refine⟨B,d,rfl,wI h,λb o e=>by subst e;exact TW h,?_⟩;exact((a9.refl w).alloc _).app g (a7 _) v
theorem xB(x:Int)(w:Wd)(a:kY x):
  Ca prog 344 #[I U6 x] w λe b=>e=X (Tp #[I V (lo x),I V (hi x)])/\w=b:=a4a x w a.1 a.2
def QG(b a:Int)(xs:o5):Nat->Array Va
 |0=> #[I V b,I V a,I V 0,I V 0,I V 0,I V 0,I V 0,I V 0,I V 0,I V 0,I V 0,I V 0,I V 0,I V 0,I V 0,I V 0]
 |k+1=>((QG b a xs k).setIfInBounds (2+2*k) (I V (lo (xs.getD k 0)))).setIfInBounds (3+2*k) (I V (hi (xs.getD k 0)))
def RK(d:mY):Va:=Ag #[I V d.nr,I V d.arch,I V (lo d.ip),I V (hi d.ip),I V (lo d.a0),I V (hi d.a0),I V (lo d.a1),I V (hi d.a1),I V (lo d.a2),I V (hi d.a2),I V (lo d.a3),I V (hi d.a3),I V (lo d.a4),I V (hi d.a4),I V (lo d.a5),I V (hi d.a5)]
theorem gW(b a:Int)(xs:o5):∀k,(QG b a xs k).size=16
 |0=>rfl
 |k+1=>by simp[QG,gW b a xs k]
theorem a4O(c b:Int)(xs:o5):∀k,∀v∈(QG c b xs k).toList,v.oneCell'=Bt
 |0,v,a=>by simp[QG]at a;rcases a with rfl|rfl|rfl<;>rfl
 |k+1,v,a=>by
  simp only[QG,Array.toList_setIfInBounds]at a;rcases List.mem_or_eq_of_mem_set a with a|rfl
  rcases List.mem_or_eq_of_mem_set a with a|rfl
  exact a4O c b xs k v a;rfl;rfl
theorem LA(u:mY)(az:u.ok)(w:Wd):
 Ca prog 271 #[u.val] w λe y=>e=X (RK u)/\a9 w y:=by
 obtain⟨q,n,l,c,d,f,g,h,j⟩:=u;obtain⟨an,ao,L,N,P,Q,R,S,T⟩:=az;dsimp only at an ao L N P Q R S T;go_in;go_wp2;have ad:∀(A Yq:Obj),i5 ((((w.alloc (U #[I V q,I V n,I U6 l,I U6 c,I U6 d,I U6 f,I U6 g,I U6 h,I U6 j] 56)).alloc A).alloc Yq).drew) (So ⟨w,3,J⟩) (l8 U6 [c,d,f,g,h,j]):=λA Yq=>
  (((e7.new w 56 #[I V q,I V n,I U6 l,I U6 c,I U6 d,I U6 f,I U6 g,I U6 h,I U6 j]).alloc A).alloc Yq).drew.inM.drop 3
 go_region_held3 (λy=>y.cell? ⟨w,2,J⟩=So (I U6 l)) (first|go_keep|(rw[s.cell];go_keep)) (first|(go_at_call 343;apply(QT l _ 6 6 [c,d,f,g,h,j] _ rfl a8 (ad _ _)).mono;rintro e aa⟨B,bf,rfl,G,ag,s⟩))
 obtain⟨b,o,rfl,ba⟩:=G.some_ i3;have al:a9 w aa:=(((((a9.refl w).alloc _).alloc _).alloc _).drew).trans s;have m:e7 aa (w+1+1) 133 (QG q n [l,c,d,f,g,h,j] 0):=e7.h (by refine e7.drew ?_;exact e7.b i3) s;have r:e7 aa (w+1) 133 (Array.replicate 16 (I V 0)):=e7.h (by refine e7.drew (e7.alloc ?_ _);exact e7.b i3) s;have ah:¬b=w+1+1:=by have:=ag b o rfl;simp only[World.size_drew,World.size_alloc]at this;omega
 have aj:∀k(C:k<[l,c,d,f,g,h,j].length),kY [l,c,d,f,g,h,j][k]:=λk C=>(show∀x∈[l,c,d,f,g,h,j],kY x by simp[L,N,P,Q,R,S,T]) _ (g3 C)
 have ai:[l,c,d,f,g,h,j].length=7:=rfl;have af:RK ⟨q,n,l,c,d,f,g,h,j⟩=Ag (QG q n [l,c,d,f,g,h,j] 7):=by simp[QG,RK]
 generalize [l,c,d,f,g,h,j]=xs at*;obtain⟨ay,ax,aw⟩:=r6 aj ai af;clear s ag ba ad af aj ai an ao L N P Q R S T;go_wp2;go_loopw [17] (λi W=>∃k:Nat,k<=7/\i=I M k/\a9 w W/\e7 W (w+1+1) 133 (QG q n xs k)/\e7 W (w+1) 133 (Array.replicate 16 (I V 0))/\i5 W (So ⟨b,o,J⟩) (l8 U6 xs)) (λi _=>7-(intOf i).toNat);exact⟨0,a8,rfl,al,m,r,G⟩;clear al m r G;obtain⟨k,C,rfl,H,m,r,F⟩:=hrel;by_cases bd:k<7
 ·have E:k<D xs:=by rw[ax.O];exact bd
  have bg:wr.cell? ⟨b,o+k,J⟩=So (I U6 xs[k]):=F.cell (by unfold l8;simp[E]);have bc:=ay k E;have ae:xs.getD k 0=xs[k]:=by simp[b9,E]
  have bh:IntKind.i64.wrap (2*(k:Int))=((2*k:Nat):Int):=(h7 _ a8).trans a8;have bi:IntKind.i64.wrap (2+((2*k:Nat):Int))=((2+2*k:Nat):Int):=(h7 _ a8).trans a8;have bj:IntKind.i64.wrap (3+((2*k:Nat):Int))=((3+2*k:Nat):Int):=(h7 _ a8).trans a8;obtain⟨bq,bm⟩:∃v,wr.cell? ⟨w+1+1,2+2*k,J⟩=So v:=⟨_,(m.cell _).trans (Array.getElem?_eq_getElem (by rw[gW];omega))⟩;obtain⟨br,bn⟩:∃v,wr.cell? ⟨w+1+1,3+2*k,J⟩=So v:=⟨_,(m.cell _).trans (Array.getElem?_eq_getElem (by rw[gW];omega))⟩;have bk:=m.frozen (2+2*k);have bl:=m.frozen (3+2*k);have bo:((2+2*k:Nat):Int)<16:=a8;have bp:((3+2*k:Nat):Int)<16:=a8;have ac:=(m.f (2+2*k) (I V (lo xs[k]))).f (3+2*k) (I V (hi xs[k]));have ab:=(r.far (p:=⟨w+1+1,2+2*k,J⟩) HW (I V (lo xs[k]))).far (p:=⟨w+1+1,3+2*k,J⟩) HW (I V (hi xs[k]));have ty:=(H.set (p:=⟨w+1+1,2+2*k,J⟩) HW (I V (lo xs[k]))).set (p:=⟨w+1+1,3+2*k,J⟩) HW (I V (hi xs[k]));have am:=(F.far (p:=⟨w+1+1,2+2*k,J⟩) (λa e=>by cases e;exact ah) (I V (lo xs[k]))).far (p:=⟨w+1+1,3+2*k,J⟩) (λa e=>by cases e;exact ah) (I V (hi xs[k]));obtain⟨z,av⟩:=j0 (show _/\_/\_/\_ from⟨ty,ac,ab,am⟩) ae;clear H m r F ac ab ty am ae;generalize ak:xs[k]=x at*;have be:=a6 ak;clear ak;go_wp2_with(go_at_call 344;apply(xB _ _ bc).mono;rintro e y⟨rfl,rfl⟩);go_roundw;exact⟨k+1,a8,o3,z.1,by rw[QG,av.O];exact z.2.1,z.2.2⟩;simp[intOf];omega
 obtain rfl:k=7:=a8;obtain⟨t,aq⟩:=j0 (gW q n xs 7) (a4O q n xs 7);generalize QG q n xs 7=cs at*;obtain⟨ar,au⟩:=j0 m r;clear m r;go_wp2_with(first|(refine bQ rfl 133 (Tm 3) rfl _ _ _ _ rfl ar underlying133 rfl (by rw[t.O];kernel_rfl) ?_)|(refine j1 rfl 133 (Tm 2) (Tm 36) rfl _ _ _ _ rfl rfl au (t.trans rfl) (by rw[t.O];kernel_rfl) aq.O ?_;intro bs ap bb));exact Bp (aV rfl _ _ _ _ _ _ rfl ap underlying133 rfl (by rw[t.O];kernel_rfl)) rfl ⟨by rw[aw.O],H.grown bb (λk e=>by cases e;omega)⟩
def gQ(a k:Int):Int:=if 0<=a/\a<=5 then 16+8*a+k else 0
def ZI(a:Int):Bool:=Dc (0<=a/\a<=5)
theorem tL(a k:Int)(w:Wd)(f:0<=a)(g:a<=5)(k0:0<=k)(k4:k<=4):
 Ca prog 441 #[I M a,I M k] w λe b=>e=X (Tp #[I V (16+8*a+k),O Bt])/\w=b:=by
 have c:Dc (a<0)=Bf:=by simp;omega
 have d:Dc (5<a)=Bf:=by simp;omega
 go_in;go_wp2;go_ret2;exact⟨rfl,rfl⟩
theorem zV(a k:Int)(w:Wd)(b:a<0\/5<a):
 Ca prog 441 #[I M a,I M k] w λe d=>e=X (Tp #[I V 0,O Bf])/\w=d:=by
 by_cases g:a<0
 ·have c:Dc (a<0)=Bt:=by simp;omega
  clear b;go_in;go_wp2;go_ret2;exact⟨rfl,rfl⟩
 have c:Dc (a<0)=Bf:=by simp;omega
 have f:Dc (5<a)=Bt:=by simp;omega
 clear b;go_in;go_wp2;go_ret2;exact⟨rfl,rfl⟩
theorem a03(a:Int)(w:Wd):Ca prog 411 #[I M a] w λe c=>e=X (Tp #[I V (gQ a 0),O (ZI a)])/\w=c:=by
 by_cases b:0<=a/\a<=5;·rw[show ZI a=Bt from by unfold ZI;simpa using b,show gQ a 0=16+8*a from by unfold gQ;rw[if_pos b,Int.add_zero]];go_in;go_wp2_with(go_at_call 441;apply(tL a 0 w b.1 b.2 a8 a8).mono;rintro e c⟨rfl,rfl⟩);go_ret2;exact⟨rfl,rfl⟩
 rw[show ZI a=Bf from by unfold ZI;simpa using b,show gQ a 0=0 from by unfold gQ;rw[if_neg b]];go_in;go_wp2_with(go_at_call 441;apply(zV a 0 w a8).mono;rintro e c⟨rfl,rfl⟩);go_ret2;exact⟨rfl,rfl⟩
theorem WO(a:Int)(w:Wd):Ca prog 412 #[I M a] w λe c=>e=X (Tp #[I V (gQ a 4),O (ZI a)])/\w=c:=by
 by_cases b:0<=a/\a<=5;·rw[show ZI a=Bt from by unfold ZI;simpa using b,show gQ a 4=16+8*a+4 from by unfold gQ;rw[if_pos b]];go_in;go_wp2_with(go_at_call 441;apply(tL a 4 w b.1 b.2 a8 a8).mono;rintro e c⟨rfl,rfl⟩);go_ret2;exact⟨rfl,rfl⟩
 rw[show ZI a=Bf from by unfold ZI;simpa using b,show gQ a 4=0 from by unfold gQ;rw[if_neg b]];go_in;go_wp2_with(go_at_call 441;apply(zV a 4 w a8).mono;rintro e c⟨rfl,rfl⟩);go_ret2;exact⟨rfl,rfl⟩
def I6(a:Int):Bool:=Dc (a % 4=0/\a<64)
def mY.word(b:mY)(a:Int):Int:=if I6 a=Bt then b.words.getD (a/4).toNat 0 else 0
def I4(a:Int):Int:=if I6 a=Bt then 0 else 41
theorem KY(a:mY)(k:Nat)(b:k<16)(W:Wd):(Instr.index 133 (RK a) (I V k)).run prog W= .ok (I V (a.words.getD k 0)) W:=by
 obtain rfl|rfl|rfl|rfl|rfl|rfl|rfl|rfl|rfl|rfl|rfl|rfl|rfl|rfl|rfl|rfl:k=0\/k=1\/k=2\/k=3\/k=4\/k=5\/k=6\/k=7\/k=8\/k=9\/k=10\/k=11\/k=12\/k=13\/k=14\/k=15:=a8
 all_goals kernel_rfl
theorem yJ(b:mY)(t:b.ok)(a:Int)(w:Wd)(z:0<=a)(A:a<4294967296):
 Ca prog 191 #[b.val,I V a] w λe x=>e=X (Tp #[I V (b.word a),I M (I4 a)])/\a9 w x:=by
 by_cases d:a % 4=0
 ·have q:(a % 4 !=0)=Bf:=by simp;exact d
  by_cases s:a<64
  ·have c:I6 a=Bt:=by unfold I6;simp;omega
   rw[show b.word a=b.words.getD (a/4).toNat 0 from by unfold mY.word;rw[if_pos c],show I4 a=0 from by unfold I4;rw[if_pos c]];have r:Dc (64<=a)=Bf:=by simp;omega
   have u:=KY b (a/4).toNat a8;rw[(a8:((a/4).toNat:Int)=a/4)]at u;have B:=IntWalk.u32_quo a 4 a8;have f:=λW:Wd=>LA b t W
   have p:=a6 f;clear f;generalize RK b=y at*;clear d c s;obtain⟨o,m,n,g,h,i,j,k,l⟩:=b;go_in;go_wp2_with(go_at_call 271;refine l4 (p _) λC v=>?_);go_ret2;exact⟨rfl,v.one⟩
  have c:I6 a=Bf:=by unfold I6;simp;omega
  rw[show b.word a=0 from by unfold mY.word;rw[if_neg (by rw[c];simp)],show I4 a=41 from by unfold I4;rw[if_neg (by rw[c];simp)]];have r:Dc (64<=a)=Bt:=by simp;omega
  clear d c;obtain⟨o,m,n,g,h,i,j,k,l⟩:=b;go_in;go_wp2;go_ret2;exact⟨rfl,(a9.refl w).alloc _⟩
 have q:(a % 4 !=0)=Bt:=by simp;exact d
 have c:I6 a=Bf:=by unfold I6;simp;omega
 rw[show b.word a=0 from by unfold mY.word;rw[if_neg (by rw[c];simp)],show I4 a=41 from by unfold I4;rw[if_neg (by rw[c];simp)]];clear d c;obtain⟨o,m,n,g,h,i,j,k,l⟩:=b;go_in;go_wp2;go_ret2;exact⟨rfl,(a9.refl w).alloc _⟩
def prB:o5->o5
 |[]=>[]
 |x::r=>leB 4 x++prB r
def mY.bytes(d:mY):o5:=prB d.words
theorem KN(d:mY)(a:d.ok):∀x∈d.words,QA x:=by
 have e:∀x,QA (lo x):=λx=>by unfold lo QA;omega
 have b:∀x,kY x->QA (hi x):=λx c=>by have:=c.1;have f:=c.2;unfold hi QA;omega
 intro x c;simp only[mY.words,List.mem_cons,List.not_mem_nil,or_false]at c;rcases c with rfl|rfl|rfl|rfl|rfl|rfl|rfl|rfl|rfl|rfl|rfl|rfl|rfl|rfl|rfl|rfl
 all_goals first|exact a.nr|exact a.arch|exact e _|exact b _ a.ip|exact b _ a.a0|exact b _ a.a1|exact b _ a.a2|exact b _ a.a3|exact b _ a.a4|exact b _ a.a5
end Go.Proofs.YtcljlejgllkcjaaGreat
