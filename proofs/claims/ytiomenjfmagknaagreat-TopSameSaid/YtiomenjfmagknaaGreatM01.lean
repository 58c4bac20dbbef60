/- A part of the proof of TopSame: lemmas on the walks of its calls. -/
import Derived.Deep.AppendLies
import Derived.Deep.DeepCutAuto
import Derived.Deep.RegionHeld3
import Derived.Handy
import Derived.Laws.CopyOwn
import Derived.Lib.AppendZeros
import Derived.Lib.Hide
import Derived.Lib.SmallJoins
import Derived.LoopIn
import Derived.LoopNIn
import Derived.OwnWalkIn
import Derived.RangeFuncBound
import Derived.RangeFuncNested
import Derived.Shelf.Bytes.SlSmallAll
import Derived.Shelf.RegionOpen
import Derived.Test.YtiomenjfmagknaaGreatProg
import Derived.WalkLawsBesides
import Derived.WalkSpells
set_option maxHeartbeats 12000000
set_option linter.all false
set_option maxRecDepth 100000
namespace Go.Proofs.YtiomenjfmagknaaGreat
open Go.RowKit Go.ChangeShapes Go.WideShapes Tryz
open Bool renaming true→Bt,false→Bf
open Decidable renaming decide→Dc
open Ending renaming returned→X
open Go renaming World→Wd,Value→Va,Calls→Ca,undef→Un,bodyPost_ret→Bp,TypeId→Ti,Addr→Ad,Program→Pg,strOfNums→Sn,CallsIn→Ci,wpList→Wp
open Int renaming toNat_natCast→a4A
open IntKind renaming i64→M,u32→V,u64→U6,u16→U1,u8→U8
open IntWalk renaming i64_in→a37
open Lib renaming hid→a6
open List renaming getD_eq_getElem?_getD→a8,getElem?_eq_getElem→e9,length_append→a2e,replicate→a2A,range→q5,length_cons→a3W,getElem_mem→a30,length_map→a32,take_succ_eq_append_getElem→a4a,append_assoc→a4s,map_append→a4F
open Nat renaming le_refl→a7,le_trans→c8,add_zero→a4z,zero_add→a4E
open Obj renaming cells→U
open Operand renaming tmp→Tm
open Option renaming none→J,some→So
open Value renaming int→I,slice→Z,string→Y,pointer→K,bool→O,func→Fc,tuple→Tp,agg→Ag
section
theorem i6{a b:Prop}(aa:a)(bb:b):Hid a∧Hid b:=⟨aa,bb⟩
theorem p7{a b c:Prop}(aa:a)(bb:b)(cc:c):Hid a∧Hid b∧Hid c:=⟨aa,bb,cc⟩
theorem J5{a b c d:Prop}(aa:a)(bb:b)(cc:c)(dd:d):Hid a∧Hid b∧Hid c∧Hid d:=⟨aa,bb,cc,dd⟩
theorem gP{a b c d e:Prop}(aa:a)(bb:b)(cc:c)(dd:d)(ee:e):Hid a∧Hid b∧Hid c∧Hid d∧Hid e:=⟨aa,bb,cc,dd,ee⟩
theorem jX{a b c d e f:Prop}(aa:a)(bb:b)(cc:c)(dd:d)(ee:e)(ff:f):Hid a∧Hid b∧Hid c∧Hid d∧Hid e∧Hid f:=⟨aa,bb,cc,dd,ee,ff⟩
instance :CoeOut Wd Nat:=⟨fun w=>w.heap.size⟩
instance :Coe Nat (Option Ad):=⟨fun g=>So ⟨g,0,J⟩⟩
def uE:=And.intro @List.size_toArray.{0} (And.intro @a3W.{0} (And.intro @List.length_nil.{0} (And.intro @Array.replicate_succ.{0} (And.intro @Array.replicate_zero.{0} (And.intro @List.push_toArray.{0} (And.intro @List.append_toArray.{0} (And.intro @List.nil_append.{0} @List.cons_append.{0})))))))
def uL:=And.intro @List.setIfInBounds_toArray.{0} (And.intro @List.set_cons_zero.{0} @List.set_cons_succ.{0})
def uB:=And.intro @cond_true.{1} (And.intro @cond_false.{1} (And.intro @Bool.not_true (And.intro @Bool.not_false (And.intro @Bool.and_true (And.intro @Bool.true_and (And.intro @Bool.and_false (And.intro @Bool.false_and (And.intro @Bool.or_true (And.intro @Bool.true_or (And.intro @Bool.or_false @Bool.false_or))))))))))
def a9(w w':Wd):Prop:=Below w w w'
theorem a9.refl(w:Wd):a9 w w:=Below.refl _ _
theorem a9.trans{a b c:Wd}(h:a9 a b)(k:a9 b c):a9 a c:=Below.trans h (Below.mono k h.size)
theorem a9.drew{a b:Wd}(h:a9 a b):a9 a b.drew:=Below.drew h
theorem a9.drewN{a b:Wd}(h:a9 a b)(n:Nat):a9 a (b.drewN n):=⟨h.os,h.tape,h.output,h.size,h.block⟩
theorem a9.alloc{a b:Wd}(h:a9 a b)(o:Obj):a9 a (b.alloc o):=Below.alloc h h.size o
theorem a9.set{a b:Wd}(c:a9 a b){p:Ad}(d:a≤p.block)(u:Va):a9 a (b.setCell p u):=Below.setCell c d u
theorem a9.grown{a b c:Wd}{row:Option Nat}(d:a9 a b)(e:b.grownBy c row)(f:∀k,row=So k→a.heap.size≤k):a9 a c:=Below.grown d e d.size f
theorem a9.size{a b:Wd}(h:a9 a b):a≤b.heap.size:=Below.size h
theorem a9.cell{a b:Wd}(d:a9 a b){p:Ad}{u:Va}(c:a.cell? p=So u):b.cell? p=So u:=
 (Below.cell d (block_lt_of_cell c)).trans c
theorem a9.frozen{a b:Wd}(c:a9 a b){p:Ad}(d:p.block<a):b.frozen? p=a.frozen? p:=Below.frozen c d
theorem a9.block{a b:Wd}(c:a9 a b){k:Nat}(d:k<a):b.heap[k]? =a.heap[k]? :=Below.block c k d
theorem a9.below{a b:Wd}(c:a9 a b){B:Nat}(d:B≤a):Below B a b:=Below.mono c d
def h9(w:Wd)(c:Option Ad)(xs:List Va):Prop:=
 ∀j u,xs[j]? =So u→∃b a,c=So ⟨b,a,J⟩∧w.cell? ⟨b,a+j,J⟩=So u
theorem h9.nil(w:Wd)(A:Option Ad):h9 w A []:=fun j u h=>by simp at h
theorem h9.h{w w':Wd}{a:Option Ad}{xs:List Va}(c:h9 w a xs)(e:a9 w w'):h9 w' a xs:=fun j u h=>by
 obtain⟨b,i,d,f⟩:=c j u h;exact⟨b,i,d,e.cell f⟩
theorem h9.at_{w:Wd}{c:Option Ad}{xs:List Va}(e:h9 w c xs){k:Nat}(h:k<xs.length):
  ∃b a,c=So ⟨b,a,J⟩∧b<w.heap.size∧w.cell? ⟨b,a+k,J⟩=So xs[k]:=by
 obtain⟨b,a,f,d⟩:=e k _ (e9 h);exact⟨b,a,f,block_lt_of_cell d,d⟩
theorem h9.cell{w:Wd}{b c:Nat}{xs:List Va}(d:h9 w (So ⟨b,c,J⟩) xs){k:Nat}{u:Va}(f:xs[k]? =So u):
  w.cell? ⟨b,c+k,J⟩=So u:=by
 obtain⟨h,i,a,e⟩:=d k _ f;injection a with a
 injection a with h1 h2
 subst h1 h2;exact e
theorem h9.some_{w:Wd}{c:Option Ad}{xs:List Va}(d:h9 w c xs)(h:0<xs.length):∃b a,c=So ⟨b,a,J⟩∧b<w.heap.size:=by
 obtain⟨b,a,e,f,_⟩:=d.at_ h;exact⟨b,a,e,f⟩
theorem h9.prefix_{w:Wd}{a:Option Ad}{xs ys:List Va}(c:h9 w a (xs++ys)):h9 w a xs:=fun j u b=>by
 refine c j u ?_;rw[List.getElem?_append_left ((List.getElem?_eq_some_iff.1 b).1)];exact b
theorem h9.take{w:Wd}{b:Option Ad}{xs:List Va}(c:h9 w b xs)(k:Nat):h9 w b (xs.take k):=fun j u a=>by
 refine c j u ?_;rw[List.getElem?_take]at a;split at a
 ·exact a
 ·cases a
theorem h9.drop{w:Wd}{b a:Nat}{xs:List Va}(d:h9 w (So ⟨b,a,J⟩) xs)(k:Nat):h9 w (So ⟨b,a+k,J⟩) (xs.drop k):=fun j u c=>by
 rw[List.getElem?_drop]at c;refine⟨b,a+k,rfl,?_⟩;have:=d.cell c;rwa[←Nat.add_assoc]at this
def b9(w:Wd)(g:Nat)(t:Ti)(cs:Array Va):Prop:=w.heap[g]? =So (U cs t (0,0))
section
variable {w w':Wd} {g:Nat} {t:Ti} {cs:Array Va}
theorem b9.lt(h:b9 w g t cs):g<w.heap.size:=(Array.getElem?_eq_some_iff.1 h).1
theorem b9.cell(h:b9 w g t cs)(i:Nat):w.cell? ⟨g,i,J⟩=cs[i]? :=cell_of_row w g i cs t (0,0) h
theorem b9.frozen(h:b9 w g t cs)(i:Nat):w.frozen? ⟨g,i,J⟩=Bf:=by unfold b9 at h;simp[World.frozen?,h]
theorem b9.new(w:Wd)(t:Ti)(cs:Array Va):b9 (w.alloc (U cs t)) w t cs:=heap_alloc_new w _
theorem b9.h(h:b9 w g t cs)(e:a9 w w'):b9 w' g t cs:=(e.block h.lt).trans h
theorem b9.alloc(h:b9 w g t cs)(o:Obj):b9 (w.alloc o) g t cs:=h.h ((a9.refl w).alloc o)
theorem b9.drew(h:b9 w g t cs):b9 w.drew g t cs:=h
theorem b9.drewN(h:b9 w g t cs)(n:Nat):b9 (w.drewN n) g t cs:=h
theorem b9.f(h:b9 w g t cs)(i:Nat)(u:Va):b9 (w.setCell ⟨g,i,J⟩ u) g t (cs.setIfInBounds i u):=by
 unfold b9 at h⊢;simp[World.setCell,Array.getElem?_modify,h]
theorem b9.far(a:b9 w g t cs){p:Ad}(b:g≠p.block)(u:Va):b9 (w.setCell p u) g t cs:=(Below.heap_setCell w p u g b).trans a
theorem b9.inM(a:b9 w g t cs):h9 w g cs.toList:=fun j u b=>⟨g,0,rfl,by rw[a4E,a.cell];simpa using b⟩
theorem b9.below{B:Nat}(a:b9 w g t cs)(b:Below B w w')(c:g<B):b9 w' g t cs:=(b.block g c).trans a
theorem b9.grown{row:Option Nat}(a:b9 w g t cs)(b:w.grownBy w' row)(c:So g≠row):b9 w' g t cs:=(b.block g a.lt c).trans a
end
theorem h9.f{w:Wd}{g:Nat}{t:Ti}{cs:Array Va}{xs:List Va}(h:b9 w g t cs)(e:cs.toList=xs):h9 w g xs:=e▸h.inM
abbrev i3(k:IntKind)(xs:List Int):List Va:=xs.map (I k)
theorem M2{k:IntKind}{xs:List Int}{j:Nat}(h:j<xs.length):(i3 k xs)[j]? =So (I k xs[j]):=by simp[i3,h]
theorem h9.num{w:Wd}{c:Option Ad}{d:IntKind}{xs:List Int}(e:h9 w c (i3 d xs)){k:Nat}(j:k<xs.length):
  ∃b a,c=So ⟨b,a,J⟩∧b<w.heap.size∧w.cell? ⟨b,a+k,J⟩=So (I d xs[k]):=by
 obtain⟨b,a,f,h,i⟩:=e.at_ (k:=k) (by simpa[i3]using j);exact⟨b,a,f,h,by simpa[i3]using i⟩
theorem fC(b a j:Nat):(⟨b,a,J⟩:Ad).add j=⟨b,a+j,J⟩:=by unfold Addr.add;split<;>simp_all
theorem h9.add{w:Wd}{c:Ad}{xs:List Va}(d:h9 w (So c) xs){j:Nat}{u:Va}(f:xs[j]? =So u):w.cell? (c.add j)=So u:=by
 obtain⟨b,h,a,e⟩:=d j u f;injection a with a
 subst a;rw[fC];exact e
theorem X2{w:Wd}{base:Nat}{e:Ti}{i n m c:Nat}{b:Option Ad}{xs:List Va}(a:w.ownsRow base e i (Z b m c) n xs):h9 w b xs:=fun j u d=>by
 rcases a.2 with⟨f,h⟩|⟨g,cap,cur,f,_,_,_⟩
 ·have:xs=[]:=List.eq_nil_of_length_eq_zero (by rw[a.1,h];simp)
  subst this;simp at d
 ·injection f with hA
  subst hA;have:=a.cells (g:=g) rfl j u d;rw[fC]at this;exact⟨g,0,rfl,this⟩
theorem UD{w:Wd}{base:Nat}{e:Ti}{f n m c b d:Nat}{xs:List Va}(a:w.ownsRow base e f (Z (So ⟨b,d,J⟩) m c) n xs):base≤b:=(a.lt b rfl).1
theorem eD{P:Pg}(w:Wd)(base:Nat)(t ty e:Ti)(i:TypeInfo)(f:Nat)(a:P.underlying t=So (.slice e))(hi:P.info? e=So i)
  (v:Va) (n:Nat) (xs:List Va) (d:w.ownsRow base e f v n xs) (c:Nat):(Builtin.append_ #[t,t] ty #[v,.slice J 0 c]).run P w= .ok v w:=by
 rcases d.2 with⟨rfl,rfl⟩|⟨g,cap,cur,rfl,_,_,b,_⟩
 ·simp[Builtin.append_,run_underlying a,sizeOf,typeInfo,hi,Builtin.lenOf,Builtin.firstCells]
 ·simp[Builtin.append_,run_underlying a,sizeOf,typeInfo,hi,Builtin.lenOf,Builtin.firstCells,b,storeCells]
theorem R7{P:Pg}{w:Wd}{S:Array Oper}{rest:List Oper}{p:Oper}{a:Act}{Q:Exit→Act→Wd→Prop}(ak:p.guard=J)(s x:Operand)(t:Ti)
  (am:p.op= .call {callee:= .builtin .append,args:= #[s,x],argTypes:= #[t,t]})
  (base:Nat) (e:Ti) (i:TypeInfo) (z:Va) (f q:Nat) (N:P.underlying t=So (.slice e)) (hi:P.info? e=So i) (ar:i.zero=So z)
  (ao:i.size=f) (ai:i.bytes=q) (au:z.cells.size=f) (L:0<f)
  (o:Option Ad) (n c:Nat) (xs:List Va) (an:a.eval s= .slice o n c) (D:w.ownsRow base e f (.slice o n c) n xs)
  (B:Option Ad) (m d:Nat) (l:List Va) (aq:a.eval x= .slice B m d) (H:l.length=m*f) (G:h9 w B l) (aa:∀u∈l,u.oneCell'=Bt)
  (ad:n+m≤1000000) (aj:q≤10000) (ag:base≤w)
  (W:∀h k w',w'.ownsRow base e f (.slice h (n+m) k) (n+m) (xs++l)→w.grownBy w' (Z o n c).ownBlock→
   ((Z h (n+m) k).ownBlock=(Z o n c).ownBlock∨(Z h (n+m) k).ownBlock=So w.heap.size)→
   Wp P S Q rest (a.put p.dst (.slice h (n+m) k)) w'):Wp P S Q (p::rest) a w:=by
 have ah:(n+m)*q≤140737488355328:=c8 (Nat.mul_le_mul ad aj) (by omega);have key:∃v' w',(Builtin.append_ #[t,t] p.type #[.slice o n c,.slice B m d]).run P w= .ok v' w'∧w'.ownsRow base e f v' (n+m) (xs++l)∧w.grownBy w' (Z o n c).ownBlock∧
   (v'.ownBlock=(Z o n c).ownBlock∨v'.ownBlock=So w.heap.size):=by
  rcases B with _|T
  ·have C:l=[]:=by
    rcases l with _|⟨u,r⟩
    ·rfl
    ·obtain⟨b,aw,ae,_⟩:=G 0 u rfl
     cases ae
   subst C;have al:m=0:=by
    rcases Nat.eq_zero_or_pos m with y|y
    ·exact y
    ·have:=Nat.mul_pos y L
     simp only[List.length_nil]at H;omega
   subst al;exact⟨_,w,eD w base t p.type e i f N hi _ n xs D d,by simpa using D,World.grownBy.refl w _,.inl rfl⟩
  ·obtain⟨v',w',E,v,A,_,ac⟩:=run_append_own_at (P:=P) w base t p.type e i z f q N hi ar ao ai au L _ n xs D T m d l H (fun j u ap=>G.add ap) aa (by unfold maxLen;omega) ah ag
   exact⟨v',w',E,v,A,ac⟩
 obtain⟨v',w',E,v,A,ab⟩:=key;obtain⟨h,k,rfl⟩:∃h k,v'= .slice h (n+m) k:=by
  rcases v.2 with⟨F,C⟩|⟨g,cap,cur,F,_⟩
  ·exact⟨J,0,by rw[F,C]⟩
  ·exact⟨_,_,F⟩
 refine wpList_plain ak fun av af=> ?_
 unfold Oper.wp execOp;simp only[am,resolve,invoke,builtin,Sem.run_bind,Sem.run_pure,Result.andThen_ok,List.map_toArray,List.map_cons,List.map_nil,an,aq,E];exact af _ _ (W h k w' v A ab)
theorem a9.app{a w w':Wd}{base:Nat}{e:Ti}{i n:Nat}{v:Va}{xs:List Va}(b:a9 a w)(h:w.ownsRow base e i v n xs)(c:a≤base)(d:w.grownBy w' v.ownBlock):a9 a w':=
 b.grown d fun k f=>c8 c (h.lt k f).1
theorem UO{k:IntKind}{xs:List Int}:∀u∈i3 k xs,u.oneCell'=Bt:=fun u a=>by
 obtain⟨x,_,rfl⟩:=List.mem_map.1 a;rfl
theorem VJ{P:Pg}(t e:Ti)(i:TypeInfo)(z:Va)(k:P.underlying t=So (.slice e))(hi:P.info? e=So i)(l:i.zero=So z)
  (f d:IntKind) (n c:Nat) (m:n≤c) (a:c≤1000000) (h:i.bytes≤10000) (w:Wd):
  (Instr.makeSlice t (.int f (n:Int)) (.int d (c:Int))).run P w= .ok (.slice w n c) (w.alloc (.cells (madeCells z.cells (c*i.size)) e)):=by
 have j:(i.bytes:Int)*(c:Int)≤281474976710656:=by
  have a:i.bytes*c≤281474976710656:=c8 (Nat.mul_le_mul h a) (by omega);have a:((i.bytes*c:Nat):Int)≤281474976710656:=by omega
  rwa[Int.natCast_mul]at a
 have b:=run_make (P:=P) w t e i z k hi l f d n c (by omega) (by omega) j (by omega);simp only[a4A]at b;exact b
theorem G9{P:Pg}(t e:Ti)(z:Va)(a:Nat)(m:P.underlying t=So (.slice e))(j:(P.info? e).map (fun i=>(i.zero,i.size,i.bytes))=So (So z,1,a))(p:z.cells= #[z])
  (f d:IntKind) (n c:Nat) (k:n≤c) (h:c≤1000000) (q:a≤10000) (w:Wd):
  (Instr.makeSlice t (.int f (n:Int)) (.int d (c:Int))).run P w= .ok (.slice w n c) (w.alloc (.cells (madeCells #[z] c) e)):=by
 obtain⟨i,hi,b⟩:=Option.map_eq_some_iff.1 j;simp only[Prod.mk.injEq]at b;obtain⟨o,l,r⟩:=b;have:=VJ (P:=P) t e i z m hi o f d n c k h (by omega) w;rw[l,Nat.mul_one,p]at this;exact this
theorem pF{a b:Bool}(h:a=b):X (O a)=X (O b):=by rw[h]
theorem x4(w:Wd)(g i:Nat)(u:Va):w.grownBy (w.setCell ⟨g,i,J⟩ u) (So g):=
 ⟨rfl,rfl,rfl,by simp,fun k _ h=>Below.heap_setCell w ⟨g,i,J⟩ u k (fun e=>h (by rw[e]))⟩
theorem b9.b{w:Wd}{t:Ti}{cs:Array Va}{g:Nat}(h:g=w):b9 (w.alloc (U cs t)) g t cs:=by subst h;exact b9.new _ _ _
theorem A6{b:Type}(a cs:List b)(c:cs.length=a.length):splice a 0 cs=cs:=by
 unfold splice;rw[List.drop_eq_nil_of_le (by omega)];simp
theorem Y8{P:Pg}(w:Wd)(g a:Nat)(t ty:Ti)(cur:List Va)(cs:Array Va)(d:b9 w g t cur.toArray)(e:a+cs.size≤cur.length)(hi:(P.info? ty).map (·.size)=So cs.size)(c:∀v∈cs.toList,v.oneCell'=Bt):
  (storeVar ty ⟨g,a,J⟩ (Ag cs)).run P w= .ok () (w.setRow g (splice cur a cs.toList).toArray):=by
 have:=run_storeCells_at P g a t cs.toList 0 cur.toArray w d (by simpa using e) c;cases b:P.info? ty with
 |none=>simp[b]at hi
 |some i=>
  have f:cs.size=i.size:=by simp[b]at hi;omega
  simp only[a4z]at this;simp[storeVar,sizeOf,typeInfo,b,Value.cells,f,this,splice,a4s]
theorem E1(w:Wd)(g:Nat)(cs:Array Va):w.grownBy (w.setRow g cs) (So g):=
 ⟨rfl,rfl,rfl,by simp,fun k _ a=>setRow_other w g k cs (fun e=>a (by rw[e]))⟩
theorem y4{P:Pg}{w:Wd}{e:Array Oper}{rest:List Oper}{c:Oper}{a:Act}{Q:Exit→Act→Wd→Prop}(l:c.guard=J)(ty:Ti)(x f:Operand)(m:c.op= .store ty x f)
  (g b:Nat) (t:Ti) (cur:List Va) (cs:Array Va) (n:a.eval x=K (So ⟨g,b,J⟩)) (o:a.eval f=Ag cs) (d:b9 w g t cur.toArray) (k:b+cs.size≤cur.length)
  (hi:(P.info? ty).map (·.size)=So cs.size) (i:∀v∈cs.toList,v.oneCell'=Bt)
  (h:∀w',b9 w' g t (splice cur b cs.toList).toArray→w.grownBy w' (So g)→Wp P e Q rest (a.put c.dst Un) w'):Wp P e Q (c::rest) a w:=by
 refine wpList_plain l fun p j=> ?_
 unfold Oper.wp execOp;simp only[m,n,o,Instr.storeAt,Instr.sureAddr,Sem.run_bind,Sem.run_pure,Result.andThen_ok,Y8 w g b t ty cur cs d k hi i];exact j _ _ (h _ (setRow_heap w g _ _ t _ d) (E1 w g _))
theorem c7{P:Pg}{w:Wd}{d:Array Oper}{rest:List Oper}{b:Oper}{a:Act}{Q:Exit→Act→Wd→Prop}(j:b.guard=J)(ty:Ti)(x c:Operand)(k:b.op= .store ty x c)
  (g:Nat) (t:Ti) (cur cs:Array Va) (l:a.eval x=K g) (m:a.eval c=Ag cs) (n:b9 w g t cur) (o:cs.size=cur.size)
  (hi:(P.info? ty).map (·.size)=So cs.size) (f:∀v∈cs.toList,v.oneCell'=Bt)
  (e:∀w',b9 w' g t cs→w.grownBy w' (So g)→Wp P d Q rest (a.put b.dst Un) w'):Wp P d Q (b::rest) a w:=by
 refine y4 j ty x c k g 0 t cur.toList cs l m (by rwa[Array.toArray_toList]) (by simp;omega) hi f fun w' h i=>e w' ?_ i
 rwa[A6 _ _ (by simp;omega),Array.toArray_toList]at h
theorem i8{P:Pg}{w:Wd}{c:Array Oper}{rest:List Oper}{b:Oper}{a:Act}{Q:Exit→Act→Wd→Prop}(i:b.guard=J)(ty:Ti)(x:Operand)(j:b.op= .load ty x)
  (g:Nat) (t:Ti) (cs:Array Va) (d:TypeDesc) (l:a.eval x=K g) (f:b9 w g t cs)
  (k:P.underlying ty=So d) (h:d.isRow=Bt) (hi:(P.info? ty).map (·.size)=So cs.size)
  (e:Wp P c Q rest (a.put b.dst (Ag cs)) w):Wp P c Q (b::rest) a w:=
 wpList_load_row i ty x j g l t cs (0,0) d f k (by cases d<;>first|rfl|(simp[TypeDesc.isRow]at h)) hi e
theorem h7{a:Func}{p q:Tmp}{ty:Ti}{P:Pg}(b:a.results= #[.cell p ty,.tmp q])(tmps:Array Va)(w:Wd)(g:Nat)(t:Ti)(cs:Array Va)(d:TypeDesc)
  (f:tmps.getD p Un= .pointer g) (e:b9 w g t cs)
  (i:P.underlying ty=So d) (c:d.isRow=Bt) (hi:(P.info? ty).map (·.size)=So cs.size):
  (results a tmps).run P w= .ok (.tuple #[.agg cs,tmps.getD q Un]) w:=by
 have h:tmps[p]?.getD Un= .pointer g:=by simpa using f
 simp[results,b,h,asAddr,run_loadVar_row w g t ty cs (0,0) d e i (by cases d<;>first|rfl|(simp[TypeDesc.isRow]at c)) hi]
theorem g0{a:Func}{p:Tmp}{ty:Ti}{P:Pg}(b:a.results= #[.cell p ty])(tmps:Array Va)(w:Wd)(g:Nat)(t:Ti)(cs:Array Va)(d:TypeDesc)
  (f:tmps.getD p Un=K g) (e:b9 w g t cs)
  (h:P.underlying ty=So d) (c:d.isRow=Bt) (hi:(P.info? ty).map (·.size)=So cs.size):
  (results a tmps).run P w= .ok (Ag cs) w:=results_cell_row b tmps w g t cs (0,0) d f e h (by cases d<;>first|rfl|(simp[TypeDesc.isRow]at c)) hi
theorem M1{w w':Wd}{base:Nat}{e:Ti}{b n:Nat}{v:Va}{xs:List Va}(c:w.ownsRow base e b v n xs)(a:a9 w w'):w'.ownsRow base e b v n xs:=
 c.kept (row:=J) ⟨a.os,a.tape,a.output,a.size,fun k d _=>a.block d⟩ (by
  rcases f:v.ownBlock with _|g
  ·exact .inl rfl
  ·exact .inr (by simp))
class fT(R:Wd→Wd→Prop):Prop where
 refl:∀w,R w w
 trans:∀a b c,R a b→R b c→R a c
 drew:∀w:Wd,R w w.drew
instance :fT a9:=⟨a9.refl,fun _ _ _ h k=>h.trans k,fun w=>(a9.refl w).drew⟩
structure VR(R:Wd→Wd→Prop) where
 p:Va→Wd→Prop
 st:∀v w w',p v w→R w w'→p v w'
def VR.is{R:Wd→Wd→Prop}(aa:Va):VR R:=⟨fun v _=>v=aa,fun _ _ _ h _=>h⟩
def VR.any{R:Wd→Wd→Prop}:VR R:=⟨fun _ _=>True,fun _ _ _ _ _=>trivial⟩
abbrev VP:=VR a9
def VP.row(n:Nat)(xs:List Va):VP:=⟨fun v w=>∃A c,v=Z A n c∧h9 w A xs,fun _ _ _⟨A,c,h,k⟩ e=>⟨A,c,h,k.h e⟩⟩
def VP.ptr(t:Ti)(cs:Array Va):VP:=⟨fun v w=>∃g,v=K (So ⟨g,0,J⟩)∧b9 w g t cs,fun _ _ _⟨g,h,k⟩ e=>⟨g,h,k.h e⟩⟩
def VP.blk(n:Nat)(t:Ti)(cs:Array Va):VP:=⟨fun v w=>∃g,v=Z (So ⟨g,0,J⟩) n n∧b9 w g t cs,fun _ _ _⟨g,h,k⟩ e=>⟨g,h,k.h e⟩⟩
def VP.ex{c:Type}(a:c→VP):VP:=⟨fun v w=>∃x,(a x).p v w,fun v w w'⟨x,b⟩ e=>⟨x,(a x).st v w w' b e⟩⟩
def VP.and(aa:VP)(p:Prop):VP:=⟨fun v w=>aa.p v w∧p,fun v w w' h e=>⟨aa.st v w w' h.1 e,h.2⟩⟩
def VP.of(q:Va→Prop):VP:=⟨fun v _=>q v,fun _ _ _ h _=>h⟩
def q9(a:Act):Option Tmp→Va
 |some d=>a.tmps.getD d Un
 |none=>Un
theorem zX(a:Act)(d:Option Tmp):a.put d (q9 a d)=a:=by
 cases d with
 |none=>rfl
 |some d=>
  obtain⟨t,f⟩:=a;simp only[Act.put,q9,Act.mk.injEq,and_true];apply Array.ext
  ·simp
  ·intro i e c
   rw[Array.getElem_setIfInBounds];split
   ·rename_i b;subst b;simp[c]
   ·rfl
theorem JQ(a:Act)(d:Option Tmp)(u v:Va):(a.put d u).put d v=a.put d v:=by
 cases d with
 |none=>rfl
 |some d=>simp[Act.put]
theorem lU(a:Act)(d:Option Tmp)(v:Va):a.put d (q9 (a.put d v) d)=a.put d v:=by
 have:=zX (a.put d v) d;rw[JQ]at this;exact this
theorem G6(a:Act)(d:Option Tmp)(v:Va):(a.put d v).defers=a.defers:=by cases d<;>rfl
def e6:List Oper→(Nat→Va)→Nat→Act→Act
 |[],_,_,a=>a
 |o::os,x,i,a=>e6 os x (i+1) (a.put o.dst (x i))
def H2:List Oper→Bool
 |[]=>Bt
 |o::os=>(os.all fun a=>o.dst.isNone||a.dst !=o.dst)&&H2 os
def a2r:List Oper→Nat→Bool
 |[],_=>Bt
 |o::os,i=>(o.after.toList.all fun e=> !Region.binds .any e||decide (e.on<i))&&a2r os (i+1)
def DY(x:Nat→Va)(j:Nat)(v:Va):Nat→Va:=fun m=>if m=j then v else x m
theorem gW:∀(os:List Oper)(x b:Nat→Va)(k:Nat)(a:Act),(∀m,k≤m→x m=b m)→e6 os x k a=e6 os b k a
 |[],_,_,_,_,_=>rfl
 |o::os,x,b,k,a,h=>by
  simp only[e6];rw[h k (a7 _)];exact gW os x b (k+1) _ fun m c=>h m (by omega)
theorem uG:∀(os:List Oper)(x:Nat→Va)(k:Nat)(a:Act)(d:Option Tmp)(v:Va),(os.all fun f=>d.isNone||f.dst !=d)=Bt→(e6 os x k a).put d v=e6 os x k (a.put d v)
 |[],_,_,_,_,_,_=>rfl
 |o::os,x,k,a,d,v,h=>by
  simp only[List.all_cons,Bool.and_eq_true]at h;simp only[e6];rw[uG os x (k+1) _ d v h.2];congr 1;refine Act.put_comm a (x k) v fun e c b=> ?_
  subst b;simp[c]at h
theorem qR:∀(os:List Oper)(x:Nat→Va)(k:Nat)(a:Act)(i:Nat)(b:Oper)(v:Va),H2 os=Bt→os[i]? =So b→(e6 os x k a).put b.dst v=e6 os (DY x (k+i) v) k a
 |[],_,_,_,_,_,_,_,h=>by simp at h
 |o'::os,x,k,a,0,b,v,hd,h=>by
  simp only[List.getElem?_cons_zero,Option.some.injEq]at h;subst h;simp only[H2,Bool.and_eq_true]at hd;simp only[e6];rw[uG os x (k+1) _ _ v hd.1,JQ];have:DY x (k+0) v k=v:=by simp[DY]
  rw[this];exact gW os _ _ (k+1) _ fun m d=>by simp only[DY];rw[if_neg (by omega)]
 |o'::os,x,k,a,i+1,b,v,hd,h=>by
  simp only[List.getElem?_cons_succ]at h;simp only[H2,Bool.and_eq_true]at hd;simp only[e6];rw[qR os x (k+1) _ i b v hd.2 h];have e:DY x (k+1+i) v=DY x (k+(i+1)) v:=by rw[show k+1+i=k+(i+1)from by omega]
  have c:DY x (k+(i+1)) v k=x k:=by simp only[DY];rw[if_neg (by omega)]
  rw[e,c]
theorem gV:∀(os:List Oper)(k:Nat)(a:Act),∃x,e6 os x k a=a
 |[],_,_=>⟨fun _=>Un,rfl⟩
 |o::os,k,a=>by
  obtain⟨x,b⟩:=gV os (k+1) a;refine⟨DY x k (q9 a o.dst),?_⟩;simp only[e6];rw[show DY x k (q9 a o.dst) k=q9 a o.dst from by simp[DY],zX];rw[gW os _ x (k+1) a fun m c=>by simp only[DY];rw[if_neg (by omega)]];exact b
section
variable {R:Wd→Wd→Prop}
def e5(Vs:List (VR R))(x:Nat→Va)(w:Wd)(G:Prop):List Edge→Prop
 |[]=>G
 |e::es=>match e.ground with
  | .data| .guard=>(Vs.getD e.on .any).p (x e.on) w→e5 Vs x w G es
  |_=>e5 Vs x w G es
theorem lE{Vs:List (VR R)}{x:Nat→Va}{w:Wd}{G:Prop}:∀(a:List Edge),(∀e∈a,Region.binds .any e=Bt→(Vs.getD e.on .any).p (x e.on) w)→e5 Vs x w G a→G
 |[],_,h=>h
 |e::a,hk,h=>by
  have ih:=lE (Vs:=Vs) (x:=x) (w:=w) (G:=G) a fun c d=>hk c (List.mem_cons_of_mem _ d)
  unfold e5 at h;split at h
  ·rename_i b
   exact ih (h (hk e (List.mem_cons_self ..) (by unfold Region.binds;rw[b])))
  ·rename_i b
   exact ih (h (hk e (List.mem_cons_self ..) (by unfold Region.binds;rw[b])))
  ·exact ih h
def l8(x:Nat→Va)(w:Wd)(G:Prop):List (VR R)→Nat→Prop
 |[],_=>G
 |aa::Vs,i=>aa.p (x i) w→l8 x w G Vs (i+1)
theorem fB{x:Nat→Va}{w:Wd}{G:Prop}:∀(Vs:List (VR R))(i:Nat),(∀j(a:VR R),Vs[j]? =So a→a.p (x (i+j)) w)→l8 x w G Vs i→G
 |[],_,_,h=>h
 |a::Vs,i,hk,h=>by
  refine fB Vs (i+1) (fun j W b=> ?_) (h (hk 0 a rfl));have:=hk (j+1) W (by simpa using b);rwa[show i+(j+1)=i+1+j from by omega]at this
def yG(a:VR R)(d:Option Tmp)(ds:List Deferred)(b:Wd):Exit→Act→Wd→Prop
 | .normal,a',w'=>a.p (q9 a' d) w'∧a'.defers=ds∧R b w'
 |_,_,_=>False
theorem a0e{b:VR R}{d:Option Tmp}{ds:List Deferred}{c w':Wd}{a:Act}(e:b.p (q9 a d) w')(f:a.defers=ds)(h:R c w'):yG b d ds c .normal a w':=⟨e,f,h⟩
end
def cK:List Oper→Nat→Option Tmp
 |[],_=>J
 |o::_,0=>o.dst
 |_::os,j+1=>cK os j
def Z5:Va→Option Bool
 |O b=>So b
 |_=>J
def mJ(d:Option Bool)(c:Bool)(a b:Prop):Prop:=if d=So c then a else b
theorem g9{c:Option Bool}{b:Bool}{a e:Prop}(d:c=So b)(k:a):mJ c b a e:=by unfold mJ;rw[if_pos d];exact k
theorem g5{c:Option Bool}{b:Bool}{e a:Prop}(d:c≠So b)(k:a):mJ c b e a:=by unfold mJ;rw[if_neg d];exact k
def j8(P:Pg)(l:List Oper)(aa:VP)(ds:List Deferred)(w:Wd)(a:Act):Oper→Prop
 |⟨dst,op,type,pos,after,J⟩=>Wp P #[] (yG aa dst ds w) [⟨dst,op,type,pos,after,J⟩] a w
 |⟨dst,op,type,pos,after,So (j,want)⟩=>mJ (Z5 (q9 a (cK l j))) want (Wp P #[] (yG aa dst ds w) [⟨dst,op,type,pos,after,J⟩] a w) (aa.p Un w)
def Obl(P:Pg)(l:List Oper)(A:(Nat→Va)→Act)(ds:List Deferred)(w:Wd)(Vs:List VP):List Oper→List VP→Prop
 |[],[]=>True
 |o::os,aa::Ws=>(∀x w',a9 w w'→e5 Vs x w' (j8 P l aa ds w' (A x) o) o.after.toList)∧Obl P l A ds w Vs os Ws
 |_,_=>False
theorem CY:∀(l:List Oper)(j:Nat),cK l j=(l[j]?).bind (·.dst)
 |[],_=>by simp[cK]
 |_::_,0=>rfl
 |_::os,j+1=>by simp only[cK,List.getElem?_cons_succ];exact CY os j
theorem sS(l:List Oper)(b:Oper)(a:Act)(j:Nat)(c:Bool)(e:b.guard=So (j,c)):Region.wanted b (yielded l.toArray a.tmps)=Bt↔Z5 (q9 a (cK l j))=So c:=by
 unfold Region.wanted yielded;rw[e,CY];simp only[List.getElem?_toArray,beq_iff_eq];cases(l[j]?).bind (·.dst)with
 |none=>simp[q9,Z5,Un]
 |some d=>
  simp only[Option.bind_some,q9,Array.getD_eq_getD_getElem?];cases a.tmps[d]? with
  |none=>simp[Z5,Un]
  |some v=>cases v<;>simp[Z5]
theorem fL(a:Act)(d:Option Tmp):q9 (a.put d Un) d=Un:=by
 cases d with
 |none=>rfl
 |some d=>
  simp only[Act.put,q9,Array.getD_eq_getD_getElem?,Array.getElem?_setIfInBounds];split
  ·split<;>rfl
  ·rename_i b
   cases c:a.tmps[d]? with
   |none=>rfl
   |some v=>exact absurd trivial b
theorem j8.toList{P:Pg}{l:List Oper}{h:VP}{ds:List Deferred}{w:Wd}{a:Act}{d:Oper}(n:a.defers=ds)(b:j8 P l h ds w a d):Wp P l.toArray (yG h d.dst ds w) [d] a w:=by
 obtain⟨k,o,q,p,after,m⟩:=d;cases m with
 |none=>exact b
 |some g=>
  obtain⟨j,f⟩:=g;have i:=sS l ⟨k,o,q,p,after,So (j,f)⟩ a j f rfl;simp only[j8]at b;unfold mJ at b;simp only[Wp]at b⊢;by_cases c:Z5 (q9 a (cK l j))=So f
  ·rw[if_pos (i.2 c)]
   rw[if_pos c]at b;exact b
  ·rw[if_neg (fun e=>c (i.1 e))]
   rw[if_neg c]at b;exact⟨by rw[fL];exact b,by rw[G6];exact n,a9.refl _⟩
theorem JW{P:Pg}{l:List Oper}{b:(Nat→Va)→Act}{ds:List Deferred}{w:Wd}{Vs:List VP}:∀(os:List Oper)(a:List VP),Obl P l b ds w Vs os a→os.length=a.length
 |[],[],_=>rfl
 |[],_::_,h=>h.elim
 |_::_,[],h=>h.elim
 |_::os,_::a,h=>by simp[JW os a h.2]
theorem UM{P:Pg}{l:List Oper}{d:(Nat→Va)→Act}{ds:List Deferred}{w:Wd}{Vs:List VP}:∀(os:List Oper)(c:List VP)(i:Nat)(a:Oper),Obl P l d ds w Vs os c→os[i]? =So a→
  ∃b,c[i]? =So b∧∀x w',a9 w w'→e5 Vs x w' (j8 P l b ds w' (d x) a) a.after.toList
 |[],_,_,_,_,h=>by simp at h
 |_::_,[],_,_,h,_=>h.elim
 |o'::os,b::c,0,a,h,ho=>by
  simp only[List.getElem?_cons_zero,Option.some.injEq]at ho;subst ho;exact⟨b,rfl,h.1⟩
 |o'::os,b::c,i+1,a,h,ho=>by
  simp only[List.getElem?_cons_succ]at ho⊢;exact UM os c i a h.2 ho
theorem UF{P:Pg}{h:Oper}{a:Act}{w:Wd}{j m:Act→Wd→Prop}{l k:Exit→Act→Wd→Prop}(b:h.wp P a w j l)(u:∀o w',j o w'→o.defers=a.defers)
  (i:∀v w',j (a.put h.dst v) w'→m (a.put h.dst v) w') (p:∀c a w,l (.panic c) a w→k (.panic c) a w) (y:∀a w,l .outgrown a w→k .outgrown a w):h.wp P a w m k:=by
 unfold Oper.wp at*;generalize(execOp a.eval h).run P w=r at*;cases r with
 |ok n w'=>
  cases n<;>simp only[Oper.upon]at b⊢
  case value=>exact i _ _ b
  case skip=>exact i _ _ b
  case defer d=>
   have:=u _ _ b;rw[G6]at this;have:=congrArg List.length this;simp at this
  case enter=>
   refine Calls.mono b fun e A f=> ?_
   cases e with
   |returned v=>exact i _ _ f
   |panicked c=>exact p _ _ _ f
   |outgrown=>obtain⟨q,z,s⟩:=f;exact⟨q,z,y _ _ s⟩
  case row=>exact Rows.mono b fun _ _ f=>i _ _ f
 |halt x w'=>
  cases x<;>simp only[Oper.upon]at b⊢
  case panic=>exact p _ _ _ b
theorem lG:∀(l:List Bool)(i:Nat),l[i]? =So Bf→(l.set i Bt).count Bf+1=l.count Bf
 |[],_,h=>by simp at h
 |b::l,0,h=>by
  simp only[List.getElem?_cons_zero,Option.some.injEq]at h;subst h;simp
 |b::l,i+1,h=>by
  simp only[List.getElem?_cons_succ]at h;have:=lG l i h;simp only[List.set_cons_succ,List.count_cons];omega
theorem E2:∀(os:List Oper)(k i:Nat)(a:Oper),a2r os k=Bt→os[i]? =So a→∀e∈a.after,Region.binds .any e=Bt→e.on<k+i
 |[],_,_,_,_,h=>by simp at h
 |o'::os,k,0,a,hb,h=>by
  simp only[List.getElem?_cons_zero,Option.some.injEq]at h;subst h;simp only[a2r,Bool.and_eq_true,List.all_eq_true,Array.mem_toList_iff]at hb;intro e c b;have:=hb.1 e c;simpa[b]using this
 |o'::os,k,i+1,a,hb,h=>by
  simp only[List.getElem?_cons_succ]at h;simp only[a2r,Bool.and_eq_true]at hb;intro e c b;have:=E2 os (k+1) i a hb.2 h e c b;omega
theorem e7{P:Pg}{b:Array Oper}{Q:Exit→Act→Wd→Prop}{a:Act}{w:Wd}{id:Nat}(ap:P.follows .mixedOrders=Bt)
  (Vs:List VP) (ad:(H2 b.toList&&a2r b.toList 0)=Bt) (B:(Nat→Va)→Act) (aj:∀x,e6 b.toList x 0 a=B x)
  (af:Obl P b.toList B a.defers w Vs b.toList Vs)
  (an:∀x w',a9 w w'→l8 x w' (Q .normal (B x) w') Vs 0):(Code.region id b Bt).wp P Q a w:=by
 simp only[Bool.and_eq_true]at ad;obtain⟨am,ae⟩:=ad;obtain rfl:(fun x=>e6 b.toList x 0 a)=B:=funext aj;have ba:b.size=Vs.length:=by rw[←JW _ _ af];simp
 have aa:∀(os:List Oper)(x:Nat→Va)(k:Nat)(a:Act),(e6 os x k a).defers=a.defers:=by
  intro os
  induction os with
  |nil=>intro _ _ _;rfl
  |cons h os ih=>intro x k a;simp only[e6];rw[ih,G6]
 have key:∀(s:Nat)(c:Array Bool)(x:Nat→Va)(d:Wd),a9 w d→(∀j(l:VP),c[j]? =So Bt→Vs[j]? =So l→l.p (x j) d)→
   c.size=b.size→c.toList.count Bf≤s→wpAny P .any b Q s c (e6 b.toList x 0 a) d:=by
  intro s;have ac:∀(c:Array Bool)(x:Nat→Va)(d:Wd),a9 w d→(∀j(l:VP),c[j]? =So Bt→Vs[j]? =So l→l.p (x j) d)→c.size=b.size→
    Region.ready .any b c=[]→Q .normal (e6 b.toList x 0 a) d:=by
   intro c x d r q A E;have H:∀n j,j<n→j<b.size→c[j]? =So Bt:=by
    intro n
    induction n with
    |zero=>intro j o;omega
    |succ n ih=>
     intro j o N;have p:j<c.size:=by omega
     cases u:c[j]with
     |true=>rw[Array.getElem?_eq_getElem p,u]
     |false=>
      have:j∈Region.ready .any b c:=by
       rw[mem_ready];refine⟨by simp[Array.getElem?_eq_getElem p,u],b[j],Array.getElem?_eq_getElem N,fun e D C=> ?_⟩;have ar:=E2 b.toList 0 j b[j] ae (by simp[N]) e D C;have:=ih e.on (by omega) (by omega);simp[this]
      rw[E]at this;cases this
   refine fB Vs 0 (fun j l o=> ?_) (an x d r);rw[a4E];have:j<Vs.length:=(List.getElem?_eq_some_iff.1 o).1;exact q j l (H (j+1) j (by omega) (by omega)) o
  induction s with
  |zero=>
   intro c x d r q A al;have E:Region.ready .any b c=[]:=by
    rw[List.eq_nil_iff_forall_not_mem];intro j o;rw[mem_ready]at o;obtain⟨G,h,z,_⟩:=o;have N:j<b.size:=(Array.getElem?_eq_some_iff.1 z).1;have p:j<c.size:=by omega
    have u:c[j]=Bf:=by simpa[Array.getElem?_eq_getElem p]using G
    have:0<c.toList.count Bf:=List.count_pos_iff.2 (by rw[←u];exact Array.getElem_mem_toList p);omega
   exact⟨E,ac c x d r q A E⟩
  |succ s ih=>
   intro c x d r q A al;refine⟨ac c x d r q A,fun i hi=> ?_⟩;rw[mem_ready]at hi;obtain⟨G,h,z,H⟩:=hi;have az:i<b.size:=(Array.getElem?_eq_some_iff.1 z).1;have p:i<c.size:=by omega
   have u:c[i]=Bf:=by simpa[Array.getElem?_eq_getElem p]using G
   have S:b.toList[i]? =So h:=by simpa using z
   obtain⟨l,ak,aq⟩:=UM _ _ i h af S;have m:=lE h.after.toList (fun e D C=>by
    have ar:=E2 b.toList 0 i h ae S e (by simpa using D) C;have ao:=H e (by simpa using D) C;have ai:c[e.on]? =So Bt:=by
     have:e.on<c.size:=by omega
     rw[Array.getElem?_eq_getElem this];simpa[Array.getElem?_eq_getElem this]using ao
    have ab:e.on<Vs.length:=by omega
    rw[a8,e9 ab];exact q e.on _ ai (e9 ab)) (aq x d r)
   have ah:∀v F,l.p (q9 ((e6 b.toList x 0 a).put h.dst v) h.dst) F→a9 d F→wpAny P .any b Q s (c.setIfInBounds i Bt) ((e6 b.toList x 0 a).put h.dst v) F:=by
    intro v F au ag;rw[←lU,qR b.toList x 0 a i h _ am S,a4E];refine ih _ _ _ (r.trans ag) (fun j W o y=> ?_) (by simpa using A) ?_
    ·by_cases L:j=i
     ·subst L
      rw[ak]at y;injection y with y
      subst y;simp only[DY,if_true];exact au
     ·simp only[DY,if_neg L]
      rw[Array.getElem?_setIfInBounds_ne (Ne.symm L)]at o;exact W.st _ _ _ (q j W o y) ag
    ·have:=lG c.toList i (by simp[p,u])
     simp only[Array.toList_setIfInBounds];omega
   unfold wpOp;rw[z];dsimp only;have m:Wp P b (yG l h.dst a.defers d) [h] (e6 b.toList x 0 a) d:=by
    have:=j8.toList (aa _ _ _ _) m;rwa[Array.toArray_toList]at this
   simp only[Wp]at m;split
   ·rename_i T
    rw[if_pos T]at m;rcases m with m|⟨_,ay,bb,f⟩
    ·refine .inl (UF m (fun ax w' f=>by rw[aa];exact f.2.1) (fun v w' f=>ah v w' f.1 f.2.2) (fun _ _ _ f=>f.elim) (fun _ _ f=>f.elim))
    ·exact f.elim
   ·rename_i T
    rw[if_neg T]at m;exact ah _ _ m.1 m.2.2
 obtain⟨aw,av⟩:=gV b.toList 0 a;refine wp_region_any ap ?_;have:=key b.size (Array.replicate b.size Bf) aw {w with drawn:=w.drawn+1} ((a9.refl w).drew) (fun j l f _=>by
  simp[Array.getElem?_replicate]at f) (by simp) (by simp)
 rw[av]at this;exact this
def jU{b:Type}(d:Fence)(n:Nat)(P:Pg)(g:Nat)(lb:Array Va)(h:b→Array Va)(G:b→Wd→Prop)(f:Wd→Wd→Prop)(S:List b→Prop)(N:Nat)(w:Wd):Prop:=
 ∀(l:Nat)(Jq:List b→Wd→Prop)(W:Wd),Below w w W→AbidesFrom W Jq→
  (∀c x a,Jq c a→G x a→c.length<N→YieldAt d (n-1) P l (h x) a fun e W'=>e=X (O Bt)∧Jq (c++[x]) W'∧f a W')→
  Jq [] W→
  Ci d n P g (#[Fc (.yield l) #[] #[]]++lb) W fun e W'=>(∃v,e=X v)∧∃xs,S xs∧Jq xs W'
def iL{a:Type}(B:Nat)(c:Wd→Wd→Prop)(b:List a→Wd→Prop)(xs:List a)(W:Wd):Exit→Act→Wd→Prop
 | .normal,_,W'=>KeepsFrom B W W'∧c W W'∧b xs W'
 |_,_,_=>False
def ZP{c:Type}(d:Fence)(n:Nat)(P:Pg)(g:Nat)(lb:Array Va)(i:c→Array Va)(G:c→Wd→Prop)(h:Wd→Wd→Prop)(f:Wd→Prop)(S:List c→Prop)(N:Nat)(w:Wd):Prop:=
 ∀(l:Nat)(Jq:List c→Wd→Prop)(W:Wd),Below w w W→AbidesFrom W Jq→(∀a W,Jq a W→f W)→
  (∀a x b,Jq a b→G x b→a.length<N→YieldAt d (n-1) P l (i x) b fun e W'=>e=X (O Bt)∧Jq (a++[x]) W'∧h b W')→
  Jq [] W→
  Ci d n P g (#[Fc (.yield l) #[] #[]]++lb) W fun e W'=>(∃v,e=X v)∧∃xs,S xs∧Jq xs W'
theorem jU.toB{e:Type}{f:Fence}{n:Nat}{P:Pg}{g:Nat}{lb:Array Va}{i:e→Array Va}{G:e→Wd→Prop}{h:Wd→Wd→Prop}{S:List e→Prop}{N:Nat}{w:Wd}(j:jU f n P g lb i G h S N w):ZP f n P g lb i G h (fun _=>True) S N w:=fun l Jq W a b _ c d=>j l Jq W a b c d
theorem kK{F:Fence}{n:Nat}{P:Pg}{α:Type}{g:Operand}{ps:Array Tmp}{assign body:Code}{Q:Exit→Act→Wd→Prop}{a:Act}{w:Wd}
  (hro:F.round=J) (h1:1≤n) {gf:Nat} {lb:Array Va} (hg:a.eval g=Fc (.func gf) #[] lb) (hFg:F.fn gf) (eg:∀args w,(callFunc gf args).run P w= .ok (.enter gf args) w)
  {encs:α→Array Va} {G:α→Wd→Prop} {Kp:Wd→Wd→Prop} {Bd:Wd→Prop} {S:List α→Prop} {N:Nat} {w0:Wd} (hseq:ZP F (n-1) P gf lb encs G Kp Bd S N w0)
  (hKt:∀{A B C:Wd},Kp A B→Kp B C→Kp A C) (hKb:∀(W:Wd)(l:Nat)(o o':Obj),w≤l→W.heap[l]? =So o→o.isCells=Bf→o.isWalk=Bf→Kp W (W.putObj l o'))
  (hb0:Below w0 w0 w) (hps:∀x,(encs x).size=ps.size)
  (hG:∀(x:α)(W:Wd)(l:Nat)(o o':Obj),G x W→W.heap[l]? =So o→o.isCells=Bf→G x (W.putObj l o'))
  (aa:List α→Wd→Prop) (hBd:∀pre W,aa pre W→Bd W) (hI:OwnFrom w aa) (h0:aa [] w) (a₁:α→Act)
  (hassign:∀(l:Nat)(x:α)(W:Wd)(ab:Act→Wd→Prop),ab (a₁ x) W→
   assign.wpIn (F.inRound l) (n-1-1) P (Exit.then ab (fun _ _ _=>False)) {tmps:=(ps.zip (encs x)).foldl (fun t(p,v)=>t.setIfInBounds p v) a.tmps,defers:=[]} W)
  (hbody:∀(l:Nat)(pre:List α)(x:α)(W:Wd),aa pre W→G x W→pre.length<N→body.wpIn (F.inRound l) (n-1-1) P (iL w Kp aa (pre++[x]) W) (a₁ x) W)
  (hdone:∀(D:Nat)(xs:List α)(W:Wd),w≤D→S xs→aa xs W→W.heap[D]? =So (.deferred (So []))→Q .normal {a with defers:= {target:= .collected D,args:= #[]}::a.defers} W):
  (Code.rangeFunc g ps assign body).wpIn F n P Q a w:=by
 refine wpIn_rangeFunc fun fn hfn=> ?_
 rw[hro];obtain⟨rec,hrec⟩:∃rec:LoopState→Option Code→Loop,rec=fun st pe=> {state:=st,pending:=pe,fn,tmps:=a.tmps,params:=ps,assign,body,defers:=w}:=⟨_,rfl⟩
 obtain⟨ac,hV⟩:∃ac,(w.alloc (.deferred (So []))).alloc (.loop (rec .ready J))=ac:=⟨_,rfl⟩;have hL:ac.heap[w.heap.size+1]? =So (.loop (rec .ready J)):=by
  have:=World.alloc_heap_new (w.alloc (.deferred (So []))) (.loop (rec .ready J));rw[World.size_alloc]at this;rw[←hV];exact this
 have hD:ac.heap[w.heap.size]? =So (.deferred (So [])):=by
  rw[←hV];exact(Below.heap_alloc _ _ _ (by simp)).trans (World.alloc_heap_new w _)
 have hIV:aa [] ac:=by rw[←hV];exact hI.alloc _ (hI.alloc _ h0)
 have hbV:Below w0 w0 ac:=by
  rw[←hV];exact hb0.trans ((((Below.refl _ w).alloc (a7 _) _).alloc (by simp) _).mono hb0.size)
 have hz:w+2≤ac.heap.size:=by rw[←hV];simp
 have hE:(Instr.enterLoop fn a.tmps ps assign body J).run P w= .ok (w+1,[{target:= .collected w,args:= #[]}]) ac:=by
  rw[←hV,hrec];exact run_enterLoop_outer _ _ _ _ _
 clear hV;refine⟨w+1,[{target:= .collected w,args:= #[]}],ac,{target:= .fn (.func gf) lb,args:= #[Fc (.yield (w+1)) #[] #[]]},ac,gf,
  #[Fc (.yield (w+1)) #[] #[]]++lb,ac,?_,?_,?_,?_,fun _=>h1,?_⟩
 ·exact hE
 ·simp only[resolve,hg]
  simp[go_sem]
 ·intro f' hf'
  simp[Target.leads]at hf';subst hf';exact hFg
 ·simp[invoke,go_sem,eg]
 ·have far:∀{A B:Wd}{row:Option Nat},(∀r,row=So r→ac.heap.size≤r∧∃o:Obj,A.heap[r]? =So o∧o.isWalk=Bt)→(∀r,row=So r→w.heap.size≤r∧∃o:Obj,A.heap[r]? =So o∧o.isCells=Bf):=
   fun hr r e=>by
    obtain⟨hB,o,ho,hw⟩:=hr r e;exact⟨by omega,o,ho,Obj.not_cells_of_walk hw⟩
  refine(hseq (w+1) (fun pre W=>aa pre W∧W.heap[w.heap.size+1]? =So (.loop (rec .ready J))∧W.heap[w.heap.size]? =So (.deferred (So []))) ac hbV
   (fun s A B row hs hg' hr=>⟨hI s A B row hs.1 hg' (far (B:=B) hr),(grownBy_keeps hg' (fun r e=>(hr r e).2) hs.2.1 rfl).trans hs.2.1,(grownBy_keeps hg' (fun r e=>(hr r e).2) hs.2.2 rfl).trans hs.2.2⟩)
   (fun pre W hs=>hBd pre W hs.1) ?_ ⟨hIV,hL,hD⟩).mono ?_
  ·rintro pre x W⟨hi,hl,hk⟩ hgx hlen
   have hlt:w+1<W.heap.size:=(Array.getElem?_eq_some_iff.1 hl).1;have hy:=run_yield (P:=P) (args:=encs x) hl (by rw[hrec];exact hps x);rw[hrec]at hy;refine⟨fn,_,assign,body,hy,roundIn_of_wpIn hfn (hassign _ x W _ ⟨_,run_beginRound hl (by rw[hrec]),?_⟩)⟩;generalize hW2:W.putObj (w+1) (.loop {rec .ready J with state:= .busy})=W2;have hl2:W2.heap[w.heap.size+1]? =So (.loop {rec .ready J with state:= .busy}):=by rw[←hW2];exact World.putObj_heap_same hlt
   have hk2:W2.heap[w.heap.size]? =So (.deferred (So [])):=by rw[←hW2];exact(World.putObj_heap_other (by omega)).trans hk
   have hw2:Kp W W2:=by rw[←hW2];exact hKb _ _ _ _ (by omega) hl rfl rfl
   have hi2:aa pre W2:=by rw[←hW2];exact hI.putObj _ hi (by omega) hl rfl
   have hg2:G x W2:=by rw[←hW2];exact hG x W _ _ _ hgx hl rfl
   refine wpIn_mono (hbody _ pre x _ hi2 hg2 hlen) ?_;rintro e a3 W3 hp;cases e with
   |normal=>
    obtain⟨hk3,hkp3,hi3⟩:=hp;have hl3:=hk3.same _ _ (by omega) hl2 rfl;have hr:=run_endRound (P:=P) J hl3;rw[hrec]at hr;exact⟨_,_,hr,rfl,⟨hI.putObj _ hi3 (by omega) hl3 rfl,by rw[hrec];exact World.putObj_heap_same (Array.getElem?_eq_some_iff.1 hl3).1,(World.putObj_heap_other (by omega)).trans (hk3.same _ _ (a7 _) hk2 rfl)⟩,hKt (hKt hw2 hkp3) (hKb _ _ _ _ (by omega) hl3 rfl rfl)⟩
   |ret=>exact hp.elim
   |exit id=>exact hp.elim
   |goto t=>exact hp.elim
   |panic ch=>exact hp.elim
   |outgrown=>exact hp.elim
  ·rintro e W2⟨⟨v,rfl⟩,xs,hS,hi,hl,hk⟩
   have hr:=run_endLoop (P:=P) hl (by rw[hrec];simp);rw[hrec]at hr;exact⟨J,_,hr,hdone _ xs _ (a7 _) hS (hI.putObj _ hi (by omega) hl rfl) ((World.putObj_heap_other (by omega)).trans hk)⟩
def KpO(a:Wd→Nat→Prop)(W W':Wd):Prop:=∀b cs t,b9 W b t cs→¬a W b→b9 W' b t cs∧¬a W' b
theorem KpO.trans{a:Wd→Nat→Prop}{c B C:Wd}(d:KpO a c B)(k:KpO a B C):KpO a c C:=fun b cs t e f=>let⟨h1,h2⟩:=d b cs t e f;k b cs t h1 h2
theorem b9.d2{w:Wd}{g:Nat}{t:Ti}{cs:Array Va}(h:b9 w g t cs)(a b:Nat):w.cell? ⟨g,a,J⟩=cs[a]?∧w.cell? ⟨g,b,J⟩=cs[b]?:=⟨h.cell a,h.cell b⟩
theorem b9.d3{w:Wd}{g:Nat}{t:Ti}{cs:Array Va}(h:b9 w g t cs)(a b c:Nat):w.cell? ⟨g,a,J⟩=cs[a]?∧w.cell? ⟨g,b,J⟩=cs[b]?∧w.cell? ⟨g,c,J⟩=cs[c]?:=⟨h.cell a,h.cell b,h.cell c⟩
theorem b9.d4{w:Wd}{g:Nat}{t:Ti}{cs:Array Va}(h:b9 w g t cs)(a b c d:Nat):w.cell? ⟨g,a,J⟩=cs[a]?∧w.cell? ⟨g,b,J⟩=cs[b]?∧w.cell? ⟨g,c,J⟩=cs[c]?∧w.cell? ⟨g,d,J⟩=cs[d]?:=⟨h.cell a,h.cell b,h.cell c,h.cell d⟩
theorem b9.d5{w:Wd}{g:Nat}{t:Ti}{cs:Array Va}(h:b9 w g t cs)(a b c d e:Nat):w.cell? ⟨g,a,J⟩=cs[a]?∧w.cell? ⟨g,b,J⟩=cs[b]?∧w.cell? ⟨g,c,J⟩=cs[c]?∧w.cell? ⟨g,d,J⟩=cs[d]?∧w.cell? ⟨g,e,J⟩=cs[e]?:=⟨h.cell a,h.cell b,h.cell c,h.cell d,h.cell e⟩
theorem b9.d6{w:Wd}{g:Nat}{t:Ti}{cs:Array Va}(h:b9 w g t cs)(a b c d e f:Nat):w.cell? ⟨g,a,J⟩=cs[a]?∧w.cell? ⟨g,b,J⟩=cs[b]?∧w.cell? ⟨g,c,J⟩=cs[c]?∧w.cell? ⟨g,d,J⟩=cs[d]?∧w.cell? ⟨g,e,J⟩=cs[e]?∧w.cell? ⟨g,f,J⟩=cs[f]?:=⟨h.cell a,h.cell b,h.cell c,h.cell d,h.cell e,h.cell f⟩
theorem b9.c2{w:Wd}{g:Nat}{t:Ti}{cs:Array Va}(h:b9 w g t cs):w.cell? ⟨g,0,J⟩=cs[0]?∧w.cell? ⟨g,1,J⟩=cs[1]?:=⟨h.cell 0,h.cell 1⟩
theorem b9.c3{w:Wd}{g:Nat}{t:Ti}{cs:Array Va}(h:b9 w g t cs):w.cell? ⟨g,0,J⟩=cs[0]?∧w.cell? ⟨g,1,J⟩=cs[1]?∧w.cell? ⟨g,2,J⟩=cs[2]?:=⟨h.cell 0,h.cell 1,h.cell 2⟩
theorem b9.c4{w:Wd}{g:Nat}{t:Ti}{cs:Array Va}(h:b9 w g t cs):w.cell? ⟨g,0,J⟩=cs[0]?∧w.cell? ⟨g,1,J⟩=cs[1]?∧w.cell? ⟨g,2,J⟩=cs[2]?∧w.cell? ⟨g,3,J⟩=cs[3]?:=⟨h.cell 0,h.cell 1,h.cell 2,h.cell 3⟩
theorem b9.c5{w:Wd}{g:Nat}{t:Ti}{cs:Array Va}(h:b9 w g t cs):w.cell? ⟨g,0,J⟩=cs[0]?∧w.cell? ⟨g,1,J⟩=cs[1]?∧w.cell? ⟨g,2,J⟩=cs[2]?∧w.cell? ⟨g,3,J⟩=cs[3]?∧w.cell? ⟨g,4,J⟩=cs[4]?:=⟨h.cell 0,h.cell 1,h.cell 2,h.cell 3,h.cell 4⟩
theorem b9.c9{w:Wd}{g:Nat}{t:Ti}{cs:Array Va}(h:b9 w g t cs):w.cell? ⟨g,0,J⟩=cs[0]?∧w.cell? ⟨g,1,J⟩=cs[1]?∧w.cell? ⟨g,2,J⟩=cs[2]?∧w.cell? ⟨g,3,J⟩=cs[3]?∧w.cell? ⟨g,4,J⟩=cs[4]?∧w.cell? ⟨g,5,J⟩=cs[5]?∧w.cell? ⟨g,6,J⟩=cs[6]?∧w.cell? ⟨g,7,J⟩=cs[7]?∧w.cell? ⟨g,8,J⟩=cs[8]?:=⟨h.cell 0,h.cell 1,h.cell 2,h.cell 3,h.cell 4,h.cell 5,h.cell 6,h.cell 7,h.cell 8⟩
def uV:=And.intro @cK.eq_1 (And.intro @cK.eq_2 (And.intro @cK.eq_3 (And.intro @q9.eq_1 (And.intro @q9.eq_2 (And.intro @Z5.eq_1 (And.intro @Z5.eq_2 (And.intro @VR.is.eq_1 (And.intro @VR.any.eq_1 (And.intro @VP.row.eq_1 (And.intro @VP.ptr.eq_1 (And.intro @VP.blk.eq_1 (And.intro @VP.ex.eq_1 (And.intro @VP.and.eq_1 (And.intro @VP.of.eq_1 (And.intro @List.getD_cons_zero.{0} @List.getD_cons_succ.{0})))))))))))))))
end
section
def leB:Nat→Int→List Int
 |0,_=>[]
 |n+1,x=>x % 256::leB n (x/256)
def p2(a:List Int):Prop:=∀x∈a,0≤x∧x<256
theorem p2.drop{a:List Int}(b:p2 a)(k:Nat):p2 (a.drop k):=fun x c=>b x (List.mem_of_mem_drop c)
theorem p2.take{a:List Int}(b:p2 a)(k:Nat):p2 (a.take k):=fun x c=>b x (List.mem_of_mem_take c)
theorem p2.append{a b:List Int}(d:p2 a)(k:p2 b):p2 (a++b):=fun x c=>by
 rcases List.mem_append.1 c with c|c
 ·exact d x c
 ·exact k x c
theorem a33(x:Int)(w:Wd)(j:0≤x)(f:x<256^8):
  Ca prog 283 #[I U6 x] w fun e i=>e=X (Tp #[I V (x % 4294967296),I V (x/4294967296)])∧w=i:=by
 have h:=a6 f;clear f;go_in;go_wp2
 go_ret2
 have f:=h.out;refine⟨?_,rfl⟩;have e:∀a b c d:Int,a=b→c=d→X (Tp #[I V a,I V c])=X (Tp #[I V b,I V d]):=fun a b c d g k=>by rw[g,k]
 exact e _ _ _ _ (by omega) (by omega)
theorem YI(a:Option Ad)(n c:Nat)(xs:List Int)(w:Wd)(e:xs.length=n)(f:h9 w a (i3 U8 xs)):
  (convert 22 9 (Z a n c)).run prog w= .ok (Y (Sn xs)) w:=by
 rcases Nat.eq_zero_or_pos n with d|d
 ·subst d
  obtain rfl:xs=[]:=List.eq_nil_of_length_eq_zero e;exact run_convert_bytes_zero w 22 5 underlying22 underlying5 a c 9 underlying9
 ·obtain⟨b,g,rfl,_⟩:=f.some_ (by simpa[i3,e]using d)
  refine run_convert_bytes_arg (P:=prog) w 22 5 underlying22 underlying5 b g n c xs e (fun i hi=> ?_) 9 underlying9;rw[a8,e9 (by omega)];exact f.cell (M2 _)
structure Sl where
 A:Option Ad
 n:Nat
 c:Nat
 xs:List Int
def Sl.val(s:Sl):Va:=Z s.A s.n s.c
def Sl.ok(w:Wd)(s:Sl):Prop:=s.xs.length=s.n∧h9 w s.A (i3 U8 s.xs)
def w7:List Sl→List Int
 |[]=>[]
 |s::r=>s.xs++w7 r
theorem w9(a b:List Sl):w7 (a++b)=w7 a++w7 b:=by
 induction a with
 |nil=>simp[w7]
 |cons s r ih=>simp[w7,ih]
theorem w8(l:List Sl)(k:Nat)(a:k<l.length):w7 (l.take (k+1))=w7 (l.take k)++l[k].xs:=by
 rw[a4a a,w9];simp[w7]
open Go.ChangeAt
open Go.ChangeMaps (open_string shut_string)
theorem UC:ownKnob prog.godebug=J:=by kernel_rfl
theorem iZ:laidOutB prog=Bt:=by kernel_rfl
section
variable {H:Type} {enc:Ti×Va→H} {W:Wd}
theorem RS{x:Int}(h:(Lit.int V x).wf=Bt):0≤x∧x<4294967296:=by
 have:=bounds_u32 h;omega
theorem a2Z{x:Int}(h:(Lit.int U6 x).wf=Bt):0≤x∧x<256^8:=by
 have:=bounds_u64 h;omega
end
def gb(n:Nat)(a:Int)(k:Nat):Bool:=Dc (0≤a∧a≤(n:Int)-k)
theorem a1F{w:Wd}{t:Ti}{cs:Array Va}{xs:List Va}(e:cs.toList=xs):h9 (w.alloc (U cs t)) w xs:=h9.f (b9.new w t cs) e
theorem keep{P:Pg}{f:FuncId}{args:Array Va}{w:Wd}{x:Ending}(b:Ca P f args w fun e a=>e=x∧w=a):Ca P f args w fun e a=>e=x∧a9 w a:=
 b.mono fun e a⟨c,d⟩=>⟨c,d▸a9.refl w⟩
theorem a9.one{w b:Wd}{a:Obj}(c:a9 (w.alloc a) b):a9 w b:=((a9.refl w).alloc a).trans c
end
theorem h9.far{W:Wd}{c:Option Ad}{xs:List Va}(d:h9 W c xs){p:Ad}(f:∀a,c=So a→a.block≠p.block)(u:Va):h9 (W.setCell p u) c xs:=fun j v g=>by
 obtain⟨b,h,rfl,e⟩:=d j v g;refine⟨b,h,rfl,?_⟩;have:=Below.heap_setCell W p u b (f _ rfl);unfold World.cell? at*;simp only at*;rw[this];exact e
structure a0a(w:Wd)(ls:List Sl)(g n k:Nat)(WA:Option Ad)(ms:List Sl)(W:Wd):Prop where
 len:ms.length=k
 xs:ms.map Sl.xs=(ls.take k).map Sl.xs
 ok:∀s∈ms,s.ok W
 far:∀s∈ms,∀a,s.A=So a→g<a.block
 row:b9 W g 22 (ms.map Sl.val++a2A (n-k) (Z J 0 0)).toArray
 want:h9 W WA (i3 U8 (w7 (ls.take k)))
 wfar:∀a,WA=So a→g<a.block
theorem a0a.start{w:Wd}{c:List Sl}{g n:Nat}{W:Wd}(b:b9 W g 22 (a2A n (Z J 0 0)).toArray):a0a w c g n 0 J [] W:=
 ⟨rfl,rfl,(fun s b=>by cases b),(fun s b=>by cases b),by simpa using b,h9.nil _ _,(fun a b=>by cases b)⟩
theorem Sl.ok_ext{s:Sl}{w b:Wd}(a:s.ok w)(e:a9 w b):s.ok b:=⟨a.1,a.2.h e⟩
theorem a0a.h{w:Wd}{c:List Sl}{g n k:Nat}{b:Option Ad}{d:List Sl}{W W':Wd}(a:a0a w c g n k b d W)(e:a9 W W'):a0a w c g n k b d W':=
 ⟨a.len,a.xs,fun s f=>Sl.ok_ext (a.ok s f) e,a.far,a.row.h e,a.want.h e,a.wfar⟩
theorem a0a.step{w:Wd}{b:List Sl}{g n k:Nat}{p:Option Ad}{j:List Sl}{W d W2:Wd}(f:a0a w b g n k p j W)(x:k<n)(o:k<b.length)(r:b[k].xs.length=b[k].n)
  (m:a9 W d) (b1:b9 d W 5 (i3 U8 (w7 (b.take k)++b[k].xs)).toArray) (l:a9 d W2) (b2:b9 W2 d 5 (i3 U8 b[k].xs).toArray):
  a0a w b g n (k+1) W (j++[⟨So ⟨d,0,J⟩,b[k].n,b[k].n,b[k].xs⟩]) (W2.setCell ⟨g,k,J⟩ (Z d b[k].n b[k].n)):=by
 have q:=f.row.lt;have v:W<d.heap.size:=b1.lt;have t:h9 W2 W (i3 U8 (w7 (b.take k)++b[k].xs)):=(h9.f b1 rfl).h l;have u:h9 W2 d (i3 U8 b[k].xs):=h9.f b2 rfl;refine⟨by simp[f.len],?_,fun s i=> ?_,fun s i a c=> ?_,?_,?_,fun a c=> ?_⟩
 ·rw[a4F,f.xs,a4a o,a4F]
  rfl
 ·rcases List.mem_append.1 i with h|h
  ·exact⟨(f.ok s h).1,(((f.ok s h).2.h m).h l).far (fun a c=>by have:=f.far s h a c;show a.block≠g;omega) _⟩
  ·rw[List.mem_singleton.1 h]
   exact⟨r,u.far (fun a c=>by injection c with c;subst c;show d≠g;omega) _⟩
 ·rcases List.mem_append.1 i with h|h
  ·exact f.far s h a c
  ·rw[List.mem_singleton.1 h]at c
   injection c with c
   subst c;show g<d;omega
 ·have i:=(((f.row.h m).h l).f k (Z d b[k].n b[k].n))
  have e:(j.map Sl.val++a2A (n-k) (Z J 0 0)).toArray.setIfInBounds k (Z d b[k].n b[k].n)=((j++[(⟨So ⟨d,0,J⟩,b[k].n,b[k].n,b[k].xs⟩:Sl)]).map Sl.val++a2A (n-(k+1)) (Z J 0 0)).toArray:=by
   apply Array.toList_inj.1;rw[Array.toList_setIfInBounds];simp only[List.toList_toArray];rw[List.set_append_right _ _ (by rw[a32,f.len];exact a7 _),a32,f.len,Nat.sub_self,show n-k=(n-(k+1))+1 by omega,List.replicate_succ,List.set_cons_zero,a4F,a4s];rfl
  rw[e]at i;exact i
 ·rw[w8 b k o]
  exact t.far (fun a c=>by injection c with c;subst c;show W≠g;omega) _
 ·injection c with c
  subst c;exact q
structure r9 where
 nr:Int
 arch:Int
 ip:Int
 a0:Int
 a1:Int
 a2:Int
 a3:Int
 a4:Int
 a5:Int
def B4(x:Int):Prop:=0≤x∧x<4294967296
def mT(x:Int):Prop:=0≤x∧x<256^8
structure r9.ok(d:r9):Prop where
 nr:B4 d.nr
 arch:B4 d.arch
 ip:mT d.ip
 a0:mT d.a0
 a1:mT d.a1
 a2:mT d.a2
 a3:mT d.a3
 a4:mT d.a4
 a5:mT d.a5
abbrev YG(i g h a b c d e f:Int):Va:=Ag #[I V i,I V g,I U6 h,I U6 a,I U6 b,I U6 c,I U6 d,I U6 e,I U6 f]
abbrev r9.val(d:r9):Va:=YG d.nr d.arch d.ip d.a0 d.a1 d.a2 d.a3 d.a4 d.a5
def lo(x:Int):Int:=x % 4294967296
def hi(x:Int):Int:=x/4294967296
def r9.words(d:r9):List Int:=[d.nr,d.arch,lo d.ip,hi d.ip,lo d.a0,hi d.a0,lo d.a1,hi d.a1,lo d.a2,hi d.a2,lo d.a3,hi d.a3,lo d.a4,hi d.a4,lo d.a5,hi d.a5]
theorem XB:(prog.info? 27).map (fun i=>(i.zero,i.size,i.bytes))=So (So (I U6 0),1,8):=by kernel_rfl
theorem RQ(x:Int)(a:Option Ad)(n c:Nat)(xs:List Int)(w:Wd)(f:xs.length=n)(A:n≤1000)(t:h9 w a (i3 U6 xs)):
  Ca prog 282 #[I U6 x,Z a n c] w fun e m=>∃B d,e=X (Z B (1+n) d)∧h9 m B (i3 U6 (x::xs))∧(∀b l,B=So ⟨b,l,J⟩→w.heap.size≤b)∧a9 w m:=by
 obtain⟨y,hi,i,j,k⟩:=info_parts XB;have o:=a6 hi;have p:=a6 i;have q:=a6 j;have r:=a6 k;clear hi i j k;have s:=a6 f;clear f;have g:(w.alloc (U #[I U6 x] 27)).ownsRow w 27 1 (Z w 1 1) 1 [I U6 x]:=
  ⟨rfl,.inr ⟨w,1,_,rfl,a7 _,heap_alloc_new w _,a7 _,by unfold maxLen;omega,rfl,rfl⟩⟩
 have u:=t.h ((a9.refl w).alloc (U #[I U6 x] 27));go_in;go_wp2_with(at_builtin;refine R7 rfl (Tm 6) (Tm 7) _ rfl w 27 y _ 1 8 underlying362 o p q r rfl (by omega) _ 1 1 [I U6 x] rfl g a n c (i3 U6 xs) rfl (by rw[a32,s.out,Nat.mul_one]) u UO (by omega) (by omega) (by simp) ?_;intro B d C h v z)
 go_ret;refine⟨B,d,rfl,X2 h,fun b l e=>by subst e;exact UD h,?_⟩;exact((a9.refl w).alloc _).app g (a7 _) v
theorem Q4(x:Int)(w:Wd)(a:mT x):
  Ca prog 283 #[I U6 x] w fun e b=>e=X (Tp #[I V (lo x),I V (hi x)])∧w=b:=a33 x w a.1 a.2
def b6(b a:Int)(xs:List Int):Nat→Array Va
 |0=> #[I V b,I V a,I V 0,I V 0,I V 0,I V 0,I V 0,I V 0,I V 0,I V 0,I V 0,I V 0,I V 0,I V 0,I V 0,I V 0]
 |k+1=>((b6 b a xs k).setIfInBounds (2+2*k) (I V (lo (xs.getD k 0)))).setIfInBounds (3+2*k) (I V (hi (xs.getD k 0)))
def a29(d:r9):Va:=Ag #[I V d.nr,I V d.arch,I V (lo d.ip),I V (hi d.ip),I V (lo d.a0),I V (hi d.a0),I V (lo d.a1),I V (hi d.a1),I V (lo d.a2),I V (hi d.a2),I V (lo d.a3),I V (hi d.a3),I V (lo d.a4),I V (hi d.a4),I V (lo d.a5),I V (hi d.a5)]
theorem w6(b a:Int)(xs:List Int):∀k,(b6 b a xs k).size=16
 |0=>rfl
 |k+1=>by simp[b6,w6 b a xs k]
theorem a0b(c b:Int)(xs:List Int):∀k,∀v∈(b6 c b xs k).toList,v.oneCell'=Bt
 |0,v,a=>by simp[b6]at a;rcases a with rfl|rfl|rfl<;>rfl
 |k+1,v,a=>by
  simp only[b6,Array.toList_setIfInBounds]at a;rcases List.mem_or_eq_of_mem_set a with a|rfl
  ·rcases List.mem_or_eq_of_mem_set a with a|rfl
   ·exact a0b c b xs k v a
   ·rfl
  ·rfl
theorem MC(d:r9)(ay:d.ok)(w:Wd):
  Ca prog 210 #[d.val] w fun e u=>e=X (a29 d)∧a9 w u:=by
 obtain⟨q,o,m,c,f,g,h,j,l⟩:=d;obtain⟨am,an,H,L,N,P,Q,R,S⟩:=ay;dsimp only at am an H L N P Q R S;go_in;go_wp2;have ac:∀(z Yq:Obj),h9 ((((w.alloc (U #[I V q,I V o,I U6 m,I U6 c,I U6 f,I U6 g,I U6 h,I U6 j,I U6 l] 30)).alloc z).alloc Yq).drew) (So ⟨w,3,J⟩) (i3 U6 [c,f,g,h,j,l]):=fun z Yq=>
  (((b9.new w 30 #[I V q,I V o,I U6 m,I U6 c,I U6 f,I U6 g,I U6 h,I U6 j,I U6 l]).alloc z).alloc Yq).drew.inM.drop 3
 go_region_held3 (fun u=>u.cell? ⟨w,2,J⟩=So (I U6 m)) (first|go_keep|(rw[s.cell];go_keep)) (first|(go_at_call 282;apply(RQ m _ 6 6 [c,f,g,h,j,l] _ rfl (by omega) (ac _ _)).mono;rintro e T⟨B,be,rfl,E,af,s⟩))
 obtain⟨b,G,rfl,az⟩:=E.some_ (by simp);have ak:a9 w T:=(((((a9.refl w).alloc _).alloc _).alloc _).drew).trans s;have n:b9 T (w+1+1) 108 (b6 q o [m,c,f,g,h,j,l] 0):=b9.h (by refine b9.drew ?_;exact b9.b (by simp)) s;have r:b9 T (w+1) 108 (Array.replicate 16 (I V 0)):=b9.h (by refine b9.drew (b9.alloc ?_ _);exact b9.b (by simp)) s;have ag:¬b=w+1+1:=by
  have:=af b G rfl;simp only[World.size_drew,World.size_alloc]at this;omega
 have ai:∀k(A:k<[m,c,f,g,h,j,l].length),mT [m,c,f,g,h,j,l][k]:=fun k A=>(show∀x∈[m,c,f,g,h,j,l],mT x by simp[H,L,N,P,Q,R,S]) _ (a30 A)
 have ah:[m,c,f,g,h,j,l].length=7:=rfl;have ae:a29 ⟨q,o,m,c,f,g,h,j,l⟩=Ag (b6 q o [m,c,f,g,h,j,l] 7):=by simp[b6,a29]
 generalize [m,c,f,g,h,j,l]=xs at*;obtain⟨ax,aw,av⟩:=p7 ai ah ae;clear s af az ac ae ai ah am an H L N P Q R S;go_wp2;go_loopw [17] (fun i W=>∃k:Nat,k≤7∧i=I M k∧a9 w W∧b9 W (w+1+1) 108 (b6 q o xs k)∧b9 W (w+1) 108 (Array.replicate 16 (I V 0))∧h9 W (So ⟨b,G,J⟩) (i3 U6 xs)) (fun i _=>7-(intOf i).toNat)
 case atStart=>exact⟨0,by omega,rfl,ak,n,r,E⟩
 case round=>
  clear ak n r E;obtain⟨k,A,rfl,F,n,r,D⟩:=hrel;by_cases bc:k<7
  ·have C:k<xs.length:=by rw[aw.out];exact bc
   have bf:wr.cell? ⟨b,G+k,J⟩=So (I U6 xs[k]):=D.cell (by unfold i3;simp[C]);have bb:=ax k C;have ad:xs.getD k 0=xs[k]:=by simp[a8,C]
   have bg:IntKind.i64.wrap (2*(k:Int))=((2*k:Nat):Int):=(a37 _ (by omega)).trans (by omega);have bh:IntKind.i64.wrap (2+((2*k:Nat):Int))=((2+2*k:Nat):Int):=(a37 _ (by omega)).trans (by omega);have bi:IntKind.i64.wrap (3+((2*k:Nat):Int))=((3+2*k:Nat):Int):=(a37 _ (by omega)).trans (by omega);obtain⟨bp,bl⟩:∃v,wr.cell? ⟨w+1+1,2+2*k,J⟩=So v:=⟨_,(n.cell _).trans (Array.getElem?_eq_getElem (by rw[w6];omega))⟩;obtain⟨bq,bm⟩:∃v,wr.cell? ⟨w+1+1,3+2*k,J⟩=So v:=⟨_,(n.cell _).trans (Array.getElem?_eq_getElem (by rw[w6];omega))⟩;have bj:=n.frozen (2+2*k);have bk:=n.frozen (3+2*k);have bn:((2+2*k:Nat):Int)<16:=by omega
   have bo:((3+2*k:Nat):Int)<16:=by omega
   have ab:=(n.f (2+2*k) (I V (lo xs[k]))).f (3+2*k) (I V (hi xs[k]));have aa:=(r.far (p:=⟨w+1+1,2+2*k,J⟩) (by dsimp only;omega) (I V (lo xs[k]))).far (p:=⟨w+1+1,3+2*k,J⟩) (by dsimp only;omega) (I V (hi xs[k]));have ty:=(F.set (p:=⟨w+1+1,2+2*k,J⟩) (by dsimp only;omega) (I V (lo xs[k]))).set (p:=⟨w+1+1,3+2*k,J⟩) (by dsimp only;omega) (I V (hi xs[k]));have al:=(D.far (p:=⟨w+1+1,2+2*k,J⟩) (fun a e=>by cases e;exact ag) (I V (lo xs[k]))).far (p:=⟨w+1+1,3+2*k,J⟩) (fun a e=>by cases e;exact ag) (I V (hi xs[k]));obtain⟨y,au⟩:=i6 (show _∧_∧_∧_ from⟨ty,ab,aa,al⟩) ad;clear F n r D ab aa ty al ad;generalize aj:xs[k]=x at*;have bd:=a6 aj;clear aj;go_wp2_with(go_at_call 283;apply(Q4 _ _ bb).mono;rintro e u⟨rfl,rfl⟩)
   go_roundw
   case rel=>exact⟨k+1,by omega,by go_num,y.1,by rw[b6,au.out];exact y.2.1,y.2.2⟩
   case measure=>simp[intOf];omega
  ·obtain rfl:k=7:=by omega
   obtain⟨t,ap⟩:=i6 (w6 q o xs 7) (a0b q o xs 7);generalize b6 q o xs 7=cs at*;obtain⟨aq,ar⟩:=i6 n r;clear n r;go_wp2_with(first|(refine i8 rfl 108 (Tm 3) rfl _ _ _ _ rfl aq underlying108 rfl (by rw[t.out];kernel_rfl) ?_)|(refine c7 rfl 108 (Tm 2) (Tm 36) rfl _ _ _ _ rfl rfl ar (t.trans rfl) (by rw[t.out];kernel_rfl) ap.out ?_;intro br ao ba))
   exact Bp (g0 rfl _ _ _ _ _ _ rfl ao underlying108 rfl (by rw[t.out];kernel_rfl)) rfl ⟨by rw[av.out],F.grown ba (fun k e=>by cases e;omega)⟩
def cD(a k:Int):Int:=if 0≤a∧a≤5 then 16+8*a+k else 0
def ZV(a:Int):Bool:=Dc (0≤a∧a≤5)
theorem tK(a k:Int)(w:Wd)(f:0≤a)(g:a≤5)(k0:0≤k)(k4:k≤4):
  Ca prog 385 #[I M a,I M k] w fun e b=>e=X (Tp #[I V (16+8*a+k),O Bt])∧w=b:=by
 have c:Dc (a<0)=Bf:=by simp;omega
 have d:Dc (5<a)=Bf:=by simp;omega
 go_in;go_wp2
 go_ret2
 exact⟨rfl,rfl⟩
theorem AD(a k:Int)(w:Wd)(b:a<0∨5<a):
  Ca prog 385 #[I M a,I M k] w fun e d=>e=X (Tp #[I V 0,O Bf])∧w=d:=by
 by_cases g:a<0
 ·have c:Dc (a<0)=Bt:=by simp;omega
  clear b;go_in;go_wp2
  go_ret2
  exact⟨rfl,rfl⟩
 ·have c:Dc (a<0)=Bf:=by simp;omega
  have f:Dc (5<a)=Bt:=by simp;omega
  clear b;go_in;go_wp2
  go_ret2
  exact⟨rfl,rfl⟩
theorem a1c(a:Int)(w:Wd):Ca prog 353 #[I M a] w fun e c=>e=X (Tp #[I V (cD a 0),O (ZV a)])∧w=c:=by
 by_cases b:0≤a∧a≤5
 ·rw[show ZV a=Bt from by unfold ZV;simpa using b,show cD a 0=16+8*a from by unfold cD;rw[if_pos b,Int.add_zero]]
  go_in;go_wp2_with(go_at_call 385;apply(tK a 0 w b.1 b.2 (by omega) (by omega)).mono;rintro e c⟨rfl,rfl⟩)
  go_ret2
  exact⟨rfl,rfl⟩
 ·rw[show ZV a=Bf from by unfold ZV;simpa using b,show cD a 0=0 from by unfold cD;rw[if_neg b]]
  go_in;go_wp2_with(go_at_call 385;apply(AD a 0 w (by omega)).mono;rintro e c⟨rfl,rfl⟩)
  go_ret2
  exact⟨rfl,rfl⟩
theorem XF(a:Int)(w:Wd):Ca prog 354 #[I M a] w fun e c=>e=X (Tp #[I V (cD a 4),O (ZV a)])∧w=c:=by
 by_cases b:0≤a∧a≤5
 ·rw[show ZV a=Bt from by unfold ZV;simpa using b,show cD a 4=16+8*a+4 from by unfold cD;rw[if_pos b]]
  go_in;go_wp2_with(go_at_call 385;apply(tK a 4 w b.1 b.2 (by omega) (by omega)).mono;rintro e c⟨rfl,rfl⟩)
  go_ret2
  exact⟨rfl,rfl⟩
 ·rw[show ZV a=Bf from by unfold ZV;simpa using b,show cD a 4=0 from by unfold cD;rw[if_neg b]]
  go_in;go_wp2_with(go_at_call 385;apply(AD a 4 w (by omega)).mono;rintro e c⟨rfl,rfl⟩)
  go_ret2
  exact⟨rfl,rfl⟩
def Y5(a:Int):Bool:=Dc (a % 4=0∧a<64)
def r9.word(d:r9)(a:Int):Int:=if Y5 a=Bt then d.words.getD (a/4).toNat 0 else 0
def s1(a:Int):Int:=if Y5 a=Bt then 0 else 41
theorem LZ(d:r9)(k:Nat)(a:k<16)(W:Wd):(Instr.index 108 (a29 d) (I V k)).run prog W= .ok (I V (d.words.getD k 0)) W:=by
 obtain rfl|rfl|rfl|rfl|rfl|rfl|rfl|rfl|rfl|rfl|rfl|rfl|rfl|rfl|rfl|rfl:k=0∨k=1∨k=2∨k=3∨k=4∨k=5∨k=6∨k=7∨k=8∨k=9∨k=10∨k=11∨k=12∨k=13∨k=14∨k=15:=by omega
 all_goals kernel_rfl
theorem yP(d:r9)(t:d.ok)(a:Int)(w:Wd)(z:0≤a)(A:a<4294967296):
  Ca prog 136 #[d.val,I V a] w fun e x=>e=X (Tp #[I V (d.word a),I M (s1 a)])∧a9 w x:=by
 by_cases c:a % 4=0
 ·have q:(a % 4 !=0)=Bf:=by simp;exact c
  by_cases s:a<64
  ·have b:Y5 a=Bt:=by unfold Y5;simp;omega
   rw[show d.word a=d.words.getD (a/4).toNat 0 from by unfold r9.word;rw[if_pos b],show s1 a=0 from by unfold s1;rw[if_pos b]];have r:Dc (64≤a)=Bf:=by simp;omega
   have u:=LZ d (a/4).toNat (by omega);rw[show((a/4).toNat:Int)=a/4 from by omega]at u;have B:=IntWalk.u32_quo a 4 (by omega);have f:=fun W:Wd=>MC d t W
   have p:=a6 f;clear f;generalize a29 d=y at*;clear c b s;obtain⟨o,m,n,g,h,i,j,k,l⟩:=d;go_in;go_wp2_with(go_at_call 210;apply(p _).mono;rintro e C⟨rfl,v⟩)
   go_ret2
   exact⟨rfl,v.one⟩
  ·have b:Y5 a=Bf:=by unfold Y5;simp;omega
   rw[show d.word a=0 from by unfold r9.word;rw[if_neg (by rw[b];simp)],show s1 a=41 from by unfold s1;rw[if_neg (by rw[b];simp)]];have r:Dc (64≤a)=Bt:=by simp;omega
   clear c b;obtain⟨o,m,n,g,h,i,j,k,l⟩:=d;go_in;go_wp2
   go_ret2
   exact⟨rfl,(a9.refl w).alloc _⟩
 ·have q:(a % 4 !=0)=Bt:=by simp;exact c
  have b:Y5 a=Bf:=by unfold Y5;simp;omega
  rw[show d.word a=0 from by unfold r9.word;rw[if_neg (by rw[b];simp)],show s1 a=41 from by unfold s1;rw[if_neg (by rw[b];simp)]];clear c b;obtain⟨o,m,n,g,h,i,j,k,l⟩:=d;go_in;go_wp2
  go_ret2
  exact⟨rfl,(a9.refl w).alloc _⟩
def prB:List Int→List Int
 |[]=>[]
 |x::r=>leB 4 x++prB r
def r9.bytes(d:r9):List Int:=prB d.words
theorem LO(d:r9)(a:d.ok):∀x∈d.words,B4 x:=by
 have e:∀x,B4 (lo x):=fun x=>by unfold lo B4;omega
 have b:∀x,mT x→B4 (hi x):=fun x c=>by
  have:=c.1;have f:=c.2;unfold hi B4;omega
 intro x c;simp only[r9.words,List.mem_cons,List.not_mem_nil,or_false]at c;rcases c with rfl|rfl|rfl|rfl|rfl|rfl|rfl|rfl|rfl|rfl|rfl|rfl|rfl|rfl|rfl|rfl
 all_goals first|exact a.nr|exact a.arch|exact e _|exact b _ a.ip|exact b _ a.a0|exact b _ a.a1|exact b _ a.a2|exact b _ a.a3|exact b _ a.a4|exact b _ a.a5
theorem EG(d:r9)(b:d.ok)(k:Nat):B4 (d.words.getD k 0):=by
 rw[a8];rcases Nat.lt_or_ge k d.words.length with a|a
 ·rw[e9 a]
  exact LO d b _ (a30 a)
 ·rw[List.getElem?_eq_none a]
  exact⟨Int.le_refl _,by decide⟩
section
attribute [local go_sem] Oper.semAt_some
def KpB(s t:Nat)(W W':Wd):Prop:=∀p v,(p=s∨p=t)→W.cell? ⟨p,0,J⟩=So v→W'.cell? ⟨p,0,J⟩=So v
theorem B1(W:Wd):W.grownBy W.drew J:=⟨rfl,rfl,rfl,a7 _,fun _ _ _=>rfl⟩
attribute [local go_sem] Oper.semAt_some
structure i2 where
 code:Int
 jt:Int
 jf:Int
 k:Int
 deriving DecidableEq
def i2.cells(i:i2):Array Va:= #[I U1 i.code,I U8 i.jt,I U8 i.jf,I V i.k]
def i2.val(i:i2):Va:=Ag i.cells
attribute [local go_sem] Oper.semAt_some
theorem KpB.trans{s t:Nat}{a B C:Wd}(c:KpB s t a B)(k:KpB s t B C):KpB s t a C:=fun p v b d=>k p v b (c p v b d)
theorem XD:(prog.info? 116).map (fun i=>(i.zero,i.size,i.bytes))=So (So (Ag #[I U1 0,I U8 0,I U8 0,I V 0]),4,8):=by kernel_rfl
def i2.ok(i:i2):Prop:=(0≤i.code∧i.code<256^2)∧(0≤i.jt∧i.jt<256)∧(0≤i.jf∧i.jf<256)∧(0≤i.k∧i.k<256^4)
def i2.bytes(i:i2):List Int:=leB 2 i.code++[i.jt,i.jf]++leB 4 i.k
theorem tN{w:Wd}{base b:Nat}{e:Ti}{c n:Nat}{v:Va}{xs:List Va}(a:w.ownsRow base e c v n xs)(i:b≤base):w.ownsRow b e c v n xs:=by
 refine⟨a.1,?_⟩;rcases a.2 with a|⟨g,cap,cur,d,f,h⟩
 ·exact .inl a
 ·exact .inr ⟨g,cap,cur,d,c8 i f,h⟩
def VP.own(base:Nat)(t:Ti)(d n:Nat)(xs:List Va):VP:=⟨fun v w=>∃a c,v=Z a n c∧w.ownsRow base t d (Z a n c) n xs,fun _ _ _⟨a,c,b,k⟩ e=>⟨a,c,b,M1 k e⟩⟩
end
section
def pc(ps:List i2):List Va:=ps.flatMap fun i=>i.cells.toList
def j5:i2:=⟨0,0,0,0⟩
theorem bI(i:i2)(ps:List i2):pc (i::ps)=i.cells.toList++pc ps:=rfl
theorem NJ(a b:List i2):pc (a++b)=pc a++pc b:=by simp[pc]
theorem K9:∀ps:List i2,(pc ps).length=4*ps.length
 |[]=>rfl
 |i::ps=>by rw[bI,a2e,K9 ps];simp[i2.cells];omega
theorem pN:∀(ps:List i2)(k r:Nat)(a:k<ps.length),r<4→(pc ps)[k*4+r]? =ps[k].cells.toList[r]?
 |i::ps,0,r,_,hr=>by
  rw[bI,List.getElem?_append_left (by simp[i2.cells];omega)];simp
 |i::ps,k+1,r,a,hr=>by
  have b:k<ps.length:=by simpa using a
  rw[bI,List.getElem?_append_right (by simp[i2.cells];omega)];have e:(k+1)*4+r-i.cells.toList.length=k*4+r:=by simp[i2.cells];omega
  rw[e,pN ps k r b hr];simp
theorem G1{w:Wd}{b a:Nat}{ps:List i2}(c:h9 w (So ⟨b,a,J⟩) (pc ps)){k:Nat}(d:k<ps.length):
  w.cell? ⟨b,a+k*4,J⟩=So (I U1 ps[k].code)∧w.cell? ⟨b,a+k*4+1,J⟩=So (I U8 ps[k].jt)∧w.cell? ⟨b,a+k*4+2,J⟩=So (I U8 ps[k].jf)∧w.cell? ⟨b,a+k*4+3,J⟩=So (I V ps[k].k):=by
 refine⟨c.cell (k:=k*4) ?_,c.cell (k:=k*4+1) ?_,c.cell (k:=k*4+2) ?_,c.cell (k:=k*4+3) ?_⟩
 ·exact pN ps k 0 d (by omega)
 ·exact pN ps k 1 d (by omega)
 ·exact pN ps k 2 d (by omega)
 ·exact pN ps k 3 d (by omega)
theorem K7{w:Wd}{a:Option Ad}{ps:List i2}(c:h9 w a (pc ps))(e:0<ps.length):∃b d,a=So ⟨b,d,J⟩∧b<w.heap.size:=c.some_ (by rw[K9];omega)
theorem M5(k:IntKind)(a b:List Int):i3 k (a++b)=i3 k a++i3 k b:=a4F
def pe(n:Nat):Int:=if n % 8=0 then 0 else 20
attribute [local go_sem] Oper.semAt_some
theorem h8{W W':Wd}(a:a9 W W')(row:Option Nat):W.grownBy W' row:=⟨a.os,a.tape,a.output,a.size,fun k b _=>a.block b⟩
theorem P9{W W':Wd}{base:Nat}{e:Ti}{f n:Nat}{v:Va}{xs:List Va}{row:Option Nat}(d:W.ownsRow base e f v n xs)(j:W.grownBy W' row)(k:∀r,row=So r→∃c:Obj,W.heap[r]? =So c∧c.isCells=Bf):W'.ownsRow base e f v n xs:=by
 refine d.kept j ?_;rcases d.2 with⟨b,_⟩|⟨g,cap,cur,b,_,h,_⟩
 ·subst b
  exact .inl rfl
 ·refine .inr fun e=> ?_
  subst b;obtain⟨c,a,i⟩:=k g e.symm;rw[h]at a;injection a with a
  subst a;cases i
theorem e8{W W':Wd}{g:Nat}{t:Ti}{cs:Array Va}{row:Option Nat}(b:b9 W g t cs)(f:W.grownBy W' row)(h:∀r,row=So r→∃c:Obj,W.heap[r]? =So c∧c.isCells=Bf):b9 W' g t cs:=by
 refine b.grown f fun e=> ?_
 obtain⟨c,a,d⟩:=h g e.symm;unfold b9 at b;rw[b]at a;injection a with a
 subst a;cases d
theorem NO{W W':Wd}{b1 b2:Nat}{c d:Ti}{i r h q:Nat}{j l:Va}{m s:List Va}(f:W.ownsRow b1 c i j h m)(k:W.ownsRow b2 d r l q s)(p:c≠d)(o:W.grownBy W' l.ownBlock):W'.ownsRow b1 c i j h m:=by
 refine f.kept o ?_;rcases f.2 with⟨a,_⟩|⟨g,cap,cur,a,_,n,_⟩
 ·subst a
  exact .inl rfl
 ·refine .inr fun e=> ?_
  subst a;rcases k.2 with⟨a,_⟩|⟨v,t,u,a,_,b,_⟩
  ·subst a
   cases e
  ·subst a
   injection e with e
   subst e;rw[n]at b;injection b with b
   injection b with _ h2
   exact p h2
theorem PD{w c:Wd}{b a B:Nat}{xs:List Va}(d:h9 w (So ⟨b,a,J⟩) xs)(f:b<B)(e:Below B w c):h9 c (So ⟨b,a,J⟩) xs:=fun j u g=>
 ⟨b,a,rfl,(Below.cell e (p:=⟨b,a+j,J⟩) f).trans (d.cell g)⟩
structure Yl where
 i:Nat
 A:Option Ad
 c:Nat
def Yl.val(y:Yl):Va:=Z y.A 8 y.c
attribute [local go_sem] Oper.semAt_some
theorem FO(ps:List i2):(q5 ps.length).map (fun i=>ps.getD i j5)=ps:=by
 apply List.ext_getElem
 ·simp
 ·intro i b a
  simp only[List.getElem_map,List.getElem_range];rw[a8,e9 a];rfl
open Go.ChangeAt
section
variable {H:Type} {enc:Ti×Va→H} {W:Wd}
theorem yV{base a:Nat}{sp:Nat→Bool}{c:Bool}{v:Va}{x:DataW H×List MemPlace}(b:DataW.trod enc prog W base sp c a 26 [v]=So x):∃n,v=I V n∧B4 n:=by
 obtain⟨n,e,_,d⟩:=DataW.trod_int underlying26 b;simp only[List.cons.injEq,and_true]at e;exact⟨n,e,RS d⟩
theorem S0{base a:Nat}{sp:Nat→Bool}{c:Bool}{v:Va}{x:DataW H×List MemPlace}(b:DataW.trod enc prog W base sp c a 27 [v]=So x):∃n,v=I U6 n∧mT n:=by
 obtain⟨n,e,_,d⟩:=DataW.trod_int underlying27 b;simp only[List.cons.injEq,and_true]at e;exact⟨n,e,a2Z d⟩
theorem a2o{b:Type}{l:List b}{i:Nat}(a:i<l.length):∃x,l[i]? =So x:=⟨l[i],e9 a⟩
theorem NQ{base:Nat}{v:Va}{d:DataW H}{p:List MemPlace}(S:Value.okWide prog W .any base 30 v)(L:DataW.Trod enc prog W 0 (fun _=>Bt) Bt 30 v d p):
  ∃s:r9,v=s.val∧s.ok:=by
 have P:prog.cellsOf 30=9:=by kernel_rfl
 have Q:prog.cellsOf 27=1:=by kernel_rfl
 have N:prog.underlying 28=So (.array 6 27):=by kernel_rfl
 obtain⟨cs,rfl,u⟩:=okWide_struct underlying30 S;rw[P]at u;obtain⟨l⟩:=cs
 match l,u with
 |[v0,v1,v2,v3,v4,v5,v6,v7,v8],_=>
  obtain⟨ak,R⟩:=L;obtain⟨xs,n,_,_,_,t,b⟩:=DataW.trod_struct underlying30 R;have t:xs.length=4:=t;obtain⟨am,D⟩:=a2o (l:=xs) (i:=0) (by omega);obtain⟨an,E⟩:=a2o (l:=xs) (i:=1) (by omega);obtain⟨ao,F⟩:=a2o (l:=xs) (i:=2) (by omega);obtain⟨ap,G⟩:=a2o (l:=xs) (i:=3) (by omega);have c:=b 0 _ rfl;have e:=b 1 _ rfl;have f:=b 2 _ rfl;have g:=b 3 _ rfl;simp only[Value.cells]at c e f g;rw[D]at c;rw[E]at e;rw[F]at f;rw[G]at g;obtain⟨aa,rfl,ab⟩:=yV c;obtain⟨C,rfl,ac⟩:=yV e;obtain⟨T,rfl,ad⟩:=S0 f;obtain⟨zs,m,_,_,_,al,a⟩:=DataW.trod_array N g;obtain⟨aq,k0⟩:=a2o (l:=zs) (i:=0) (by omega);obtain⟨ar,k1⟩:=a2o (l:=zs) (i:=1) (by omega);obtain⟨au,k2⟩:=a2o (l:=zs) (i:=2) (by omega);obtain⟨av,k3⟩:=a2o (l:=zs) (i:=3) (by omega);obtain⟨aw,k4⟩:=a2o (l:=zs) (i:=4) (by omega);obtain⟨ax,k5⟩:=a2o (l:=zs) (i:=5) (by omega);have h:=a 0 (by omega);have j:=a 1 (by omega);have k:=a 2 (by omega);have o:=a 3 (by omega);have q:=a 4 (by omega);have r:=a 5 (by omega);simp only[Q,List.drop,Nat.mul_one]at h j k o q r;rw[k0]at h;rw[k1]at j;rw[k2]at k;rw[k3]at o;rw[k4]at q;rw[k5]at r;obtain⟨w,rfl,ae⟩:=S0 h;obtain⟨x,rfl,af⟩:=S0 j;obtain⟨y,rfl,ag⟩:=S0 k;obtain⟨z,rfl,ah⟩:=S0 o;obtain⟨A,rfl,ai⟩:=S0 q;obtain⟨B,rfl,aj⟩:=S0 r;exact⟨⟨aa,C,T,w,x,y,z,A,B⟩,rfl,⟨ab,ac,ad,ae,af,ag,ah,ai,aj⟩⟩
end
open Go.ChangeAt Go.Deep
section
variable {H:Type} {enc:Ti×Va→H} {W:Wd}
end
end
end Go.Proofs.YtiomenjfmagknaaGreat
