/- A part of the proof of TopFront: lemmas on the walks of its calls. -/
import Derived.Great.BuildSlice
import Derived.Maps.OwnIn
import Derived.Shelf.SlSortCmp.NoneTotal
import Derived.Test.YtcljlejgllkcjaaGreatM06
set_option maxHeartbeats 12000000
set_option linter.all false
set_option maxRecDepth 100000
namespace Go.Proofs.YtcljlejgllkcjaaGreat
open Go.RowKit Go.ChangeShapes Go.WideShapes Tryz
open Bool renaming and_eq_true→j3,true→Bt,false→Bf
open Decidable renaming decide→Dc
open Ending renaming returned→X
open Go renaming World→Wd,Value→Va,Calls→Ca,undef→Un,TypeId→Ti,Addr→Ad,Program→Pg,callsIn_of_wp_marks→Cm,callsIn_of_wp→Co,CallsIn→Ci,wpList→Wp
open Go.Proofs renaming enters_of→Eo
open IntKind renaming i64→M,u32→V,u8→U8
open List renaming getD_eq_getElem?_getD→b9,getElem?_eq_getElem→e9,length_append→g1,getElem_mem→g3,length_map→i1,length_cons→i4,range→m9,length_take→m4,append_assoc→p6,length→D
open Nat renaming le_refl→a7,le_trans→b6,zero_le→c6
open Obj renaming cells→U
open Operand renaming tmp→Tm
open Option renaming none→J,some→So
open Value renaming int→I,slice→Z,string→Y,pointer→K,bool→O,func→Fc,tuple→Tp,agg→Ag
section
open Go.MapKept
abbrev SV:=g4×Va
def cG(s:g4):List SV->Nat->Option (Nat×Va)
 |[],_=>J
 |p::r,i=>if s==p.1 then So (i,p.2)else cG s r (i+1)
def J4(L:List SV)(s:g4):Option Va:=(cG s L 0).map (·.2)
def zR(L:List SV)(s:g4)(v:Va):List SV:=match cG s L 0 with
 |none=>L++[(s,v)]
 |some (j,_)=>L.set j (s,v)
def H5(w:Wd)(g:Nat)(L:List SV):Prop:=∃b c,w.heap[g]? =So (.map b c)/\Stamped b c/\b.toList.map (λe=>(e.key,e.val))=L.map λp=>(Y p.1,p.2)
section
variable {P:Pg} {w w':Wd} {g:Nat} {L:List SV} {t k e:Ti}
theorem H5.lt(h:H5 w g L):g<w.heap.size:=let⟨_,_,h,_⟩:=h;(Array.getElem?_eq_some_iff.1 h).1
theorem H5.h(h:H5 w g L)(x:a9 w w'):H5 w' g L:=let⟨es,c,k,z,m⟩:=h;⟨es,c,(x.block h.lt).trans k,z,m⟩
theorem H5.grown{row:Option Nat}(b:H5 w g L)(x:w.grownBy w' row)(d:So g≠row):H5 w' g L:=let⟨es,c,k,z,m⟩:=b;⟨es,c,(x.block g b.lt d).trans k,z,m⟩
theorem H5.new(b:g=w):H5 (w.alloc (.map #[] 0)) g []:=by subst b;exact⟨#[],0,(heap_alloc w _).1,stamped_empty 0,rfl⟩
theorem kL(s:g4):∀(b:List MapEntry)(L:List SV)(i:Nat),b.map (λe=>(e.key,e.val))=L.map (λp=>(Y p.1,p.2))->Instr.findNow .string (.string s) b i=So (cG s L i)
 |[],[],i,_=>rfl
 |[],_::_,i,h=>by cases h
 |_::_,[],i,h=>by cases h
 |e::b,p::L,i,h=>by simp only[List.map_cons,List.cons.injEq,Prod.mk.injEq]at h;obtain⟨⟨c,d⟩,f⟩:=h;have ih:=kL s b L (i+1) f;unfold Instr.findNow cG;rw[c];cases j:s==p.1<;>simp[Instr.sameNow,j,ih,d]
theorem wX(s:g4):∀(L:List SV)(i j:Nat)(v:Va),cG s L i=So (j,v)->i<=j/\L[j-i]? =So (s,v)
 |[],i,j,v,h=>by cases h
 |p::L,i,j,v,h=>by
  unfold cG at h;cases c:s==p.1;rw[c]at h;obtain⟨d,b⟩:=wX s L (i+1) j v h;refine⟨a8,?_⟩;rw[(a8:j-i=(j-(i+1))+1)];exact b;rw[c]at h;have e:=(bytes_beq s p.1).1 c;injection h with h
  injection h with d b
  subst d b;refine⟨a7 _,?_⟩;rw[Nat.sub_self,e];rfl
theorem tZ(s:g4):∀(L:List SV)(i:Nat),cG s L i=J->∀p∈L,p.1≠s
 |[],_,_,p,b=>by cases b
 |q::L,i,h,p,b=>by
  unfold cG at h;cases c:s==q.1;rw[c]at h;rcases List.mem_cons.1 b with rfl|b
  exact λe=>by rw[e,(bytes_beq s s).2 rfl]at c;cases c
  exact tZ s L (i+1) h p b;rw[c]at h;cases h
theorem H5.look(m:H5 w g L)(i:P.underlying t=So (.map k e))(d:P.underlying k=So .string)(s:g4){z:Va}(q:(zeroValue e).run P w= .ok z w):
 (Instr.lookup t (.map (So g)) (.string s) Bt).run P w= .ok (.tuple #[(J4 L s).getD z,.bool (J4 L s).isSome]) w:=by
 obtain⟨l,c,f,r,n⟩:=m;have b:=kL s l.toList L 0 n;have h:IsKey .string (.string s):=trivial;unfold J4;cases hi:cG s L 0 with
 |none=>
  rw[hi]at b
  simp[Instr.lookup,run_underlying i,Go.MapKept.run_getObj_map f,Go.MapKept.run_checkKey d h,Go.MapKept.run_findKey d b,q,Result.andThen]
 |some p=>
  obtain⟨j,v⟩:=p
  rw[hi]at b
  simp[Instr.lookup,run_underlying i,Go.MapKept.run_getObj_map f,Go.MapKept.run_checkKey d h,Go.MapKept.run_findKey d b,Result.andThen]
theorem H5.put(R:H5 w g L)(H:P.underlying t=So (.map k e))(z:P.underlying k=So .string)(s:g4)(v:Va):
 ∃w',(Instr.mapUpdate t (.map (So g)) (.string s) v).run P w= .ok () w'/\H5 w' g (zR L s v)/\w.grownBy w' (So g):=by
 obtain⟨b,c,d,N,n⟩:=R;have y:=kL s b.toList L 0 n;have C:IsKey .string (.string s):=trivial;have G:∀o,w.grownBy {w with heap:=w.heap.setIfInBounds g o} (So g):=λo=>⟨rfl,rfl,rfl,i3,λi _ hi=>(heap_set d).2 i λe=>hi (by rw[e])⟩
 unfold zR;cases hi:cG s L 0 with
 |none=>
  rw[hi]at y
  exact⟨{w with heap:=w.heap.setIfInBounds g (.map (b.push {key:= .string s,val:=v,born:=c}) (c+1))},by simp[Instr.mapUpdate,run_underlying H,Go.MapKept.run_getObj_map d,Go.MapKept.run_checkKey z C,Go.MapKept.run_findKey z y,Go.MapKept.run_setObj_map _ d,Result.andThen],⟨_,_,(heap_set d).1,stamped_push N (λx ab e=>by
   have:(x.key,x.val)∈L.map λp=>(Y p.1,p.2):=by rw[<-n];exact List.mem_map.2 ⟨x,ab,rfl⟩
   obtain⟨q,aa,r⟩:=List.mem_map.1 this
   injection r with r e3
   rw[e]at r
   exact tZ s L 0 hi q aa (by injection r)),by simp[n]⟩,G _⟩
 |some p=>
  obtain⟨j,u⟩:=p
  rw[hi]at y
  obtain⟨-,A⟩:=wX s L 0 j u hi
  rw[Nat.sub_zero]at A
  have T:∃f,b[j]? =So f/\f.key= .string s:=by
   have:=congrArg (λl=>l[j]?) n
   simp only[List.getElem?_map,A,Option.map_some]at this
   obtain⟨f,h,m⟩:=Option.map_eq_some_iff.1 this
   injection m with m E
   exact⟨f,by simpa using h,m⟩
  obtain⟨f,h,m⟩:=T
  refine⟨{w with heap:=w.heap.setIfInBounds g (.map (b.modify j λe=> {e with key:= .string s,val:=v}) c)},by simp[Instr.mapUpdate,run_underlying H,Go.MapKept.run_getObj_map d,Go.MapKept.run_checkKey z C,Go.MapKept.run_findKey z y,h,m,Go.MapKept.run_keyThatStays C,Go.MapKept.run_setObj_map _ d,Result.andThen],⟨_,_,(heap_set d).1,stamped_modify N _ _ (λ_ _=>rfl) (λac _ F=>by rw[h]at F;cases F;exact m.symm),?_⟩,G _⟩
  apply List.ext_getElem?
  intro i
  have B:=congrArg (λl=>l[i]?) n
  simp only[List.getElem?_map]at B
  by_cases e:j=i
  ·subst e
   have W:j<D L:=(List.getElem?_eq_some_iff.1 A).1
   have E:b.toList[j]? =So f:=by simpa using h
   simp[Array.getElem?_modify,List.getElem?_map,h,E,W]
  ·have S:b.toList[i]? =b[i]? :=i3
   rw[S]at B
   simp[List.getElem?_map,Array.getElem?_modify,e,B]
variable {ops:Array Oper} {rest:List Oper} {o:Oper} {a:Act} {Q:Exit->Act->Wd->Prop}
theorem V6(h:o.guard=J)(m x v:Operand)(t k e:Ti)(b:o.op=Op.mapUpdate t m x v\/o.op=Op.insert t m x v)(n:P.underlying t=So (.map k e))(i:P.underlying k=So .string)(g:Nat)(L:List SV)(j:a.eval m= .map (So g))(f:H5 w g L)(s:g4)(q:a.eval x= .string s)(u:Va)(p:a.eval v=u)
  (c:∀w',H5 w' g (zR L s u)->w.grownBy w' (So g)->Wp P ops Q rest (a.put o.dst Un) w'):Wp P ops Q (o::rest) a w:=by
 refine wpList_plain h λz d=> ?_
 obtain⟨w',l,r,y⟩:=f.put n i s u;unfold Oper.wp;rcases b with b|b<;>
 ·simp[execOp,b,j,q,p,l,Result.andThen]
  exact d _ _ (c w' r y)
theorem D8(f:o.guard=J)(m x:Operand)(t k e:Ti)(j:o.op=Op.lookup t m x Bt)(n:P.underlying t=So (.map k e))(h:P.underlying k=So .string)(z:Va)(q:∀w,(zeroValue e).run P w= .ok z w)(g:Nat)(L:List SV)(i:a.eval m= .map (So g))(d:H5 w g L)(s:g4)(p:a.eval x= .string s)
 (b:Wp P ops Q rest (a.put o.dst (.tuple #[(J4 L s).getD z,.bool (J4 L s).isSome])) w):Wp P ops Q (o::rest) a w:=by
 refine wpList_plain f λr c=> ?_
 have l:=d.look n h s (q w);unfold Oper.wp;simp[execOp,j,i,p,l,Result.andThen];exact c _ _ b
end
end
section
open Go.MapKept
open Go.ChangeMaps (setBlock heap_setBlock_same heap_setBlock_other)
attribute [local go_sem] Oper.semAt_some
def p7(f:s8):Va:=Ag #[Y f.name,I M f.dir,Z f.A f.n f.c]
def K0:Va->s8
 |Ag cs=>match cs.toList with
  |[Y n,I _ d,Z A m c]=>⟨n,d,A,m,c⟩
  |_=>⟨⟨#[]⟩,0,J,0,0⟩
 |_=>⟨⟨#[]⟩,0,J,0,0⟩
theorem a2A(f:s8):K0 (p7 f)=f:=rfl
theorem zY{d g:Type}[DecidableEq g](f:d->g):∀(l:List d)(e:d),(l.map f).Nodup->e∈l->l.Perm (e::l.filter λx=> !(f x==f e))
 |[],e,_,a=>by cases a
 |x::l,e,hn,a=>by
  rw[List.map_cons,List.nodup_cons]at hn;by_cases b:f x=f e;have j:x=e:=by
   rcases List.mem_cons.1 a with a|a
   exact a.symm;exact absurd (List.mem_map.2 ⟨e,a,b.symm⟩) hn.1
  subst j;have h:l.filter (λc=> !(f c==f x))=l:=List.filter_eq_self.2 λc k=>by
   have:f c≠f x:=λq=>hn.1 (List.mem_map.2 ⟨c,k,q⟩)
   simpa using this
  rw[List.filter_cons,h];simp;have i:e∈l:=by
   rcases List.mem_cons.1 a with a|a
   rw[a]at b;exact absurd rfl b;exact a
  have ih:=zY f l e hn.2 i;rw[List.filter_cons];have:(!(f x==f e))=Bt:=by simpa using b
  rw[if_pos this];exact(ih.cons x).trans (List.Perm.swap e x _)
theorem FN{a:Array MapEntry}{b:Array Nat}(h:(a.toList.map (·.born)).Nodup){e:MapEntry}(g:e∈(leftOf a b).toList):(leftOf a b).toList.Perm (e::(leftOf a (b.push e.born)).toList):=by
 have f:((leftOf a b).toList.map (·.born)).Nodup:=by unfold leftOf;rw[Array.toList_filter];exact(List.filter_sublist.map _).nodup h
 have d:(leftOf a (b.push e.born)).toList=(leftOf a b).toList.filter λx=> !(x.born==e.born):=by
  unfold leftOf;rw[Array.toList_filter,Array.toList_filter,List.filter_filter];congr 1;funext x;by_cases c:x.born=e.born;simp[c];have d:¬e.born=x.born:=λq=>c q.symm
  simp[c,d]
 rw[d];exact zY (·.born) _ e f g
theorem FM(a:Array MapEntry):(leftOf a #[]).toList=a.toList:=by unfold leftOf;simp
theorem oV{w:Wd}{r:Nat}{o:Obj}(a:Obj)(b:w.heap[r]? =So o):w.grownBy (setBlock w r a) (So r)/\(setBlock w r a).heap[r]? =So a:=
 ⟨⟨rfl,rfl,rfl,by simp[setBlock],λi _ hi=>(heap_set b).2 i (λe=>hi (by rw[e]))⟩,(heap_set b).1⟩
theorem DL(l gb b B:Nat)(c:Array MapEntry)(a:Nat)(g:List s8)(F:Stamped c a)(E:c.toList.map (·.val)=g.map p7)(Jq:List s8->Wd->Prop)(p:AbidesFrom B Jq)
 (R:∀pre x W,Jq pre W->D pre<D g->YieldAt .wide 1 prog l #[p7 x] W λe W'=>e=X (O Bt)/\Jq (pre++[x]) W'/\KeepsWalks W W')
 (W:Wd) (bg:B<=W) (z:W.cell? ⟨gb,0,J⟩=So (.map (So b))) (s:W.heap[b]? =So (.map c a)) (o:Jq [] W):
 Ci .wide 2 prog 134 #[Fc (.yield l) #[] #[],K gb] W λe W'=>(∃v,e=X v)/\∃ys,ys.Perm g/\Jq ys W':=by
 have n:=run_range_map (P:=prog) W 146 9 24 b c a underlying146 s;have ar:=(Array.getElem?_eq_some_iff.1 s).1;refine Co func134 rfl trivial ?_ rfl;simp only[ntmps134,uE,Nat.reduceAdd,Nat.reduceSub];gi_wp2;have al:(W.alloc (.mapIter (So b) a #[] a)).heap[W.heap.size]? =So (.mapIter (So b) a #[] a):=(heap_alloc W _).1;have ak:(W.alloc (.mapIter (So b) a #[] a)).heap[b]? =So (.map c a):=((heap_alloc W _).2 b ar).trans s;have ai:Jq [] (W.alloc (.mapIter (So b) a #[] a)):=p _ _ _ J o (World.grownBy_alloc _ _ J) aL;clear n z s o;have af:((leftOf c #[]).toList.map λe=>K0 e.val)=g:=by have:=congrArg (List.map K0) E;rw[List.map_map,List.map_map]at this;rw[FM];exact this.trans ((List.map_congr_left λf _=>a2A f).trans (List.map_id g))
 have ag:∀e∈c.toList,e.val=p7 (K0 e.val):=λe h=>by
  have:e.val∈g.map p7:=by rw[<-E];exact List.mem_map.2 ⟨e,h,rfl⟩
  obtain⟨f,_,q⟩:=List.mem_map.1 this;rw[<-q,a2A]
 generalize az:W.heap.size=r at*;clear E az;gi_loopw [8] (λbh wr=>∃(pre:List s8)(d:Array Nat)(j:Nat),a<=j/\wr.heap[r]? =So (.mapIter (So b) a d j)/\wr.heap[b]? =So (.map c a)/\(pre++(leftOf c d).toList.map λe=>K0 e.val).Perm g/\Jq pre wr) (λ_ wr=>match wr.heap[r]? with|some (.mapIter _ _ d _)=>(leftOf c d).size|_=>0);exact⟨[],#[],a,a7 _,al,ak,by rw[af];exact List.Perm.refl _,ai⟩;clear al ak ai af;obtain⟨pre,d,j,aq,t,C,m,A⟩:=hrel;rcases run_next_at (P:=prog) wr 0 r b a j d c a t C F.1 aq with⟨o,n⟩|⟨e,h,i,w,n⟩
 ·have ax:(leftOf c d).toList=[]:=List.eq_nil_of_length_eq_zero (by simpa using o);rw[ax,List.map_nil,List.append_nil]at m;gi_wp2;go_end0;exact⟨⟨_,rfl⟩,pre,m,A⟩
 have ac:=mem_left h;have ae:=FN F.2.1 h;have ad:=left_shrinks c d e h;have av:D pre<D g:=by have:=m.length_eq;have z:0<D (leftOf c d).toList:=List.length_pos_of_mem h;simp at this z⊢;omega
 have Q:wr.grownBy i J:=by
  rcases w with rfl|rfl
  exact World.grownBy.refl _ _;exact E4 _
 have u:i.heap[r]? =So (.mapIter (So b) a d j):=by rcases w with rfl|rfl<;>exact t
 have k:i.heap[b]? =So (.map c a):=by rcases w with rfl|rfl<;>exact C
 obtain⟨y,H⟩:=oV (.mapIter (So b) a (d.push e.born) a) u;have aw:b≠r:=λq=>by rw[q,u]at k;cases k
 have G:(setBlock i r (.mapIter (So b) a (d.push e.born) a)).heap[b]? =So (.map c a):=(y.block b (Array.getElem?_eq_some_iff.1 k).1 (λq=>by injection q with q;exact aw q)).trans k;have S:=run_entry_at (P:=prog) _ r b a d c a e H G ac.1 F.2.1;have aj:Jq pre (setBlock i r (.mapIter (So b) a (d.push e.born) a)):=p _ _ _ (So r) (p _ _ _ J A Q aL) y (λq ay=>by cases ay;exact⟨a8,_,u,rfl⟩);have ah:=ag e ac.1;generalize setBlock i r (.mapIter (So b) a (d.push e.born) a)=L at*;obtain⟨ab,ba,N,am,an⟩:=Y2 (((ae.map (λe=>K0 e.val)).append_left pre).symm.trans m) ad H G t;clear m ae ad h H G t C A Q y u k w;generalize T:K0 e.val=f at*;rw[ah]at n S;have au:w6 (((pre++[f])++((leftOf c (d.push e.born)).toList.map λe=>K0 e.val)).Perm g):=a6 (by rw[<-T,p6];exact ab.O);obtain⟨bf,tmps,bc,bd,bb,ap⟩:=R pre f (L.alloc (U #[Y f.name,I M f.dir,Z f.A f.n f.c] 24)) (p _ _ _ J aj (World.grownBy_alloc _ _ J) aL) av;unfold p7 at n S bb;clear ab aj ah T R ag;gi_wp2;apply ap.mono;rintro be W3⟨rfl,ao,aa⟩;gi_wp2;go_roundw;have k3:=(KeepsWalks.alloc L (U #[Y f.name,I M f.dir,Z f.A f.n f.c] 24)).trans aa;exact⟨pre++[f],d.push e.born,a,a7 _,k3.same _ _ N rfl,k3.same _ _ am rfl,au.O,ao⟩;have k3:=(KeepsWalks.alloc L (U #[Y f.name,I M f.dir,Z f.A f.n f.c] 24)).trans aa;rw[k3.same _ _ N rfl,an.O];exact ba.O
end
theorem cA{P:Pg}{h:Array Oper}{rest:List Oper}{o:Oper}{a:Act}{w:Wd}{Q:Exit->Act->Wd->Prop}(l:o.guard=J)(t e:Ti)(b:Nat)(f:Array (Nat×Operand))(n:o.op= .buildSlice t b f)
 (d:Array Va) (z:Va) (c:Nat)
 (s:P.underlying t=So (.slice e)) (m:(P.info? e).map (λi=>(i.zero,i.size))=So (So z,c)) (r:¬b*c>2^24) (p:¬b*c=0)
 (k:Instr.fill (λi=>So (i*c,c)) ((Array.range (b*c)).map (z.cells[· % z.cells.size]!)) (f.map λ(i,x)=>(i,a.eval x)).toList=So d)
 (j:Wp P h Q rest (a.put o.dst (Z w b b)) (w.alloc (U d e))):Wp P h Q (o::rest) a w:=by
 obtain⟨i,hi,g⟩:=Option.map_eq_some_iff.1 m;simp only[Prod.mk.injEq]at g;obtain⟨u,q⟩:=g;subst q;exact wpList_buildSlice l t e b f n d i z s hi u r p k j
def DH(i:B7):Bool:=i.code==32&&((i.k % 4 !=0)||decide (64<=i.k))
def fn0(f:Nat):Va:=Fc (.func f) #[] #[]
section
theorem fJ(a:p1)(n c:Nat)(d:n<2)(w:Wd):Ca prog 415 #[Z a n c] w λe b=>e=X (Z a n c)/\w=b:=by have f:(n:Int)<2:=a8;go_in;go_wp2;go_ret;exact⟨rfl,rfl⟩
theorem sI(g c:Nat)(x j:Int)(t:2<=c/\c<=1000000)(m:x≠j)(w:Wd)(k:w.cell? ⟨g,0,J⟩=So (I M x))(l:w.cell? ⟨g,1,J⟩=So (I M j)):
 Ca prog 415 #[Z g 2 c] w λe f=>e=X (Z g 2 c)/\a9 w f:=by
 have s:(j==x)=Bf:=by simpa using Ne.symm m
 have r:∀{w f:Wd}{p:Ad}{u:Va},a9 w f->w.cell? p=So u->f.cell? p=So u:=λe q=>e.cell q
 obtain⟨n,o⟩:=j0 (λ(W:Wd)(e:a9 w W)=>e.cell k) (λ(W:Wd)(e:a9 w W)=>e.cell l);clear m r k l;go_in;go_wp2;go_loopw [3] (λi wr=>a9 w wr/\(i=I M 1\/i=I M 2)) (λi _=>2-(intOf i).toNat);exact⟨a9.refl _,.inl rfl⟩;obtain⟨d,rfl|rfl⟩:=hrel
 ·go_wp2_with fail;refine gP ?_;repeat(apply D7;focus (intro x h b;simp only[g0,o7,uV];(repeat intro a;try simp only[a]);have y:=o h (d.trans b);have v:=n h (d.trans b);go_wp2_with fail;exact dn rfl rfl (a9.refl _)))
  intro x h b;simp only[n9,g0,o7,uV];repeat(intro a;try simp only[a];clear a)
  go_wp2;go_roundw;exact⟨d.trans b,.inr rfl⟩;simp[intOf]
 go_wp2;go_ret;exact⟨rfl,d⟩
attribute [local go_sem] Oper.semAt_some
attribute [local go_sem] Oper.semAt_some
def CI(w:Wd)(z g:Nat)(pre:o5)(W:Wd):Prop:=
 (∃v,e7 W g 28 #[v]/\W.ownsRow (g+1) 3 1 v (D pre) (l8 M pre))/\Below w w W/\z<=W
end
section
attribute [local go_sem] Oper.semAt_some
theorem OH:(prog.info? 24).map (λi=>(i.zero,i.size,i.bytes))=So (So (Ag #[Y ⟨#[]⟩,I M 0,Z J 0 0]),3,48):=g6
theorem vF(gb b:Nat)(L:List SV)(a:List s8)(k:L.map (·.2)=a.map p7)(w:Wd)(s:gb<w)(i:w.cell? ⟨gb,0,J⟩=So (.map (So b)))(m:H5 w b L):
 aH .wide 2 prog 134 #[K gb] (λf:s8=> #[p7 f]) (λ_ _=>True) KeepsWalks (λys=>ys.Perm a) (D a) w:=λl Jq W c j n h=>by
 obtain⟨g,e,r,u,t⟩:=m.h (show a9 w W from c);refine DL l gb b W g e a u ?_ Jq j (λpre x d o q=>n pre x d o trivial q) W (a7 _) ((c.cell (p:=⟨gb,0,J⟩) s).trans i) r h;have:=congrArg (List.map Prod.snd) t;rw[List.map_map,List.map_map]at this;exact this.trans k
theorem KO(a:Nat)(w:Wd):
 Ci .wide 3 prog 76 #[.map (So a)] w λe b=>e=X (Fc (.func 134) #[] #[K w])/\b=w.alloc (U #[.map (So a)] 146):=by
 refine Co func76 rfl trivial ?_ rfl;simp only[ntmps76,uE,Nat.reduceAdd,Nat.reduceSub];gi_wp2;go_ret;exact⟨rfl,rfl⟩
def FI(w:Wd)(z g:Nat)(pre:List s8)(W:Wd):Prop:=
 (∃v,e7 W g 25 #[v]/\W.ownsRow (g+1) 24 3 v (D pre) (q9.row pre))/\Below w w W/\z<=W
theorem a4F(w:Wd)(z g:Nat)(i:w<=z):OwnFrom z (FI w z g):=λpre W W' row⟨⟨v,d,f⟩,c,h⟩ a b=>
 ⟨⟨v,i2 d a λr e=>(b r e).2,Q8 f a λr e=>(b r e).2⟩,c.grown a c.size (λr e=>b6 i (b r e).1),b6 h a.size⟩
def a2C(z gb:Nat)(g:Nat)(f:s8):Act:=
 {tmps:= #[Z J 0 0,Fc (.func 134) #[] #[K gb],K z,Un,Z J 0 0,K g,Fc (.func 134) #[] #[K gb],Ag #[Y f.name,I M f.dir,Z f.A f.n f.c],Un,Un,Un,Un,Un],defers:=[]}
def a50(z gb:Nat)(x:s8)(b:Nat)(a:Act)(W:Wd):Prop:=∃g,b<=g/\a=a2C z gb g x/\e7 W g 24 #[Y x.name,I M x.dir,Z x.A x.n x.c]
theorem OT(l:List s8)(f:s8):q9.row (l++[f])=q9.row l++[Y f.name,I M f.dir,Z f.A f.n f.c]:=by simp[s7.row,q9]
theorem rJ(gb p:Nat)(L:List SV)(n:List s8)(br:D n<=1000)(aw:L.map (·.2)=n.map p7)(w:Wd)(q:e7 w gb 146 #[.map (So p)])(T:H5 w p L):
 Ci .wide 3 prog 133 #[Z J 0 0,Fc (.func 134) #[] #[K gb]] w λe ai=>
 ∃v ys,e=X v/\ys.Perm n/\c7 ai w 24 q9 v ys/\a9 w ai:=by
 refine Cm func133 rfl trivial ?_ rfl;simp only[ntmps133,uE,Nat.reduceAdd,Nat.reduceSub];have ax:Below w w (w.alloc (U #[Z J 0 0] 25)):=(a9.refl w).alloc _;have S:e7 (w.alloc (U #[Z J 0 0] 25)) w 25 #[Z J 0 0]:=e7.new _ _ _;have bt:(w.alloc (U #[Z J 0 0] 25)).heap.size=w.heap.size+1:=i3;have k1:=q.alloc (U #[Z J 0 0] 25);have aa:H5 (w.alloc (U #[Z J 0 0] 25)) p L:=T.h ((a9.refl w).alloc _);clear q T;gi_wp2_with fail;generalize w.alloc (U #[Z J 0 0] 25)=w0 at*;refine A4 rfl e6 (gf:=134) (lb:= #[K gb]) rfl trivial (Eo func134 g6 rfl)
  (vF gb p L n aw w0 k1.lt (by rw[k1.cell];rfl) aa)
  (λf k=>f.trans k)
  (λW l o R _ f _ bh=>KeepsWalks.putObj _ f bh) (Below.refl _ _) (λ_=>rfl)
  (λx W l o R H ad s=>H)
  (FI w w0 w) (a4F w w0 w a8)
  ⟨⟨_,S,World.ownsRow_nil _ _ _ _⟩,ax,a7 _⟩
  (a50 w gb)
  (λx ca ao W l o R⟨g,q,aq,ar⟩ ad s=>⟨g,q,aq,i2 ar (grownBy_putObj' W l R) (λr e=>by cases e;exact⟨o,ad,s⟩)⟩)
  (λ_ _ _ f _=>f) (λW W' e=>⟨e.size,λk o i _=>(e.block (Array.getElem?_eq_some_iff.1 i).1).trans i⟩) ?Aa ?Ab ?Ac
 case Aa=>rintro l⟨nm,d,b,m,c⟩ W bl H h;unfold p7;gi_wp2;exact h _ _ ((a9.refl W).alloc _) ⟨W,a7 _,rfl,e7.new _ _ _⟩
 case Ab=>
  rintro l pre⟨nm,d,b,m,c⟩ bm W ao⟨⟨bz,bg,bf⟩,_,_⟩⟨⟨v,a,z⟩,G,ay⟩ H⟨g,bu,rfl,bb⟩ au bq;have s:=a.cell 0;obtain⟨bv,bw,bx⟩:=bb.c3;have az:D pre+1<=maxLen:=by unfold maxLen;omega
  have ba:(D pre+1)*48<=140737488355328:=a8;obtain⟨bk,hi,af,ag,ah⟩:=info_parts OH;have ak:=a6 hi;have al:=a6 af;have am:=a6 ag;have an:=a6 ah;clear hi af ag ah S k1 aa bg bf au;have bj:w+1<=(W.alloc (U #[Y nm,I M d,Z b m c] 24)).heap.size:=by simp;omega
  have y:=z.alloc (U #[Y nm,I M d,Z b m c] 24);unfold a2C;dsimp only at*;gi_wp2_with(gi_at_builtin;(refine wpListIn_append_own_at _ rfl (Tm 8) (Tm 10) 25 rfl (w+1) 24 bk _ 3 48 underlying25 ak al am an rfl e6 _ _ _ rfl y ⟨W,0,J⟩ 1 1 [Y nm,I M d,Z b m c] rfl rfl (λj u be=>(i5.f (e7.b rfl) rfl:i5 _ W [Y nm,I M d,Z b m c]).add be) nA az ba bj ?_);intro v' B N t _ bs;obtain⟨F,E,rfl⟩:=ownsRow_succ N;have Q:e7 B w 25 #[v]:=(a.alloc _).grown t (λe=>by have:=(y.lt _ e.symm).1;omega);have bo:=Q.cell 0;have bp:=Q.frozen 0);have bc:∀k,v.ownBlock=So k->w.heap.size+1<=k:=λk e=>(y.lt k e).1
  have ab:=grownBy_setCell' B w (Z F (D pre+1) E);have A:=(a9.refl W).alloc (U #[Y nm,I M d,Z b m c] 24);have av:Below w w (B.setCell ⟨w,0,J⟩ (Z F (D pre+1) E)):=(a9.set (((show a9 w W from G).trans A).grown t (λk e=>by have:=bc k e;omega)) (a7 _) _);have ac:KeepsOthers W (B.setCell ⟨w,0,J⟩ (Z F (D pre+1) E)):=by
   refine KeepsOthers.trans ⟨A.size,λk o i _=>(A.block (Array.getElem?_eq_some_iff.1 i).1).trans i⟩ (KeepsOthers.trans (KeepsOthers.of_grownBy t ?_) (KeepsOthers.setCell _ _ _));intro j o e ae;rcases y.2 with⟨rfl,_⟩|⟨g,cap,cur,rfl,_,bd,_⟩
   cases e;cases e;rw[bd]at ae;cases ae;rfl
  refine⟨ac.from _,ac.walks,⟨⟨_,Q.f 0 _,?_⟩,av,?_⟩⟩;have:=N.kept ab (.inr (λe=>by have:=(N.lt _ e).1;omega));simp only[g1,i4,List.length_nil,Nat.zero_add];rw[OT];exact this;exact b6 ay (b6 A.size (b6 t.size ab.size))
 rintro aj xs W bn bi⟨⟨v,a,z⟩,G,_⟩ h;have s:=a.cell 0;obtain⟨P,C,rfl⟩:∃P C,v=Z P (D xs) C:=by
  rcases z.2 with⟨a,ap⟩|⟨g,cap,cur,a,_⟩
  exact⟨J,0,by rw[a,ap]⟩;exact⟨_,_,a⟩
 gi_wp2;refine⟨i3,.inl ⟨_,_,rfl,run_takeDeferred h,?_⟩⟩;exact⟨_,results_tmp rfl _ _ _,_,xs,rfl,bi,⟨P,C,rfl,MN (ownsRow_putObj z _ h rfl) (Nat.le_succ _)⟩,Below.trans G (belowK_b (w:=w) (a7 _) W aj _ _ a8 h rfl rfl)⟩
theorem mW(gb b:Nat)(L:List SV)(a:List s8)(j:D a<=1000)(f:L.map (·.2)=a.map p7)(w:Wd)(d:e7 w gb 146 #[.map (So b)])(g:H5 w b L):
 Ci .wide 4 prog 75 #[Fc (.func 134) #[] #[K gb]] w λe i=>
 ∃v ys,e=X v/\ys.Perm a/\c7 i w 24 q9 v ys/\a9 w i:=by
 have H:=a6 (rJ gb b L a j f w d g);clear d g f;refine Co func75 rfl trivial ?_ rfl;simp only[ntmps75,uE,Nat.reduceAdd,Nat.reduceSub];gi_wp2_with(refine⟨trivial,?_⟩;gi_at_call 133;apply(H.O).mono;rintro e o⟨v,ys,rfl,k,h,l⟩;obtain⟨m,n,c,rfl⟩:=h.f);go_ret;exact⟨_,ys,rfl,k,h,l⟩
end
section
open Go.Shelf Go.Sort
variable {α:Type} [Inhabited α]
def cD(a:α->α->Int)(xs:List α):List α:=(pdq (ltOf a) xs.toArray 0 (D xs) (Lib.bitLen (D xs)) Bt Bt).toList
theorem D3(a:α->α->Int)(g:SWO (ltOf a))(xs:List α):(cD a xs).Perm xs:=by
 have e:=(pdq_sorts (ltOf a) g xs.toArray 0 (D xs) (Lib.bitLen (D xs)) Bt Bt (c6 _) i3 (Or.inl rfl)).1;obtain⟨f,_,b⟩:=e;have c:(pdq (ltOf a) xs.toArray 0 (D xs) (Lib.bitLen (D xs)) Bt Bt).size=D xs:=by rw[f];simp
 rw[<-c]at b;unfold cD;rw[c]at b;have d:(pdq (ltOf a) xs.toArray 0 (D xs) (Lib.bitLen (D xs)) Bt Bt).extract 0 (D xs)=pdq (ltOf a) xs.toArray 0 (D xs) (Lib.bitLen (D xs)) Bt Bt:=by apply Array.ext';simp[Array.toList_extract,List.take_of_length_le,c]
 rw[d]at b;simpa using b
theorem cW(a:α->α->Int)(b:SWO (ltOf a))(xs:List α):D (cD a xs)=D xs:=(D3 a b xs).length_eq
theorem W7(c:α->α->Int)(e:SWO (ltOf c))(xs:List α):(cD c xs).Pairwise λa b=>ltOf c b a=Bf:=by have f:=(pdq_sorts (ltOf c) e xs.toArray 0 (D xs) (Lib.bitLen (D xs)) Bt Bt (c6 _) i3 (Or.inl rfl)).2;have h:=cW c e xs;rw[List.pairwise_iff_getElem];intro i j hi d g;have:=f i j (c6 _) g a8;unfold cD at hi d⊢;simp only[Array.getElem_toList,Array.length_toList]at hi d⊢;rwa[getElem!_pos _ j d,getElem!_pos _ i hi]at this
theorem BO(E:s7 α)(xs:List α):flatK E.c E.k xs.toArray=(E.row xs).toArray:=by
 refine ext_get! (by simp[E.row_length]) λt i=> ?_
 have b:t<D xs*E.k:=by simpa using i
 have g:0<E.k:=Nat.pos_of_ne_zero λh=>by rw[h]at b;simp at b
 have c:t/E.k<D xs:=by rw[Nat.div_lt_iff_lt_mul g];exact b
 have d:t % E.k<E.k:=Nat.mod_lt _ g;rw[get_flatK _ _ _ _ (by simpa using b)];have a:=E.row_at xs (t/E.k) (t % E.k) c d;rw[Nat.mul_comm,Nat.div_add_mod]at a;have e:t % E.k<D (E.c xs[t/E.k]):=by rw[E.len];exact d
 have f:t<D (E.row xs):=by rw[E.row_length];exact b
 rw[e9 f,e9 e]at a;injection a with a
 rw[getElem!_pos xs.toArray _ (by simpa using c),getElem!_pos _ _ (by simpa using e),getElem!_pos _ _ (by simpa using f)];simpa using a.symm
theorem FY{w:Wd}{base g cap:Nat}{e:Ti}{E:s7 α}{xs:List α}(i:c7 w base e E (Z g (D xs) cap) xs):HoldsK E.c E.k w g 0 xs.toArray:=by
 obtain⟨n,c,a,m⟩:=i;cases a;rcases m.2 with⟨a,_⟩|⟨p,o,cur,a,t,d,q,r,s,k⟩
 cases a;cases a;unfold HoldsK;rw[BO];intro j l;have f:j<D xs*E.k:=by simpa[E.row_length]using l
 have h:j<D (E.row xs):=by rw[E.row_length];exact f
 refine⟨?_,by simp[World.frozen?,d]⟩;have b:(cur.toList.take (D xs*E.k))[j]? =(E.row xs)[j]? :=by rw[k]
 rw[List.getElem?_take,if_pos f,Array.getElem?_toList]at b;simp only[World.cell?,d,Nat.zero_add];simp only[Option.isSome_none,Bool.false_eq_true,if_false];rw[b,e9 h];simp[getElem!_pos,h]
theorem MM{w:Wd}{base g cap n:Nat}{e:Ti}{E:s7 α}{xs ys:List α}{os:Array Obj}(l:c7 w base e E (Z g (D xs) cap) xs)(b:D ys=D xs):
 c7 (sortWorldK E.c E.k w g 0 n ys.toArray os) base e E (Z g (D xs) cap) ys/\w.grownBy (sortWorldK E.c E.k w g 0 n ys.toArray os) (So g):=by
 obtain⟨v,c,a,u⟩:=l;cases a;unfold sortWorldK putRowK;rw[BO];rcases u.2 with⟨a,_⟩|⟨y,x,cur,a,p,h,m,o,f,z⟩
 cases a;cases a;have s:g<w.heap.size:=(Array.getElem?_eq_some_iff.1 h).1;refine⟨⟨_,cap,by rw[b],by rw[b,E.row_length,b],.inr ⟨g,cap,putCells id 0 (E.row ys).toArray cur,by rw[b],p,?_,by rw[b];exact m,o,by simpa[putCells]using f,?_⟩⟩,rfl,rfl,rfl,i3,λk r t=> ?_⟩;rw[heap_grow_old _ _ (by simpa using s)];simp[putRow,mapBlock,Sort.ahead,Array.getElem?_modify,h,onCells];apply List.ext_getElem?;intro j;rw[List.getElem?_take,Array.getElem?_toList];by_cases d:j<D ys*E.k;have q:j<cur.size:=by rw[f];exact Nat.lt_of_lt_of_le d (Nat.mul_le_mul_right _ a8)
 have i:j<D (E.row ys):=by rw[E.row_length];exact d
 simp only[if_pos d,putCells,Array.getElem?_mapIdx,Array.getElem?_eq_getElem q,Option.map_some];rw[if_pos G6,e9 i];simp[getElem!_pos,i];rw[if_neg d,List.getElem?_eq_none (by rw[E.row_length];omega)];rw[heap_grow_old _ _ (by simpa using r)];have:g≠k:=λe=>t (by rw[e])
 simp[putRow,mapBlock,Sort.ahead,Array.getElem?_modify,this]
theorem HT{P:Pg}{j:Ren}(L:SlLaysF0.n6 P j)(E:s7 α)(s:∀w,(isAgg (j.t 24)).run P w= .ok Bt w)(N:∀w,(Go.sizeOf (j.t 24)).run P w= .ok E.k w)(a:α->α->Int)(k:SWO (ltOf a))(g:Nat)
 (t:∀args w,(callFunc g args).run P w= .ok (.enter g args) w) (y:∀x i W,Ca P g #[Ag (E.c x).toArray,Ag (E.c i).toArray] W λe f=>e=X (I M (a x i))/\∃q os,f=grow (W.drewN q) os)
 (e:Ti) (v:Va) (xs:List α) (base:Nat) (w:Wd) (ac:D xs<=1000000) (h:c7 w base e E v xs):
 Ca P (j.f 6) #[v,Fc (.func g) #[] #[]] w λl f=>l=X (Tp #[])/\c7 f base e E v (cD a xs)/\w.grownBy f v.ownBlock:=by
 have C:=h;obtain⟨r,c,rfl,d⟩:=C;rcases d.2 with⟨o,u⟩|⟨b,cap,cur,o,ab,A,R,S,T,aa⟩
 have G:xs=[]:=List.eq_nil_of_length_eq_zero u;subst G;have H:cD a ([]:List α)=[]:=List.eq_nil_of_length_eq_zero (cW a k []);rw[H];exact(AnyF.slices_SortFunc_none L r c _ w).mono λe f d=>⟨d.1,by rw[d.2];exact h,by rw[d.2];exact World.grownBy.refl w _⟩
 cases o;have B:b<w.heap.size:=(Array.getElem?_eq_some_iff.1 A).1;have:=AnyQ.slices_SortFunc_eq L E.k s N E.c E.len E.one a k g #[] b 0 c xs.toArray w t (λm os Q _ x i=>(y x i _).mono λ_ _ d=>d) (FY h) B G6;refine this.mono λl f⟨z,n,os,p⟩=> ?_
 have F:pdq (ltOf a) xs.toArray 0 xs.toArray.size (Lib.bitLen xs.toArray.size) Bt Bt=(cD a xs).toArray:=by simp[cD]
 rw[F]at p;have:=MM (n:=n) (os:=os) h (cW a k xs);rw[p];exact⟨z,this.1,this.2⟩
end
section
open Go.Shelf Go.Sort
attribute [local go_sem] Oper.semAt_some
theorem BB(x:g4)(W:Wd):Ca prog 137 #[Y x] W λe a=>e=X (O Bf)/\W=a:=by go_in;go_wp2;go_ret;exact⟨rfl,rfl⟩
def GW(x y:g4):Int:=if Op.bytesLess x.toList y.toList then-1 else if !(Op.bytesLess x.toList y.toList||x.toList==y.toList)then 1 else 0
theorem a4p(x a:g4)(W:Wd):Ca prog 79 #[Y x,Y a] W λe i=>e=X (I M (GW x a))/\W=i:=by
 obtain⟨d,f⟩:=j0 (BB x) (BB a);have b:GW x a=if Op.bytesLess x.toList a.toList then-1 else if !(Op.bytesLess x.toList a.toList||x.toList==a.toList)then 1 else 0:=rfl
 generalize GW x a=R at*;go_in;rcases g:Op.bytesLess x.toList a.toList with _|_
 ·rw[g]at b;rcases h:(x.toList==a.toList)with _|_
  all_goals rw[h]at b;simp at b;subst b
  all_goals go_wp2_with(first|(apply(d _).mono;rintro e c⟨rfl,rfl⟩)|(apply(f _).mono;rintro e c⟨rfl,rfl⟩))
  all_goals go_ret
  all_goals exact⟨rfl,rfl⟩
 rw[g]at b;simp at b;subst b;go_wp2_with(first|(apply(d _).mono;rintro e c⟨rfl,rfl⟩)|(apply(f _).mono;rintro e c⟨rfl,rfl⟩));go_ret;exact⟨rfl,rfl⟩
theorem a3F(f b:s8)(W:Wd):Ca prog 78 #[Ag (q9.c f).toArray,Ag (q9.c b).toArray] W λe o=>e=X (I M (GW f.name b.name))/\∃q os,o=grow (W.drewN q) os:=by obtain⟨a,h,d,i,g⟩:=f;obtain⟨c,m,j,n,l⟩:=b;have k:=a6 (a4p a c);dsimp only[q9];generalize GW a c=R at*;go_in;have k1:e7 ((W.alloc (U #[Y a,I M h,Z d i g] 24)).alloc (U #[Y c,I M m,Z j n l] 24)) W 24 #[Y a,I M h,Z d i g]:=(e7.new W _ _).alloc _;have p:=k1.cell 0;go_wp2_with(apply(k _).mono;rintro e r⟨rfl,rfl⟩);go_ret;exact⟨rfl,0,_,by rw[alloc_eq_grow,alloc_eq_grow,grow_grow];rfl⟩
theorem NV:SlLaysF0.n6 prog ⟨λ|6=>77|14=>135|15=>136|20=>195|21=>196|22=>197|23=>198|24=>199|25=>200|26=>201|27=>202|28=>203|29=>204|46=>274|47=>275|48=>276|49=>277|50=>278|57=>359|n=>n,
 λ|0=>0|3=>3|4=>4|5=>5|9=>9|22=>25|24=>24|25=>155|39=>211|45=>296|46=>297|50=>301|53=>32|55=>34|66=>382|70=>385|76=>450|77=>275|n=>n,λn=>n⟩:=by
 constructor
 case f6=>exact⟨f77.name,e6,func77.trans (congrArg So g6)⟩
 case f14=>exact⟨f135.name,e6,func135.trans (congrArg So g6)⟩
 case f20=>exact⟨f195.name,e6,func195.trans (congrArg So g6)⟩
 case f21=>exact⟨f196.name,e6,func196.trans (congrArg So g6)⟩
 case f22=>exact⟨f197.name,e6,func197.trans (congrArg So g6)⟩
 case f23=>exact⟨f198.name,e6,func198.trans (congrArg So g6)⟩
 case f24=>exact⟨f199.name,e6,func199.trans (congrArg So g6)⟩
 case f25=>exact⟨f200.name,e6,func200.trans (congrArg So g6)⟩
 case f26=>exact⟨f201.name,e6,func201.trans (congrArg So g6)⟩
 case f27=>exact⟨f202.name,e6,func202.trans (congrArg So g6)⟩
 case f46=>exact⟨f274.name,e6,func274.trans (congrArg So g6)⟩
 case f49=>exact⟨f277.name,e6,func277.trans (congrArg So g6)⟩
 case f50=>exact⟨f278.name,e6,func278.trans (congrArg So g6)⟩
 case f57=>exact⟨f359.name,e6,func359.trans (congrArg So g6)⟩
 all_goals first|(intro w;kernel_rfl)|kernel_rfl
end
section
open Go.Shelf Go.Sort Go.MapKept
structure g9 where
 name:g4
 dir:Int
 data:o5
instance :Inhabited g9:=⟨⟨⟨#[]⟩,0,[]⟩⟩
instance :Inhabited s8:=⟨⟨⟨#[]⟩,0,J,0,0⟩⟩
abbrev PF:=s8×o5
def j5(p:PF):g9:=⟨p.1.name,p.1.dir,p.2⟩
def L8(w:Wd)(p:PF):Prop:=D p.2=p.1.n/\i5 w p.1.A (l8 U8 p.2)
theorem L8.h{w b:Wd}{p:PF}(a:L8 w p)(x:a9 w b):L8 b p:=⟨a.1,a.2.h x⟩
theorem E7:∀(x c:List UInt8),Op.bytesLess x c=Dc (x<c)
 |[],[]=>by simp[Op.bytesLess]
 |_::_,[]=>by simp[Op.bytesLess]
 |[],_::_=>by simp[Op.bytesLess]
 |a::x,b::c=>by rw[Op.bytesLess,E7 x c];simp only[List.cons_lt_cons_iff];by_cases d:a<b<;>by_cases e:a=b<;>by_cases f:x<c<;>simp[d,e,f]
section
variable {α:Type} (nm:α->ByteArray)
abbrev qY(x y:α):Int:=GW (nm x) (nm y)
theorem XW(x y:α):ltOf (qY nm) x y=Dc ((nm x).toList<(nm y).toList):=by unfold ltOf qY GW;rw[E7];by_cases h:(nm x).toList<(nm y).toList;simp[h];simp only[h,decide_false,Bool.false_eq_true,if_false,Bool.false_or];split<;>simp
theorem jK:SWO (ltOf (qY nm)) where
 irrefl x:=by rw[XW];simp[List.lt_irrefl]
 trans x y z a b:=by
  rw[XW]at*;exact decide_eq_true (List.lt_trans (of_decide_eq_true a) (of_decide_eq_true b))
 ntrans x y z a b:=by
  rw[XW]at*;have a:=of_decide_eq_false a;have b:=of_decide_eq_false b;rw[List.not_lt]at a b;refine decide_eq_false ?_;rw[List.not_lt];exact List.le_trans b a
theorem eI{β:Type}(f:α->β):∀{l:List α},(l.map f).Nodup->∀{a b},a∈l->b∈l->f a=f b->a=b
 |x::l,h,a,b,ha,hb,e=>by
  rw[List.map_cons,List.nodup_cons]at h;rcases List.mem_cons.1 ha with d|d
  rcases List.mem_cons.1 hb with c|c
  rw[d,c];exact absurd (List.mem_map.2 ⟨b,c,by rw[<-e,d]⟩) h.1;rcases List.mem_cons.1 hb with c|c
  exact absurd (List.mem_map.2 ⟨a,d,by rw[e,c]⟩) h.1;exact eI f h.2 d c e
theorem hO{h f:List α}(i:h.Perm f)(l:(f.map nm).Nodup)(m:h.Pairwise λa b=>ltOf (qY nm) b a=Bf)(n:f.Pairwise λa b=>ltOf (qY nm) b a=Bf):h=f:=by refine List.Perm.eq_of_pairwise (le:=λa b=>ltOf (qY nm) b a=Bf) (λa b j k c d=> ?_) m n i;rw[XW]at c d;have c:=of_decide_eq_false c;have d:=of_decide_eq_false d;rw[List.not_lt]at c d;have e:(nm a).toList=(nm b).toList:=List.le_antisymm c d;exact eI nm l (i.subset j) k (by have:=congrArg List.toArray e;rw[Lib.toList_data,Lib.toList_data]at this;exact ByteArray.ext (by simpa using this))
def nT(s:g4):List α->Nat->Option Nat
 |[],_=>J
 |p::r,i=>if s==nm p then So i else nT s r (i+1)
def O8(l:List α)(x:α):List α:=match nT nm (nm x) l 0 with|none=>l++[x]|some i=>l.set i x
def V5(l:List α)(s:g4):Option α:=(nT nm s l 0).bind λi=>l[i]?
variable {nm}
theorem kH(s:g4):∀(l:List α)(i j:Nat),nT nm s l i=So j->i<=j/\∃x,l[j-i]? =So x/\nm x=s
 |p::r,i,j,h=>by unfold nT at h;cases a:s==nm p;rw[a]at h;obtain⟨d,x,b,c⟩:=kH s r (i+1) j h;refine⟨a8,x,?_,c⟩;rw[(a8:j-i=(j-(i+1))+1)];exact b;rw[a]at h;cases h;exact⟨a7 _,p,by rw[Nat.sub_self];rfl,((bytes_beq s (nm p)).1 a).symm⟩
theorem pZ(s:g4):∀(l:List α)(i:Nat),nT nm s l i=J->∀p∈l,nm p≠s
 |q::l,i,h,p,b=>by
  unfold nT at h;cases a:s==nm q;rw[a]at h;rcases List.mem_cons.1 b with rfl|b
  exact λe=>by rw[e,(bytes_beq s s).2 rfl]at a;cases a
  exact pZ s l (i+1) h p b;rw[a]at h;cases h
theorem pH(l:List α)(x:α)(d:(l.map nm).Nodup):((O8 nm l x).map nm).Nodup:=by
 unfold O8;cases hi:nT nm (nm x) l 0 with
 |none=>
  dsimp only
  rw[List.map_append,List.nodup_append]
  refine⟨d,i3,λa k b e=> ?_⟩
  obtain⟨p,m,rfl⟩:=List.mem_map.1 k
  simp at e
  subst e
  exact pZ _ l 0 hi p m
 |some i=>
  dsimp only
  obtain⟨_,n,c,h⟩:=kH _ l 0 i hi
  have:(l.set i x).map nm=l.map nm:=by
   rw[List.map_set]
   refine List.ext_getElem? λj=> ?_
   rw[List.getElem?_set]
   by_cases f:i=j
   ·subst f
    rw[Nat.sub_zero]at c
    rw[if_pos rfl,List.getElem?_map,c]
    have:=(List.getElem?_eq_some_iff.1 c).1
    simp[h,this]
   ·rw[if_neg f]
  rw[this]
  exact d
theorem zT(l:List α)(x:α):D (O8 nm l x)<=D l+1:=by unfold O8;split<;>simp
theorem pI(l:List α)(x:α):∀p∈O8 nm l x,p∈l\/p=x:=λp a=>by
 unfold O8 at a;split at a;rcases List.mem_append.1 a with b|b
 exact .inl b;exact .inr (by simpa using b);exact List.mem_or_eq_of_mem_set a
variable {β:Type} {nb:β->ByteArray} (g:α->β) (hg:∀x,nb (g x)=nm x)
include hg
theorem nS(s:g4):∀(l:List α)(i:Nat),nT nb s (l.map g) i=nT nm s l i
 |[],_=>rfl
 |p::l,i=>by simp only[List.map_cons,nT,hg];rw[nS s l (i+1)]
theorem zS(l:List α)(x:α):(O8 nm l x).map g=O8 nb (l.map g) (g x):=by unfold O8;rw[nS g hg,hg];split;simp;rw[List.map_set]
theorem BJ(l:List α)(s:g4):V5 nb (l.map g) s=(V5 nm l s).map g:=by
 unfold V5;rw[nS g hg];cases nT nm s l 0 with
 |none=>rfl
 |some i=>simp
end
theorem qB(s:g4):∀(L:List SV)(i:Nat),(cG s L i).map (·.1)=nT (·.1) s L i
 |[],_=>rfl
 |p::L,i=>by unfold cG nT;split;rfl;exact qB s L (i+1)
theorem a3y(L:List SV)(s:g4)(v:Va):zR L s v=O8 (λp:SV=>p.1) L (s,v):=by
 unfold zR O8;have:=qB s L 0;show(match cG s L 0 with|none=>L++[(s,v)]|some (j,_)=>L.set j (s,v))=match nT (λp:SV=>p.1) s L 0 with|none=>L++[(s,v)]|some i=>L.set i (s,v)
 rw[<-this];cases cG s L 0<;>rfl
theorem a04(L:List SV)(s:g4):J4 L s=(V5 (λp:SV=>p.1) L s).map (·.2):=by
 unfold J4 V5;have:=qB s L 0;rw[<-this];cases b:cG s L 0 with
 |none=>rfl
 |some p=>
  obtain⟨j,v⟩:=p
  obtain⟨_,a⟩:=wX s L 0 j v b
  rw[Nat.sub_zero]at a
  simp[a]
theorem MJ{α β:Type}(f:β->α){k m:List α}(i:k.Perm m):∀c:List β,c.map f=m->∃e:List β,e.Perm c/\e.map f=k:=by
 induction i with
 |nil=>exact λc i=>⟨c,.refl _,i⟩
 |cons x i ih=>
  intro c d
  cases c with
  |nil=>cases d
  |cons p c=>
   injection d with h1 h2
   obtain⟨e,h,j⟩:=ih c h2
   exact⟨p::e,h.cons p,by rw[List.map_cons,j,h1]⟩
 |swap x y l=>
  intro c d
  match c,d with
  |a::b::r,d=>
   injection d with h1 h2
   injection h2 with h2 h
   exact⟨b::a::r,.swap _ _ _,by simp[h1,h2,h]⟩
 |trans h1 h2 ih1 ih2=>
  intro c d
  obtain⟨e,h,j⟩:=ih2 c d
  obtain⟨rs,n,o⟩:=ih1 e j
  exact⟨rs,n.trans h,o⟩
def L9(l:List g9)(x:g9):List g9:=match V5 g9.name l x.name with
 |none=>O8 g9.name l x
 |some old=>if x.dir<old.dir then O8 g9.name l x else l
def z7(ds:List g9):List g9:=ds.foldl L9 []
def lE(l:List g9):List g9:=cD (qY g9.name) l
theorem lD(l:List g9)(x:g9)(h:(l.map g9.name).Nodup):((L9 l x).map g9.name).Nodup:=by unfold L9;split;exact pH l x h;split;exact pH l x h;exact h
theorem KZ(l:List g9)(x:g9):D (L9 l x)<=D l+1:=by unfold L9;split;exact zT _ _;split;exact zT _ _;omega
theorem dU(l:List g9)(x:g9):z7 (l++[x])=L9 (z7 l) x:=by simp[z7]
theorem oO:∀(ds l:List g9),D (ds.foldl L9 l)<=D l+D ds
 |[],l=>i3
 |x::ds,l=>by have a:=KZ l x;have b:=oO ds (L9 l x);simp only[List.foldl_cons,i4];omega
theorem qQ(ds:List g9):D (z7 ds)<=D ds:=by have:=oO ds [];simpa[z7]using this
theorem LO{c:List PF}{ys:List s8}(j:(c.map λp=>p.1.name).Nodup)(k:ys.Perm (c.map (·.1))):∃d:List PF,d.Perm c/\d.map (·.1)=cD (qY s8.name) ys/\d.map j5=lE (c.map j5):=by
 obtain⟨d,f,h⟩:=MJ (λp:PF=>p.1) ((D3 _ (jK s8.name) ys).trans k) c rfl;refine⟨d,f,h,?_⟩;have i:=W7 _ (jK s8.name) ys;rw[<-h,List.pairwise_map]at i;refine hO g9.name ((f.map j5).trans (D3 _ (jK g9.name) _).symm) ?_ ?_ (W7 _ (jK g9.name) _);refine(((D3 _ (jK g9.name) (c.map j5)).map g9.name).nodup_iff).2 ?_;rw[List.map_map];exact j;rw[List.pairwise_map];refine i.imp λ{a b} e=> ?_
 rw[XW]at e⊢;exact e
end
section
open Go.ChangeAt Go.Deep
def YZ(w:Wd)(p:PF):Prop:=L8 w p/\sP p.2/\p.1.n<=p.1.c
section
variable {H:Type} {enc:Ti×Va->H} {W:Wd}
theorem yM{h:Nat}{cs:List Va}{x:DataW H×List MemPlace}(a:DataW.trod enc prog W 0 (λ_=>Bt) Bt h 22 cs=So x):
 ∃(e:p1)(n c:Nat)(xs:o5),cs=[Z e n c]/\D xs=n/\i5 W e (l8 U8 xs)/\sP xs/\n<=c:=by
 rcases open_ints underlying22 underlying5 g6 a with⟨rfl,_⟩|⟨⟨b,o,sp⟩,l,c,zs,rfl,_,k,q,g,_,f,m⟩
 exact⟨J,0,0,[],rfl,rfl,i5.nil _ _,aL,a7 _⟩;have g:D zs=c:=by simpa using g
 refine⟨_,l,c,zs.take l,rfl,by rw[m4];omega,λj u d=> ?_,λp a=>a4R (m p (List.mem_of_mem_take a)),k⟩;have i:j<l:=by have:=(List.getElem?_eq_some_iff.1 d).1;rw[i1,m4]at this;omega
 rw[List.getElem?_map,List.getElem?_take_of_lt i,e9 a8]at d;cases d;obtain rfl:sp=J:=by simpa[Addr.add]using World.cell?_spot (f 0 a8)
 have:=f j a8;rw[eQ,b9,e9 a8]at this;exact⟨b,o,rfl,this⟩
theorem oI{u:Nat}{l:List Va}{x:DataW H×List MemPlace}(z:D l=3)(v:DataW.trod enc prog W 0 (λ_=>Bt) Bt u 24 l=So x):
 ∃p:PF,l=q9.c p.1/\YZ W p:=by
 match l,z with
 |[v0,v1,v2],_=>
  obtain⟨xs,n,_,_,_,o,e⟩:=DataW.trod_struct underlying24 v
  have o:D xs=3:=o
  obtain⟨B,q⟩:=qD (l:=xs) (i:=0) a8
  obtain⟨C,r⟩:=qD (l:=xs) (i:=1) a8
  obtain⟨E,t⟩:=qD (l:=xs) (i:=2) a8
  have h:=e 0 _ rfl
  have j:=e 1 _ rfl
  have k:=e 2 _ rfl
  rw[q]at h
  rw[r]at j
  rw[t]at k
  obtain⟨s,a,_⟩:=DataW.trod_string underlying9 h
  obtain⟨g,b,_⟩:=DataW.trod_int underlying3 j
  obtain⟨f,m,c,xs,d,A,w,y⟩:=yM k
  have a:[v0]=[Y s]:=a
  have b:[v1]=[I M g]:=b
  have d:[v2]=[Z f m c]:=d
  cases a
  cases b
  cases d
  exact⟨(⟨s,g,f,m,c⟩,xs),rfl,⟨A,w⟩,y⟩
theorem EY{base:Nat}{v:Va}{c:DataW H}{p:List MemPlace}(h:Value.okWide prog W .any base 24 v)(d:DataW.Trod enc prog W 0 (λ_=>Bt) Bt 24 v c p):
 ∃u:PF,v=p7 u.1/\YZ W u:=by
 have f:prog.cellsOf 24=3:=g6;obtain⟨cs,rfl,a⟩:=okWide_struct underlying24 h;rw[f]at a;obtain⟨j,g⟩:=d;obtain⟨b,e,i⟩:=oI (l:=cs.toList) (by simpa using a) g;exact⟨b,by unfold p7;congr 1;exact Array.toList_inj.1 e,i⟩
theorem AH{base:Nat}{v:Va}{x:DataW H}{p:List MemPlace}(N:Value.okWide prog W .any base 25 v)(g:DataW.Trod enc prog W 0 (λ_=>Bt) Bt 25 v x p):
 ∃(s:p1)(c:Nat)(ds:List PF),v=Z s (D ds) c/\i5 W s (q9.row (ds.map (·.1)))/\∀p∈ds,YZ W p:=by
 have z:prog.cellsOf 24=3:=g6;obtain⟨S,d,cap,rfl⟩:=okWide_slice underlying25 N;obtain⟨ab,E⟩:=g;rcases open_slice underlying25 E with⟨h,_⟩|⟨⟨b,l,sp⟩,ai,T,m,n,Q,R,h,ac,ad,af,F,ah,hi⟩
 simp[Value.cells]at h;obtain⟨rfl,rfl,rfl⟩:=h;exact⟨J,0,[],rfl,i5.nil _ _,aL⟩;simp[Value.cells]at h;obtain⟨rfl,rfl,rfl⟩:=h;have ag:m=cap:=by simpa using F
 have key:∀i,i<d->∃p:PF,YZ W p/\∀r,r<3->W.cell? (Addr.add ⟨b,l,sp⟩ (i*3+r))=(q9.c p.1)[r]? :=λi ae=>by obtain⟨aa,a,L⟩:=hi i a8;rw[z]at a;obtain⟨_,C,B⟩:=World.cells?_some a;obtain⟨t,e,P⟩:=oI C L;refine⟨t,P,λr G=> ?_⟩;have:=B r G;rw[add_add,e]at this;exact this
 obtain⟨f,q⟩:∃f:Nat->PF,∀i,i<d->YZ W (f i)/\∀r,r<3->W.cell? (Addr.add ⟨b,l,sp⟩ (i*3+r))=(q9.c (f i).1)[r]? :=
  ⟨λi=>if g:i<d then Classical.choose (key i g)else(⟨⟨#[]⟩,0,J,0,0⟩,[]),λi g=>by
   simp only[dif_pos g]
   exact Classical.choose_spec (key i g)⟩
 refine⟨So ⟨b,l,sp⟩,cap,(m9 d).map f,i3,λj u w=> ?_,λt A=> ?_⟩;have k:j<D (q9.row (((m9 d).map f).map (·.1))):=(List.getElem?_eq_some_iff.1 w).1;rw[s7.row_length]at k;simp only[i1,List.length_range]at k;have k:j<d*3:=k;have o:=q9.row_at (((m9 d).map f).map (·.1)) (j/3) (j % 3) G6 (Nat.mod_lt _ e6);have a:=(q (j/3) a8).2 (j % 3) a8;rw[show j/3*q9.k+j % 3=j from by show j/3*3+j % 3=j;omega,w]at o;rw[(a8:j/3*3+j % 3=j)]at a;simp only[List.getElem_map,List.getElem_range]at o;rw[<-o]at a;have y:W.cell? _=So (Y (f 0).1.name):=(q 0 a8).2 0 a8;obtain rfl:sp=J:=by simpa[Addr.add]using World.cell?_spot y
 rw[eQ]at a;exact⟨b,l,rfl,a⟩;obtain⟨i,hi,rfl⟩:=List.mem_map.1 A;exact(q i (List.mem_range.1 hi)).1
end
end
def uA(s:Sy)(a:Int):Bool:=
 if s.code=21 then a==s.k else if s.code=37 then Dc (s.k<a)else if s.code=53 then Dc (s.k<=a)else if s.code=69 then bits .and V a s.k !=0 else Bt
def FB(b:Int->Int)(s:Sy)(k:Nat)(a:Int):Nat×Int:=
 if s.code=32 then(k+1,b s.k)else if s.code=84 then(k+1,bits .and V a s.k)else if uA s a then(s.th.toNat,a)else(s.el.toNat,a)
theorem a1r{s:Sy}(h:s.code=5)(a:Int):uA s a=Bt:=by unfold uA;rw[if_neg a8,if_neg a8,if_neg a8,if_neg a8]
theorem a3K{s:Sy}(b:s.code=5)(c:Int->Int)(k:Nat)(a:Int):FB c s k a=(s.th.toNat,a):=by unfold FB;rw[if_neg a8,if_neg a8,a1r b,if_pos rfl]
theorem a3L{s:Sy}(b:s.code≠32/\s.code≠84)(c:Int->Int)(k:Nat)(a:Int):FB c s k a=if uA s a then(s.th.toNat,a)else(s.el.toNat,a):=by unfold FB;rw[if_neg b.1,if_neg b.2]
theorem UH{s:Sy}{n:Int}{k:Nat}(g:N9 s k n)(h:s.code≠6)(c:Int->Int)(a:Int):
 dF s k (FB c s k a).1=Bt/\k<(FB c s k a).1/\((FB c s k a).1=k+1/\(s.code=32\/s.code=84)\/((FB c s k a).1:Int)<n):=by
 rw[kC g,if_neg h];rcases g with⟨b,d,e,_⟩|⟨b,d,e⟩|⟨b,d,e⟩|⟨b,_,e,d⟩|⟨b,d,e⟩
 have f:FB c s k a=(k+1,c s.k):=by unfold FB;rw[if_pos b]
 rw[f,if_pos (.inl b)];exact⟨i3,i3,.inl ⟨rfl,.inl b⟩⟩;have f:FB c s k a=(k+1,bits .and V a s.k):=by unfold FB;rw[if_neg a8,if_pos b]
 rw[f,if_pos (.inr b)];exact⟨i3,i3,.inl ⟨rfl,.inr b⟩⟩;exact absurd b h;rw[a3K b,if_neg a8,if_pos b];refine⟨?_,?_,.inr ?_⟩;rw[beq_iff_eq];show s.th=((s.th.toNat:Nat):Int);omega;show k<s.th.toNat;omega;show((s.th.toNat:Nat):Int)<n;omega;rw[a3L a8,if_neg a8,if_neg a8];cases uA s a;rw[if_neg e6];refine⟨?_,?_,.inr ?_⟩;rw[Bool.or_eq_true,beq_iff_eq,beq_iff_eq];right;show s.el=((s.el.toNat:Nat):Int);omega;show k<s.el.toNat;omega;show((s.el.toNat:Nat):Int)<n;omega;rw[if_pos rfl];refine⟨?_,?_,.inr ?_⟩;rw[Bool.or_eq_true,beq_iff_eq,beq_iff_eq];left;show s.th=((s.th.toNat:Nat):Int);omega;show k<s.th.toNat;omega;show((s.th.toNat:Nat):Int)<n;omega
theorem a3J{b:List Sy}(h:C5 b)(d:Int->Int)(k:Nat)(a:Int)(l:k<D b)(f:(b.getD k i0).code≠6):
 dF (b.getD k i0) k (FB d (b.getD k i0) k a).1=Bt/\k<(FB d (b.getD k i0) k a).1/\(FB d (b.getD k i0) k a).1<D b:=by
 obtain⟨i,j,c⟩:=UH (E3 (h.one k l)) f d a;refine⟨i,j,?_⟩;rcases c with⟨c,_⟩|c
 rw[c];have g:=h.last;by_cases e:k=D b-1;rw[<-e]at g;exact absurd g f;omega;omega
theorem A7{c:Int}:a2L c=Bt↔(c=21\/c=37\/c=53\/c=69):=by unfold a2L;simp[or_assoc]
theorem nO{s:Sy}{a n:Int}(g:N9 s a n):Z8 s a n=Bt:=by
 unfold Z8 a4C P6 a2L;rcases g with⟨b,c,d,e,f⟩|⟨b,c,d⟩|⟨b,c,d⟩|⟨b,e,d,c,f⟩|⟨b,⟨c,e⟩,d,f⟩
 simp[b,c,d,e,f];simp[b,c,d];simp[b,c,d];simp[b,c,d,e,f];rcases b with b|b|b|b<;>simp[b,c,d,e,f]
theorem JE{b:List Sy}(a:C5 b):eS b=Bt:=by unfold eS;simp only[j3,decide_eq_true_eq,List.all_eq_true,List.mem_range,beq_iff_eq];exact⟨⟨⟨a.l1,a.l2⟩,a.last⟩,a.one⟩
def mv(f:Int->Int)(s:Sy):Sy:=if a2L s.code then{s with th:=f s.th,el:=f s.el}else if s.code=5 then{s with th:=f s.th}else s
theorem iE(f:Int->Int)(s:Sy):(mv f s).code=s.code:=by unfold mv;(repeat' split)<;>rfl
theorem a5w(f:Int->Int)(s:Sy):(mv f s).k=s.k:=by unfold mv;(repeat' split)<;>rfl
theorem C9(f:Int->Int){s:Sy}(b:s.code=32\/s.code=84\/s.code=6):mv f s=s:=by
 unfold mv;have a:a2L s.code=Bf:=by cases e:a2L s.code;rfl;rw[A7]at e;omega
 rw[if_neg (by rw[a];decide),if_neg a8]
theorem tP(f:Int->Int){s:Sy}(h:s.code=5):mv f s= {s with th:=f s.th}:=by unfold mv;rw[if_neg (by rw[h];decide),if_pos h]
theorem bD(f:Int->Int){s:Sy}(h:a2L s.code=Bt):mv f s= {s with th:=f s.th,el:=f s.el}:=by unfold mv;rw[if_pos h]
theorem JA{f:Int->Int}{s:Sy}{a n b m:Int}(i:N9 s a n)(g:∀t:Int,a<t->t<n->b<f t/\f t<m):N9 (mv f s) b m:=by
 rcases i with⟨c,d,e,h⟩|⟨c,d,e⟩|⟨c,d,e⟩|⟨c,h,e,d⟩|⟨c,d,e⟩
 rw[C9 f (.inl c)];exact .ld c d e h;rw[C9 f (.inr (.inl c))];exact .an c d e;rw[C9 f (.inr (.inr c))];exact .re c d e;rw[tP f c];exact .ja c h e (g _ d.1 d.2);rw[bD f (A7.2 c)];exact .as c (g _ d.1 d.2) (g _ e.1 e.2)
theorem UR{f g:Int->Int}{s:Sy}{a n:Int}(h:N9 s a n)(d:∀t:Int,a<t->t<n->f t=g t):mv f s=mv g s:=by
 rcases h with⟨b,_,_,_⟩|⟨b,_,_⟩|⟨b,_,_⟩|⟨b,_,_,c⟩|⟨b,c,e⟩
 rw[C9 f (.inl b),C9 g (.inl b)];rw[C9 f (.inr (.inl b)),C9 g (.inr (.inl b))];rw[C9 f (.inr (.inr b)),C9 g (.inr (.inr b))];rw[tP f b,tP g b,d _ c.1 c.2];rw[bD f (A7.2 b),bD g (A7.2 b),d _ c.1 c.2,d _ e.1 e.2]
theorem lT(f:Sy->Sy)(a:List Sy)(i:Nat)(b:i<D a):(a.map f).getD i i0=f (a.getD i i0):=by simp[b9,b]
theorem xH{a b:List Sy}(f:D a=D b)(d:∀i,i<D a->a.getD i i0=b.getD i i0):a=b:=by
 refine List.ext_getElem f λi c e=> ?_
 have:=d i c;simpa[b9,c,e]using this
def U5(a:List Sy)(kk:Int)(z:Nat):Nat->Nat
 |0=>z
 |m+1=>if(a.getD m i0).code=6/\(a.getD m i0).k=kk then m else U5 a kk z m
def dG(a:List Sy)(t:Int):Int:=if(a.getD t.toNat i0).code=6 then(U5 a (a.getD t.toNat i0).k 0 (D a):Nat)else t
def K6(a:List Sy):List Sy:=a.map (mv (dG a))
theorem AY(d:List Sy)(kk:Int)(z:Nat):∀m t,t<m->(d.getD t i0).code=6->(d.getD t i0).k=kk->
 t<=U5 d kk z m/\U5 d kk z m<m/\(d.getD (U5 d kk z m) i0).code=6/\(d.getD (U5 d kk z m) i0).k=kk
 |0,t,h,_,_=>a8
 |m+1,t,h,h1,h2=>by
  unfold U5;by_cases e:(d.getD m i0).code=6/\(d.getD m i0).k=kk;rw[if_pos e];exact⟨a8,a8,e.1,e.2⟩;rw[if_neg e];have i:t<m:=by by_cases g:t=m;subst g;exact absurd ⟨h1,h2⟩ e;omega
  obtain⟨a,b,c,f⟩:=AY d kk z m t i h1 h2;exact⟨a,a8,c,f⟩
theorem tV(d:List Sy)(t:Nat)(g:t<D d):∃u:Nat,dG d t=u/\t<=u/\u<D d/\(d.getD u i0).code=(d.getD t i0).code/\((d.getD t i0).code=6->(d.getD u i0).k=(d.getD t i0).k)/\((d.getD t i0).code≠6->u=t):=by unfold dG;rw[Int.toNat_natCast];by_cases f:(d.getD t i0).code=6;rw[if_pos f];obtain⟨a,b,c,h⟩:=AY d (d.getD t i0).k 0 (D d) t g f rfl;exact⟨_,rfl,a,b,by rw[c,f],λ_=>h,λe=>absurd f e⟩;rw[if_neg f];exact⟨t,rfl,a7 _,g,rfl,λ_=>rfl,λ_=>rfl⟩
theorem S0(a:List Sy):D (K6 a)=D a:=by simp[K6]
theorem tE(a:List Sy)(i:Nat)(b:i<D a):(K6 a).getD i i0=mv (dG a) (a.getD i i0):=lT _ a i b
theorem R9{b:List Sy}(a:C5 b):C5 (K6 b):=by refine⟨by rw[S0];exact a.l1,by rw[S0];exact a.l2,?_,λi hi=> ?_⟩;have:=a.l1;rw[S0,tE b _ a8,iE];exact a.last;rw[S0]at hi⊢;rw[tE b i hi];refine nO (JA (E3 (a.one i hi)) λt c d=> ?_);obtain⟨n,rfl⟩:∃n:Nat,t=n:=⟨t.toNat,a8⟩;obtain⟨u,e,f,g,_⟩:=tV b n a8;rw[e];omega
theorem SD{a:List Sy}(g:C5 a)(o:∀i∈a,i.ok):∀i∈K6 a,i.ok:=λi hi=>by
 have v:=g.l2;unfold K6 at hi;obtain⟨j,l,rfl⟩:=List.getElem_of_mem hi;have d:j<D a:=by simpa using l
 have e:(List.map (mv (dG a)) a)[j]=mv (dG a) a[j]:=i3;rw[e];have k:a.getD j i0=a[j]:=by simp[b9,d]
 have f:=E3 (g.one j d);have m:=o _ (g3 d);rw[k]at f;have h:N9 (mv (dG a) a[j]) (-1) (D a):=JA f λt r b=>by obtain⟨n,rfl⟩:∃n:Nat,t=n:=⟨t.toNat,a8⟩;obtain⟨u,e,c,s,_⟩:=tV a n a8;rw[e];omega
 obtain⟨p,q,w,x⟩:=m;refine⟨by rw[iE];exact p,by rw[a5w];exact q,?_⟩;unfold KK;rcases h with⟨_,b,c,_⟩|⟨_,b,c⟩|⟨_,b,c⟩|⟨_,_,c,b⟩|⟨_,b,c⟩<;>omega
end Go.Proofs.YtcljlejgllkcjaaGreat
