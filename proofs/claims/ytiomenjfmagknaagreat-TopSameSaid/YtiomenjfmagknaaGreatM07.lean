/- A part of the proof of TopSame: lemmas on the walks of its calls. -/
import Derived.Shelf.SlSortCmp.NoneTotal
import Derived.Test.YtiomenjfmagknaaGreatM06
set_option maxHeartbeats 12000000
set_option linter.all false
set_option maxRecDepth 100000
namespace Go.Proofs.YtiomenjfmagknaaGreat
open Go.RowKit Go.ChangeShapes Go.WideShapes Tryz
open Bool renaming false_eq_true→a4x,true→Bt,false→Bf
open Decidable renaming decide→Dc
open Ending renaming returned→X
open Go renaming World→Wd,Value→Va,Calls→Ca,bodyPost_ret→Bp,TypeId→Ti,Addr→Ad,Program→Pg
open Int renaming toNat_natCast→a4A
open IntKind renaming i64→M,u32→V,u64→U6,u8→U8
open Lib renaming hid→a6
open List renaming getD_eq_getElem?_getD→a8,getElem?_eq_getElem→e9,length_append→a2e,range→q5,length_cons→a3W,getElem_mem→a30,length_map→a32,take_succ_eq_append_getElem→a4a,append_assoc→a4s,length_take→a4C,map_append→a4F
open Nat renaming le_refl→a7,le_trans→c8,zero_le→i5,zero_add→a4E
open Obj renaming cells→U
open Operand renaming tmp→Tm
open Option renaming none→J,some→So
open Value renaming int→I,slice→Z,string→Y,bool→O,func→Fc,tuple→Tp,agg→Ag
section
open Go.Shelf Go.Sort
variable {α:Type} [Inhabited α]
def cL(a:α→α→Int)(xs:List α):List α:=(pdq (ltOf a) xs.toArray 0 xs.length (Lib.bitLen xs.length) Bt Bt).toList
theorem G8(a:α→α→Int)(g:SWO (ltOf a))(xs:List α):(cL a xs).Perm xs:=by
 have e:=(pdq_sorts (ltOf a) g xs.toArray 0 xs.length (Lib.bitLen xs.length) Bt Bt (i5 _) (by simp) (Or.inl rfl)).1;obtain⟨f,_,b⟩:=e;have c:(pdq (ltOf a) xs.toArray 0 xs.length (Lib.bitLen xs.length) Bt Bt).size=xs.length:=by rw[f];simp
 rw[←c]at b;unfold cL;rw[c]at b;have d:(pdq (ltOf a) xs.toArray 0 xs.length (Lib.bitLen xs.length) Bt Bt).extract 0 xs.length=pdq (ltOf a) xs.toArray 0 xs.length (Lib.bitLen xs.length) Bt Bt:=by
  apply Array.ext';simp[Array.toList_extract,List.take_of_length_le,c]
 rw[d]at b;simpa using b
theorem dE(a:α→α→Int)(b:SWO (ltOf a))(xs:List α):(cL a xs).length=xs.length:=(G8 a b xs).length_eq
theorem dD(c:α→α→Int)(e:SWO (ltOf c))(xs:List α):(cL c xs).Pairwise fun a b=>ltOf c b a=Bf:=by
 have f:=(pdq_sorts (ltOf c) e xs.toArray 0 xs.length (Lib.bitLen xs.length) Bt Bt (i5 _) (by simp) (Or.inl rfl)).2;have h:=dE c e xs;rw[List.pairwise_iff_getElem];intro i j hi d g;have:=f i j (i5 _) g (by omega);unfold cL at hi d⊢;simp only[Array.getElem_toList,Array.length_toList]at hi d⊢;rwa[getElem!_pos _ j d,getElem!_pos _ i hi]at this
theorem CJ(E:p6 α)(xs:List α):flatK E.c E.k xs.toArray=(E.row xs).toArray:=by
 refine ext_get! (by simp[E.row_length]) fun t i=> ?_
 have b:t<xs.length*E.k:=by simpa using i
 have g:0<E.k:=Nat.pos_of_ne_zero fun h=>by rw[h]at b;simp at b
 have c:t/E.k<xs.length:=by rw[Nat.div_lt_iff_lt_mul g];exact b
 have d:t % E.k<E.k:=Nat.mod_lt _ g;rw[get_flatK _ _ _ _ (by simpa using b)];have a:=E.row_at xs (t/E.k) (t % E.k) c d;rw[Nat.mul_comm,Nat.div_add_mod]at a;have e:t % E.k<(E.c xs[t/E.k]).length:=by rw[E.len];exact d
 have f:t<(E.row xs).length:=by rw[E.row_length];exact b
 rw[e9 f,e9 e]at a;injection a with a
 rw[getElem!_pos xs.toArray _ (by simpa using c),getElem!_pos _ _ (by simpa using e),getElem!_pos _ _ (by simpa using f)];simpa using a.symm
theorem HA{w:Wd}{base g cap:Nat}{e:Ti}{E:p6 α}{xs:List α}(i:e4 w base e E (Z g xs.length cap) xs):HoldsK E.c E.k w g 0 xs.toArray:=by
 obtain⟨n,c,a,m⟩:=i;cases a;rcases m.2 with⟨a,_⟩|⟨p,o,cur,a,t,d,q,r,s,k⟩
 ·cases a
 ·cases a
  unfold HoldsK;rw[CJ];intro j l;have f:j<xs.length*E.k:=by simpa[E.row_length]using l
  have h:j<(E.row xs).length:=by rw[E.row_length];exact f
  refine⟨?_,by simp[World.frozen?,d]⟩;have b:(cur.toList.take (xs.length*E.k))[j]? =(E.row xs)[j]? :=by rw[k]
  rw[List.getElem?_take,if_pos f,Array.getElem?_toList]at b;simp only[World.cell?,d,a4E];simp only[Option.isSome_none,a4x,if_false];rw[b,e9 h];simp[getElem!_pos,h]
theorem NM{w:Wd}{base g cap n:Nat}{e:Ti}{E:p6 α}{xs ys:List α}{os:Array Obj}(l:e4 w base e E (Z g xs.length cap) xs)(b:ys.length=xs.length):
  e4 (sortWorldK E.c E.k w g 0 n ys.toArray os) base e E (Z g xs.length cap) ys∧w.grownBy (sortWorldK E.c E.k w g 0 n ys.toArray os) (So g):=by
 obtain⟨v,c,a,u⟩:=l;cases a;unfold sortWorldK putRowK;rw[CJ];rcases u.2 with⟨a,_⟩|⟨y,x,cur,a,p,h,m,o,f,z⟩
 ·cases a
 ·cases a
  have s:g<w.heap.size:=(Array.getElem?_eq_some_iff.1 h).1;refine⟨⟨_,cap,by rw[b],by rw[b,E.row_length,b],.inr ⟨g,cap,putCells id 0 (E.row ys).toArray cur,by rw[b],p,?_,by rw[b];exact m,o,by simpa[putCells]using f,?_⟩⟩,rfl,rfl,rfl,by simp,fun k r t=> ?_⟩
  ·rw[heap_grow_old _ _ (by simpa using s)]
   simp[putRow,mapBlock,Sort.ahead,Array.getElem?_modify,h,onCells]
  ·apply List.ext_getElem?
   intro j;rw[List.getElem?_take,Array.getElem?_toList];by_cases d:j<ys.length*E.k
   ·have q:j<cur.size:=by rw[f];exact Nat.lt_of_lt_of_le d (Nat.mul_le_mul_right _ (by omega))
    have i:j<(E.row ys).length:=by rw[E.row_length];exact d
    simp only[if_pos d,putCells,Array.getElem?_mapIdx,Array.getElem?_eq_getElem q,Option.map_some];rw[if_pos (by simp;omega),e9 i];simp[getElem!_pos,i]
   ·rw[if_neg d,List.getElem?_eq_none (by rw[E.row_length];omega)]
  ·rw[heap_grow_old _ _ (by simpa using r)]
   have:g≠k:=fun e=>t (by rw[e])
   simp[putRow,mapBlock,Sort.ahead,Array.getElem?_modify,this]
theorem JH{P:Pg}{j:Ren}(l:SlLaysF0.n6 P j)(E:p6 α)(t:∀w,(isAgg (j.t 24)).run P w= .ok Bt w)(L:∀w,(Go.sizeOf (j.t 24)).run P w= .ok E.k w)(a:α→α→Int)(k:SWO (ltOf a))(g:Nat)
  (u:∀args w,(callFunc g args).run P w= .ok (.enter g args) w) (z:∀x i W,Ca P g #[Ag (E.c x).toArray,Ag (E.c i).toArray] W fun e f=>e=X (I M (a x i))∧∃q os,f=grow (W.drewN q) os)
  (e:Ti) (v:Va) (xs:List α) (base:Nat) (w:Wd) (ab:xs.length≤1000000) (h:e4 w base e E v xs):
  Ca P (j.f 6) #[v,Fc (.func g) #[] #[]] w fun o f=>o=X (Tp #[])∧e4 f base e E v (cL a xs)∧w.grownBy f v.ownBlock:=by
 have D:=h;obtain⟨s,c,rfl,d⟩:=D;rcases d.2 with⟨p,y⟩|⟨b,cap,cur,p,aa,B,Q,R,S,T⟩
 ·have G:xs=[]:=List.eq_nil_of_length_eq_zero y
  subst G;have H:cL a ([]:List α)=[]:=List.eq_nil_of_length_eq_zero (dE a k []);rw[H];exact(AnyF.slices_SortFunc_none l s c _ w).mono fun e f d=>⟨d.1,by rw[d.2];exact h,by rw[d.2];exact World.grownBy.refl w _⟩
 ·cases p
  have C:b<w.heap.size:=(Array.getElem?_eq_some_iff.1 B).1;have:=AnyQ.slices_SortFunc_eq l E.k t L E.c E.len E.one a k g #[] b 0 c xs.toArray w u (fun m os N _ x i=>(z x i _).mono fun _ _ d=>d) (HA h) C (by simp;omega);refine this.mono fun o f⟨A,n,os,r⟩=> ?_
  have F:pdq (ltOf a) xs.toArray 0 xs.toArray.size (Lib.bitLen xs.toArray.size) Bt Bt=(cL a xs).toArray:=by simp[cL]
  rw[F]at r;have:=NM (n:=n) (os:=os) h (dE a k xs);rw[r];exact⟨A,this.1,this.2⟩
end
section
open Go.Shelf Go.Sort
attribute [local go_sem] Oper.semAt_some
theorem BQ(x:ByteArray)(W:Wd):Ca prog 101 #[Y x] W fun e a=>e=X (O Bf)∧W=a:=by
 go_in;go_wp2;go_ret;exact⟨rfl,rfl⟩
def HS(x y:ByteArray):Int:=if Op.bytesLess x.toList y.toList then-1 else if !(Op.bytesLess x.toList y.toList||x.toList==y.toList)then 1 else 0
theorem a4k(x a:ByteArray)(W:Wd):Ca prog 55 #[Y x,Y a] W fun e i=>e=X (I M (HS x a))∧W=i:=by
 obtain⟨d,f⟩:=i6 (BQ x) (BQ a);have b:HS x a=if Op.bytesLess x.toList a.toList then-1 else if !(Op.bytesLess x.toList a.toList||x.toList==a.toList)then 1 else 0:=rfl
 generalize HS x a=R at*;go_in;rcases g:Op.bytesLess x.toList a.toList with _|_
 ·rw[g]at b
  rcases h:(x.toList==a.toList)with _|_
  all_goals rw[h]at b;simp at b;subst b
  all_goals go_wp2_with(first|(apply(d _).mono;rintro e c⟨rfl,rfl⟩)|(apply(f _).mono;rintro e c⟨rfl,rfl⟩))
  all_goals go_ret
  all_goals exact⟨rfl,rfl⟩
 ·rw[g]at b
  simp at b;subst b;go_wp2_with(first|(apply(d _).mono;rintro e c⟨rfl,rfl⟩)|(apply(f _).mono;rintro e c⟨rfl,rfl⟩))
  go_ret;exact⟨rfl,rfl⟩
theorem a3D(f b:a1f)(W:Wd):Ca prog 54 #[Ag (q7.c f).toArray,Ag (q7.c b).toArray] W fun e o=>e=X (I M (HS f.name b.name))∧∃q os,o=grow (W.drewN q) os:=by
 obtain⟨a,h,d,i,g⟩:=f;obtain⟨c,m,j,n,l⟩:=b;have k:=a6 (a4k a c);dsimp only[q7];generalize HS a c=R at*;go_in;have k1:b9 ((W.alloc (U #[Y a,I M h,Z d i g] 24)).alloc (U #[Y c,I M m,Z j n l] 24)) W 24 #[Y a,I M h,Z d i g]:=(b9.new W _ _).alloc _;have p:=k1.cell 0;go_wp2_with(apply(k _).mono;rintro e r⟨rfl,rfl⟩)
 go_ret;exact⟨rfl,0,_,by rw[alloc_eq_grow,alloc_eq_grow,grow_grow];rfl⟩
theorem OP:SlLaysF0.n6 prog ⟨fun|6=>53|14=>99|15=>100|20=>140|21=>141|22=>142|23=>143|24=>144|25=>145|26=>146|27=>147|28=>148|29=>149|46=>213|47=>214|48=>215|49=>216|50=>217|57=>298|n=>n,
  fun|0=>0|3=>3|4=>4|5=>5|9=>9|22=>25|24=>24|25=>130|39=>181|45=>257|46=>258|50=>262|53=>26|55=>27|66=>335|70=>338|76=>404|77=>405|n=>n,fun n=>n⟩:=by
 constructor
 case f6=>exact⟨f53.name,by decide,func53.trans (congrArg So (by kernel_rfl))⟩
 case f14=>exact⟨f99.name,by decide,func99.trans (congrArg So (by kernel_rfl))⟩
 case f20=>exact⟨f140.name,by decide,func140.trans (congrArg So (by kernel_rfl))⟩
 case f21=>exact⟨f141.name,by decide,func141.trans (congrArg So (by kernel_rfl))⟩
 case f22=>exact⟨f142.name,by decide,func142.trans (congrArg So (by kernel_rfl))⟩
 case f23=>exact⟨f143.name,by decide,func143.trans (congrArg So (by kernel_rfl))⟩
 case f24=>exact⟨f144.name,by decide,func144.trans (congrArg So (by kernel_rfl))⟩
 case f25=>exact⟨f145.name,by decide,func145.trans (congrArg So (by kernel_rfl))⟩
 case f26=>exact⟨f146.name,by decide,func146.trans (congrArg So (by kernel_rfl))⟩
 case f27=>exact⟨f147.name,by decide,func147.trans (congrArg So (by kernel_rfl))⟩
 case f46=>exact⟨f213.name,by decide,func213.trans (congrArg So (by kernel_rfl))⟩
 case f49=>exact⟨f216.name,by decide,func216.trans (congrArg So (by kernel_rfl))⟩
 case f50=>exact⟨f217.name,by decide,func217.trans (congrArg So (by kernel_rfl))⟩
 case f57=>exact⟨f298.name,by decide,func298.trans (congrArg So (by kernel_rfl))⟩
 all_goals first|(intro w;kernel_rfl)|kernel_rfl
end
section
open Go.Shelf Go.Sort Go.MapKept
structure g3 where
 name:ByteArray
 dir:Int
 data:List Int
instance :Inhabited g3:=⟨⟨⟨#[]⟩,0,[]⟩⟩
instance :Inhabited a1f:=⟨⟨⟨#[]⟩,0,J,0,0⟩⟩
abbrev PF:=a1f×List Int
def l4(p:PF):g3:=⟨p.1.name,p.1.dir,p.2⟩
def F7(w:Wd)(p:PF):Prop:=p.2.length=p.1.n∧h9 w p.1.A (i3 U8 p.2)
theorem F7.h{w b:Wd}{p:PF}(a:F7 w p)(x:a9 w b):F7 b p:=⟨a.1,a.2.h x⟩
theorem jM:∀(x c:List UInt8),Op.bytesLess x c=Dc (x<c)
 |[],[]=>by simp[Op.bytesLess]
 |_::_,[]=>by simp[Op.bytesLess]
 |[],_::_=>by simp[Op.bytesLess]
 |a::x,b::c=>by
  rw[Op.bytesLess,jM x c];simp only[List.cons_lt_cons_iff];by_cases d:a<b<;>by_cases e:a=b<;>by_cases f:x<c<;>simp[d,e,f]
section
variable {α:Type} (nm:α→ByteArray)
abbrev rC(x y:α):Int:=HS (nm x) (nm y)
theorem ltN(x y:α):ltOf (rC nm) x y=Dc ((nm x).toList<(nm y).toList):=by
 unfold ltOf rC HS;rw[jM];by_cases h:(nm x).toList<(nm y).toList
 ·simp[h]
 ·simp only[h,decide_false,a4x,if_false,Bool.false_or]
  split<;>simp
theorem vO:SWO (ltOf (rC nm)) where
 irrefl x:=by rw[ltN];simp[List.lt_irrefl]
 trans x y z a b:=by
  rw[ltN]at*;exact decide_eq_true (List.lt_trans (of_decide_eq_true a) (of_decide_eq_true b))
 ntrans x y z a b:=by
  rw[ltN]at*;have a:=of_decide_eq_false a;have b:=of_decide_eq_false b;rw[List.not_lt]at a b;refine decide_eq_false ?_;rw[List.not_lt];exact List.le_trans b a
theorem kP{β:Type}(f:α→β):∀{l:List α},(l.map f).Nodup→∀{a b},a∈l→b∈l→f a=f b→a=b
 |x::l,h,a,b,ha,hb,e=>by
  rw[List.map_cons,List.nodup_cons]at h;rcases List.mem_cons.1 ha with d|d
  ·rcases List.mem_cons.1 hb with c|c
   ·rw[d,c]
   ·exact absurd (List.mem_map.2 ⟨b,c,by rw[←e,d]⟩) h.1
  ·rcases List.mem_cons.1 hb with c|c
   ·exact absurd (List.mem_map.2 ⟨a,d,by rw[e,c]⟩) h.1
   ·exact kP f h.2 d c e
theorem vY{h f:List α}(i:h.Perm f)(l:(f.map nm).Nodup)(m:h.Pairwise fun a b=>ltOf (rC nm) b a=Bf)(n:f.Pairwise fun a b=>ltOf (rC nm) b a=Bf):h=f:=by
 refine List.Perm.eq_of_pairwise (le:=fun a b=>ltOf (rC nm) b a=Bf) (fun a b j k c d=> ?_) m n i;rw[ltN]at c d;have c:=of_decide_eq_false c;have d:=of_decide_eq_false d;rw[List.not_lt]at c d;have e:(nm a).toList=(nm b).toList:=List.le_antisymm c d;exact kP nm l (i.subset j) k (by
  have:=congrArg List.toArray e;rw[Lib.toList_data,Lib.toList_data]at this;exact ByteArray.ext (by simpa using this))
def GQ(s:ByteArray):List α→Nat→Option Nat
 |[],_=>J
 |p::r,i=>if s==nm p then So i else GQ s r (i+1)
def P8(l:List α)(x:α):List α:=match GQ nm (nm x) l 0 with|none=>l++[x]|some i=>l.set i x
def nC(l:List α)(s:ByteArray):Option α:=(GQ nm s l 0).bind fun i=>l[i]?
variable {nm}
theorem WW(s:ByteArray):∀(l:List α)(i j:Nat),GQ nm s l i=So j→i≤j∧∃x,l[j-i]? =So x∧nm x=s
 |p::r,i,j,h=>by
  unfold GQ at h;cases a:s==nm p
  ·rw[a]at h
   obtain⟨d,x,b,c⟩:=WW s r (i+1) j h;refine⟨by omega,x,?_,c⟩;rw[show j-i=(j-(i+1))+1 by omega];exact b
  ·rw[a]at h
   cases h;exact⟨a7 _,p,by rw[Nat.sub_self];rfl,((bytes_beq s (nm p)).1 a).symm⟩
theorem BN(s:ByteArray):∀(l:List α)(i:Nat),GQ nm s l i=J→∀p∈l,nm p≠s
 |q::l,i,h,p,b=>by
  unfold GQ at h;cases a:s==nm q
  ·rw[a]at h
   rcases List.mem_cons.1 b with rfl|b
   ·exact fun e=>by rw[e,(bytes_beq s s).2 rfl]at a;cases a
   ·exact BN s l (i+1) h p b
  ·rw[a]at h;cases h
theorem pK(l:List α)(x:α)(d:(l.map nm).Nodup):((P8 nm l x).map nm).Nodup:=by
 unfold P8;cases hi:GQ nm (nm x) l 0 with
 |none=>
  dsimp only;rw[a4F,List.nodup_append];refine⟨d,by simp,fun a k b e=> ?_⟩;obtain⟨p,m,rfl⟩:=List.mem_map.1 k;simp at e;subst e;exact BN _ l 0 hi p m
 |some i=>
  dsimp only;obtain⟨_,n,c,h⟩:=WW _ l 0 i hi;have:(l.set i x).map nm=l.map nm:=by
   rw[List.map_set];refine List.ext_getElem? fun j=> ?_
   rw[List.getElem?_set];by_cases f:i=j
   ·subst f
    rw[Nat.sub_zero]at c;rw[if_pos rfl,List.getElem?_map,c];have:=(List.getElem?_eq_some_iff.1 c).1;simp[h,this]
   ·rw[if_neg f]
  rw[this];exact d
theorem AA(l:List α)(x:α):(P8 nm l x).length≤l.length+1:=by unfold P8;split<;>simp
theorem pL(l:List α)(x:α):∀p∈P8 nm l x,p∈l∨p=x:=fun p a=>by
 unfold P8 at a;split at a
 ·rcases List.mem_append.1 a with b|b
  ·exact .inl b
  ·exact .inr (by simpa using b)
 ·exact List.mem_or_eq_of_mem_set a
variable {β:Type} {nb:β→ByteArray} (g:α→β) (hg:∀x,nb (g x)=nm x)
include hg
theorem wZ(s:ByteArray):∀(l:List α)(i:Nat),GQ nb s (l.map g) i=GQ nm s l i
 |[],_=>rfl
 |p::l,i=>by
  simp only[List.map_cons,GQ,hg];rw[wZ s l (i+1)]
theorem zZ(l:List α)(x:α):(P8 nm l x).map g=P8 nb (l.map g) (g x):=by
 unfold P8;rw[wZ g hg,hg];split
 ·simp
 ·rw[List.map_set]
theorem BZ(l:List α)(s:ByteArray):nC nb (l.map g) s=(nC nm l s).map g:=by
 unfold nC;rw[wZ g hg];cases GQ nm s l 0 with
 |none=>rfl
 |some i=>simp
end
theorem qK(s:ByteArray):∀(L:List SV)(i:Nat),(cN s L i).map (·.1)=GQ (·.1) s L i
 |[],_=>rfl
 |p::L,i=>by
  unfold cN GQ;split
  ·rfl
  ·exact qK s L (i+1)
theorem a3s(L:List SV)(s:ByteArray)(v:Va):zY L s v=P8 (fun p:SV=>p.1) L (s,v):=by
 unfold zY P8;have:=qK s L 0;show(match cN s L 0 with|none=>L++[(s,v)]|some (j,_)=>L.set j (s,v))=match GQ (fun p:SV=>p.1) s L 0 with|none=>L++[(s,v)]|some i=>L.set i (s,v)
 rw[←this];cases cN s L 0<;>rfl
theorem a1d(a:List SV)(s:ByteArray):H0 a s=(nC (fun p:SV=>p.1) a s).map (·.2):=by
 unfold H0 nC;have:=qK s a 0;rw[←this];cases c:cN s a 0 with
 |none=>rfl
 |some p=>
  obtain⟨j,v⟩:=p;obtain⟨_,b⟩:=xC s a 0 j v c;rw[Nat.sub_zero]at b;simp[b]
theorem NI{α β:Type}(f:β→α){j k:List α}(h:j.Perm k):∀ps:List β,ps.map f=k→∃d:List β,d.Perm ps∧d.map f=j:=by
 induction h with
 |nil=>exact fun ps h=>⟨ps,.refl _,h⟩
 |cons x h ih=>
  intro ps c;cases ps with
  |nil=>cases c
  |cons p ps=>
   injection c with h1 h2
   obtain⟨d,e,i⟩:=ih ps h2;exact⟨p::d,e.cons p,by rw[List.map_cons,i,h1]⟩
 |swap x y l=>
  intro ps c
  match ps,c with
  |a::b::r,c=>
   injection c with h1 h2
   injection h2 with h2 e
   exact⟨b::a::r,.swap _ _ _,by simp[h1,h2,e]⟩
 |trans h1 h2 ih1 ih2=>
  intro ps c;obtain⟨d,e,i⟩:=ih2 ps c;obtain⟨rs,m,n⟩:=ih1 d i;exact⟨rs,m.trans e,n⟩
def O8(l:List g3)(x:g3):List g3:=match nC g3.name l x.name with
 |none=>P8 g3.name l x
 |some old=>if x.dir<old.dir then P8 g3.name l x else l
def G3(ds:List g3):List g3:=ds.foldl O8 []
def zM(l:List g3):List g3:=cL (rC g3.name) l
theorem zE(l:List g3)(x:g3)(h:(l.map g3.name).Nodup):((O8 l x).map g3.name).Nodup:=by
 unfold O8;split
 ·exact pK l x h
 ·split
  ·exact pK l x h
  ·exact h
theorem MA(l:List g3)(x:g3):(O8 l x).length≤l.length+1:=by
 unfold O8;split
 ·exact AA _ _
 ·split
  ·exact AA _ _
  ·omega
theorem CZ(l:List g3)(x:g3):G3 (l++[x])=O8 (G3 l) x:=by simp[G3]
theorem oP:∀(ds l:List g3),(ds.foldl O8 l).length≤l.length+ds.length
 |[],l=>by simp
 |x::ds,l=>by
  have a:=MA l x;have b:=oP ds (O8 l x);simp only[List.foldl_cons,a3W];omega
theorem qW(ds:List g3):(G3 ds).length≤ds.length:=by have:=oP ds [];simpa[G3]using this
theorem MO{ps:List PF}{ys:List a1f}(i:(ps.map fun p=>p.1.name).Nodup)(j:ys.Perm (ps.map (·.1))):∃c:List PF,c.Perm ps∧c.map (·.1)=cL (rC a1f.name) ys∧c.map l4=zM (ps.map l4):=by
 obtain⟨c,e,f⟩:=NI (fun p:PF=>p.1) ((G8 _ (vO a1f.name) ys).trans j) ps rfl;refine⟨c,e,f,?_⟩;have h:=dD _ (vO a1f.name) ys;rw[←f,List.pairwise_map]at h;refine vY g3.name ((e.map l4).trans (G8 _ (vO g3.name) _).symm) ?_ ?_ (dD _ (vO g3.name) _)
 ·refine(((G8 _ (vO g3.name) (ps.map l4)).map g3.name).nodup_iff).2 ?_
  rw[List.map_map];exact i
 ·rw[List.pairwise_map]
  refine h.imp fun{a b} d=> ?_
  rw[ltN]at d⊢;exact d
end
section
open Go.ChangeAt Go.Deep
section
variable {H:Type} {enc:Ti×Va→H} {W:Wd}
theorem EO{g:Nat}{cs:List Va}{x:DataW H×List MemPlace}(h:DataW.trod enc prog W 0 (fun _=>Bt) Bt g 22 cs=So x):
  ∃(d:Option Ad)(n c:Nat)(xs:List Int),cs=[Z d n c]∧xs.length=n∧h9 W d (i3 U8 xs):=by
 rcases open_ints underlying22 underlying5 (by kernel_rfl) h with⟨rfl,_⟩|⟨⟨b,k,sp⟩,l,c,zs,rfl,_,m,o,f,_,e,_⟩
 ·exact⟨J,0,0,[],rfl,rfl,h9.nil _ _⟩
 ·have f:zs.length=c:=by simpa using f
  refine⟨_,l,c,zs.take l,rfl,by rw[a4C];omega,fun j u a=> ?_⟩;have i:j<l:=by
   have:=(List.getElem?_eq_some_iff.1 a).1;rw[a32,a4C]at this;omega
  rw[List.getElem?_map,List.getElem?_take_of_lt i,e9 (by omega)]at a;cases a;obtain rfl:sp=J:=by simpa[Addr.add]using World.cell?_spot (e 0 (by omega))
  have:=e j (by omega);rw[fC,a8,e9 (by omega)]at this;exact⟨b,k,rfl,this⟩
theorem sV{u:Nat}{l:List Va}{x:DataW H×List MemPlace}(y:l.length=3)(v:DataW.trod enc prog W 0 (fun _=>Bt) Bt u 24 l=So x):
  ∃p:PF,l=q7.c p.1∧F7 W p:=by
 match l,y with
 |[v0,v1,v2],_=>
  obtain⟨xs,n,_,_,_,o,f⟩:=DataW.trod_struct underlying24 v;have o:xs.length=3:=o;obtain⟨A,q⟩:=a2o (l:=xs) (i:=0) (by omega);obtain⟨B,r⟩:=a2o (l:=xs) (i:=1) (by omega);obtain⟨C,t⟩:=a2o (l:=xs) (i:=2) (by omega);have h:=f 0 _ rfl;have j:=f 1 _ rfl;have k:=f 2 _ rfl;rw[q]at h;rw[r]at j;rw[t]at k;obtain⟨s,a,_⟩:=DataW.trod_string underlying9 h;obtain⟨d,b,_⟩:=DataW.trod_int underlying3 j;obtain⟨g,m,c,xs,e,z,w⟩:=EO k;have a:[v0]=[Y s]:=a;have b:[v1]=[I M d]:=b;have e:[v2]=[Z g m c]:=e;cases a;cases b;cases e;exact⟨(⟨s,d,g,m,c⟩,xs),rfl,z,w⟩
theorem NP{base:Nat}{v:Va}{d:DataW H}{p:List MemPlace}(h:Value.okWide prog W .any base 24 v)(c:DataW.Trod enc prog W 0 (fun _=>Bt) Bt 24 v d p):
  ∃u:PF,v=o4 u.1∧F7 W u:=by
 have f:prog.cellsOf 24=3:=by kernel_rfl
 obtain⟨cs,rfl,a⟩:=okWide_struct underlying24 h;rw[f]at a;obtain⟨j,g⟩:=c;obtain⟨b,e,i⟩:=sV (l:=cs.toList) (by simpa using a) g;exact⟨b,by unfold o4;congr 1;exact Array.toList_inj.1 e,i⟩
theorem FV{base:Nat}{v:Va}{d:DataW H}{p:List MemPlace}(N:Value.okWide prog W .any base 25 v)(g:DataW.Trod enc prog W 0 (fun _=>Bt) Bt 25 v d p):
  ∃(s:Option Ad)(c:Nat)(ds:List PF),v=Z s ds.length c∧h9 W s (q7.row (ds.map (·.1)))∧∀p∈ds,F7 W p:=by
 have A:prog.cellsOf 24=3:=by kernel_rfl
 obtain⟨S,len,cap,rfl⟩:=okWide_slice underlying25 N;obtain⟨ab,E⟩:=g;rcases open_slice underlying25 E with⟨h,_⟩|⟨⟨b,l,sp⟩,ah,T,m,n,Q,R,h,ac,ad,af,F,y,hi⟩
 ·simp[Value.cells]at h
  obtain⟨rfl,rfl,rfl⟩:=h;exact⟨J,0,[],rfl,h9.nil _ _,fun x y=>by cases y⟩
 ·simp[Value.cells]at h
  obtain⟨rfl,rfl,rfl⟩:=h;have ag:m=cap:=by simpa using F
  have key:∀i,i<len→∃p:PF,F7 W p∧∀r,r<3→W.cell? (Addr.add ⟨b,l,sp⟩ (i*3+r))=(q7.c p.1)[r]? :=fun i ae=>by
   obtain⟨aa,a,L⟩:=hi i (by omega);rw[A]at a;obtain⟨_,D,C⟩:=World.cells?_some a;obtain⟨t,e,P⟩:=sV D L;refine⟨t,P,fun r G=> ?_⟩;have:=C r G;rw[add_add,e]at this;exact this
  obtain⟨f,q⟩:∃f:Nat→PF,∀i,i<len→F7 W (f i)∧∀r,r<3→W.cell? (Addr.add ⟨b,l,sp⟩ (i*3+r))=(q7.c (f i).1)[r]? :=
   ⟨fun i=>if g:i<len then Classical.choose (key i g)else(⟨⟨#[]⟩,0,J,0,0⟩,[]),fun i g=>by
    simp only[dif_pos g];exact Classical.choose_spec (key i g)⟩
  refine⟨So ⟨b,l,sp⟩,cap,(q5 len).map f,by simp,fun j u w=> ?_,fun t B=> ?_⟩
  ·have k:j<(q7.row (((q5 len).map f).map (·.1))).length:=(List.getElem?_eq_some_iff.1 w).1
   rw[p6.row_length]at k;simp only[a32,List.length_range]at k;have k:j<len*3:=k;have o:=q7.row_at (((q5 len).map f).map (·.1)) (j/3) (j % 3) (by simp;omega) (Nat.mod_lt _ (by decide));have a:=(q (j/3) (by omega)).2 (j % 3) (by omega);rw[show j/3*q7.k+j % 3=j from by show j/3*3+j % 3=j;omega,w]at o;rw[show j/3*3+j % 3=j from by omega]at a;simp only[List.getElem_map,List.getElem_range]at o;rw[←o]at a;have z:W.cell? _=So (Y (f 0).1.name):=(q 0 (by omega)).2 0 (by omega);obtain rfl:sp=J:=by simpa[Addr.add]using World.cell?_spot z
   rw[fC]at a;exact⟨b,l,rfl,a⟩
  ·obtain⟨i,hi,rfl⟩:=List.mem_map.1 B
   exact(q i (List.mem_range.1 hi)).1
end
end
def r4(s:Sy)(a:Int):Bool:=
 if s.code=21 then a==s.k else if s.code=37 then Dc (s.k<a)else if s.code=53 then Dc (s.k≤a)else if s.code=69 then bits .and V a s.k !=0 else Bt
def J4(b:Int→Int)(s:Sy)(k:Nat)(a:Int):Nat×Int:=
 if s.code=32 then(k+1,b s.k)else if s.code=84 then(k+1,bits .and V a s.k)else if r4 s a then(s.th.toNat,a)else(s.el.toNat,a)
def DN(r:Int×Nat):Int×Nat:=(r.1,r.2+1)
def FF(b:Int→Int)(ps:List Sy):Nat→Nat→Int→Int×Nat
 |0,_,_=>(0,0)
 |f+1,k,a=>
  if(ps.getD k c6).code=6 then((ps.getD k c6).k,1)
  else DN (FF b ps f (J4 b (ps.getD k c6) k a).1 (J4 b (ps.getD k c6) k a).2)
theorem xD{s:Sy}(h:s.code=5)(a:Int):r4 s a=Bt:=by
 unfold r4;rw[if_neg (by omega),if_neg (by omega),if_neg (by omega),if_neg (by omega)]
theorem bJ{s:Sy}(b:s.code=5)(c:Int→Int)(k:Nat)(a:Int):J4 c s k a=(s.th.toNat,a):=by
 unfold J4;rw[if_neg (by omega),if_neg (by omega),xD b,if_pos rfl]
theorem bK{s:Sy}(b:s.code≠32∧s.code≠84)(c:Int→Int)(k:Nat)(a:Int):J4 c s k a=if r4 s a then(s.th.toNat,a)else(s.el.toNat,a):=by
 unfold J4;rw[if_neg b.1,if_neg b.2]
theorem UN{s:Sy}{n:Int}{k:Nat}(g:H5 s k n)(h:s.code≠6)(c:Int→Int)(a:Int):
  dO s k (J4 c s k a).1=Bt∧k<(J4 c s k a).1∧((J4 c s k a).1=k+1∧(s.code=32∨s.code=84)∨((J4 c s k a).1:Int)<n):=by
 rw[kS g,if_neg h];rcases g with⟨b,d,e,_⟩|⟨b,d,e⟩|⟨b,d,e⟩|⟨b,_,e,d⟩|⟨b,d,e⟩
 ·have f:J4 c s k a=(k+1,c s.k):=by unfold J4;rw[if_pos b]
  rw[f,if_pos (.inl b)];exact⟨by simp,by simp,.inl ⟨rfl,.inl b⟩⟩
 ·have f:J4 c s k a=(k+1,bits .and V a s.k):=by unfold J4;rw[if_neg (by omega),if_pos b]
  rw[f,if_pos (.inr b)];exact⟨by simp,by simp,.inl ⟨rfl,.inr b⟩⟩
 ·exact absurd b h
 ·rw[bJ b,if_neg (by omega),if_pos b]
  refine⟨?_,?_,.inr ?_⟩
  ·rw[beq_iff_eq];show s.th=((s.th.toNat:Nat):Int);omega
  ·show k<s.th.toNat;omega
  ·show((s.th.toNat:Nat):Int)<n;omega
 ·rw[bK (by omega),if_neg (by omega),if_neg (by omega)]
  cases r4 s a
  ·rw[if_neg (by decide)]
   refine⟨?_,?_,.inr ?_⟩
   ·rw[Bool.or_eq_true,beq_iff_eq,beq_iff_eq];right;show s.el=((s.el.toNat:Nat):Int);omega
   ·show k<s.el.toNat;omega
   ·show((s.el.toNat:Nat):Int)<n;omega
  ·rw[if_pos rfl]
   refine⟨?_,?_,.inr ?_⟩
   ·rw[Bool.or_eq_true,beq_iff_eq,beq_iff_eq];left;show s.th=((s.th.toNat:Nat):Int);omega
   ·show k<s.th.toNat;omega
   ·show((s.th.toNat:Nat):Int)<n;omega
theorem gH{ps:List Sy}(g:m9 ps)(c:Int→Int)(k:Nat)(a:Int)(j:k<ps.length)(d:(ps.getD k c6).code≠6):
  dO (ps.getD k c6) k (J4 c (ps.getD k c6) k a).1=Bt∧k<(J4 c (ps.getD k c6) k a).1∧(J4 c (ps.getD k c6) k a).1<ps.length:=by
 obtain⟨h,i,b⟩:=UN (a0P (g.one k j)) d c a;refine⟨h,i,?_⟩;rcases b with⟨b,_⟩|b
 ·rw[b]
  have f:=g.last;by_cases e:k=ps.length-1
  ·rw[←e]at f
   exact absurd f d
  ·omega
 ·omega
theorem kF{ps:List Sy}(d:m9 ps)(c:Int→Int):∀(f g k:Nat)(a:Int),k<ps.length→ps.length-k≤f→ps.length-k≤g→FF c ps f k a=FF c ps g k a
 |0,_,k,_,h,h1,_=>by omega
 |_+1,0,k,_,h,_,h2=>by omega
 |f+1,g+1,k,a,h,h1,h2=>by
  unfold FF;by_cases b:(ps.getD k c6).code=6
  ·rw[if_pos b,if_pos b]
  ·rw[if_neg b,if_neg b]
   obtain⟨_,i,e⟩:=gH d c k a h b;rw[kF d c f g _ _ e (by omega) (by omega)]
def r7(b:Int→Int)(ps:List Sy)(k:Nat)(a:Int):Int×Nat:=FF b ps ps.length k a
theorem B9{ps:List Sy}(e:m9 ps)(b:Int→Int)(k:Nat)(a:Int)(d:k<ps.length)(c:(ps.getD k c6).code=6):r7 b ps k a=((ps.getD k c6).k,1):=by
 unfold r7;rw[kF e b ps.length (ps.length+1) k a d (by omega) (by omega)];unfold FF;rw[if_pos c]
theorem q0{ps:List Sy}(e:m9 ps)(b:Int→Int)(k:Nat)(a:Int)(d:k<ps.length)(c:(ps.getD k c6).code≠6):
  r7 b ps k a=DN (r7 b ps (J4 b (ps.getD k c6) k a).1 (J4 b (ps.getD k c6) k a).2):=by
 obtain⟨_,f,g⟩:=gH e b k a d c;unfold r7;rw[kF e b ps.length (ps.length+1) k a d (by omega) (by omega)]
 conv=>lhs;unfold FF
 rw[if_neg c]
def N6(a:Int→Int)(ps:List Sy):Int×Nat:=r7 a ps 0 0
theorem a0h{c:Int}:l0 c=Bt↔(c=21∨c=37∨c=53∨c=69):=by unfold l0;simp[or_assoc]
theorem T8{s t:Sy}(b:s.code=t.code)(c:s.k=t.k)(a:Int):r4 s a=r4 t a:=by unfold r4;rw[b,c]
theorem nR{s:Sy}{a n:Int}(g:H5 s a n):aM s a n=Bt:=by
 unfold aM cE N5 l0;rcases g with⟨b,c,d,e,f⟩|⟨b,c,d⟩|⟨b,c,d⟩|⟨b,e,d,c,f⟩|⟨b,⟨c,e⟩,d,f⟩
 ·simp[b,c,d,e,f]
 ·simp[b,c,d]
 ·simp[b,c,d]
 ·simp[b,c,d,e,f]
 ·rcases b with b|b|b|b<;>simp[b,c,d,e,f]
theorem KD{ps:List Sy}(h:m9 ps):fE ps=Bt:=by
 unfold fE;simp only[Bool.and_eq_true,decide_eq_true_eq,List.all_eq_true,List.mem_range,beq_iff_eq];exact⟨⟨⟨h.l1,h.l2⟩,h.last⟩,h.one⟩
def mv(f:Int→Int)(s:Sy):Sy:=if l0 s.code then{s with th:=f s.th,el:=f s.el}else if s.code=5 then{s with th:=f s.th}else s
theorem I2(f:Int→Int)(s:Sy):(mv f s).code=s.code:=by unfold mv;(repeat' split)<;>rfl
theorem NU(f:Int→Int)(s:Sy):(mv f s).k=s.k:=by unfold mv;(repeat' split)<;>rfl
theorem r8(f:Int→Int){s:Sy}(b:s.code=32∨s.code=84∨s.code=6):mv f s=s:=by
 unfold mv;have a:l0 s.code=Bf:=by
  cases e:l0 s.code
  ·rfl
  ·rw[a0h]at e;omega
 rw[if_neg (by rw[a];decide),if_neg (by omega)]
theorem lZ(f:Int→Int){s:Sy}(h:s.code=5):mv f s= {s with th:=f s.th}:=by
 unfold mv;rw[if_neg (by rw[h];decide),if_pos h]
theorem Q1(f:Int→Int){s:Sy}(h:l0 s.code=Bt):mv f s= {s with th:=f s.th,el:=f s.el}:=by
 unfold mv;rw[if_pos h]
theorem KB{f:Int→Int}{s:Sy}{a n b m:Int}(i:H5 s a n)(g:∀t:Int,a<t→t<n→b<f t∧f t<m):H5 (mv f s) b m:=by
 rcases i with⟨c,d,e,h⟩|⟨c,d,e⟩|⟨c,d,e⟩|⟨c,h,e,d⟩|⟨c,d,e⟩
 ·rw[r8 f (.inl c)];exact .ld c d e h
 ·rw[r8 f (.inr (.inl c))];exact .an c d e
 ·rw[r8 f (.inr (.inr c))];exact .re c d e
 ·rw[lZ f c];exact .ja c h e (g _ d.1 d.2)
 ·rw[Q1 f (a0h.2 c)];exact .as c (g _ d.1 d.2) (g _ e.1 e.2)
theorem UX{f g:Int→Int}{s:Sy}{a n:Int}(h:H5 s a n)(d:∀t:Int,a<t→t<n→f t=g t):mv f s=mv g s:=by
 rcases h with⟨b,_,_,_⟩|⟨b,_,_⟩|⟨b,_,_⟩|⟨b,_,_,c⟩|⟨b,c,e⟩
 ·rw[r8 f (.inl b),r8 g (.inl b)]
 ·rw[r8 f (.inr (.inl b)),r8 g (.inr (.inl b))]
 ·rw[r8 f (.inr (.inr b)),r8 g (.inr (.inr b))]
 ·rw[lZ f b,lZ g b,d _ c.1 c.2]
 ·rw[Q1 f (a0h.2 b),Q1 g (a0h.2 b),d _ c.1 c.2,d _ e.1 e.2]
theorem mI(f:Sy→Sy)(ps:List Sy)(i:Nat)(h:i<ps.length):(ps.map f).getD i c6=f (ps.getD i c6):=by
 simp[a8,h]
theorem xL{a b:List Sy}(f:a.length=b.length)(d:∀i,i<a.length→a.getD i c6=b.getD i c6):a=b:=by
 refine List.ext_getElem f fun i c e=> ?_
 have:=d i c;simpa[a8,c,e]using this
def T7(ps:List Sy)(kk:Int)(z:Nat):Nat→Nat
 |0=>z
 |m+1=>if(ps.getD m c6).code=6∧(ps.getD m c6).k=kk then m else T7 ps kk z m
def E8(ps:List Sy)(t:Int):Int:=if(ps.getD t.toNat c6).code=6 then(T7 ps (ps.getD t.toNat c6).k 0 ps.length:Nat)else t
def A7(ps:List Sy):List Sy:=ps.map (mv (E8 ps))
theorem BL(ps:List Sy)(kk:Int)(z:Nat):∀m t,t<m→(ps.getD t c6).code=6→(ps.getD t c6).k=kk→
  t≤T7 ps kk z m∧T7 ps kk z m<m∧(ps.getD (T7 ps kk z m) c6).code=6∧(ps.getD (T7 ps kk z m) c6).k=kk
 |0,t,h,_,_=>by omega
 |m+1,t,h,h1,h2=>by
  unfold T7;by_cases e:(ps.getD m c6).code=6∧(ps.getD m c6).k=kk
  ·rw[if_pos e]
   exact⟨by omega,by omega,e.1,e.2⟩
  ·rw[if_neg e]
   have g:t<m:=by
    by_cases f:t=m
    ·subst f;exact absurd ⟨h1,h2⟩ e
    ·omega
   obtain⟨a,b,c,d⟩:=BL ps kk z m t g h1 h2;exact⟨a,by omega,c,d⟩
theorem kT(ps:List Sy)(t:Nat)(g:t<ps.length):∃u:Nat,E8 ps t=u∧t≤u∧u<ps.length∧(ps.getD u c6).code=(ps.getD t c6).code∧((ps.getD t c6).code=6→(ps.getD u c6).k=(ps.getD t c6).k)∧((ps.getD t c6).code≠6→u=t):=by
 unfold E8;rw[a4A];by_cases f:(ps.getD t c6).code=6
 ·rw[if_pos f]
  obtain⟨a,b,c,d⟩:=BL ps (ps.getD t c6).k 0 ps.length t g f rfl;exact⟨_,rfl,a,b,by rw[c,f],fun _=>d,fun e=>absurd f e⟩
 ·rw[if_neg f]
  exact⟨t,rfl,a7 _,g,rfl,fun _=>rfl,fun _=>rfl⟩
theorem G5(ps:List Sy):(A7 ps).length=ps.length:=by simp[A7]
theorem eM(ps:List Sy)(i:Nat)(h:i<ps.length):(A7 ps).getD i c6=mv (E8 ps) (ps.getD i c6):=mI _ ps i h
theorem G4{ps:List Sy}(a:m9 ps):m9 (A7 ps):=by
 refine⟨by rw[G5];exact a.l1,by rw[G5];exact a.l2,?_,fun i hi=> ?_⟩
 ·have:=a.l1
  rw[G5,eM ps _ (by omega),I2];exact a.last
 ·rw[G5]at hi⊢
  rw[eM ps i hi];refine nR (KB (a0P (a.one i hi)) fun t b c=> ?_);obtain⟨n,rfl⟩:∃n:Nat,t=n:=⟨t.toNat,by omega⟩;obtain⟨u,e,d,f,_⟩:=kT ps n (by omega);rw[e];omega
theorem bD{ps:List Sy}(d:m9 ps)(c:Int→Int):∀(m k:Nat)(a:Int),ps.length-k≤m→k<ps.length→r7 c (A7 ps) k a=r7 c ps k a
 |0,k,a,h,hk=>by omega
 |m+1,k,a,h,hk=>by
  have r:=G4 d;have z:k<(A7 ps).length:=by rw[G5];exact hk
  have i:=eM ps k hk;have F:=a0P (d.one k hk);by_cases f:(ps.getD k c6).code=6
  ·rw[B9 r c k a z (by rw[i,I2];exact f),B9 d c k a hk f,i,NU]
  ·obtain⟨N,P,w⟩:=gH d c k a hk f
   rw[q0 r c k a z (by rw[i,I2];exact f),q0 d c k a hk f,i];have v:∀(t:Nat)(b:Int),k<t→t<ps.length→r7 c (A7 ps) (E8 ps t).toNat b=r7 c ps t b:=fun t b Q l=>by
    obtain⟨u,e,R,x,D,E,C⟩:=kT ps t l;rw[e,a4A];by_cases j:(ps.getD t c6).code=6
    ·have G:u<(A7 ps).length:=by rw[G5];exact x
     have y:=eM ps u x;rw[B9 r c u b G (by rw[y,I2,D];exact j),B9 d c t b l j,y,NU,E j]
    ·rw[C j]
     exact bD d c m t b (by omega) l
   generalize S:ps.getD k c6=s at*;have n:r4 (mv (E8 ps) s) a=r4 s a:=T8 (I2 _ _) (NU _ _) a;rcases F with⟨q,_,_,_⟩|⟨q,_,_⟩|⟨q,_,_⟩|⟨q,_,_,H⟩|⟨q,H,T⟩
   ·rw[r8 _ (.inl q),bD d c m _ _ (by omega) w]
   ·rw[r8 _ (.inr (.inl q)),bD d c m _ _ (by omega) w]
   ·exact absurd q f
   ·obtain⟨t,g⟩:∃t:Nat,s.th=t:=⟨s.th.toNat,by omega⟩
    have e:=v t a (by omega) (by omega);rw[lZ _ q]at n⊢;have o:J4 c s k a=(t,a):=by rw[bJ q,g,a4A]
    have p:J4 c {s with th:=E8 ps s.th} k a=((E8 ps t).toNat,a):=by rw[bJ (s:= {s with th:=E8 ps s.th}) q,g]
    rw[o,p,e]
   ·have L:=a0h.2 q
    obtain⟨t,g⟩:∃t:Nat,s.th=t:=⟨s.th.toNat,by omega⟩;obtain⟨u,A⟩:∃u:Nat,s.el=u:=⟨s.el.toNat,by omega⟩;have e:=v t a (by omega) (by omega);have B:=v u a (by omega) (by omega);rw[Q1 _ L]at n⊢;have o:J4 c s k a=if r4 s a then(t,a)else(u,a):=by
     rw[bK (by omega),g,A,a4A,a4A]
    have p:J4 c {s with th:=E8 ps s.th,el:=E8 ps s.el} k a=if r4 s a then((E8 ps t).toNat,a)else((E8 ps u).toNat,a):=by
     rw[bK (s:= {s with th:=E8 ps s.th,el:=E8 ps s.el}) (by dsimp only;omega),n,g,A]
    rw[o,p];cases r4 s a
    ·rw[if_neg (by decide),if_neg (by decide),B]
    ·rw[if_pos rfl,if_pos rfl,e]
theorem TA{ps:List Sy}(f:m9 ps)(m:∀i∈ps,i.ok):∀i∈A7 ps,i.ok:=fun i hi=>by
 have s:=f.l2;unfold A7 at hi;obtain⟨j,k,rfl⟩:=List.getElem_of_mem hi;have c:j<ps.length:=by simpa using k
 have e:(List.map (mv (E8 ps)) ps)[j]=mv (E8 ps) ps[j]:=by simp
 rw[e];have h:ps.getD j c6=ps[j]:=by simp[a8,c]
 have d:=a0P (f.one j c);have l:=m _ (a30 c);rw[h]at d;have g:H5 (mv (E8 ps) ps[j]) (-1) ps.length:=KB d fun t q a=>by
  obtain⟨n,rfl⟩:∃n:Nat,t=n:=⟨t.toNat,by omega⟩;obtain⟨u,e,b,r,_⟩:=kT ps n (by omega);rw[e];omega
 obtain⟨o,p,v,w⟩:=l;refine⟨by rw[I2];exact o,by rw[NU];exact p,?_⟩;unfold LJ;rcases g with⟨_,a,b,_⟩|⟨_,a,b⟩|⟨_,a,b⟩|⟨_,_,b,a⟩|⟨_,a,b⟩<;>omega
inductive It where
 |put (s:Sy)
 |jmp (c k:Int) (t e:Nat)
 |here (x:Nat)
def It.n:It→Nat
 | .here _=>0
 |_=>1
def m0:List It→Nat
 |[]=>0
 |i::r=>i.n+m0 r
def J7:List It→List Nat
 |[]=>[]
 | .here x::r=>x::J7 r
 |_::r=>J7 r
def a1D(a:Nat→Nat):It→List Sy
 | .put s=>[s]
 | .jmp c k t e=>[⟨c,k,(a t:Int),if c=5 then 0 else(a e:Int)⟩]
 | .here _=>[]
def Z3:List It→Nat→Nat→Nat→Nat
 |[],_,_,v=>v
 | .here y::r,n,x,v=>Z3 r n x (if y=x then n else v)
 | .put _::r,n,x,v=>Z3 r (n+1) x v
 | .jmp _ _ _ _::r,n,x,v=>Z3 r (n+1) x v
def F6(T:List It):List Sy:=T.flatMap (a1D fun x=>Z3 T 0 x 0)
theorem g2:∀A B:List It,m0 (A++B)=m0 A+m0 B
 |[],B=>by simp[m0]
 |i::A,B=>by show i.n+m0 (A++B)=i.n+m0 A+m0 B;rw[g2 A B];omega
theorem m4:∀A B:List It,J7 (A++B)=J7 A++J7 B
 |[],B=>rfl
 | .here x::A,B=>congrArg (x::·) (m4 A B)
 | .put _::A,B=>m4 A B
 | .jmp _ _ _ _::A,B=>m4 A B
theorem bH:∀(A B:List It)(n x v:Nat),Z3 (A++B) n x v=Z3 B (n+m0 A) x (Z3 A n x v)
 |[],B,n,x,v=>rfl
 | .here y::A,B,n,x,v=>by
  show Z3 (A++B) n x _=Z3 B (n+(0+m0 A)) x (Z3 A n x _);rw[bH A B,a4E]
 | .put _::A,B,n,x,v=>by
  show Z3 (A++B) (n+1) x v=Z3 B (n+(1+m0 A)) x (Z3 A (n+1) x v);rw[bH A B,Nat.add_assoc]
 | .jmp _ _ _ _::A,B,n,x,v=>by
  show Z3 (A++B) (n+1) x v=Z3 B (n+(1+m0 A)) x (Z3 A (n+1) x v);rw[bH A B,Nat.add_assoc]
theorem iO:∀(a:List It)(n x v:Nat),x∉J7 a→Z3 a n x v=v
 |[],n,x,v,_=>rfl
 | .here y::a,n,x,v,h=>by
  have b:¬y=x:=fun e=>h (by rw[e];exact List.mem_cons_self)
  show Z3 a n x _=v;rw[if_neg b];exact iO a n x v fun c=>h (List.mem_cons_of_mem _ c)
 | .put _::a,n,x,v,h=>iO a (n+1) x v h
 | .jmp _ _ _ _::a,n,x,v,h=>iO a (n+1) x v h
theorem a3y(P Q:List It)(x:Nat)(h:x∉J7 Q):Z3 (P++ .here x::Q) 0 x 0=m0 P:=by
 rw[bH];show Z3 Q _ x (if x=x then _ else _)=_;rw[if_pos rfl,iO Q _ x _ h,a4E]
theorem jD(b:Nat→Nat):∀a:List It,(a.flatMap (a1D b)).length=m0 a
 |[]=>rfl
 |i::r=>by
  rw[List.flatMap_cons,a2e,jD b r];cases i<;>rfl
theorem Q7(T:List It):(F6 T).length=m0 T:=jD _ T
theorem jR(P S:List It)(i:It)(s:Sy)(h:a1D (fun x=>Z3 (P++i::S) 0 x 0) i=[s]):(F6 (P++i::S)).getD (m0 P) c6=s:=by
 unfold F6;generalize(fun x=>Z3 (P++i::S) 0 x 0)=ρ at*;rw[List.flatMap_append,List.flatMap_cons,h,a8,List.getElem?_append_right (by rw[jD];exact a7 _),jD,Nat.sub_self];rfl
def after(x:Nat):List It→List It
 |[]=>[]
 | .here y::r=>if y=x then r else after x r
 | .put _::r=>after x r
 | .jmp _ _ _ _::r=>after x r
theorem L6(x:Nat):∀r:List It,(after x r).length≤r.length
 |[]=>a7 _
 | .here y::r=>by
  unfold after;split
  ·simp
  ·exact Nat.le_succ_of_le (L6 x r)
 | .put _::r=>Nat.le_succ_of_le (L6 x r)
 | .jmp _ _ _ _::r=>Nat.le_succ_of_le (L6 x r)
theorem Y4(x:Nat):∀r:List It,x∈J7 r→∃P,r=P++ .here x::after x r
 |[],a=>by cases a
 | .here y::r,a=>by
  unfold after;split
  ·rename_i e;exact⟨[],by rw[e];rfl⟩
  ·rename_i e
   rcases List.mem_cons.1 a with a|a
   ·exact absurd a.symm e
   ·obtain⟨P,b⟩:=Y4 x r a
    exact⟨.here y::P,congrArg (.here y::·) b⟩
 | .put s::r,a=>let⟨P,b⟩:=Y4 x r a;⟨.put s::P,congrArg (.put s::·) b⟩
 | .jmp c k t e::r,a=>let⟨P,b⟩:=Y4 x r a;⟨.jmp c k t e::P,congrArg (.jmp c k t e::·) b⟩
theorem E5(x:Nat):∀a B:List It,x∉J7 a→after x (a++B)=after x B
 |[],B,_=>rfl
 | .here y::a,B,h=>by
  have b:¬y=x:=fun e=>h (by rw[e];exact List.mem_cons_self)
  show(if y=x then _ else after x (a++B))=_;rw[if_neg b];exact E5 x a B fun c=>h (List.mem_cons_of_mem _ c)
 | .put _::a,B,h=>E5 x a B h
 | .jmp _ _ _ _::a,B,h=>E5 x a B h
theorem y0(x:Nat)(B:List It):after x (.here x::B)=B:=by unfold after;rw[if_pos rfl]
def JR(s:Sy):Prop:=s.th=0∧s.el=0∧(0≤s.k∧s.k<4294967296)∧(s.code=32∧s.k % 4=0∧s.k<64∨s.code=84∨s.code=6)
def a2v(c k:Int):Prop:=(0≤k∧k<4294967296)∧(c=5∧k=0∨c=21∨c=37∨c=53∨c=69)
def wf:List It→Prop
 |[]=>False
 | .here x::r=>x∉J7 r∧wf r
 | .put s::r=>JR s∧((r=[]∧s.code=6)∨wf r)
 | .jmp c k t e::r=>a2v c k∧t∈J7 r∧(c=5∨e∈J7 r)∧wf r
theorem EH:∀T,wf T→1≤m0 T
 |[],h=>h.elim
 | .here x::r,h=>by have:=EH r h.2;show 1≤0+m0 r;omega
 | .put s::r,h=>by show 1≤1+m0 r;omega
 | .jmp _ _ _ _::r,h=>by show 1≤1+m0 r;omega
theorem hZ:∀(P:List It)(i:It)(S:List It),wf (P++i::S)→wf (i::S)
 |[],i,S,h=>h
 | .here x::r,i,S,h=>hZ r i S h.2
 | .put s::r,i,S,h=>by
  rcases h.2 with h|h
  ·simp at h
  ·exact hZ r i S h
 | .jmp _ _ _ _::r,i,S,h=>hZ r i S h.2.2.2
theorem a20(P Q:List It)(x:Nat)(b:wf (P++ .here x::Q)):Z3 (P++ .here x::Q) 0 x 0=m0 P∧wf Q:=
 have a:=hZ P _ Q b
 ⟨a3y P Q x a.1,a.2⟩
theorem IY{P r:List It}{i:It}{x:Nat}(b:wf (P++i::r))(g:x∈J7 r)(hi:i.n=1):∃a,P++i::r=a++ .here x::after x r∧Z3 (P++i::r) 0 x 0=m0 a∧wf (after x r)∧m0 P<m0 a∧m0 a<m0 (P++i::r):=by
 obtain⟨R,f⟩:=Y4 x r g;have e:P++i::r=(P++i::R)++ .here x::after x r:=by
  conv=>lhs;rw[f]
  simp
 rw[e]at b⊢;obtain⟨d,c⟩:=a20 _ _ x b;have:=EH _ c;refine⟨_,rfl,d,c,?_,?_⟩
 ·rw[g2];show _<_+(i.n+_);omega
 ·rw[g2 (P++i::R)];show _<_+(0+_);omega
theorem DU{b P S:List It}{i:It}(z:b=P++i::S)(m:wf b)(hi:i.n=1):H5 ((F6 b).getD (m0 P) c6) (m0 P) (m0 b)∧((F6 b).getD (m0 P) c6).ok∨131072<m0 b:=by
 by_cases C:m0 b≤131072
 ·left
  subst z;have u:=hZ P i S m;rcases i with s|⟨c,k,t,e⟩|x
  ·rw[jR P S _ s rfl]
   obtain⟨⟨g,d,n,a⟩,_⟩:=u;refine⟨?_,?_⟩
   ·rcases a with⟨a,f,y⟩|a|a
    ·exact .ld a g d ⟨f,y⟩
    ·exact .an a g d
    ·exact .re a g d
   ·refine⟨by omega,n,?_,?_⟩
    ·rw[g];constructor<;>omega
    ·rw[d];constructor<;>omega
  ·obtain⟨⟨r,D⟩,d,n,a⟩:=u
   rw[jR P S _ _ rfl];dsimp only;obtain⟨_,_,h,_,E,F⟩:=IY m d rfl;by_cases f:c=5
   ·subst f
    rw[if_pos rfl];have B:k=0:=by omega
    have j:((m0 P:Nat):Int)<((Z3 (P++ .jmp 5 k t e::S) 0 t 0:Nat):Int):=by rw[h];omega
    have l:((Z3 (P++ .jmp 5 k t e::S) 0 t 0:Nat):Int)<((m0 (P++ .jmp 5 k t e::S):Nat):Int):=by rw[h];omega
    generalize Z3 (P++ .jmp 5 k t e::S) 0 t 0=p at*;refine⟨.ja rfl B rfl ⟨j,l⟩,⟨⟨by show(0:Int)≤5;decide,by show(5:Int)<65536;decide⟩,r,?_,?_⟩⟩
    ·show LJ (p:Int);unfold LJ;omega
    ·show LJ (0:Int);unfold LJ;decide
   ·rw[if_neg f]
    obtain⟨_,_,o,_,G,H⟩:=IY m (n.resolve_left f) rfl;have j:((m0 P:Nat):Int)<((Z3 (P++ .jmp c k t e::S) 0 t 0:Nat):Int):=by rw[h];omega
    have l:((Z3 (P++ .jmp c k t e::S) 0 t 0:Nat):Int)<((m0 (P++ .jmp c k t e::S):Nat):Int):=by rw[h];omega
    have v:((m0 P:Nat):Int)<((Z3 (P++ .jmp c k t e::S) 0 e 0:Nat):Int):=by rw[o];omega
    have w:((Z3 (P++ .jmp c k t e::S) 0 e 0:Nat):Int)<((m0 (P++ .jmp c k t e::S):Nat):Int):=by rw[o];omega
    generalize Z3 (P++ .jmp c k t e::S) 0 t 0=p at*;generalize Z3 (P++ .jmp c k t e::S) 0 e 0=q at*;have A:c=21∨c=37∨c=53∨c=69:=by omega
    refine⟨.as A ⟨j,l⟩ ⟨v,w⟩,⟨⟨by show 0≤c;omega,by show c<65536;omega⟩,r,?_,?_⟩⟩
    ·show LJ (p:Int);unfold LJ;omega
    ·show LJ (q:Int);unfold LJ;omega
  ·cases hi
 ·exact .inr (by omega)
theorem IE:∀(a:List It)(k:Nat),k<m0 a→∃P i S,a=P++i::S∧m0 P=k∧i.n=1
 |[],k,h=>absurd h (Nat.not_lt_zero _)
 |i::r,k,h=>by
  change k<i.n+m0 r at h
  by_cases b:i.n=1∧k=0
  ·exact⟨[],i,r,rfl,b.2.symm,b.1⟩
  ·have f:i.n=0∨i.n=1:=by cases i<;>simp[It.n]
   obtain⟨P,j,S,c,e,d⟩:=IE r (k-i.n) (by omega);exact⟨i::P,j,S,congrArg (i::·) c,by show i.n+m0 P=k;omega,d⟩
theorem nH:∀f,wf f→∃P s,f=P++[.put s]∧s.code=6
 |[],a=>a.elim
 | .here x::r,a=>let⟨P,s,b,d⟩:=nH r a.2;⟨.here x::P,s,congrArg (_::·) b,d⟩
 | .put s::r,a=>by
  rcases a.2 with a|a
  ·exact⟨[],s,by rw[a.1];rfl,a.2⟩
  ·obtain⟨P,s',b,d⟩:=nH r a
   exact⟨.put s::P,s',congrArg (_::·) b,d⟩
 | .jmp c k t e::r,a=>let⟨P,s,b,d⟩:=nH r a.2.2.2;⟨.jmp c k t e::P,s,congrArg (_::·) b,d⟩
theorem oB{a:List It}(b:wf a)(h:m0 a≤131072):m9 (F6 a):=by
 refine⟨by rw[Q7];exact EH a b,by rw[Q7];exact h,?_,fun k f=> ?_⟩
 ·obtain⟨P,s,c,d⟩:=nH a b
  have:=jR P [] (.put s) s rfl;rw[Q7,c,g2];rw[show m0 P+m0 [It.put s]-1=m0 P from by show m0 P+(1+0)-1=_;omega,this];exact d
 ·rw[Q7]at f⊢
  obtain⟨P,i,S,c,d,g⟩:=IE a k f;rw[←d];rcases DU c b g with e|e
  ·exact nR e.1
  ·omega
theorem ZD{a:List It}(d:wf a)(l:m0 a≤131072):∀s∈F6 a,s.ok:=fun s j=>by
 obtain⟨k,b,rfl⟩:=List.getElem_of_mem j;have h:=b;rw[Q7]at b;obtain⟨P,i,S,e,f,g⟩:=IE a k b;rcases DU e d g with c|c
 ·have:=c.2
  rw[f,a8,e9 h]at this;exact this
 ·omega
def ev(b:Int→Int):List It→Int→Int
 |[],_=>0
 | .here _::r,a=>ev b r a
 | .put s::r,a=>if s.code=6 then s.k else ev b r (if s.code=32 then b s.k else bits .and V a s.k)
 | .jmp c k t e::r,a=>if r4 ⟨c,k,0,0⟩ a then ev b (after t r) a else ev b (after e r) a
termination_by T=>T.length
decreasing_by
 all_goals simp
 all_goals have:=L6 t r;have:=L6 e r;omega
theorem jQ{f:List It}(b:wf f)(h:m0 f≤131072)(d:Int→Int):∀(m:Nat)(P S:List It)(a:Int),S.length≤m→f=P++S→wf S→(r7 d (F6 f) (m0 P) a).1=ev d S a
 |_,P,[],a,_,_,hS=>hS.elim
 |0,P,i::r,a,hm,_,_=>by simp at hm
 |m+1,P,.here x::r,a,hm,hT,hS=>by
  have:=jQ b h d m (P++[.here x]) r a (by simp at hm;omega) (by rw[hT];simp) hS.2;rw[g2]at this;rw[ev];exact this
 |m+1,P,.put s::r,a,hm,hT,hS=>by
  have o:=oB b h;have p:m0 P<(F6 f).length:=by rw[Q7,hT,g2];show _<_+(1+_);omega
  have g:(F6 f).getD (m0 P) c6=s:=by rw[hT];exact jR P r _ s rfl
  rw[ev];by_cases j:s.code=6
  ·rw[if_pos j,B9 o d _ a p (by rw[g];exact j),g]
  ·rw[if_neg j,q0 o d _ a p (by rw[g];exact j),g]
   have L:wf r:=hS.2.resolve_left fun q=>j q.2
   have F:s.code=32∨s.code=84:=by have:=hS.1.2.2.2;omega
   have ih:=jQ b h d m (P++[.put s]) r (if s.code=32 then d s.k else bits .and V a s.k) (by simp at hm;omega) (by rw[hT];simp) L;rw[g2]at ih;have H:J4 d s (m0 P) a=(m0 P+1,if s.code=32 then d s.k else bits .and V a s.k):=by
    unfold J4;by_cases l:s.code=32
    ·rw[if_pos l,if_pos l]
    ·rw[if_neg l,if_neg l,if_pos (F.resolve_left l)]
   rw[H];exact ih
 |m+1,P,.jmp c k t e::r,a,hm,hT,hS=>by
  have o:=oB b h;have p:m0 P<(F6 f).length:=by rw[Q7,hT,g2];show _<_+(1+_);omega
  have g:(F6 f).getD (m0 P) c6=⟨c,k,(Z3 f 0 t 0:Nat),if c=5 then 0 else((Z3 f 0 e 0:Nat):Int)⟩:=by rw[hT];exact jR P r _ _ rfl
  obtain⟨⟨W,T⟩,D,E,R⟩:=hS;rw[q0 o d _ a p (by rw[g];show¬c=6;omega),g,ev];have G:∀x A,r4 ⟨c,k,x,A⟩ a=r4 ⟨c,k,0,0⟩ a:=fun x A=>T8 rfl rfl a
  rw[bK (by show c≠32∧c≠84;omega),G];rw[hT]at b;obtain⟨B,v,w,N,_,_⟩:=IY b D rfl;rw[←hT]at b v w;rcases u:r4 ⟨c,k,0,0⟩ a with _|_
  ·have n:c≠5:=fun n=>by rw[xD (s:=⟨c,k,0,0⟩) n]at u;cases u
   rw[hT]at b;obtain⟨C,y,z,Q,_,_⟩:=IY b (E.resolve_left n) rfl;rw[←hT]at b y z;have ih:=jQ b h d m (C++[.here e]) (after e r) a (by have:=L6 e r;simp at hm;omega) (by rw[y];simp) Q;rw[g2]at ih;simp only[a4x,if_false,if_neg n,z];exact ih
  ·have ih:=jQ b h d m (B++[.here t]) (after t r) a (by have:=L6 t r;simp at hm;omega) (by rw[v];simp) N
   rw[g2]at ih;simp only[if_true,w];exact ih
theorem rK{a:List It}(c:wf a)(d:m0 a≤131072)(b:Int→Int):(N6 b (F6 a)).1=ev b a 0:=jQ c d b a.length [] a 0 (a7 _) rfl c
structure j6 where
 arg:Int
 mask:Int
 value:Int
 act:Int
 deriving DecidableEq
def a3q:p6 j6:=⟨4,fun t=>[I M t.arg,I U6 t.mask,I U6 t.value,I V t.act],fun _=>rfl,fun x u a=>by simp at a;rcases a with rfl|rfl|rfl|rfl<;>rfl⟩
theorem zC:mU prog 232 392 (Ag #[I M 0,I U6 0,I U6 0,I V 0]) 4 32:=⟨underlying232,by kernel_rfl,rfl,by decide,by decide⟩
theorem fO{a c:Type}(f:a→c)(l:List a)(k:Nat)(b:k<l.length):(l.take (k+1)).map f=(l.take k).map f++[f l[k]]:=by
 rw[a4a b,a4F];rfl
theorem dM(arg d a:Int)(h:Option Ad)(n c:Nat)(l:List Int)(W:Wd)(p:l.length=n)(H:n≤1000)(j:h9 W h (i3 U6 l)):
  Ca prog 242 #[I M arg,I U6 d,I V a,Z h n c] W fun e q=>∃v,e=X v∧e4 q W 392 a3q v (l.map fun x=>⟨arg,d,x,a⟩)∧a9 W q:=by
 obtain⟨r,s,t⟩:=p7 j p (fun k(o:k<l.length)=>fO (fun x=>j6.mk arg d x a) l k o);clear j p;go_in;go_wp2_with fail
 go_loopw [9,14] (fun A i wr=>∃k:Nat,k≤n∧i=I M k∧e4 wr W 392 a3q A ((l.take k).map (fun x=>j6.mk arg d x a))∧a9 W wr) (fun _ i _=>n-(intOf i).toNat)
 case atStart=>exact⟨0,by omega,rfl,e4.nil _ _ _ _,a9.refl W⟩
 case round=>
  obtain⟨k,o,rfl,g,f⟩:=hrel;have F:=s.out;by_cases G:k<n
  ·obtain⟨b,L,rfl,C,w⟩:=(r.h f).at_ (k:=k) (by simp;omega)
   rw[List.getElem_map]at w;have m:=t k (by omega);generalize l[k]'(by omega)=x at*;have E:((l.take k).map (fun x=>j6.mk arg d x a)).length≤k:=by simp;omega
   generalize(l.take k).map (fun x=>j6.mk arg d x a)=xs at*;have u:=a6 m;clear m;go_wp2_with(at_builtin;refine j3 rfl (Tm 18) (Tm 24) 232 392 rfl zC W _ xs rfl (g.h ((a9.refl wr).alloc _)) _ 1 1 [⟨arg,d,x,a⟩] rfl rfl (h9.f (b9.new _ _ _) rfl) (by omega) (f.alloc _).size ?_;intro N P y z D B)
   go_roundw
   case rel=>exact⟨k+1,by omega,by go_num,by rw[u.out];exact y,z W (f.alloc _) (a7 _)⟩
   case measure=>simp[intOf];omega
  ·obtain rfl:k=n:=by omega
   rw[List.take_of_length_le (by omega)]at g;go_wp2;go_ret;exact⟨_,rfl,g,f⟩
theorem nT(arg a:Int)(g:Option Ad)(n c:Nat)(l:List Int)(W:Wd)(o:l.length=n)(G:n≤1000)(h:h9 W g (i3 U6 l)):
  Ca prog 244 #[I M arg,I V a,Z g n c] W fun e p=>∃v,e=X v∧e4 p W 392 a3q v (l.map fun x=>⟨arg,x,x,a⟩)∧a9 W p:=by
 obtain⟨q,r,s⟩:=p7 h o (fun k(m:k<l.length)=>fO (fun x=>j6.mk arg x x a) l k m);clear h o;go_in;go_wp2_with fail
 go_loopw [7,12] (fun z i wr=>∃k:Nat,k≤n∧i=I M k∧e4 wr W 392 a3q z ((l.take k).map (fun x=>j6.mk arg x x a))∧a9 W wr) (fun _ i _=>n-(intOf i).toNat)
 case atStart=>exact⟨0,by omega,rfl,e4.nil _ _ _ _,a9.refl W⟩
 case round=>
  obtain⟨k,m,rfl,f,d⟩:=hrel;have E:=r.out;by_cases F:k<n
  ·obtain⟨b,H,rfl,B,u⟩:=(q.h d).at_ (k:=k) (by simp;omega)
   rw[List.getElem_map]at u;have j:=s k (by omega);generalize l[k]'(by omega)=x at*;have D:((l.take k).map (fun x=>j6.mk arg x x a)).length≤k:=by simp;omega
   generalize(l.take k).map (fun x=>j6.mk arg x x a)=xs at*;have t:=a6 j;clear j;go_wp2_with(at_builtin;refine j3 rfl (Tm 16) (Tm 22) 232 392 rfl zC W _ xs rfl (f.h ((a9.refl wr).alloc _)) _ 1 1 [⟨arg,x,x,a⟩] rfl rfl (h9.f (b9.new _ _ _) rfl) (by omega) (d.alloc _).size ?_;intro L N w y C A)
   go_roundw
   case rel=>exact⟨k+1,by omega,by go_num,by rw[t.out];exact w,y W (d.alloc _) (a7 _)⟩
   case measure=>simp[intOf];omega
  ·obtain rfl:k=n:=by omega
   rw[List.take_of_length_le (by omega)]at f;go_wp2;go_ret;exact⟨_,rfl,f,d⟩
def yJ(a b:Int):Int:=if a !=0 then a else b
theorem a2D(a b:Int)(g:Nat)(W:Wd)(l:W.cell? ⟨g,0,J⟩=So (I V a))(m:W.cell? ⟨g,1,J⟩=So (I V b)):
  Ca prog 240 #[Z g 2 2] W fun e j=>e=X (I V (yJ a b))∧W=j:=by
 obtain⟨R,f⟩:∃R,yJ a b=R:=⟨_,rfl⟩;rw[f];have d:=a6 f;clear f;go_in;go_wp2_with fail
 go_loopw [8] (fun i wr=>W=wr∧(i=I M 0∨i=I M 1∧(a !=0)=Bf∨i=I M 2∧(a !=0)=Bf∧(b !=0)=Bf)) (fun i _=>2-(intOf i).toNat)
 case atStart=>exact⟨rfl,.inl rfl⟩
 case round=>
  obtain⟨rfl,rfl|⟨rfl,q⟩|⟨rfl,q,r⟩⟩:=hrel
  ·have k:(yJ a b=if a !=0 then a else b):=rfl
   cases c:a !=0;all_goals
    go_wp2_with fail
    first
     |(go_ret;exact⟨by rw[←d.out,yJ,c];rfl,rfl⟩)
     |(go_roundw
       case rel=>first|exact⟨rfl,.inr (.inl ⟨rfl,c⟩)⟩|exact⟨trivial,.inr (.inl ⟨rfl,c⟩)⟩|exact⟨trivial,.inr (.inl ⟨rfl,trivial⟩)⟩|simp_all
       case measure=>simp[intOf])
  ·cases c:b !=0
   all_goals
    go_wp2_with fail
    first
     |(go_ret;exact⟨by rw[←d.out,yJ,q];rfl,rfl⟩)
     |(go_roundw
       case rel=>first|exact⟨rfl,.inr (.inr ⟨rfl,q,c⟩)⟩|exact⟨trivial,.inr (.inr ⟨rfl,q,c⟩)⟩|exact⟨trivial,.inr (.inr ⟨rfl,q,trivial⟩)⟩|simp_all
       case measure=>simp[intOf])
  ·have h:b=0:=by simpa using r
   go_wp2;go_ret;exact⟨by rw[←d.out,yJ,q,h];rfl,rfl⟩
def T6(a:Int)(n:Nat)(b c:Bool):Bool:=if a==1 then b||decide (0<n)else if a==2 then c||decide (0<n)else Bf
theorem qB(a:Int)(n:Nat)(b c:Bool)(W:Wd):
  Ca prog 241 #[I U8 a,I M n,O b,O c] W fun e f=>e=X (O (T6 a n b c))∧W=f:=by
 have d:T6 a n b c=if a==1 then b||decide (0<n)else if a==2 then c||decide (0<n)else Bf:=rfl
 rw[d];clear d;go_in;cases g:a==1<;>cases h:a==2<;>cases b<;>cases c;all_goals
  go_wp2_with fail
  go_ret;exact⟨by simp,rfl⟩
def r5:List (ByteArray×Int):=[(⟨#[120,56,54,45,54,52]⟩,3221225534),(⟨#[120,56,54]⟩,1073741827),(⟨#[120,51,50]⟩,3221225534),(⟨#[97,114,109]⟩,1073741864),(⟨#[97,114,109,54,52]⟩,3221225655),(⟨#[114,105,115,99,118,54,52]⟩,3221225715)]
def rM:Array Va:=(r5.flatMap fun a=>[Y a.1,I V a.2]).toArray
theorem mQ:∀(k:Nat)(a:k<r5.length)(W:Wd),(Instr.index 212 (Ag rM) (I M k)).run prog W= .ok (Ag #[Y r5[k].1,I V r5[k].2]) W
 |0,_,_|1,_,_|2,_,_|3,_,_|4,_,_|5,_,_=>by kernel_rfl
 |n+6,h,_=>absurd h (by simp[r5])
theorem lJ(W:Wd):Ca prog 116 #[] W fun e a=>e=X (Ag rM)∧a9 W a:=by
 go_in;go_wp2;exact Bp (g0 rfl _ _ _ _ _ _ rfl (b9.new _ _ _) underlying212 rfl (by kernel_rfl)) rfl ⟨rfl,(a9.refl W).alloc _⟩
theorem ZF(s:ByteArray)(c:Int)(W:Wd):(Instr.field 211 (Ag #[Y s,I V c]) 0).run prog W= .ok (Y s) W∧(Instr.field 211 (Ag #[Y s,I V c]) 1).run prog W= .ok (I V c) W:=⟨by kernel_rfl,by kernel_rfl⟩
def rL(a:Int):ByteArray:=if 0≤a then(r5.getD a.toNat (⟨#[]⟩,0)).1 else⟨#[]⟩
def B8(a:Int):Int:=(r5.getD a.toNat (⟨#[]⟩,0)).2
theorem IH(a:Int)(b:a<0∨6≤a)(W:Wd):Ca prog 71 #[I M a] W fun e c=>e=X (Y ⟨#[]⟩)∧a9 W c:=by
 go_in;rcases b with b|b
 all_goals
  go_wp2_with fail
  go_ret;exact⟨rfl,a9.refl W⟩
theorem mS(k:Nat)(a:k<r5.length)(W:Wd):Ca prog 71 #[I M k] W fun e f=>e=X (Y r5[k].1)∧a9 W f:=by
 obtain⟨c,b⟩:=i6 (mQ k a) lJ;have h:k<6:=a;generalize r5[k]=E at*;generalize rM=g at*;go_in;go_wp2_with fail
 apply(b _).mono;rintro e l⟨rfl,d⟩;have j:=c.out;have i:=fun W=>(ZF E.1 E.2 W).1
 go_wp2;go_ret;exact⟨rfl,d⟩
theorem jS(k:Nat)(a:k<r5.length)(W:Wd):Ca prog 189 #[I M k] W fun e f=>e=X (Tp #[I V r5[k].2,I M 0])∧a9 W f:=by
 obtain⟨c,b⟩:=i6 (mQ k a) lJ;have h:k<6:=a;generalize r5[k]=E at*;generalize rM=g at*;go_in;go_wp2_with fail
 apply(b _).mono;rintro e l⟨rfl,d⟩;have j:=c.out;have i:=fun W=>(ZF E.1 E.2 W).2
 go_wp2
 go_ret2
 exact⟨rfl,d⟩
structure m1 where
 nr:Int
 tests:List j6
 act:Int
structure C8 where
 arch:Int
 dflt:Int
 rules:List m1
def jB(T:List It)(n m:Nat):Prop:=∀x∈J7 T,n≤x∧x<m
theorem jB.app{a B:List It}{n m:Nat}(c:jB a n m)(k:jB B n m):jB (a++B) n m:=fun x b=>by
 rw[m4]at b;exact(List.mem_append.1 b).elim (c x) (k x)
theorem jB.mono{a:List It}{n m c b:Nat}(d:jB a n m)(f:c≤n)(g:m≤b):jB a c b:=fun x e=>by have:=d x e;omega
theorem jB.not{a:List It}{n m x:Nat}(b:jB a n m)(c:x<n∨m≤x):x∉J7 a:=fun q=>by have:=b x q;omega
def mF(n:Nat)(b a d:Int)(c:Nat):List It:=
 if a=0 then []else .put ⟨32,b,0,0⟩::((if a=4294967295 then []else [.put ⟨84,a,0,0⟩])++[.jmp 21 d n c,.here n])
def gO(n:Nat)(a:Int):Nat:=if a=0 then n else n+1
def hfB(c:Int→Int)(b a d:Int):Bool:=a==0||(if a=4294967295 then c b else bits .and V (c b) a)==d
theorem KO(n:Nat)(c b e:Int)(d:Nat):jB (mF n c b e d) n (gO n b):=by
 unfold mF gO;split
 ·intro x a;cases a
 ·split
  ·intro x a;rw[List.mem_singleton.1 a];omega
  ·intro x a;rw[List.mem_singleton.1 a];omega
theorem bQ(n:Nat)(a:Int):n≤gO n a:=by unfold gO;split<;>omega
def NoA(d:Int→Int)(c:List It):Prop:=∀a b,ev d c a=ev d c b
theorem KP(b:Int→Int)(n:Nat)(i f d:Int)(c:Nat)(R:List It)(m:c≠n)(j:NoA b R)(l:NoA b (after c R))(a:Int):
  ev b (mF n i f d c++R) a=if hfB b i f d then ev b R 0 else ev b (after c R) 0:=by
 unfold mF hfB;by_cases g:f=0
 ·rw[if_pos g,g]
  exact j _ _
 ·have k:∀x,ev b ([.jmp 21 d n c,.here n]++R) x=if x==d then ev b R 0 else ev b (after c R) 0:=fun x=>by
   show ev b (.jmp 21 d n c:: .here n::R) x=_;rw[ev,y0];show(if(if(21:Int)=21 then x==d else _)=Bt then _ else _)=_;rw[if_pos rfl];split
   ·exact j _ _
   ·show ev b (if n=c then R else after c R) x=_
    rw[if_neg fun e=>m e.symm];exact l _ _
  have e:(f==0)=Bf:=by simp[g]
  rw[if_neg g,e,Bool.false_or,List.cons_append,ev];by_cases h:f=4294967295
  ·rw[if_pos h,if_pos h]
   exact k _
  ·rw[if_neg h,if_neg h,a4s]
   show ev b (.put ⟨84,f,0,0⟩::([.jmp 21 d n c,.here n]++R)) _=_;rw[ev];exact k _
theorem a31(d:Int→Int)(n:Nat)(e f g:Int)(c:Nat)(R:List It)(j:c≠n)(i:NoA d R)(h:NoA d (after c R)):NoA d (mF n e f g c++R):=fun a b=>by
 rw[KP d n e f g c R j i h a,KP d n e f g c R j i h b]
def DZ(n:Nat)(t:j6):List It:=mF (n+1) (cD t.arg 0) (lo t.mask) (lo t.value) n++(mF (gO (n+1) (lo t.mask)) (cD t.arg 4) (hi t.mask) (hi t.value) n++[.put ⟨6,t.act,0,0⟩,.here n])
def sU(n:Nat)(t:j6):Nat:=gO (gO (n+1) (lo t.mask)) (hi t.mask)
def s2(a:Int→Int)(t:j6):Bool:=hfB a (cD t.arg 0) (lo t.mask) (lo t.value)&&hfB a (cD t.arg 4) (hi t.mask) (hi t.value)
theorem oI(n:Nat)(t:j6):n<sU n t:=by
 have a:=bQ (n+1) (lo t.mask);have b:=bQ (gO (n+1) (lo t.mask)) (hi t.mask);unfold sU;omega
theorem a2d(n:Nat)(t:j6):jB (DZ n t) n (sU n t):=by
 have c:=bQ (n+1) (lo t.mask);have a:=bQ (gO (n+1) (lo t.mask)) (hi t.mask);refine((KO _ _ _ _ _).mono (by omega) a).app (((KO _ _ _ _ _).mono (by omega) (a7 _)).app fun x b=> ?_);rw[List.mem_singleton.1 b];exact⟨a7 _,oI n t⟩
theorem wL(c:Int→Int)(k:Int)(R:List It):NoA c (.put ⟨6,k,0,0⟩::R):=fun a b=>by rw[ev,ev];rfl
theorem qT(b:Int→Int)(k:Int)(R:List It)(a:Int):ev b (.put ⟨6,k,0,0⟩::R) a=k:=by rw[ev];rfl
theorem SF(b:Int→Int)(n:Nat)(t:j6)(R:List It)(d:NoA b R)(a:Int):ev b (DZ n t++R) a=if s2 b t then t.act else ev b R 0:=by
 have h:=bQ (n+1) (lo t.mask);have e:DZ n t++R=mF (n+1) (cD t.arg 0) (lo t.mask) (lo t.value) n++(mF (gO (n+1) (lo t.mask)) (cD t.arg 4) (hi t.mask) (hi t.value) n++(.put ⟨6,t.act,0,0⟩:: .here n::R)):=by simp[DZ]
 have c:after n (.put ⟨6,t.act,0,0⟩:: .here n::R)=R:=by show after n (.here n::R)=R;exact y0 _ _
 have f:after n (mF (gO (n+1) (lo t.mask)) (cD t.arg 4) (hi t.mask) (hi t.value) n++(.put ⟨6,t.act,0,0⟩:: .here n::R))=R:=by
  rw[E5 _ _ _ ((KO _ _ _ _ _).not (.inl (by omega))),c]
 have g:=a31 b (gO (n+1) (lo t.mask)) (cD t.arg 4) (hi t.mask) (hi t.value) n (.put ⟨6,t.act,0,0⟩:: .here n::R) (by omega) (wL _ _ _) (by rw[c];exact d);rw[e,KP b _ _ _ _ _ _ (by omega) g (by rw[f];exact d),KP b _ _ _ _ _ _ (by omega) (wL _ _ _) (by rw[c];exact d),f,c,qT];unfold s2;cases hfB b (cD t.arg 0) (lo t.mask) (lo t.value)<;>cases hfB b (cD t.arg 4) (hi t.mask) (hi t.value)<;>rfl
def sA:Nat→List j6→Int→List It
 |_,[],act=>[.put ⟨6,act,0,0⟩]
 |n,t::r,act=>DZ n t++(if t.mask=0 then []else sA (sU n t) r act)
def jW:Nat→List j6→Nat
 |n,[]=>n
 |n,t::r=>if t.mask=0 then sU n t else jW (sU n t) r
def yI(a:Int→Int):List j6→Int→Int
 |[],act=>act
 |t::r,act=>if s2 a t then t.act else yI a r act
theorem gD:∀(l:List j6)(n:Nat),n≤jW n l
 |[],n=>a7 _
 |t::r,n=>by
  have a:=oI n t;have b:=gD r (sU n t);unfold jW;split<;>omega
theorem zU:∀(l:List j6)(n:Nat)(a:Int),jB (sA n l a) n (jW n l)
 |[],n,a=>fun x c=>by cases c
 |t::r,n,a=>by
  have d:=oI n t;have b:=gD r (sU n t);unfold sA jW;split
  ·rw[List.append_nil];exact a2d n t
  ·exact((a2d n t).mono (a7 _) b).app ((zU r _ a).mono (by omega) (a7 _))
theorem yU(d:Int→Int)(t:j6)(c:t.mask=0):s2 d t=Bt:=by
 have a:lo (0:Int)=0:=by decide
 have b:hi (0:Int)=0:=by decide
 unfold s2 hfB;rw[c,a,b];rfl
theorem TI(c:Int→Int):∀(l:List j6)(n:Nat)(d:Int)(R:List It),NoA c (sA n l d++R)∧ev c (sA n l d++R) 0=yI c l d
 |[],n,d,R=>⟨wL _ _ _,qT _ _ _ _⟩
 |t::r,n,d,R=>by
  unfold sA yI;by_cases e:t.mask=0
  ·rw[if_pos e,List.append_nil,yU c t e]
   have key:∀R a,ev c (DZ n t++R) a=t.act:=fun R a=>by
    have g:lo (0:Int)=0:=by decide
    have h:hi (0:Int)=0:=by decide
    unfold DZ mF;rw[e,g,h,if_pos rfl,if_pos rfl];exact qT _ _ _ _
   exact⟨fun a b=>by rw[key,key],key _ _⟩
  ·rw[if_neg e]
   obtain⟨f,i⟩:=TI c r (sU n t) d R;rw[a4s];exact⟨fun a b=>by rw[SF c n t _ f,SF c n t _ f],by rw[SF c n t _ f,i]⟩
def mZ:Nat→Nat→List m1→List It
 |_,_,[]=>[]
 |n,l,r::rs=> .here l::(sA n r.tests r.act++mZ (jW n r.tests) (l+1) rs)
def rsN:Nat→List m1→Nat
 |n,[]=>n
 |n,r::rs=>rsN (jW n r.tests) rs
theorem FJ:∀(rs:List m1)(n:Nat),n≤rsN n rs
 |[],n=>a7 _
 |r::rs,n=>c8 (gD r.tests n) (FJ rs _)
theorem pD:∀(rs:List m1)(n l:Nat)(x:Nat),x∈J7 (mZ n l rs)→(l≤x∧x<l+rs.length)∨(n≤x∧x<rsN n rs)
 |[],n,l,x,a=>by cases a
 |r::rs,n,l,x,a=>by
  have b:=gD r.tests n;have c:=FJ rs (jW n r.tests);rcases List.mem_cons.1 a with rfl|a
  ·exact .inl ⟨a7 _,by simp⟩
  ·rw[m4]at a
   rcases List.mem_append.1 a with a|a
   ·have:=zU r.tests n r.act x a
    refine .inr ⟨this.1,?_⟩;show x<rsN (jW n r.tests) rs;omega
   ·rcases pD rs _ _ x a with a|a
    ·exact .inl ⟨by omega,by simp;omega⟩
    ·exact .inr ⟨by omega,a.2⟩
theorem a2i(c:Int→Int):∀(rs:List m1)(n l:Nat)(d:l+rs.length≤n)(k:Nat)(b:k<rs.length)(R:List It)(a:Int),ev c (after (l+k) (mZ n l rs++R)) a=yI c rs[k].tests rs[k].act
 |[],n,l,d,k,b,R,a=>by cases b
 |r::rs,n,l,d,0,b,R,a=>by
  show ev c (after l (.here l::(_++R))) a=_;rw[y0,a4s];obtain⟨e,f⟩:=TI c r.tests n r.act (mZ (jW n r.tests) (l+1) rs++R);rw[e a 0,f];rfl
 |r::rs,n,l,d,k+1,b,R,a=>by
  simp at d b;have e:=gD r.tests n;show ev c (if l=l+(k+1)then _ else after (l+(k+1)) (sA n r.tests r.act++mZ (jW n r.tests) (l+1) rs++R)) a=_;rw[if_neg (by omega),a4s,E5 _ _ _ ((zU r.tests n r.act).not (.inl (by omega))),show l+(k+1)=l+1+k by omega,a2i c rs _ (l+1) (by omega) k b R a];rfl
end Go.Proofs.YtiomenjfmagknaaGreat
