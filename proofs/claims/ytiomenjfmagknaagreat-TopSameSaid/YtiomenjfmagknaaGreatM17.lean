/- A part of the proof of TopSame: lemmas on the walks of its calls. -/
import Derived.Test.YtiomenjfmagknaaGreatM16
set_option maxHeartbeats 12000000
set_option linter.all false
set_option maxRecDepth 100000
namespace Go.Proofs.YtiomenjfmagknaaGreat
open Go.RowKit Go.ChangeShapes Go.WideShapes Tryz
open Bool renaming false_eq_true→a4x,true→Bt,false→Bf
open Decidable renaming decide→Dc
open Ending renaming returned→X
open Go renaming World→Wd,Value→Va,Calls→Ca,undef→Un,bodyPost_ret→Bp,TypeId→Ti,Addr→Ad,callsIn_of_wp_marks→Cm,callsIn_of_wp→Co,CallsIn→Ci
open Go.Proofs renaming enters_of→Eo
open IntKind renaming i64→M,u32→V,u64→U6
open IntWalk renaming i64_in→a37
open Lib renaming hid→a6
open List renaming getD_eq_getElem?_getD→a8,getElem?_eq_getElem→e9,length_append→a2e,replicate→a2A,range→q5,length_cons→a3W,getElem_mem→a30,length_map→a32,take_succ_eq_append_getElem→a4a,append_assoc→a4s,length_take→a4C,map_append→a4F
open Nat renaming le_refl→a7,le_trans→c8,reduceAdd→l9,zero_le→i5,add_zero→a4z
open Obj renaming cells→U
open Operand renaming tmp→Tm
open Option renaming none→J,some→So
open Value renaming int→I,slice→Z,string→Y,pointer→K,bool→O,func→Fc,tuple→Tp,agg→Ag
def E9.nr(c:E9)(k:Nat):Int:=match k with
 |0=>c.2.1|1=>c.2.2.1|2=>c.2.2.2.1|3=>c.2.2.2.2.1|4=>c.2.2.2.2.2.1|_=>c.2.2.2.2.2.2
def cM(c:E9)(k:Nat):Int×Bool:=if c.nr k<0 then(0,Bf)else(if k=2 then bits .or V (c.nr k % 4294967296) 1073741824 else c.nr k % 4294967296,Bt)
theorem a1Y(c:E9)(k:Nat)(p:k<6)(W:Wd):Ca prog 379 #[Ag c.cells.toArray,I M k] W fun e o=>e=X (Tp #[I V (cM c k).1,O (cM c k).2])∧a9 W o:=by
 obtain⟨n,b,d,f,g,h,i⟩:=c;dsimp only[E9.cells];have m:=(a9.refl W).alloc (U #[Y n,I M b,I M d,I M f,I M g,I M h,I M i] 280);obtain⟨R,a⟩:∃R,R=cM (n,b,d,f,g,h,i) k:=⟨_,rfl⟩;rw[←a];by_cases j:E9.nr (n,b,d,f,g,h,i) k<0
 all_goals
  simp only[cM,j,if_true,if_false]at a;have l:=a6 a;clear a;rcases k with _|_|_|_|_|_|k
  all_goals first|(exfalso;omega)|skip
  all_goals
   simp only[E9.nr]at j;go_in;go_wp2_with fail
   go_ret2
   exact⟨by rw[l.out];rfl,m⟩
def a0p(k:Nat)(s:ByteArray):Int×Int:=
 let r:=aR fun c=>c.1.toList==s.toList
 if r.2&&(cM r.1 k).2 then((cM r.1 k).1,0)else(0,90)
theorem DL(k:Nat)(o:k<6)(s:ByteArray)(W:Wd):Ca prog 331 #[I M k,Y s] W fun e v=>e=X (Tp #[I V (a0p k s).1,I M (a0p k s).2])∧a9 W v:=by
 have p:=(a9.refl W).alloc (U #[Y s] 9);have h:=a6 (uR (fun c=>c.1.toList==s.toList) 378 #[K W] (Eo func378 (by kernel_rfl) rfl) (W.alloc (U #[Y s] 9)) (fun c _ W2 l=>xV c s W W2 (l.cell (by simp))));have g:a0p k s=if(aR fun c=>c.1.toList==s.toList).2&&(cM (aR fun c=>c.1.toList==s.toList).1 k).2 then((cM (aR fun c=>c.1.toList==s.toList).1 k).1,0)else(0,90):=rfl
 generalize a0p k s=R at*;generalize aR _=r at*;have i:=a6 (fun W=>a1Y r.1 k o W);generalize cM r.1 k=m at*;obtain⟨⟨n,a,b,c,d,e,f⟩,q⟩:=r;obtain⟨y,z⟩:=m;dsimp only[E9.cells]at*;have j:=a6 g;clear g;rcases q with _|_<;>rcases z with _|_
 all_goals
  go_in;go_wp2_with fail
  apply h.mono;rintro e w⟨rfl,t⟩;go_wp2_with fail
  apply(i _).mono;rintro e x⟨rfl,u⟩;go_wp2_with fail
  go_ret2
  exact⟨by rw[j.out];rfl,((p.trans t).alloc _).trans u⟩
section
open Go.Lib
def X0(a:Nat)(b:Int)(ts:List j6)(c:List ByteArray):List m1:=c.filterMap fun s=>if(a0p a s).2=0 then So ⟨(a0p a s).1,ts,b⟩else J
abbrev RC:=Int×List j6×List ByteArray
structure a6M where
 dflt:Int
 cs:List RC
 ok:Bool
def K1(arg b a:Int)(l:List Int):List j6:=l.map fun x=>⟨arg,b,x,a⟩
def eA(arg a:Int)(l:List Int):List j6:=l.map fun x=>⟨arg,x,x,a⟩
def T4:ByteArray:=⟨#[115,111,99,107,101,116]⟩
def R5:ByteArray:=⟨#[117,110,115,104,97,114,101]⟩
def eP:ByteArray:=⟨#[99,108,111,110,101]⟩
def iS:ByteArray:=⟨#[115,101,116,110,115]⟩
def dG:ByteArray:=⟨#[99,108,111,110,101,51]⟩
def wN:ByteArray:=⟨#[109,109,97,112]⟩
def bM:ByteArray:=⟨#[109,112,114,111,116,101,99,116]⟩
def wM:ByteArray:=⟨#[112,107,101,121,95,109,112,114,111,116,101,99,116]⟩
def nO:ByteArray:=⟨#[115,104,109,97,116]⟩
def M3:ByteArray:=⟨#[112,101,114,115,111,110,97,108,105,116,121]⟩
def nP:ByteArray:=⟨#[115,99,104,101,100,95,115,101,116,115,99,104,101,100,117,108,101,114]⟩
def x8(p:i1):Nat→a6M
 |1=>⟨if p.fm=1 then p.dy else 2147418112,p.fc.map fun c=>(yJ c.2 (if p.fm=1 then 2147418112 else p.dy),[],[c.1]),T6 p.fm p.fc.length Bt Bf⟩
 |2=>⟨if p.lm=2 then 2147221504 else 2147418112,p.lc.map fun c=>(if p.lm=2 then 2147418112 else 2147221504,[],[c.1]),T6 p.lm p.lc.length Bf Bt⟩
 |3=>⟨2147418112,[(if p.am=2 then 2147418112 else 327777,K1 0 4294967295 (if p.am=2 then 327777 else 2147418112) p.fa,[T4])],T6 p.am p.fa.length Bt Bf⟩
 |4=>⟨2147418112,[(2147418112,eA 0 327681 (F1 i7 p.sp),[R5,eP]),(2147418112,eA 1 327681 (F1 i7 p.sp)++K1 1 4294967295 327681 [0],[iS]),(327718,[],[dG])],p.sp !=0⟩
 |5=>⟨2147418112,[(2147418112,eA 2 327681 [6],[wN]),(2147418112,eA 2 327681 [4],[bM,wM]),(2147418112,eA 2 327681 [32768],[nO])],p.we⟩
 |6=>⟨2147418112,[(327681,K1 0 4294967295 2147418112 [0,4294967295],[M3])],p.pe⟩
 |7=>⟨2147418112,[(327681,K1 1 4294967295 2147418112 [0,3,5],[nP])],p.rt⟩
 |_=>⟨0,[],Bf⟩
def o7(a:Nat)(cs:List RC):List m1:=cs.flatMap fun c=>X0 a c.1 c.2.1 c.2.2
def OX(r:m1):List m1→List m1
 |[]=>[r]
 |x::l=>if r.nr<x.nr then r::x::l else x::OX r l
def P0:List m1→List m1
 |[]=>[]
 |r::l=>OX r (P0 l)
def inT(ar:List Int)(a:Nat):Bool:=Dc (ar.length=0)||ar.contains (a:Int)
def O3(p:i1)(d a:Nat):Option C8:=if inT p.ar a&&(x8 p d).ok then So ⟨a,(x8 p d).dflt,P0 (o7 a (x8 p d).cs)⟩else J
def kn(x:Int):Prop:=uk x∧(IL x).toList.isEmpty=Bf
def X3(t:j6):Prop:=(0≤t.arg∧t.arg<6)∧mT t.mask∧mT t.value∧bits .andNot U6 t.value t.mask=0∧kn t.act
structure VF(r:m1):Prop where
 nr:uk r.nr
 act:kn r.act
 ts:∀t∈r.tests,X3 t
 len:r.tests.length≤9
structure dL(f:C8):Prop where
 ar:0≤f.arch∧f.arch<6
 d:kn f.dflt
 rs:∀r∈f.rules,VF r
 ri:N7 0 (f.rules.map (·.nr))
 len:f.rules.length≤40
 sz:3*f.rules.length+7*rU f.rules+7≤1365
end
structure RR where
 p:m1
 A:Option Ad
 c:Nat
def RR.v(r:RR):Va:=Z r.A r.p.tests.length r.c
def x3:p6 RR:=⟨3,fun r=>[I V r.p.nr,r.v,I V r.p.act],fun _=>rfl,by simp[Value.oneCell',RR.v]⟩
theorem FG:mU prog 94 234 (Ag #[I V 0,Z J 0 0,I V 0]) 3 40:=⟨underlying94,by kernel_rfl,rfl,by decide,by decide⟩
section
open Go.Lib
theorem kV(r:m1):∀l,(OX r l).Perm (r::l)
 |[]=> .refl _
 |x::l=>by
  unfold OX;split
  ·exact .refl _
  ·exact((kV r l).cons x).trans (.swap r x l)
theorem K2:∀l,(P0 l).Perm l
 |[]=> .refl _
 |r::l=>(kV r _).trans ((K2 l).cons r)
theorem KN(r:m1):∀l:List m1,l.Pairwise (fun a b=>a.nr<b.nr)→(∀x∈l,x.nr≠r.nr)→(OX r l).Pairwise fun a b=>a.nr<b.nr
 |[],_,_=>List.pairwise_singleton _ _
 |x::l,h,hn=>by
  have e:=List.pairwise_cons.1 h;have g:=hn x List.mem_cons_self;unfold OX;split
  ·rename_i f
   refine List.pairwise_cons.2 ⟨fun d c=> ?_,h⟩;rcases List.mem_cons.1 c with rfl|c
   ·exact f
   ·have:=e.1 d c;omega
  ·refine List.pairwise_cons.2 ⟨fun d c=> ?_,KN r l e.2 fun d c=>hn d (List.mem_cons_of_mem _ c)⟩
   rcases List.mem_cons.1 ((kV r l).subset c)with rfl|c
   ·omega
   ·exact e.1 d c
theorem oX:∀l:List m1,(l.map (·.nr)).Nodup→(P0 l).Pairwise fun a b=>a.nr<b.nr
 |[],_=> .nil
 |r::l,h=>by
  have c:=List.nodup_cons.1 h;exact KN r _ (oX l c.2) fun x d e=>c.1 (List.mem_map.2 ⟨x,(K2 l).subset d,e⟩)
theorem SY{l k:List m1}(c:k.Perm l)(d:(l.map (·.nr)).Nodup)(g:k.Pairwise fun a b=>a.nr≤b.nr):k=P0 l:=
 List.Perm.eq_of_pairwise (le:=fun a b=>a.nr≤b.nr) (fun a b e f h i=>kP (·.nr) d (c.subset e) ((K2 l).subset f) (by omega)) g ((oX l d).imp fun c=>by omega) (c.trans (K2 l).symm)
theorem JN:∀(l:List m1)(lo:Int),l.Pairwise (fun a b=>a.nr<b.nr)→(∀r∈l,lo≤r.nr∧r.nr<4294967296)→N7 lo (l.map (·.nr))
 |[],_,_,_=>trivial
 |r::l,lo,h,hb=>by
  have c:=List.pairwise_cons.1 h;have d:=hb r List.mem_cons_self;exact⟨d.1,d.2,JN l (r.nr+1) c.2 fun x e=>⟨by have:=c.1 x e;omega,(hb x (List.mem_cons_of_mem _ e)).2⟩⟩
def a6k(a:Nat):Bool:=J8.all fun c=>J8.all fun d=> !(cM c a).2|| !(cM d a).2||(cM c a).1 !=(cM d a).1||c.1.data.toList==d.1.data.toList
def a6j(a:Nat):Bool:=J8.all fun c=>Dc (0≤(cM c a).1)&&Dc ((cM c a).1<4294967296)
theorem UP:∀a,a<6→a6k a=Bt∧a6j a=Bt
 |0,_|1,_|2,_|3,_|4,_|5,_=>⟨by kernel_rfl,by kernel_rfl⟩
 |a+6,h=>absurd h (by omega)
theorem kO{a:Nat}{s:ByteArray}(b:(a0p a s).2=0):∃c∈J8,c.1.toList=s.toList∧(cM c a).2=Bt∧(a0p a s).1=(cM c a).1:=by
 unfold a0p aR at*;cases d:J8.find? (fun c=>c.1.toList==s.toList)with
 |none=>rw[d]at b;simp at b
 |some c=>
  rw[d]at b;simp only[Bool.true_and]at b⊢;cases e:(cM c a).2
  ·rw[e]at b;simp at b
  ·exact⟨c,List.mem_of_find?_eq_some d,eq_of_beq (by have f:=List.find?_some d;exact f),e,by simp[e]⟩
theorem FW{a:Nat}(m:a<6){s t:ByteArray}(n:(a0p a s).2=0)(o:(a0p a t).2=0)(e:(a0p a s).1=(a0p a t).1):s.toList=t.toList:=by
 obtain⟨c,b,f,g,h⟩:=kO n;obtain⟨d,i,j,k,l⟩:=kO o;have:=List.all_eq_true.1 (List.all_eq_true.1 (UP a m).1 c b) d i;rw[g,k,←h,←l,e,bne_self_eq_false]at this;rw[←f,←j,toList_data,toList_data];simpa using this
theorem NR{a:Nat}(e:a<6){s:ByteArray}(f:(a0p a s).2=0):uk (a0p a s).1:=by
 obtain⟨c,b,g,h,d⟩:=kO f;have:=List.all_eq_true.1 (UP a e).2 c b;simp only[Bool.and_eq_true,decide_eq_true_eq]at this;rw[d];exact this
theorem zS(a:Nat)(e:Int)(ts:List j6):∀c:List ByteArray,(X0 a e ts c).map (·.nr)=c.filterMap fun s=>if(a0p a s).2=0 then So (a0p a s).1 else J
 |[]=>rfl
 |s::c=>by
  have:=zS a e ts c;unfold X0 at*;rw[List.filterMap_cons,List.filterMap_cons];split
  ·rename_i b
   split at b
   ·cases b
   ·rename_i d
    rw[if_neg d];exact this
  ·rename_i r b
   split at b
   ·rename_i d
    cases b;rw[if_pos d,List.map_cons,this]
   ·cases b
theorem kG(a:Nat):∀cs:List RC,(o7 a cs).map (·.nr)=(cs.flatMap (·.2.2)).filterMap fun s=>if(a0p a s).2=0 then So (a0p a s).1 else J
 |[]=>rfl
 |c::cs=>by
  have:=kG a cs;unfold o7 at*;rw[List.flatMap_cons,a4F,this,zS,List.flatMap_cons,List.filterMap_append]
theorem iK{a:Nat}(h:a<6){cs:List RC}(d:((cs.flatMap (·.2.2)).map (·.toList)).Nodup):((o7 a cs).map (·.nr)).Nodup:=by
 rw[kG];refine List.Pairwise.filterMap (S:=(·≠·)) _ (R:=fun s t=>s.toList≠t.toList) (fun s t i x b j c e=> ?_) (List.pairwise_map.1 d);split at b
 ·rename_i f
  split at c
  ·rename_i g
   cases b;cases c;exact i (FW h f g e)
  ·cases c
 ·cases b
theorem MY{a:Nat}{c:Int}{ts:List j6}{d:List ByteArray}{r:m1}(e:r∈X0 a c ts d):∃s∈d,(a0p a s).2=0∧r=⟨(a0p a s).1,ts,c⟩:=by
 obtain⟨s,f,b⟩:=List.mem_filterMap.1 e;split at b
 ·cases b;exact⟨s,f,by assumption,rfl⟩
 ·cases b
theorem xJ{a b:Type}(f:a→Option b):∀l:List a,(l.filterMap f).length≤l.length:=List.length_filterMap_le f
theorem pC(a:Nat)(cs:List RC):(o7 a cs).length≤(cs.flatMap (·.2.2)).length:=by
 have:=congrArg List.length (kG a cs);rw[a32]at this;rw[this];exact xJ _ _
structure a4h(cs:List RC):Prop where
 nd:((cs.flatMap (·.2.2)).map (·.toList)).Nodup
 len:(cs.flatMap (·.2.2)).length≤40
 ts:∀c∈cs,kn c.1∧c.2.1.length≤9∧∀t∈c.2.1,X3 t
 sz:(∀c∈cs,c.2.1=[])∨(cs.flatMap (·.2.2)).length≤4
theorem EN:∀(rs:List m1)(n:Nat),(∀r∈rs,r.tests.length≤n)→rU rs≤n*rs.length
 |[],n,_=>by simp[rU]
 |r::rs,n,h=>by
  have b:=EN rs n fun x a=>h x (List.mem_cons_of_mem _ a)
  have c:=h r List.mem_cons_self;have e:rU (r::rs)=r.tests.length+rU rs:=by simp[rU]
  rw[e,a3W,Nat.mul_succ];omega
theorem MP{a:Nat}(g:a<6){cs:List RC}(e:a4h cs){d:Int}(j:kn d):dL ⟨a,d,P0 (o7 a cs)⟩:=by
 have f:∀r∈P0 (o7 a cs),VF r∧((∀c∈cs,c.2.1=[])→r.tests.length≤0):=fun r b=>by
  obtain⟨c,h,b⟩:=List.mem_flatMap.1 ((K2 _).subset b);obtain⟨s,p,l,rfl⟩:=MY b;obtain⟨k1,k2,k3⟩:=e.ts c h;exact⟨⟨NR g l,k1,k3,k2⟩,fun q=>by show c.2.1.length≤0;rw[q c h];exact a7 _⟩
 have k:=pC a cs;have n:(P0 (o7 a cs)).length≤(cs.flatMap (·.2.2)).length:=by rw[(K2 _).length_eq];exact k
 have o:=e.len;refine⟨⟨by show(0:Int)≤a;omega,by show(a:Int)<6;omega⟩,j,fun r b=>(f r b).1,JN _ _ (oX _ (iK g e.nd)) fun r b=>(f r b).1.nr,by show(P0 (o7 a cs)).length≤40;omega,?_⟩;show 3*(P0 (o7 a cs)).length+7*rU (P0 (o7 a cs))+7≤1365;rcases e.sz with i|m
 ·have:=EN _ 0 fun r b=>(f r b).2 i
  omega
 ·have:=EN _ 9 fun r b=>(f r b).1.len
  omega
end
section
open Go.Lib
theorem kI(is:Int→Bool):∀(l:List Int)(q:Option Int),x6 is q l=Bt→(∀n∈l,is n=Bt)∧l.Pairwise (·<·)∧∀k,q=So k→∀n∈l,k<n
 |[],q,_=>⟨fun n a=>(by cases a),.nil,fun k _ n a=>(by cases a)⟩
 |n::r,q,a=>by
  have key:is n=Bt∧x6 is (So n) r=Bt∧∀k,q=So k→k<n:=by
   rw[lT]at a;rcases q with _|q
   ·cases hi:is n
    ·rw[hi]at a;cases a
    ·rw[hi]at a;exact⟨rfl,a,fun k e=>by cases e⟩
   ·cases hi:is n
    ·rw[hi]at a;cases a
    ·rw[hi]at a
     cases c:Dc (n≤q)
     ·exact⟨rfl,by simpa[c]using a,fun k e=>by cases e;simpa using c⟩
     ·simp[c]at a
  obtain⟨g,h,d⟩:=key;obtain⟨i,j,f⟩:=kI is r (So n) h;refine⟨fun m b=> ?_,List.pairwise_cons.2 ⟨f n rfl,j⟩,fun k e m b=> ?_⟩
  ·rcases List.mem_cons.1 b with rfl|b
   ·exact g
   ·exact i m b
  ·rcases List.mem_cons.1 b with rfl|b
   ·exact d k e
   ·have:=d k e;have:=f n rfl m b;omega
theorem xK{n:Int}(b:gY n=Bt):n∈j0.map (·.2):=by
 unfold gY ZX at b;cases c:j0.find? (fun a=>a.2==n)with
 |none=>rw[c,toList_data]at b;simp at b
 |some a=>exact List.mem_map.2 ⟨a,List.mem_of_find?_eq_some c,eq_of_beq (by have d:=List.find?_some c;exact d)⟩
def a4d(n:Int):Bool:=Dc (0≤n)&&Dc (n<4294967296)&&bits .andNot U6 n 4294967295==0
theorem KW:(j0.map (·.2)).all a4d=Bt:=by kernel_rfl
def a4T(n:Int):Bool:=Dc (0≤n)&&Dc (n<18446744073709551616)&&bits .andNot U6 n n==0
theorem a0y:(i7.map (·.2)).all a4T=Bt:=by kernel_rfl
def a5t:Bool:=(q5 4096).all fun n=> !(IL (327680+n)).data.toList.isEmpty
theorem XU:a5t=Bt:=by kernel_rfl
theorem KL{x:Int}(a:327680≤x)(b:x≤331775):kn x:=by
 refine⟨⟨by omega,by omega⟩,?_⟩;have:=List.all_eq_true.1 XU (x-327680).toNat (List.mem_range.2 (by omega));rw[show(327680:Int)+((x-327680).toNat:Int)=x by omega]at this;rw[toList_data];simpa using this
theorem s0:kn 2147418112:=⟨⟨by decide,by decide⟩,by rw[toList_data];kernel_rfl⟩
theorem WH:kn 2147221504:=⟨⟨by decide,by decide⟩,by rw[toList_data];kernel_rfl⟩
theorem a1v:kn 2147483648:=⟨⟨by decide,by decide⟩,by rw[toList_data];kernel_rfl⟩
theorem KK:kn 0:=⟨⟨by decide,by decide⟩,by rw[toList_data];kernel_rfl⟩
theorem KM{x:Int}(h:x=2147483648∨327680≤x∧x≤331775):kn x:=h.elim (fun h=>h▸a1v) fun h=>KL h.1 h.2
theorem a5j{a b:Int}(c:R2 a=Bt)(e:kn b):kn (yJ a b):=by
 unfold yJ;split
 ·rename_i d
  unfold R2 at c;simp only[Bool.or_eq_true,Bool.and_eq_true,decide_eq_true_eq,beq_iff_eq]at c;refine KM ?_;rcases c with(c|c)|c
  ·rw[c]at d;simp at d
  ·exact .inl c
  ·exact .inr c
 ·exact e
theorem dK{arg a b c:Int}(d:0≤arg∧arg<6)(g:0≤a∧a<18446744073709551616)(h:0≤b∧b<18446744073709551616)(e:bits .andNot U6 b a=0)(f:kn c):X3 ⟨arg,a,b,c⟩:=⟨d,g,h,e,f⟩
theorem dJ{arg b a:Int}{l:List Int}(c:∀x∈l,X3 ⟨arg,b,x,a⟩):∀t∈K1 arg b a l,X3 t:=fun t d=>by
 obtain⟨x,e,rfl⟩:=List.mem_map.1 d;exact c x e
theorem pY{arg a:Int}{l:List Int}(b:∀x∈l,X3 ⟨arg,x,x,a⟩):∀t∈eA arg a l,X3 t:=fun t c=>by
 obtain⟨x,d,rfl⟩:=List.mem_map.1 c;exact b x d
theorem qO{f:o8→Int}:∀l:List o8,(l.map fun c=>((f c,[],[c.1]):RC)).flatMap (·.2.2)=l.map (·.1)
 |[]=>rfl
 |c::l=>congrArg (c.1::·) (qO l)
theorem rA{m:Int}{l:List o8}(d:bO m l=Bt){f:o8→Int}(j:∀c∈l,kn (f c)):a4h (l.map fun c=>(f c,[],[c.1])):=by
 obtain⟨i,n,_⟩:=iQ l J (wS d);refine⟨?_,?_,fun c g=> ?_,.inl fun c g=> ?_⟩
 ·rw[qO,List.map_map]
  exact List.Pairwise.imp (R:=(·<·)) (S:=(·≠·)) (fun{a b} d(e:a=b)=>by rw[e]at d;exact List.lt_irrefl _ d) i
 ·rw[qO,a32];exact iV d
 ·obtain⟨x,h,rfl⟩:=List.mem_map.1 g
  exact⟨j x h,i5 _,fun t k=>by cases k⟩
 ·obtain⟨x,h,rfl⟩:=List.mem_map.1 g
  rfl
theorem CL(a:Int):(F1 i7 a).length≤8:=by
 unfold F1;rw[a32];exact List.length_filter_le _ _
theorem CK(arg a b:Int)(c:0≤arg∧arg<6)(e:kn b):∀t∈eA arg b (F1 i7 a),X3 t:=pY fun x f=>by
 have d:x∈i7.map (·.2):=by
  obtain⟨h,g,rfl⟩:=List.mem_map.1 f;exact List.mem_map_of_mem (List.mem_filter.1 g).1
 have:=List.all_eq_true.1 a0y x d;unfold a4T at this;simp only[Bool.and_eq_true,decide_eq_true_eq,beq_iff_eq]at this;exact⟨c,⟨this.1.1,this.1.2⟩,⟨this.1.1,this.1.2⟩,this.2,e⟩
theorem AV{cs:List RC}{l:List (List UInt8)}(a:(cs.flatMap (·.2.2)).map (·.data.toList)=l)(b:l.Nodup):((cs.flatMap (·.2.2)).map (·.toList)).Nodup:=by
 rw[show(fun s:ByteArray=>s.toList)=fun s=>s.data.toList from funext toList_data,a];exact b
theorem HK{p:i1}(i:y9 p=Bt)(d:Nat):a4h (x8 p d).cs∧kn (x8 p d).dflt:=by
 unfold y9 DC at i;simp only[Bool.and_eq_true,Bool.or_eq_true,decide_eq_true_eq,beq_iff_eq]at i;obtain⟨⟨⟨⟨⟨⟨⟨C,u⟩,D⟩,E⟩,v⟩,q⟩,w⟩,F⟩:=i;have r:=KM u;have j:∀k:Int,0≤k→k≤4095→kn (327680+k):=fun k a b=>KL (by omega) (by omega)
 have o:=kI gY p.fa J v;have G:p.fa.length≤8:=aJ p.fa (j0.map (·.2)) (o.2.1.imp fun i e=>by omega) fun n A=>xK (o.1 n A)
 have s:∀m,kn m→∀t∈K1 0 4294967295 m p.fa,X3 t:=fun m y=>dJ fun x g=>by
  have:=List.all_eq_true.1 KW x (xK (o.1 x g));unfold a4d at this;simp only[Bool.and_eq_true,decide_eq_true_eq,beq_iff_eq]at this;exact dK (by decide) (by decide) ⟨this.1.1,by have:=this.1.2;omega⟩ this.2 y
 have k1:kn 327681:=j 1 (by decide) (by decide)
 match d with
 |0=>exact⟨⟨.nil,i5 _,fun c f=>(by cases f),.inr (i5 _)⟩,KK⟩
 |1=>exact⟨rA q fun c f=>a5j ((iQ p.fc J (wS q)).2.1 c f).2 (by split;exact s0;exact r),by show kn (if _ then _ else _);split;exact r;exact s0⟩
 |2=>exact⟨rA w fun c f=>(by split;exact s0;exact WH),by show kn (if _ then _ else _);split;exact WH;exact s0⟩
 |3=>
  refine⟨⟨AV (l:=[T4.data.toList]) rfl (by decide),(by decide:1≤40),fun c f=> ?_,.inr (by decide:1≤4)⟩,s0⟩;rw[List.mem_singleton.1 f];refine⟨by dsimp only;split;exact s0;exact j 97 (by decide) (by decide),by show(List.map _ p.fa).length≤9;rw[a32];omega,s _ (by split;exact j 97 (by decide) (by decide);exact s0)⟩
 |4=>
  have H:=CL p.sp;have B:X3 ⟨1,4294967295,0,327681⟩:=dK (by decide) (by decide) (by decide) (by kernel_rfl) k1;refine⟨⟨AV (l:=[R5.data.toList,eP.data.toList,iS.data.toList,dG.data.toList]) rfl (by decide),(by decide:4≤40),fun c f=> ?_,.inr (by decide:4≤4)⟩,s0⟩;simp only[x8,List.mem_cons,List.not_mem_nil,or_false]at f;rcases f with rfl|rfl|rfl
  ·exact⟨s0,by show(List.map _ _).length≤9;rw[a32];omega,CK 0 _ _ ⟨by decide,by decide⟩ k1⟩
  ·refine⟨s0,by show(List.map _ _++[_]).length≤9;rw[a2e,a32];show _+1≤9;omega,fun t h=> ?_⟩
   rcases List.mem_append.1 h with h|h
   ·exact CK 1 _ _ ⟨by decide,by decide⟩ k1 t h
   ·rw[List.mem_singleton.1 h];exact B
  ·exact⟨j 38 (by decide) (by decide),i5 _,fun t h=>by cases h⟩
 |5=>
  have z:∀x,(x=6∨x=4∨x=32768)→X3 ⟨2,x,x,327681⟩:=fun x g=>by
   rcases g with rfl|rfl|rfl<;>exact dK (by decide) (by decide) (by decide) (by kernel_rfl) k1
  refine⟨⟨AV (l:=[wN.data.toList,bM.data.toList,wM.data.toList,nO.data.toList]) rfl (by decide),(by decide:4≤40),fun c f=> ?_,.inr (by decide:4≤4)⟩,s0⟩;simp only[x8,List.mem_cons,List.not_mem_nil,or_false]at f;rcases f with rfl|rfl|rfl<;>exact⟨s0,by decide,pY fun x g=>z x (by rw[List.mem_singleton.1 g];simp)⟩
 |6=>
  refine⟨⟨AV (l:=[M3.data.toList]) rfl (by decide),(by decide:1≤40),fun c f=> ?_,.inr (by decide:1≤4)⟩,s0⟩;rw[List.mem_singleton.1 f];refine⟨k1,by decide,dJ fun x g=> ?_⟩;simp only[List.mem_cons,List.not_mem_nil,or_false]at g;rcases g with rfl|rfl<;>exact dK (by decide) (by decide) (by decide) (by kernel_rfl) s0
 |7=>
  refine⟨⟨AV (l:=[nP.data.toList]) rfl (by decide),(by decide:1≤40),fun c f=> ?_,.inr (by decide:1≤4)⟩,s0⟩;rw[List.mem_singleton.1 f];refine⟨k1,by decide,dJ fun x g=> ?_⟩;simp only[List.mem_cons,List.not_mem_nil,or_false]at g;rcases g with rfl|rfl|rfl<;>exact dK (by decide) (by decide) (by decide) (by kernel_rfl) s0
 |_+8=>exact⟨⟨.nil,i5 _,fun c f=>(by cases f),.inr (i5 _)⟩,KK⟩
theorem eT{p:i1}(c:y9 p=Bt){d a:Nat}(e:a<6){f:C8}(b:O3 p d a=So f):dL f:=by
 unfold O3 at b;split at b
 ·cases b
  exact MP e (HK c d).1 (HK c d).2
 ·cases b
theorem ZH:∀a:Nat,a<6→uk (B8 a)
 |0,_|1,_|2,_|3,_|4,_|5,_=>⟨by decide,by decide⟩
 |a+6,h=>absurd h (by omega)
theorem dL.ok{f:C8}(a:dL f):lC f:=by
 refine⟨a.d.1,fun r g=> ?_,a.ri,?_⟩
 ·obtain⟨d,e,b,_⟩:=a.rs r g
  exact⟨d,e.1,fun t c=>⟨(b t c).1,(b t c).2.1,(b t c).2.2.1,(b t c).2.2.2.2.1⟩⟩
 ·have:=ZH f.arch.toNat (by have:=a.ar;omega)
  rwa[show((f.arch.toNat:Nat):Int)=f.arch by have:=a.ar;omega]at this
end
theorem qF{x:Int}(b:kn x)(W:Wd):Ca prog 262 #[I V x] W fun e a=>e=X (O Bt)∧a9 W a:=
 (ZM x W).mono fun e a⟨c,d⟩=>⟨by rw[c,b.2];rfl,d⟩
theorem OU(t:j6)(i:X3 t)(w:Wd):Ca prog 350 #[Ag #[I M t.arg,I U6 t.mask,I U6 t.value,I V t.act]] w fun e l=>e=X (O Bt)∧a9 w l:=by
 obtain⟨arg,f,g,a⟩:=t;obtain⟨⟨b,c⟩,_,_,o,d⟩:=i;dsimp only at*;have m:Dc (0≤arg)=Bt:=decide_eq_true b;have n:Dc (arg<6)=Bt:=decide_eq_true c;have h:=a6 (qF d);have B:=b9.new w 392 #[I M arg,I U6 f,I U6 g,I V a];have j:=(a9.refl w).alloc (U #[I M arg,I U6 f,I U6 g,I V a] 392);clear b c d;go_in;go_wp2_with fail
 apply(h _).mono;rintro e p⟨rfl,k⟩;go_wp2_with fail
 go_ret;exact⟨rfl,j.trans k⟩
theorem GT(t:j6)(a:X3 t)(w:Wd):Ca prog 349 (#[Ag (a3q.c t).toArray]++ #[]) w fun e d=>e=X (O Bf)∧a9 w d:=by
 have H:=a6 (OU t a);show Ca prog _ #[Ag #[I M t.arg,I U6 t.mask,I U6 t.value,I V t.act]] w _;have b:=(a9.refl w).alloc (U #[I M t.arg,I U6 t.mask,I U6 t.value,I V t.act] 392);clear a;go_in;go_wp2_with fail
 apply(H _).mono;rintro e f⟨rfl,c⟩;go_wp2_with fail
 go_ret;exact⟨rfl,b.trans c⟩
theorem a3S{a:Type}(xs:List a)(i:Nat):Z7 (fun _=>Bf) xs i= -1:=by
 induction xs generalizing i with
 |nil=>rfl
 |cons x r ih=>exact ih (i+1)
theorem a1A(a:Option Ad)(n c:Nat)(xs:List j6)(w:Wd)(s:xs.length=n)(y:n≤1000)(g:∀t∈xs,X3 t)(h:h9 w a (a3q.row xs)):
  Ca prog 348 #[Z a n c,Fc (.func 349) #[] #[]] w fun e d=>e=X (Tp #[Ag #[I M 0,I U6 0,I U6 0,I V 0],O Bf])∧a9 w d:=by
 have f:=a6 (fun(b:Wd)(q:a9 w b)=>show Ca prog 270 #[Z a n c,Fc (.func 349) #[] #[]] b fun e d=>e=X (I M (Z7 (fun _=>Bf) xs 0))∧a9 b d from
  ixQ KI a3q (by decide) isAgg392 sizeOf392 (fun _=>Bf) 349 #[] (Eo func349 (by kernel_rfl) rfl) a n c xs b (fun x u W _=>GT x (g x u) W) s (by omega) (h.h q))
 rw[a3S]at f;have j:=(a9.refl w).alloc (U #[I M 0,I U6 0,I U6 0,I V 0] 392);have l:=b9.new w 392 #[I M 0,I U6 0,I U6 0,I V 0];clear h g;go_in;go_wp2_with fail
 apply(f _ j).mono;rintro e z⟨rfl,i⟩;have m:=l.h i;have o:=m.alloc (U #[I M 0,I U6 0,I U6 0,I V 0] 392);have v:=(j.trans i).alloc (U #[I M 0,I U6 0,I U6 0,I V 0] 392);go_wp2_with(refine c7 rfl 392 (Tm 4) (Tm 17) rfl w _ _ _ rfl rfl o rfl (by kernel_rfl) (by simp[Value.oneCell']) ?_;intro A p r)
 exact Bp (h7 rfl _ _ _ _ _ _ rfl p underlying392 rfl (by kernel_rfl)) rfl ⟨rfl,v.grown r (fun k e=>by cases e;exact a7 _)⟩
theorem OW(r:RR)(a:VF r.p)(w:Wd)(h:s7 w 392 a3q r.v r.p.tests):
  Ca prog 263 #[Ag #[I V r.p.nr,r.v,I V r.p.act]] w fun e s=>e=X (O Bt)∧a9 w s:=by
 obtain⟨⟨k,ts,g⟩,b,c⟩:=r;dsimp only[RR.v]at*;have B:=b9.new w 234 #[I V k,Z b ts.length c,I V g];have i:=(a9.refl w).alloc (U #[I V k,Z b ts.length c,I V g] 234);obtain⟨m,d⟩:=i6 (fun f(o:a9 w f)=>a1A b ts.length c ts f rfl (by have:=a.len;dsimp only at this;omega) a.ts (h.h o).mem) (qF a.act);have v:(ts.length:Int)≤32:=by have:=a.len;dsimp only at this;omega
 have u:Dc (ts.length≤32)=Bt:=by simp;omega
 have n:=B.cell 1;clear a h;dsimp only at d;go_in;go_wp2_with fail
 apply(m _ i).mono;rintro e x⟨rfl,j⟩;have l:=(B.h j).alloc (U #[I M 0,I U6 0,I U6 0,I V 0] 392);obtain⟨n,t⟩:=l.d2 1 2;go_wp2_with fail
 apply(d _).mono;rintro e y⟨rfl,p⟩;have q:=((i.trans j).alloc (U #[I M 0,I U6 0,I U6 0,I V 0] 392)).trans p;go_wp2_with fail
 go_ret;exact⟨rfl,q⟩
theorem zV:∀(a:List Int)(lo:Int)(k:Nat)(b:k+1<a.length),N7 lo a→a[k]<a[k+1]
 |n::m::r,lo,0,_,h=>by have:=h.2.2.1;show n<m;omega
 |n::r,lo,k+1,b,h=>zV r (n+1) k (by simpa using b) h.2.2
theorem a2x(a:Int)(d:Int)(Q:Option Ad)(c:Nat)(rs:List RR)(w:Wd)(be:dL ⟨a,d,rs.map (·.p)⟩)(aj:h9 w Q (x3.row rs))(ak:∀r∈rs,s7 w 392 a3q r.v r.p.tests):
  Ca prog 198 #[.agg #[I M a,Z Q rs.length c,I V d]] w fun e bj=>e=X (O Bt)∧a9 w bj:=by
 obtain⟨⟨bq,br⟩,al,ap,aq,bf,_⟩:=be;dsimp only at*;rw[a32]at bf;have B:=b9.new w 96 #[I M a,Z Q rs.length c,I V d];have bh:=(a9.refl w).alloc (U #[I M a,Z Q rs.length c,I V d] 96);have h:Dc (a<0)=Bf:=by simp;omega
 have j:Dc (6≤a)=Bf:=by simp;omega
 have l:Dc (400<rs.length)=Bf:=by simp;omega
 obtain⟨az,ag,bb⟩:=p7 (qF al) aj (fun(r:RR)(P:r∈rs)(g:Wd)(f:a9 w g)=>OW r (ap _ (List.mem_map_of_mem P)) g ((ak r P).h f));have ba:=a6 (fun(k:Nat)(am:k+1<rs.length)=>show rs[k].p.nr<rs[k+1].p.nr by
  have:=zV _ 0 k (by simpa using am) aq;simpa using this)
 clear aj ak ap aq al;go_in;obtain⟨bo,bd,bp⟩:=B.c3;go_wp2_with fail
 apply(az _).mono;rintro e ax⟨rfl,ay⟩;have R:=bh.trans ay;have ad:=B.h ay;have bd:=ad.cell 1;go_wp2_with fail
 go_loopw [28] (fun i wr=>∃k:Nat,k≤rs.length∧i=I M k∧a9 ax wr) (fun i _=>rs.length-(intOf i).toNat)
 case atStart=>exact⟨0,i5 _,rfl,a9.refl _⟩
 case round=>
  obtain⟨k,am,rfl,aa⟩:=hrel;by_cases N:k<rs.length
  ·have o:=ag.h (R.trans aa)
   obtain⟨b,bi,rfl,_⟩:=o.rows (by decide) (by omega);have au:=o.b N (r:=0) rfl;have av:=o.b N (r:=1) rfl;have aw:=o.b N (r:=2) rfl;simp only[x3,a4z]at au av aw;have P:=bb _ (a30 N);have ao:∀m,k=m+1→∀g,a9 w g→g.cell? ⟨b,bi+m*3,J⟩=So (I V (rs.getD m ⟨⟨0,[],0⟩,J,0⟩).p.nr)∧Dc (rs[k].p.nr≤(rs.getD m ⟨⟨0,[],0⟩,J,0⟩).p.nr)=Bf:=fun m e g f=>by
    subst e;have an:m<rs.length:=by omega
    have bg:=(ag.h f).b an (r:=0) rfl;have bt:=ba m N;rw[a8,e9 an];exact⟨bg,by simp;omega⟩
   generalize rs[k]=x at*;obtain⟨⟨ar,ts,ah⟩,ac,ai⟩:=x;dsimp only[RR.v]at*;have ae:=b9.new wr 234 #[I V ar,Z ac ts.length ai,I V ah];have n:=aa.alloc (U #[I V ar,Z ac ts.length ai,I V ah] 234);obtain⟨af,S,T⟩:=p7 P ao R;clear P ao o R;rcases k with _|m
   ·simp only[Nat.zero_mul,a4z]at au av aw
    go_wp2_with fail
    refine e7 rfl [.is ?Bq,.is ?Br,.is ?Bs,.is ?Bt,.is ?Bu,.is ?Bv,.is ?Bw,.is Un,.is Un,.is Un,.is Un,.is Un,.is Un,.is Un,.is Un,.is Un,.is Un,.is ?Bx,.is ?By] (by kernel_rfl) ?Bz ?Aa ⟨?Ab,?Ac,?Ad,?Ae,?Af,?Ag,?Ah,?Ai,?Aj,?Ak,?Al,?Am,?An,?Ao,?Ap,?Aq,?Ar,?As,?At,trivial⟩ ?Au
    case Aa=>intro x;simp only[e6,Act.put,uL,l9]<;>rfl
    case Ab|Ac|Ad|Ae|Af|Ag|Ah|As|At=>
     intro x g f;simp only[e5,j8,uV];repeat(intro d;try simp only[d])
     try refine g9 (by first|rfl|simp) ?_
     obtain⟨bl,bm,bn⟩:=(ae.h f).c3;go_wp2_with(go_at_call 263;apply(af g (T.trans (n.trans f))).mono;rintro e bk⟨rfl,W⟩)
     refine a0e ?_ rfl (by first|exact W|exact a9.refl _);rfl
    case Ai|Aj|Ak|Al|Am|An|Ao|Ap|Aq|Ar=>
     intro x g f;simp only[e5,j8,uV];repeat(intro d;try simp only[d])
     exact g5 (by first|decide|simp[Z5]) (by first|rfl|trivial)
    case Au=>
     intro x g f;simp only[l8,e5,j8,uV];intro p h j l D E F G H L q s t u v y z A C;simp only[p,h,j,l,D,E,F,G,H,L,q,s,t,u,v,y,z,A,C];clear p h j l D E F G H L q s t u v y z A C;have ab:=n.trans f;go_wp2_with fail
     go_roundw
     case rel=>exact⟨1,by omega,by go_num,ab⟩
     case measure=>simp[intOf];omega
   ·have ax:IntKind.i64.wrap (((m+1:Nat):Int)-1)=(m:Int):=by rw[a37 _ (by omega)];omega
    have bu:(m:Int)<(rs.length:Int):=by omega
    have bs:=(S m rfl w (a9.refl w)).2;have bc:=a6 (fun g f=>(S m rfl g f).1);clear S;generalize(rs.getD m ⟨⟨0,[],0⟩,J,0⟩).p.nr=pn at*;go_wp2_with fail
    refine e7 rfl [.is ?Ca,.is ?Cb,.is ?Cc,.is ?Cd,.is ?Ce,.is ?Cf,.is ?Cg,.is ?Ch,.is ?Ci,.is ?Cj,.is ?Ck,.is ?Cl,.is ?Cm,.is ?Cn,.is ?Co,.is ?Cp,.is ?Cq,.is ?Cr,.is ?Cs] (by kernel_rfl) ?Ct ?Av ⟨?Aw,?Ax,?Ay,?Az,?Ba,?Bb,?Bc,?Bd,?Be,?Bf,?Bg,?Bh,?Bi,?Bj,?Bk,?Bl,?Bm,?Bn,?Bo,trivial⟩ ?Bp
    case Av=>intro x;simp only[e6,Act.put,uL,l9]<;>rfl
    case Aw|Ax|Ay|Az|Ba|Bb|Bc|Bd|Be|Bf|Bg|Bh|Bi|Bj|Bk|Bl|Bm|Bn|Bo=>
     intro x g f;simp only[e5,j8,uV];repeat(intro d;try simp only[d])
     try refine g9 (by first|rfl|simp) ?_
     obtain⟨bl,bm,bn⟩:=(ae.h f).c3;have bv:=(ad.h (n.trans f)).cell 1;have bw:=bc g (T.trans (n.trans f));go_wp2_with(go_at_call 263;apply(af g (T.trans (n.trans f))).mono;rintro e bk⟨rfl,W⟩)
     refine a0e ?_ rfl (by first|exact W|exact a9.refl _);rfl
    case Bp=>
     intro x g f;simp only[l8,e5,j8,uV];intro p h j l D E F G H L q s t u v y z A C;simp only[p,h,j,l,D,E,F,G,H,L,q,s,t,u,v,y,z,A,C];clear p h j l D E F G H L q s t u v y z A C;have ab:=n.trans f;go_wp2_with fail
     go_roundw
     case rel=>exact⟨m+1+1,by omega,by go_num,ab⟩
     case measure=>simp[intOf];omega
  ·obtain rfl:k=rs.length:=by omega
   go_wp2_with fail
   go_ret;exact⟨rfl,R.trans aa⟩
theorem a2E:∀(f:Nat)(l:List m8)(i:Nat),0<l.length→l.length≤f→(gr f l i).length+1≤2*l.length
 |0,l,i,h,hf=>by omega
 |f+1,l,i,h,hf=>by
  unfold gr;split
  ·simp;omega
  ·have a:(l.take (l.length/2)).length=l.length/2:=by rw[a4C];omega
   have b:(l.drop (l.length/2)).length=l.length-l.length/2:=List.length_drop;have c:=a2E f (l.take (l.length/2)) (i+1) (by omega) (by omega);have d:=a2E f (l.drop (l.length/2)) (i+1+(gr f (l.take (l.length/2)) (i+1)).length) (by omega) (by omega);rw[a3W,a2e];omega
theorem XJ:∀(f:Nat)(l:List m8)(i:Nat),0<l.length→l.length≤f→∀x∈gr f l i,(x.leaf=Bt→∃s∈l,x.way=s.way)∧(x.leaf=Bf→((i:Int)<x.less∧x.less<i+(gr f l i).length)∧(i:Int)<x.more∧x.more<i+(gr f l i).length)
 |0,l,i,h,hf,x,a=>by omega
 |f+1,l,i,h,hf,x,a=>by
  unfold gr at a⊢;split at a
  ·rename_i c
   rw[if_pos c];rw[List.mem_singleton.1 a];exact⟨fun _=>⟨l[0],a30 h,by rw[x0 h]⟩,fun q=>by cases q⟩
  ·rename_i c
   rw[if_neg c];have j:(l.take (l.length/2)).length=l.length/2:=by rw[a4C];omega
   have k:(l.drop (l.length/2)).length=l.length-l.length/2:=List.length_drop;have m:=kY f (l.take (l.length/2)) (i+1) (by omega);have n:=kY f (l.drop (l.length/2)) (i+1+(gr f (l.take (l.length/2)) (i+1)).length) (by omega);have d:=XJ f (l.take (l.length/2)) (i+1) (by omega) (by omega);have g:=XJ f (l.drop (l.length/2)) (i+1+(gr f (l.take (l.length/2)) (i+1)).length) (by omega) (by omega);rw[a3W,a2e];generalize gr f (l.take (l.length/2)) (i+1)=b at*;generalize gr f (l.drop (l.length/2)) (i+1+b.length)=B at*;rcases List.mem_cons.1 a with rfl|a
   ·exact⟨fun q=>(by cases q),fun _=>⟨⟨by show(i:Int)<((i+1:Nat):Int);omega,by show((i+1:Nat):Int)<_;omega⟩,by show(i:Int)<((i+1+b.length:Nat):Int);omega,by show((i+1+b.length:Nat):Int)<_;omega⟩⟩
   ·rcases List.mem_append.1 a with a|a
    ·obtain⟨k1,k2⟩:=d x a
     exact⟨fun q=>let⟨s,hs,e⟩:=k1 q;⟨s,List.mem_of_mem_take hs,e⟩,fun q=>by have:=k2 q;omega⟩
    ·obtain⟨k1,k2⟩:=g x a
     exact⟨fun q=>let⟨s,hs,e⟩:=k1 q;⟨s,List.mem_of_mem_drop hs,e⟩,fun q=>by have:=k2 q;omega⟩
theorem a3F{f:C8}(a:lC f):∀x∈hW f,a5U (hW f) (1+f.rules.length) x:=fun x h=>by
 have b:=vX f a.ri;obtain⟨c,d⟩:=XJ _ _ 0 b (a7 _) x h;refine⟨fun q=> ?_,fun q=> ?_⟩
 ·obtain⟨s,g,e⟩:=c q
  rw[e];rcases nM _ _ _ (by decide) s g with k|k
  ·rw[a32]at k;omega
  ·rw[k];omega
 ·have:=d q
  change((((0:Nat):Int)<x.less∧x.less<((0:Nat):Int)+(hW f).length)∧((0:Nat):Int)<x.more∧x.more<((0:Nat):Int)+(hW f).length)at this
  omega
theorem St.new{w b:Wd}{g:Nat}(a:a9 w b)(c:b9 b g 288 #[Z J 0 0,Z J 0 0])(d:w≤g)(h:Nat→Nat):St b g w [] h 0:=
 ⟨⟨_,_,⟨c,e4.nil _ _ _ _,d,a.size⟩,⟨[],rfl,e4.nil _ _ _ _,fun z f=>(by cases f)⟩,fun x a=>absurd a (Nat.not_lt_zero _),fun x i a=>absurd a (Nat.not_lt_zero _)⟩,⟨fun x a=>(by cases a),fun j e=>(by cases e)⟩⟩
theorem a1B(n:Nat):(madeCells #[I M 0] n).toList=V7.row (a2A n 0):=by
 rw[qA]
 induction n with
 |zero=>rfl
 |succ n ih=>rw[List.replicate_succ,List.replicate_succ,ih];rfl
theorem a0n(n:Nat):(madeCells #[I V 0] n).toList=N4.row (a2A n 0):=by
 rw[qA]
 induction n with
 |zero=>rfl
 |succ n ih=>rw[List.replicate_succ,List.replicate_succ,ih];rfl
theorem GW:(prog.info? 3).map (fun i=>(i.zero,i.size,i.bytes))=So (So (I M 0),1,8):=by kernel_rfl
theorem GV:(prog.info? 26).map (fun i=>(i.zero,i.size,i.bytes))=So (So (I V 0),1,4):=by kernel_rfl
theorem a6o:mU prog 311 289 (K J) 1 8:=⟨underlying311,by kernel_rfl,rfl,by decide,by decide⟩
structure Ems(u:Wd)(A1 A2:Option Ad)(c1 c2 n:Nat)(ns:List Int)(k:Nat)(wl:List Nat)(vl:Va)(wr:Wd):Prop where
 a:e4 wr u 26 N4 (Z A1 n c1) (ns.take k++a2A (n-k) 0)
 b:e4 wr u 3 V7 (Z A2 n c2) (O7 k++a2A (n-k) 0)
 c:e4 wr u 289 NE vl wl
 l:∀b∈wl,b9 wr b 291 #[I M 0]∧u≤b
 n:wl.Nodup
 m:wl.length=k+1
 x:a9 u wr
theorem e4.alloc'{b:Type}{w:Wd}{base:Nat}{e:Ti}{E:p6 b}{v:Va}{xs:List b}(c:e4 w base e E v xs)(a:Obj):e4 (w.alloc a) base e E v xs:=c.h ((a9.refl w).alloc a)
theorem eG(n:Nat):(O7 n).length=n:=by simp[O7]
theorem EJ(k:Nat):O7 (k+1)=O7 k++[(k:Int)+1]:=by unfold O7;rw[List.range_succ,a4F];rfl
theorem KA(a:Nat)(p:Nat→Nat):∀(l:List a0Q)(i:Nat),m0 (Z6 a p i l)≤l.length
 |[],_=>a7 _
 |x::l,i=>by
  show m0 (EA a p i x++Z6 a p (i+1) l)≤_;have:=KA a p l (i+1);have:=wR a p i x;rw[g2,a3W];omega
theorem a1Z(a:Nat)(l:List a0Q):m0 (uU a l)≤1+l.length:=by
 have:=KA a (fun j=>nA a j (l.getD j IP)) l 0;unfold uU;rw[g2];split
 ·simp only[m0,It.n];omega
 ·simp only[m0];omega
theorem YO(a:Nat)(ie:a<6)(d:Int)(ad:Option Ad)(c:Nat)(rs:List RR)(w:Wd)(P:dL ⟨a,d,rs.map (·.p)⟩)(cr:s7 w 234 x3 (Z ad rs.length c) rs)(s:∀r∈rs,s7 w 392 a3q r.v r.p.tests):
  Ca prog 130 #[.agg #[I M a,Z ad rs.length c,I V d]] w fun e gd=>∃v,e=X (Tp #[v,I M 0])∧e4 gd w 374 bA v (F6 (aX ⟨a,d,rs.map (·.p)⟩))∧a9 w gd:=by
 have kd:rs.length≤40:=by have:=P.len;simpa using this
 have ke:∀W:Wd,(Instr.makeSlice 37 (I M (rs.length:Int)) (I M (rs.length:Int))).run prog W= .ok (Z W rs.length rs.length) (W.alloc (U (madeCells #[I V 0] rs.length) 26)):=fun W=>
  G9 37 26 (I V 0) 4 underlying37 GV rfl M M rs.length rs.length (a7 _) (by omega) (by decide) W
 have kf:∀W:Wd,(Instr.makeSlice 33 (I M (rs.length:Int)) (I M (rs.length:Int))).run prog W= .ok (Z W rs.length rs.length) (W.alloc (U (madeCells #[I M 0] rs.length) 3)):=fun W=>
  G9 33 3 (I M 0) 8 underlying33 GW rfl M M rs.length rs.length (a7 _) (by omega) (by decide) W
 have bz:=(a9.refl w).alloc (U #[I M a,Z ad rs.length c,I V d] 96);have gm:=b9.new w 96 #[I M a,Z ad rs.length c,I V d];obtain⟨eh,gx,ei,hg,ah⟩:=gP (a2x a d ad c rs _ P (cr.h bz).mem (fun r ip=>(s r ip).h bz)) P cr s P.ok;obtain⟨f,cv⟩:∃f:C8,f=⟨a,d,rs.map (·.p)⟩:=⟨_,rfl⟩;rw[←cv]at ah⊢;obtain⟨ai,hm,dz⟩:=p7 cv bz gm;clear P cr s cv bz;go_in;go_wp2_with fail
 apply eh.mono;rintro e ac⟨rfl,dn⟩;have bh:=hm.trans dn;have aq:=(bh.alloc (U #[Z J 0 0,Z J 0 0] 288)).alloc (U #[I M 0] 291);have ep:=St.new (bh.alloc (U #[Z J 0 0,Z J 0 0] 288)) (b9.new ac _ _) bh.size (fun _=>0);have er:=ep.label ((a9.refl _).alloc (U #[I M 0] 291)) (b:=ac+1) (b9.b (by simp)) (by simp);have H:=a6 (a4N er a ie (o3 _ 0 _));have cb:=(((dz.h dn).alloc (U #[Z J 0 0,Z J 0 0] 288)).alloc (U #[I M 0] 291));have hv:=cb.cell 0;clear ep eh dz;go_wp2_with fail
 apply H.mono;rintro e l⟨rfl,bs,G⟩;have cc:=G.tv.blk cb (.inr (by decide));have fa:bs 0=ac+1:=G.old 0 (by decide);have ck:=(Tv.f (B:=w) (S:=W4) aq).trans G.tv;have S3:=G.st;have fx:w≤l.heap.size:=ck.size;have bi:=cc.cell 1;obtain⟨ej,el,gv⟩:=p7 S3 ck fa;clear er H cb hv S3 ck fa G aq dn bh;go_wp2_with fail
 refine e7 rfl [.is ?Am,.is ?An,.is ?Ao,(VP.ownR l 26 N4 (a2A rs.length 0)),.is ?Ap,.is ?Aq,.is ?Ar,(VP.ownR l 3 V7 (a2A rs.length 0)),(VP.ownR l 26 N4 (a2A rs.length 0)),(VP.ownR l 3 V7 (a2A rs.length 0))] (by kernel_rfl) ?As ?Aa ⟨?Ab,?Ac,?Ad,?Ae,?Af,?Ag,?Ah,?Ai,?Aj,?Ak,trivial⟩ ?Al
 case Aa=>intro x;simp only[e6,Act.put,uL,l9]<;>rfl
 case Ab|Ac|Ad|Af|Ag|Ah=>
  intro x h m;simp only[e5,j8,uV];repeat(intro d;try simp only[d])
  have jm:=(cc.h m).cell 1;go_wp2_with fail
  refine a0e ?_ rfl (a9.refl _);rfl
 case Ae=>
  intro x h m;simp only[e5,j8,uV];intro A A;simp only[A];go_wp2_with fail
  refine a0e ?_ rfl ((a9.refl h).alloc _);exact e4.new m.size (a0n _) (by simp) (by omega)
 case Ai=>
  intro x h m;simp only[e5,j8,uV];intro ar ar;simp only[ar];go_wp2_with fail
  refine a0e ?_ rfl ((a9.refl h).alloc _);exact e4.new m.size (a1B _) (by simp) (by omega)
 case Aj=>
  intro x h m;simp only[e5,j8,uV];rintro dh;go_wp2_with fail
  refine a0e ?_ rfl (a9.refl _);exact dh
 case Ak=>
  intro x h m;simp only[e5,j8,uV];rintro di;go_wp2_with fail
  refine a0e ?_ rfl (a9.refl _);exact di
 case Al=>
  intro x h m;simp only[l8,e5,j8,uV];rintro ex al A dh ey ez ar di bv bw;simp only[ex,al,A,ey,ez,ar];clear ex al A ey ez ar;obtain⟨bb,co,bj⟩:=bv.b;obtain⟨bc,cp,bk⟩:=bw.b;rw[List.length_replicate]at bj bk;rw[bj]at bv;rw[bk]at bw;have T:=((cc.h m).alloc (U #[I M 0] 291)).alloc (U #[K h] 289);have gk:=(m.alloc (U #[I M 0] 291)).alloc (U #[K h] 289);have du:Ems l bb bc co cp rs.length (rs.map (·.p.nr)) 0 [h.heap.size] (Z (h+1:Nat) 1 1) ((h.alloc (U #[I M 0] 291)).alloc (U #[K h] 289)):=by
   refine⟨(bv.alloc' _).alloc' _,(bw.alloc' _).alloc' _,?_,fun b o=> ?_,List.nodup_cons.2 ⟨List.not_mem_nil,.nil⟩,rfl,gk⟩
   ·have:=e4.new (w:=h.alloc (U #[I M 0] 291)) (base:=l) (e:=289) (E:=NE) (xs:=[h.heap.size]) (cs:= #[K h]) (c8 m.size (by simp)) rfl rfl (by simp)
    rwa[World.size_alloc]at this
   ·rw[List.mem_singleton.1 o];exact⟨(b9.new h _ _).alloc _,m.size⟩
  have bi:=T.cell 1;have ev:a9 w l:=el.b (a9.refl w) (a7 _);have ho:=a6 ev;clear bv bw dh di ev;simp only[bj,bk];go_wp2_with fail
  generalize(h.alloc (U #[I M 0] 291)).alloc (U #[K h] 289)=jg at*;go_loopw [8,43] (fun iy ix wr=>∃(k:Nat)(g:List Nat),k≤rs.length∧ix=I M k∧Ems l bb bc co cp rs.length (rs.map (·.p.nr)) k g iy wr∧b9 wr w 96 #[I M a,Z ad rs.length c,I V d]) (fun _ i _=>rs.length-(intOf i).toNat)
  case atStart=>exact⟨0,[h.heap.size],i5 _,rfl,du,T⟩
  case round=>
   clear du T gk bi;obtain⟨k,g,fp,rfl,Q,T⟩:=hrel;obtain⟨gl,hx,ia⟩:=Q.c.b;subst ia;have gh:=ho.trans Q.x;by_cases j:k<rs.length
   ·have im:(k:Int)<(rs.length:Int):=by omega
    have bq:=(ei.h gh).mem;obtain⟨ht,iv,rfl,_⟩:=bq.rows (by decide) (by omega);have ay:=bq.b j (r:=0) rfl;have az:=bq.b j (r:=1) rfl;have ba:=bq.b j (r:=2) rfl;simp only[x3,a4z]at ay az ba;have R:(rs.map (·.p.nr)).take (k+1)=(rs.map (·.p.nr)).take k++[rs[k].p.nr]:=by rw[a4a (by simpa using j)];simp
    have br:((rs.map (·.p.nr)).take k).length=k:=by rw[a4C,a32];omega
    generalize rs[k]=x at*;obtain⟨⟨n,ts,p⟩,F,N⟩:=x;dsimp only[RR.v]at ay az ba R;have fv:a2A (rs.length-k) (0:Int)=0::a2A (rs.length-(k+1)) 0:=by
     rw[show rs.length-k=(rs.length-(k+1))+1 by omega,List.replicate_succ]
    obtain⟨av,aw,bp,fg,ic,fh,fi⟩:=Q;rw[fv]at av aw;obtain⟨bl,jt,jp,rfl,-,ij,bn,-⟩:=av.blk (by simp;omega);obtain⟨bm,ju,jq,rfl,-,ik,bo,-⟩:=aw.blk (by simp;omega);have it:bl<wr.heap.size:=(av.lt rfl).2;have kk:bm<wr.heap.size:=(aw.lt rfl).2;have D:=(a9.refl wr).alloc (U #[I V n,Z F ts.length N,I V p] 234);have ce:=b9.new wr 234 #[I V n,Z F ts.length N,I V p];have jd:IntKind.i64.wrap ((k:Int)+1)=((k+1:Nat):Int):=by rw[a37 _ (by omega)];omega
    have ko:=ce.cell 0;obtain⟨O1,y,jv,al⟩:=(av.h D).setN k (by simp;omega) rfl (I V n) n rfl;rw[nI _ _ _ _ _ br]at O1;rw[World.setCell_alloc_past _ _ _ _ it]at O1 y;simp only[List.getElem_append_right (Nat.le_of_eq br),br,Nat.sub_self,List.getElem_cons_zero]at al;replace al:=al.trans (show(N4.c 0)[0]? =So (I V 0)from rfl);have fu:bl≠bm:=bn.ne bo (by decide);obtain⟨bg,af,jw,A⟩:=((aw.h D).kept y (.inr (fun e=>fu (by injection e with e;exact e.symm)))).setN k (by simp[eG]) rfl (I M ((k:Int)+1)) ((k:Int)+1) rfl;rw[nI _ _ _ _ _ (eG k),←EJ]at bg;rw[World.setCell_alloc_past _ _ _ _ (by simp;omega)]at bg af;simp only[List.getElem_append_right (Nat.le_of_eq (eG k)),eG,Nat.sub_self,List.getElem_cons_zero]at A;replace A:=A.trans (show(V7.c 0)[0]? =So (I M 0)from rfl);have O1:=O1.kept af (.inr (fun e=>fu (by injection e)));have dv:=fun(b:Nat)(t:Ti)(cs:Array Va)(q:b9 wr b t cs)(am:t≠26)(au:t≠3)=>((q.h D).grown y (fun e=>by injection e with e;exact q.ne bn am e)).grown af (fun e=>by injection e with e;exact q.ne bo au e)
    have eo:=((bp.h D).kept y (.inr (bp.ne bn (by decide)))).kept af (.inr (bp.ne bo (by decide)));have aq:=((fi.trans D).grown y (fun k e=>by cases e;exact ij)).grown af (fun k e=>by cases e;exact ik);have dq:(((wr.setCell ⟨bl,k,J⟩ (I V n)).setCell ⟨bm,k,J⟩ (I M ((k:Int)+1))).alloc (U #[I V n,Z F ts.length N,I V p] 234)).heap.size=wr.heap.size+1:=by simp
    generalize ir:((wr.setCell ⟨bl,k,J⟩ (I V n)).setCell ⟨bm,k,J⟩ (I M ((k:Int)+1))).alloc (U #[I V n,Z F ts.length N,I V p] 234)=jl at*;obtain⟨aa,hc,he,ef,hn,eb⟩:=jX ((eo.alloc' (U #[I M 0] 291)).alloc' (U #[K (wr+1:Nat)] 289)) ((O1.alloc' (U #[I M 0] 291)).alloc' (U #[K (wr+1:Nat)] 289)) ((bg.alloc' (U #[I M 0] 291)).alloc' (U #[K (wr+1:Nat)] 289)) (fun b t cs q am au=>((dv b t cs q am au).alloc (U #[I M 0] 291)).alloc (U #[K (wr+1:Nat)] 289)) ((aq.alloc (U #[I M 0] 291)).alloc (U #[K (wr+1:Nat)] 289)) (show b9 ((jl.alloc (U #[I M 0] 291)).alloc (U #[K (wr+1:Nat)] 289)) (wr.heap.size+1) 291 #[I M 0]from(b9.b dq.symm).alloc _);obtain⟨ee,em,hb⟩:=p7 fg ir R;clear O1 bg eo dv aq y af av aw bp fg bn bo fv R;have ft:g.length+1≤1000000:=by omega
    have jy:l≤wr.heap.size:=fi.size;have ki:=em.out;have gw:=a6 fh;clear em fh bj bk;go_wp2_with(at_builtin;go_loud (refine j3 rfl (Tm 58) (Tm 61) 311 289 rfl a6o l _ g rfl aa _ 1 1 [wr.heap.size+1] rfl rfl (fF (by simp[dq]) rfl) ft (by simp[dq];omega) ?_;intro kq jk fz kj an jx;obtain⟨dr,kn,ew,rfl⟩:=fz.f))
    go_roundw
    case rel=>
     refine⟨k+1,g++[wr.heap.size+1],by omega,by go_num,⟨?_,?_,fz,fun b o=> ?_,?_,by rw[a2e,gw.out];rfl,?_⟩,?_⟩
     ·rw[hb.out];exact hc.apart aa (by decide) an
     ·exact he.apart aa (by decide) an
     ·rcases List.mem_append.1 o with o|o
      ·obtain⟨k1,k2⟩:=ee b o
       have k3:=ef b _ _ k1 (by decide) (by decide);exact⟨k3.grown an (fun e=>aa.ne k3 (by decide) e.symm),k2⟩
      ·rw[List.mem_singleton.1 o]
       exact⟨eb.grown an (fun e=>aa.ne eb (by decide) e.symm),by omega⟩
     ·refine List.nodup_append.2 ⟨ic,List.nodup_cons.2 ⟨List.not_mem_nil,.nil⟩,fun x df gj dg e=> ?_⟩
      have:=(ee x df).1.lt;rw[List.mem_singleton.1 dg]at e;omega
     ·exact hn.grown an (fun k e=>(aa.lt e).1)
     ·have k3:=ef _ _ _ T (by decide) (by decide)
      exact k3.grown an (fun e=>aa.ne k3 (by decide) e.symm)
    case measure=>simp[intOf];omega
   ·obtain rfl:k=rs.length:=by omega
    obtain⟨u,R⟩:∃u,u=rs.map (·.p.nr):=⟨_,rfl⟩;have cw:f.rules.map (·.nr)=u:=by rw[R,ai.out];exact List.map_map ..
    have cz:u.length=rs.length:=by rw[R,a32]
    have fw:N7 0 u:=by rw[←cw];exact ah.ri
    rw[←R]at Q;have fk:h9 wr bb (i3 V u):=by
     have:=Q.a.i.1;rwa[Nat.sub_self,List.replicate_zero,List.append_nil,List.take_of_length_le (by omega),a3R V N4 (fun _=>rfl)]at this
    have fl:h9 wr bc (i3 M (O7 u.length)):=by
     have:=Q.b.i.1;rwa[Nat.sub_self,List.replicate_zero,List.append_nil,a3R M V7 (fun _=>rfl),←cz]at this
    have aj:=a3f bb bc co cp u (by omega) fw wr fk fl;rw[cz]at aj;have dd:aT 0 u 1=tB f:=by rw[←cw];rfl
    rw[dd]at aj;have aj:=a6 aj;have kg:(tB f).length≤2*rs.length+1:=by rw[←dd,←cz];exact wG u 0 1
    have dc:=vX f ah.ri;have fn:=tL _ 0 1 ah.ri (by decide);have il:=a2E (tB f).length (tB f) 0 dc (a7 _);obtain⟨z,gu,ed⟩:=p7 Q T fn;clear R cw fw fk fl dd Q T fn gh;go_wp2_with fail
    apply aj.mono;rintro e jh⟨ja,rfl,iw,gf⟩;have ea:=a6 (LV _ 0 ja (tB f) jh (by omega) dc ed iw (by omega));go_wp2_with fail
    apply ea.mono;rintro e ji⟨kp,rfl,fy,gg⟩;have dp:a9 l ji:=(z.x.trans gf).trans gg;have ca:=gf.trans gg;have et:=(ej.h dp).labels g (fun b o=>⟨(z.l b o).1.h ca,c8 fx (z.l b o).2,fun gj dg e=>by
     obtain⟨jb,jc,q⟩:=ej.ex;have:=(q.labs gj dg).1.lt;have:=(z.l b o).2;omega⟩) z.n
    have cx:∀i(hi:i<g.length),gK bs 3 g (3+i)=g[i]:=fun i hi=>by
     unfold gK;rw[if_neg (by omega),Nat.add_sub_cancel_left,x0 hi]
    have ax:gK bs 3 g 0=ac+1:=gv.out;have db:f.rules.length=rs.length:=by rw[ai.out];exact a32 ..
    have de:g.length=1+f.rules.length:=by rw[db,z.m];omega
    have ig:m0 (gE a)≤4:=by
     unfold gE;split
     ·simp[m0,It.n]
     ·split<;>simp[m0,It.n]
    have br:(hW f).length+1≤2*(tB f).length:=il;obtain⟨dr,ew,hz⟩:=fy.b;subst hz;obtain⟨ec,bf,en,eg,gy⟩:=gP (RI et dr gl ew hx (hW f) g fy.ty ((z.c.h ca).ty) rfl cx (fun x df=>by rw[de];exact a3F ah x df) (kY _ _ 0 dc) (by omega) (by rw[List.nil_append];omega) (c8 fx dp.size)) db de cx ax;clear db de cx ax et;generalize gK bs 3 g=kl at*;have cm:=(z.c.h ca).ty;have hh:=a6 (el.h dp);have ds:=gu.h ca;go_wp2_with fail
    apply ec.mono;rintro e jj⟨rfl,bt,ag⟩;have ft:g.length=rs.length+1:=z.m;have hl:=a6 cm;have cn:=cm.tv ag.tv (by decide);obtain⟨hu,dk,rfl,_⟩:=cn.mem.rows (by decide) (by omega);have hy:jj.cell? ⟨hu,dk,J⟩=So (K (g[0]'(by omega):Nat)):=by
     rw[show dk=dk+0*NE.k+0 by simp];exact cn.mem.b (show 0<g.length by omega) (r:=0) rfl
    have kc:(0:Int)<g.length:=by omega
    have dy:=a6 (q8 ag.st 3 (by omega) ((ag.old 3 (by omega)).trans (eg 0 (by omega))));have dt:=ag.tv.blk ds (.inr (by decide));clear ea ec aj ed cm;go_wp2_with fail
    apply dy.mono;rintro e jk⟨rfl,ff,dm⟩;have cg:=ag.step ff dm;have cd:=dm.blk dt (.inr (by decide));have hw:=cd.cell 2;have ih:m0 ([]++gE a++(uU (3+g.length) (hW f)++[.here 3]))≤1000:=by
     have am:m0 (uU (3+g.length) (hW f))≤1+(hW f).length:=a1Z _ _;simp only[g2,m0,It.n,List.nil_append];omega
    have dx:=a6 (fJ cg.st d (by omega));clear dy ff dm;go_wp2_with fail
    apply dx.mono;rintro e je⟨rfl,fb,dl⟩;have ae:=cg.step fb dl;have gn:=dl.blk cd (.inr (by decide));have bi:=gn.cell 1;clear dx fb dl hw cg ag;have es:=ae.st;have hq:=a6 (hl.tv ae.tv (by decide));have s:=hh.trans ae.tv;have fr:bt 0=ac+1:=(ae.old 0 (by omega)).trans gy.out;have fs:∀k,k<rs.length→∀P:k+1<g.length,bt (4+k)=g[k+1]:=fun k fp P=>by
     rw[show 4+k=3+(k+1) by omega,ae.old _ (by omega)];exact eg (k+1) P
    have ii:m0 ([]++gE a++(uU (3+g.length) (hW f)++[.here 3]++[.put ⟨6,d,0,0⟩]))≤1001:=by
     rw[←a4s,g2];simp only[m0,It.n];omega
    obtain⟨ek,be,ha,gz⟩:=J5 s (H6.refl es) fs fr;have cq:3+g.length+(hW f).length=4+f.rules.length+(hW f).length:=by rw[en.out];omega
    obtain⟨eu,ct⟩:∃hp,hp=[]++gE a++(uU (3+g.length) (hW f)++[.here 3]++[.put ⟨6,d,0,0⟩]):=⟨_,rfl⟩;rw[←ct]at ii be;obtain⟨hk,jo⟩:=i6 ct cq;rw[cq]at be;clear s es fs fr ct cq ih ae cn hy ds dt cd ig;generalize fm:4+f.rules.length+(hW f).length=cj at*;have ao:=a6 fm;clear fm;go_wp2_with fail
    go_loopw [91] (fun iz wr=>∃(k L:Nat)(ak:List It)(bu:Nat→Nat),k≤rs.length∧iz=I M k∧m0 ak≤64*k∧H6 je ac w eu bt cj ak L bu wr∧ak++mZ L (4+k) (f.rules.drop k)=mZ cj 4 f.rules) (fun i _=>rs.length-(intOf i).toNat)
    case atStart=>exact⟨0,cj,[],bt,i5 _,rfl,a7 _,be.out,rfl⟩
    case round=>
     clear be bi;obtain⟨k,L,ak,bu,fp,rfl,ka,C,ab⟩:=hrel;by_cases j:k<rs.length
     ·have s:=ek.trans C.tv
      have ap:=ei.tv s (by decide);obtain⟨ht,iv,rfl,_⟩:=ap.mem.rows (by decide) (by omega);have ay:=ap.mem.b j (r:=0) rfl;have az:=ap.mem.b j (r:=1) rfl;have ba:=ap.mem.b j (r:=2) rfl;simp only[x3,a4z]at ay az ba;have im:(k:Int)<(rs.length:Int):=by omega
      have cu:=(hg _ (a30 j)).tv s (by decide);have cy:=gx.rs _ (List.mem_map_of_mem (a30 j));have da:=(ah.rs (rs[k].p) (by rw[ai.out];exact List.mem_map_of_mem (a30 j))).ts;have fo:f.rules.drop k=rs[k].p::f.rules.drop (k+1):=by
       have am:k<f.rules.length:=by rw[bf.out];exact j
       have au:f.rules[k]=rs[k].p:=by simp only[ai.out,List.getElem_map]
       rw[List.drop_eq_getElem_cons am,au]
      rw[fo]at ab;generalize rs[k]=x at*;obtain⟨⟨n,ts,p⟩,F,N⟩:=x;dsimp only[RR.v]at ay az ba cu cy da
      change ak++ .here (4+k)::(sA L ts p++mZ (jW L ts) (4+k+1) (f.rules.drop (k+1)))=_ at ab
      have kh:ts.length≤9:=cy.len;have fq:k+1<g.length:=by omega
      have ci:=(hq.tv C.tv (by decide)).mem.b fq (r:=0) rfl;simp only[NE,Nat.mul_one,a4z]at ci;have jd:IntKind.i64.wrap ((k:Int)+1)=((k+1:Nat):Int):=by rw[a37 _ (by omega)];omega
      have kb:((k:Int)+1)<(g.length:Int):=by omega
      have fj:bu (4+k)=g[k+1]:=(C.old (4+k) (by rw[ao.symm,bf.out];omega)).trans (ha k j fq);have D:=(a9.refl wr).alloc (U #[I V n,Z F ts.length N,I V p] 234);have ce:=b9.new wr 234 #[I V n,Z F ts.length N,I V p];have y:=C.h D;have jr:=D.cell ci;have H:=a6 (q8 y.st (4+k) (by have:=C.le;rw[ao.symm,bf.out]at this;omega) fj);generalize g[k+1]=km at*;obtain⟨ch,hj,hf⟩:=p7 ab cu da;clear ab cu da fo fj ap s cy ci;go_wp2_with fail
      apply H.mono;rintro e l⟨rfl,fe,bx⟩;have G:=y.step fe bx;have gp:=bx.blk ce (.inr (by decide));obtain⟨jm,kt,ku⟩:=gp.c3;have bd:=a6 (a2T G.st n p F N ts ((hj.h D).tv bx (by decide)) hf (by rw[g2,g2];simp only[m0,It.n];omega));clear H fe bx;go_wp2_with fail
      apply bd.mono;rintro e jg⟨rfl,iu,gq⟩;have gr:=G.trans gq;have jz:=FK ts L p;go_wp2_with fail
      go_roundw
      case rel=>
       refine⟨k+1,jW L ts,_,iu,by omega,by go_num,?_,gr,?_⟩
       ·rw[g2,g2];simp only[m0,It.n];omega
       ·rw[←ch.out,show 4+(k+1)=4+k+1 by omega];simp
      case measure=>simp[intOf];omega
     ·obtain rfl:k=rs.length:=by omega
      rw[show f.rules.drop rs.length=[] by rw[←bf.out];exact List.drop_length,show mZ L (4+rs.length) []=[]from rfl,List.append_nil]at ab;have ax:bu 0=ac+1:=(C.old 0 (by rw[ao.symm];omega)).trans gz.out;obtain⟨H,ch⟩:=i6 (q8 C.st 0 (by have:=C.le;rw[ao.symm]at this;omega) ax) ab;clear ab ax;go_wp2_with fail
      apply H.mono;rintro e kr⟨rfl,fc,gb⟩;have dw:=C.step fc gb;have bd:=a6 (fJ dw.st 2147418112 (by rw[g2,g2];simp only[m0,It.n];omega));clear H fc gb;go_wp2_with fail
      apply bd.mono;rintro e jf⟨rfl,fd,gc⟩;have cf:=dw.step fd gc;obtain⟨jb,jc,ga⟩:=cf.st.ex;have gs:=a6 (vE ga cf.st.ok (by rw[g2,g2,g2];simp only[m0,It.n];omega));clear bd fd gc;go_wp2_with fail
      apply gs.mono;rintro e ks⟨rfl,dj,ib⟩;have hr:a9 w jf:=(ek.trans cf.tv).b (a9.refl w) (a7 _);have io:=ga.wri.o;have hs:=hr.grown ib (fun k e=>(io.lt e).1);have iq:eu++(ak++[.here 0]++[.put ⟨6,2147418112,0,0⟩])=aX f:=by
       rw[ch.out,hk.out,←ao.out,en.out,show 3+(1+f.rules.length)=4+f.rules.length by omega];unfold aX;rw[show f.arch=(a:Int) by rw[ai.out],show f.dflt=d by rw[ai.out]];simp
      rw[iq]at dj;obtain⟨jn,js,rfl⟩:=dj.b;go_wp2_with fail
      go_ret2
      exact⟨_,rfl,dj,hs⟩
def GZ:p6 Int:=⟨1,fun x=>[I M x],fun _=>rfl,fun x u a=>by simp at a;rw[a];rfl⟩
theorem a6C:mU prog 33 3 (I M 0) 1 8:=⟨underlying33,by kernel_rfl,rfl,by decide,by decide⟩
def fW(k:Nat):List Int:=(q5 k).map Int.ofNat
theorem LQ(k:Nat):fW (k+1)=fW k++[(k:Int)]:=by unfold fW;rw[List.range_succ,a4F];rfl
theorem RW(k:Nat):(fW k).length=k:=by simp[fW]
theorem yB(W:Wd):Ca prog 78 #[] W fun e g=>∃v,e=X v∧e4 g W 3 GZ v (fW 6)∧a9 W g:=by
 obtain⟨h,b⟩:=i6 LQ RW;generalize fW=c at*;go_in;go_wp2_with fail
 go_loopw [1,3] (fun n i wr=>∃k:Nat,k≤6∧i=I M k∧e4 wr W 3 GZ n (c k)∧a9 W wr) (fun _ i _=>6-(intOf i).toNat)
 case atStart=>exact⟨0,by decide,rfl,by have:=b 0;rw[List.eq_nil_of_length_eq_zero this];exact e4.nil _ _ _ _,a9.refl W⟩
 case round=>
  obtain⟨k,q,rfl,f,a⟩:=hrel;by_cases s:k<6
  ·have r:=b k
   have d:=h k;generalize c k=xs at*;have j:=a6 d;clear d;go_wp2_with(at_builtin;refine j3 rfl (Tm 6) (Tm 8) 33 3 rfl a6C W _ xs rfl (f.h ((a9.refl _).alloc _)) _ 1 1 [(k:Int)] rfl rfl (fF (by simp) rfl) (by omega) (a.alloc _).size ?_;intro t u l m p o)
   go_roundw
   case rel=>exact⟨k+1,by omega,by go_num,by rw[j.out];exact l,m W (a.alloc _) (a7 _)⟩
   case measure=>simp[intOf];omega
  ·obtain rfl:k=6:=by omega
   go_wp2;go_ret;exact⟨_,rfl,f,a⟩
abbrev DW:=ByteArray×Int
def uZ:p6 DW:=⟨2,fun a=>[Y a.1,I V a.2],fun _=>rfl,fun x u b=>by simp at b;rcases b with rfl|rfl<;>rfl⟩
theorem IG(a:DW)(s:ByteArray)(g:Nat)(W:Wd)(b:W.cell? ⟨g,0,J⟩=So (Y s)):
  Ca prog 319 (#[Ag (uZ.c a).toArray]++ #[K g]) W fun e d=>e=X (O (a.1.toList==s.toList))∧a9 W d:=by
 obtain⟨n,t⟩:=a;have c:=(a9.refl W).alloc (U #[Y n,I V t] 211);have f:=c.cell b;have h:g≠W.heap.size:=Nat.ne_of_lt (block_lt_of_cell b);show Ca prog 319 #[Ag #[Y n,I V t],K g] W _;go_in;go_wp2;go_ret;exact⟨rfl,c⟩
theorem ZI(p:DW→Bool)(g:Nat)(lb:Array Va)(n:∀args w,(callFunc g args).run prog w= .ok (.enter g args) w)(W:Wd)(u:V2 prog g lb (fun x=>Ag (uZ.c x).toArray) p W r5):
  Ca prog 318 #[Fc (.func g) #[] lb] W fun e a=>e=X (I M (Z7 p r5 0))∧a9 W a:=by
 have i:=a6 lJ;have s:∀v∈rM.toList,v.oneCell'=Bt:=uZ.row_oneCell r5;have j:=a6 (fun w G c(y:a9 W w)(q:h9 w (So ⟨G,0,J⟩) (uZ.row r5))=>(ixQ a1p uZ (by decide) isAgg211 sizeOf211 p g lb n _ 6 c r5 w (u.h y) rfl (by decide) q:Ca prog 367 #[Z (So ⟨G,0,J⟩) 6 c,Fc (.func g) #[] lb] w fun e a=>e=X (I M (Z7 p r5 0))∧a9 w a));have o:rM.toList=uZ.row r5:=rfl;generalize rM=m at*;generalize r5=l at*;generalize Z7 p l 0=A at*;go_in;go_wp2_with fail
 apply(i _).mono;rintro e b⟨rfl,d⟩;have r:∀x:Array Va,b9 (b.alloc (U x 212)) b 212 x:=fun x=>b9.new _ _ _
 go_wp2_with(refine c7 rfl 212 (Tm 3) (Tm 4) rfl b 212 _ m rfl rfl (r _) (by kernel_rfl) (by kernel_rfl) s ?_;intro C h t)
 have f:=(d.alloc (U _ 212)).grown t (fun k e=>by cases e;exact d.size);apply(j _ _ 6 f (h9.f h o)).mono;rintro e B⟨rfl,z⟩;go_wp2;go_ret;exact⟨rfl,f.trans z⟩
def n7(s:ByteArray):Int×Int:=if s.toList==[110,97,116,105,118,101]then(0,0)else
 let i:=Z7 (fun a:DW=>a.1.toList==s.toList) r5 0
 if i<0 then(0,80)else(i,0)
theorem QQ(s:ByteArray)(W:Wd):Ca prog 227 #[Y s] W fun e o=>e=X (Tp #[I M (n7 s).1,I M (n7 s).2])∧a9 W o:=by
 have i:=(a9.refl W).alloc (U #[Y s] 9);have k:=a6 (ZI (fun c=>c.1.toList==s.toList) 319 #[K W] (Eo func319 (by kernel_rfl) rfl) (W.alloc (U #[Y s] 9)) (fun c _ W2 l=>IG c s W W2 (l.cell (by simp))));obtain⟨R,b⟩:∃R,R=n7 s:=⟨_,rfl⟩;rw[←b];unfold n7 at b;dsimp only at b;generalize Z7 _ r5 0=d at*;have f:=a6 b;clear b;have p:(⟨#[110,97,116,105,118,101]⟩:ByteArray).toList=[110,97,116,105,118,101]:=by kernel_rfl
 rcases g:s.toList==[110,97,116,105,118,101]with _|_
 ·obtain⟨r,h,m⟩:∃r,R=r∧(d<0∧r=(0,80)∨¬d<0∧r=(d,0)):=by
   refine⟨_,rfl,?_⟩;rw[f.out,g];by_cases a:d<0
   ·exact .inl ⟨a,by simp[a]⟩
   ·exact .inr ⟨a,by simp only[a4x,if_false,if_neg a]⟩
  have j:=a6 h;clear h f;rcases m with⟨a,rfl⟩|⟨a,rfl⟩
  all_goals
   go_in;go_wp2_with fail
   apply k.mono;rintro e q⟨rfl,n⟩;go_wp2_with fail
   go_ret2
   exact⟨by rw[j.out];rfl,i.trans n⟩
 ·go_in
  go_wp2_with fail
  go_ret2
  exact⟨by rw[f.out,g];rfl,i⟩
end Go.Proofs.YtiomenjfmagknaaGreat
