/- A part of the proof of TopSame: lemmas on the walks of its calls. -/
import Derived.Test.YtiomenjfmagknaaGreatM03
set_option maxHeartbeats 12000000
set_option linter.all false
set_option maxRecDepth 100000
namespace Go.Proofs.YtiomenjfmagknaaGreat
open Go.RowKit Go.ChangeShapes Go.WideShapes Tryz
open Bool renaming true→Bt,false→Bf
open Decidable renaming decide→Dc
open Ending renaming returned→X
open Go renaming World→Wd,Value→Va,Calls→Ca,TypeId→Ti,Addr→Ad,Program→Pg,wpListIn→Wl,callsIn_of_wp→Co,CallsIn→Ci
open Int renaming toNat_natCast→a4A
open IntKind renaming i64→M,u32→V,u16→U1
open IntWalk renaming i64_in→a37
open Lib renaming hid→a6
open List renaming getD_eq_getElem?_getD→a8,getElem?_eq_getElem→e9,length_append→a2e,replicate→a2A,range→q5,getElem_mem→a30,take_succ_eq_append_getElem→a4a,length_take→a4C
open Nat renaming le_refl→a7,le_trans→c8,reduceAdd→l9,zero_le→i5,reduceSub→a4D,zero_add→a4E
open Obj renaming cells→U
open Operand renaming tmp→Tm
open Option renaming none→J,some→So
open Value renaming int→I,slice→Z,string→Y,pointer→K,bool→O,func→Fc,tuple→Tp,agg→Ag
section
structure i0 where
 file:ByteArray
 line:Int
 err:Int
 text:ByteArray
def g6:p6 i0:=⟨4,fun x=>[Y x.file,I M x.line,I M x.err,Y x.text],fun _=>rfl,by simp[Value.oneCell']⟩
theorem lX:mU prog 41 73 (Ag #[Y ⟨#[]⟩,I M 0,I M 0,Y ⟨#[]⟩]) 4 48:=⟨underlying41,by kernel_rfl,rfl,by decide,by decide⟩
structure m6 where
 file:ByteArray
 line:Int
 sec:ByteArray
 key:ByteArray
 val:ByteArray
def Q8:p6 m6:=⟨5,fun x=>[Y x.file,I M x.line,Y x.sec,Y x.key,Y x.val],fun _=>rfl,by simp[Value.oneCell']⟩
theorem a5K:mU prog 56 88 (Ag #[Y ⟨#[]⟩,I M 0,Y ⟨#[]⟩,Y ⟨#[]⟩,Y ⟨#[]⟩]) 5 72:=⟨underlying56,by kernel_rfl,rfl,by decide,by decide⟩
theorem e4.apart{i j:Type}{W W':Wd}{b1 b2:Nat}{a f:Ti}{e:p6 i}{m:p6 j}{g h:Va}{xs:List i}{ys:List j}(b:e4 W b1 a e g xs)(k:e4 W b2 f m h ys)(o:a≠f)(n:W.grownBy W' h.ownBlock):e4 W' b1 a e g xs:=by
 obtain⟨l,c,p,b⟩:=b;obtain⟨B,d,q,k⟩:=k;exact⟨l,c,p,NO b k o n⟩
structure US where
 sec:ByteArray
 inn:Bool
 all:List m6
 notes:List i0
structure UI(w:Wd)(br bn bf base:Nat)(file:ByteArray)(fx fy:Va)(σ:US)(va vn:Va):Prop where
 r:b9 w br 139 #[Y file,Y σ.sec,O σ.inn,va,Fc (.func 59) #[] #[K bn,K bf]]
 n:b9 w bn 41 #[vn]
 f:b9 w bf 24 #[Y file,fx,fy]
 a:e4 w base 88 Q8 va σ.all
 m:e4 w base 73 g6 vn σ.notes
 lr:br<base
 ln:bn<base
 lf:bf<base
 hb:base≤w
def uO(br bn:Nat)(va vn:Va)(b:Nat):Prop:=b=br∨b=bn∨va.ownBlock=So b∨vn.ownBlock=So b
section
variable {w w':Wd} {br bn bf base:Nat} {file:ByteArray} {fx fy va vn:Va} {σ:US}
theorem UI.h(h:UI w br bn bf base file fx fy σ va vn)(x:a9 w w'):UI w' br bn bf base file fx fy σ va vn:=
 ⟨h.r.h x,h.n.h x,h.f.h x,h.a.h x,h.m.h x,h.lr,h.ln,h.lf,c8 h.hb x.size⟩
theorem UI.mvA(a:UI w br bn bf base file fx fy σ va vn){x:m6}{v':Va}(d:w.grownBy w' va.ownBlock)(h:e4 w' base 88 Q8 v' (σ.all++[x]))(j:v'.ownBlock=va.ownBlock∨∀b,v'.ownBlock=So b→w.heap.size≤b):
  UI (w'.setCell ⟨br,3,J⟩ v') br bn bf base file fx fy {σ with all:=σ.all++[x]} v' vn∧MV (uO br bn va vn) w (uO br bn v' vn) (w'.setCell ⟨br,3,J⟩ v')∧b9 w' br 139 #[Y file,Y σ.sec,O σ.inn,va,Fc (.func 59) #[] #[K bn,K bf]]:=by
 have g:∀k,k<base→So k≠va.ownBlock:=fun k f e=>by have:=(a.a.lt e.symm).1;omega
 have i:=a.r.grown d (g _ a.lr);refine⟨⟨i.f 3 v',(a.n.grown d (g _ a.ln)).grown (x4 _ _ _ v') (fun e=> ?_),(a.f.grown d (g _ a.lf)).grown (x4 _ _ _ v') (fun e=> ?_),h.kept (x4 _ _ _ v') (.inr fun e=> ?_),(a.m.apart a.a (by decide) d).kept (x4 _ _ _ v') (.inr fun e=> ?_),a.lr,a.ln,a.lf,c8 a.hb (c8 d.size (x4 _ _ _ v').size)⟩,(MV.l (O1:=uO br bn v' vn) d (fun k f=> .inr (.inr (.inl f))) ?_).trans (.l (x4 _ _ _ v') (fun k f=>by cases f;exact .inl rfl) fun b c=> .inl c),i⟩
 ·injection e with e;exact a.n.ne a.r (by decide) e
 ·injection e with e;exact a.f.ne a.r (by decide) e
 ·have:=(h.lt e).1;have:=a.lr;omega
 ·have:=(a.m.lt e).1;have:=a.lr;omega
 ·intro b c
  rcases c with c|c|c|c
  ·exact .inl (.inl c)
  ·exact .inl (.inr (.inl c))
  ·rcases j with e|e
   ·exact .inl (.inr (.inr (.inl (by rw[←e];exact c))))
   ·exact .inr (e b c)
  ·exact .inl (.inr (.inr (.inr c)))
theorem UI.mvN(a:UI w br bn bf base file fx fy σ va vn){x:i0}{v':Va}(d:w.grownBy w' vn.ownBlock)(h:e4 w' base 73 g6 v' (σ.notes++[x]))(j:v'.ownBlock=vn.ownBlock∨v'.ownBlock=So w.heap.size):
  UI (w'.setCell ⟨bn,0,J⟩ v') br bn bf base file fx fy {σ with notes:=σ.notes++[x]} va v'∧MV (uO br bn va vn) w (uO br bn va v') (w'.setCell ⟨bn,0,J⟩ v')∧b9 w' bn 41 #[vn]:=by
 have g:∀k,k<base→So k≠vn.ownBlock:=fun k f e=>by have:=(a.m.lt e.symm).1;omega
 have i:=a.n.grown d (g _ a.ln);refine⟨⟨(a.r.grown d (g _ a.lr)).grown (x4 _ _ _ v') (fun e=> ?_),i.f 0 v',(a.f.grown d (g _ a.lf)).grown (x4 _ _ _ v') (fun e=> ?_),(a.a.apart a.m (by decide) d).kept (x4 _ _ _ v') (.inr fun e=> ?_),h.kept (x4 _ _ _ v') (.inr fun e=> ?_),a.lr,a.ln,a.lf,c8 a.hb (c8 d.size (x4 _ _ _ v').size)⟩,(MV.l (O1:=uO br bn va v') d (fun k f=> .inr (.inr (.inr f))) ?_).trans (.l (x4 _ _ _ v') (fun k f=>by cases f;exact .inr (.inl rfl)) fun b c=> .inl c),i⟩
 ·injection e with e;exact a.r.ne a.n (by decide) e
 ·injection e with e;exact a.f.ne a.n (by decide) e
 ·have:=(a.a.lt e).1;have:=a.ln;omega
 ·have:=(h.lt e).1;have:=a.ln;omega
 ·intro b c
  rcases c with c|c|c|c
  ·exact .inl (.inl c)
  ·exact .inl (.inr (.inl c))
  ·exact .inl (.inr (.inr (.inl c)))
  ·rcases j with e|e
   ·exact .inl (.inr (.inr (.inr (by rw[←e];exact c))))
   ·rw[e]at c;injection c with c;exact .inr (Nat.le_of_eq c)
theorem UI.mvS(a:UI w br bn bf base file fx fy σ va vn)(s:ByteArray):UI ((w.setCell ⟨br,1,J⟩ (Y s)).setCell ⟨br,2,J⟩ (O Bt)) br bn bf base file fx fy {σ with sec:=s,inn:=Bt} va vn∧MV (uO br bn va vn) w (uO br bn va vn) ((w.setCell ⟨br,1,J⟩ (Y s)).setCell ⟨br,2,J⟩ (O Bt)):=by
 have c:∀{l:Type}{W:Wd}{e:Ti}{E:p6 l}{v:Va}{xs:List l}(i:Nat)(u:Va),e4 W base e E v xs→e4 (W.setCell ⟨br,i,J⟩ u) base e E v xs:=fun i u k=>k.kept (x4 _ _ _ u) (.inr fun e=>by have:=(k.lt e).1;have:=a.lr;omega)
 have j:=a.n.ne a.r (by decide);have h:=a.f.ne a.r (by decide);have d:∀{W:Wd}{g:Nat}{t:Ti}{cs:Array Va}(i:Nat)(u:Va),b9 W g t cs→g≠br→b9 (W.setCell ⟨br,i,J⟩ u) g t cs:=fun i u k o=>k.grown (x4 _ _ _ u) (fun e=>by injection e with e;exact o e)
 have f:∀(W:Wd)(i:Nat)(u:Va),MV (uO br bn va vn) W (uO br bn va vn) (W.setCell ⟨br,i,J⟩ u):=fun W i u=> .l (x4 _ _ _ u) (fun k n=>by cases n;exact .inl rfl) fun b m=> .inl m
 exact⟨⟨(a.r.f 1 _).f 2 _,d _ _ (d _ _ a.n j) j,d _ _ (d _ _ a.f h) h,c _ _ (c _ _ a.a),c _ _ (c _ _ a.m),a.lr,a.ln,a.lf,c8 a.hb (c8 (x4 _ _ _ _).size (x4 _ _ _ _).size)⟩,(f _ _ _).trans (f _ _ _)⟩
end
theorem TZ{w:Wd}{br bn bf base:Nat}{file:ByteArray}{fx fy va vn:Va}{σ:US}(a:UI w br bn bf base file fx fy σ va vn)(j:σ.notes.length+1≤1000000)(n e:Int)(t:ByteArray):
  Ca prog 59 #[I M n,I M e,Y t,K bn,K bf] w fun g w'=>g=X (Tp #[])∧∃v',UI w' br bn bf base file fx fy {σ with notes:=σ.notes++[⟨file,n,e,t⟩]} va v'∧MV (uO br bn va vn) w (uO br bn va v') w':=by
 have q:=a.n.cell 0;have r:=a.f.cell 0;have H:=a6 a;have b:=a.h ((a9.refl w).alloc (U #[Y file,I M n,I M e,Y t] 73));have l:=b.hb;have k:=b.m;have f:=a6 b;clear a b;go_in;go_wp2_with(at_builtin;refine j3 rfl (Tm 8) (Tm 15) 41 73 rfl lX base _ σ.notes rfl k _ 1 1 [⟨file,n,e,t⟩] rfl rfl (fF (by simp) rfl) j l ?_;intro z A c x i h;obtain⟨m,o,d⟩:=f.mvN i c h;have u:=d.cell 0;have v:=d.frozen 0;obtain⟨p,y,s,rfl⟩:=c.f)
 go_end0
 exact⟨rfl,_,m,(MV.f ((a9.refl w).alloc _)).trans o⟩
end
structure Sy where
 code:Int
 k:Int
 th:Int
 el:Int
 deriving DecidableEq
def Sy.cells(i:Sy):Array Va:= #[I U1 i.code,I V i.k,I M i.th,I M i.el]
def Sy.val(i:Sy):Va:=Ag i.cells
def LJ(x:Int):Prop:= -9223372036854775808≤x∧x<9223372036854775808
def Sy.ok(i:Sy):Prop:=(0≤i.code∧i.code<65536)∧(0≤i.k∧i.k<4294967296)∧LJ i.th∧LJ i.el
def sc(ps:List Sy):List Va:=ps.flatMap fun i=>i.cells.toList
def c6:Sy:=⟨0,0,0,0⟩
theorem P6(i:Sy)(ps:List Sy):sc (i::ps)=i.cells.toList++sc ps:=rfl
theorem MW(a b:List Sy):sc (a++b)=sc a++sc b:=by simp[sc]
theorem K4:∀ps:List Sy,(sc ps).length=4*ps.length
 |[]=>rfl
 |i::ps=>by rw[P6,a2e,K4 ps];simp[Sy.cells];omega
theorem TB:∀ps:List Sy,∀u∈sc ps,u.oneCell'=Bt:=fun ps u b=>by
 obtain⟨i,_,a⟩:=List.mem_flatMap.1 b;simp only[Sy.cells,List.mem_cons,List.not_mem_nil,or_false]at a;rcases a with rfl|rfl|rfl|rfl<;>rfl
theorem zP:∀(ps:List Sy)(k r:Nat)(a:k<ps.length),r<4→(sc ps)[k*4+r]? =ps[k].cells.toList[r]?
 |i::ps,0,r,_,hr=>by
  rw[P6,List.getElem?_append_left (by simp[Sy.cells];omega)];simp
 |i::ps,k+1,r,a,hr=>by
  have b:k<ps.length:=by simpa using a
  rw[P6,List.getElem?_append_right (by simp[Sy.cells];omega)];have e:(k+1)*4+r-i.cells.toList.length=k*4+r:=by simp[Sy.cells];omega
  rw[e,zP ps k r b hr];simp
theorem D8{w:Wd}{b a:Nat}{ps:List Sy}(c:h9 w (So ⟨b,a,J⟩) (sc ps)){k:Nat}(d:k<ps.length):
  w.cell? ⟨b,a+k*4,J⟩=So (I U1 ps[k].code)∧w.cell? ⟨b,a+k*4+1,J⟩=So (I V ps[k].k)∧w.cell? ⟨b,a+k*4+2,J⟩=So (I M ps[k].th)∧w.cell? ⟨b,a+k*4+3,J⟩=So (I M ps[k].el):=by
 refine⟨c.cell (k:=k*4) ?_,c.cell (k:=k*4+1) ?_,c.cell (k:=k*4+2) ?_,c.cell (k:=k*4+3) ?_⟩
 ·exact zP ps k 0 d (by omega)
 ·exact zP ps k 1 d (by omega)
 ·exact zP ps k 2 d (by omega)
 ·exact zP ps k 3 d (by omega)
theorem oQ{w:Wd}{a:Option Ad}{ps:List Sy}(c:h9 w a (sc ps))(e:0<ps.length):∃b d,a=So ⟨b,d,J⟩∧b<w.heap.size:=c.some_ (by rw[K4];omega)
def l0(c:Int):Bool:=c==21||c==37||c==53||c==69
def cE(s:Sy):Bool:=s.th==0&&s.el==0
def N5(a b n:Int):Bool:=Dc (a<n)&&Dc (n<b)
def aM(s:Sy)(a b:Int):Bool:=
 if s.code==32 then cE s&&(s.k % 4==0&&Dc (s.k<64))
 else if s.code==84||s.code==6 then cE s
 else if s.code==5 then(s.k==0&&s.el==0)&&N5 a b s.th
 else l0 s.code&&N5 a b s.th&&N5 a b s.el
def fE(ps:List Sy):Bool:=Dc (1≤ps.length)&&Dc (ps.length≤131072)&&(ps.getD (ps.length-1) c6).code==6&&(q5 ps.length).all fun i=>aM (ps.getD i c6) i ps.length
def cG(s:Sy):Bool:=s.code==5||l0 s.code
def dO(s:Sy)(k i:Nat):Bool:=(!cG s&& !(s.code==6)&&Dc (i=k+1))||(cG s&&s.th==(i:Int))||(l0 s.code&&s.el==(i:Int))
def eB(ps:List Sy)(l:List Bool)(k:Nat):List Bool:=
 if !l.getD k Bf||(ps.getD k c6).code==6 then l
 else if !cG (ps.getD k c6)then l.set (k+1) Bt
 else if l0 (ps.getD k c6).code then(l.set (ps.getD k c6).th.toNat Bt).set (ps.getD k c6).el.toNat Bt
 else l.set (ps.getD k c6).th.toNat Bt
def B7(ps:List Sy)(k:Nat):List Bool:=(q5 k).foldl (eB ps) ((a2A ps.length Bf).set 0 Bt)
theorem cA(ps:List Sy)(k:Nat):B7 ps (k+1)=eB ps (B7 ps k) k:=by simp[B7,List.range_succ,List.foldl_append]
def eE(ps:List Sy):List Bool:=B7 ps ps.length
def m2(ps:List Sy)(i:Nat):Bool:=(B7 ps i).getD i Bf
theorem xZ(ps:List Sy)(l:List Bool)(k:Nat):(eB ps l k).length=l.length:=by
 unfold eB
 (repeat' split)<;>simp
theorem I9(ps:List Sy):∀k,(B7 ps k).length=ps.length
 |0=>by simp[B7]
 |k+1=>by rw[cA,xZ,I9 ps k]
theorem tW(l:List Bool)(i j:Nat)(a:Bool):(l.set i a).getD j Bf=if i=j∧j<l.length then a else l.getD j Bf:=by
 simp only[a8,List.getElem?_set];by_cases b:i=j
 ·subst b
  by_cases c:i<l.length
  ·simp[c]
  ·simp[c]
 ·simp[b]
structure m9(ps:List Sy):Prop where
 l1:1≤ps.length
 l2:ps.length≤131072
 last:(ps.getD (ps.length-1) c6).code=6
 one:∀i,i<ps.length→aM (ps.getD i c6) i ps.length=Bt
theorem iU{ps:List Sy}(h:fE ps=Bt):m9 ps:=by
 unfold fE at h;simp only[Bool.and_eq_true,decide_eq_true_eq,List.all_eq_true,List.mem_range,beq_iff_eq]at h;exact⟨h.1.1.1,h.1.1.2,h.1.2,h.2⟩
inductive H5(s:Sy)(a n:Int):Prop where
 |ld (h:s.code=32) (t:s.th=0) (e:s.el=0) (k:s.k % 4=0∧s.k<64):H5 s a n
 |an (h:s.code=84) (t:s.th=0) (e:s.el=0):H5 s a n
 |re (h:s.code=6) (t:s.th=0) (e:s.el=0):H5 s a n
 |ja (h:s.code=5) (k:s.k=0) (e:s.el=0) (t:a<s.th∧s.th<n):H5 s a n
 |as (h:s.code=21∨s.code=37∨s.code=53∨s.code=69) (t:a<s.th∧s.th<n) (e:a<s.el∧s.el<n):H5 s a n
theorem a0P{s:Sy}{a n:Int}(b:aM s a n=Bt):H5 s a n:=by
 unfold aM cE N5 l0 at b;by_cases c:s.code=32
 ·simp[c]at b
  exact .ld c b.1.1 b.1.2 ⟨b.2.1,b.2.2⟩
 by_cases d:s.code=84
 ·simp[d]at b
  exact .an d b.1 b.2
 by_cases e:s.code=6
 ·simp[e]at b
  exact .re e b.1 b.2
 by_cases f:s.code=5
 ·simp[f]at b
  exact .ja f b.1.1 b.1.2 b.2
 simp[c,d,e,f]at b;exact .as (by have:=b.1.1;omega) b.1.2 b.2
theorem iJ(l:List Bool)(i j:Nat)(a:j<l.length):(l.set i Bt).getD j Bf=(l.getD j Bf||decide (i=j)):=by
 rw[tW];by_cases e:i=j<;>simp[e,a]
theorem gL(t j:Nat):((t:Int)==(j:Int))=Dc (t=j):=by
 by_cases e:t=j
 ·simp[e]
 ·have:¬((t:Int)=j):=by omega
  simp[e,this]
theorem b1(d x y:Bool):(Bt&&Bt&&d||false&&x||false&&y)=d:=by cases d<;>rfl
theorem b2(d x y:Bool):(Bf&&Bt&&d||true&&x||false&&y)=x:=by cases d<;>cases x<;>rfl
theorem b3(d x y:Bool):(Bf&&Bt&&d||true&&x||true&&y)=(x||y):=by cases d<;>cases x<;>cases y<;>rfl
theorem b4(d x y:Bool):(Bt&&Bf&&d||false&&x||false&&y)=Bf:=by cases d<;>rfl
theorem kS{s:Sy}{a n:Int}(c:H5 s a n)(k i:Nat):dO s k i=if s.code=6 then Bf else if s.code=32∨s.code=84 then Dc (i=k+1)else if s.code=5 then s.th==(i:Int)else(s.th==(i:Int)||s.el==(i:Int)):=by
 unfold dO cG l0;rcases c with⟨b,_,_,_⟩|⟨b,_,_⟩|⟨b,_,_⟩|⟨b,_,_,_⟩|⟨b,_,_⟩
 ·rw[b];exact b1 _ _ _
 ·rw[b];exact b1 _ _ _
 ·rw[b];exact b4 _ _ _
 ·rw[b];exact b2 _ _ _
 ·rcases b with b|b|b|b<;>rw[b]<;>exact b3 _ _ _
theorem rJ{s:Sy}{a n:Int}(c:H5 s a n)(ps:List Sy)(l:List Bool)(k:Nat)(e:ps.getD k c6=s)(d:l.getD k Bf=Bt):
  eB ps l k=if s.code=6 then l else if s.code=32∨s.code=84 then l.set (k+1) Bt else if s.code=5 then l.set s.th.toNat Bt else(l.set s.th.toNat Bt).set s.el.toNat Bt:=by
 unfold eB cG l0;rw[e,d];rcases c with⟨b,_,_,_⟩|⟨b,_,_⟩|⟨b,_,_⟩|⟨b,_,_,_⟩|⟨b,_,_⟩
 ·rw[b];rfl
 ·rw[b];rfl
 ·rw[b];rfl
 ·rw[b];rfl
 ·rcases b with b|b|b|b<;>rw[b]<;>rfl
theorem qD{ps:List Sy}(g:m9 ps)(k i:Nat)(f:k<ps.length)(a:dO (ps.getD k c6) k i=Bt):k<i:=by
 have e:=a0P (g.one k f);rw[kS e]at a;generalize ps.getD k c6=s at*;rcases e with⟨b,c,d,_⟩|⟨b,c,d⟩|⟨b,c,d⟩|⟨b,_,d,c⟩|⟨b,c,d⟩
 ·rw[if_neg (by omega),if_pos (by omega)]at a
  have:=of_decide_eq_true a;omega
 ·rw[if_neg (by omega),if_pos (by omega)]at a
  have:=of_decide_eq_true a;omega
 ·rw[if_pos b]at a;cases a
 ·rw[if_neg (by omega),if_neg (by omega),if_pos b]at a
  have:=eq_of_beq a;omega
 ·rw[if_neg (by omega),if_neg (by omega),if_neg (by omega)]at a
  rcases Bool.or_eq_true _ _▸a with a|a
  ·have:=eq_of_beq a
   omega
  ·have:=eq_of_beq a
   omega
theorem uY{ps:List Sy}(i:m9 ps)(l:List Bool)(o:l.length=ps.length)(k j:Nat)(h:k<ps.length)(n:j<ps.length):
  (eB ps l k).getD j Bf=(l.getD j Bf||(l.getD k Bf&&dO (ps.getD k c6) k j)):=by
 have e:=a0P (i.one k h);have b:j<l.length:=by omega
 rcases g:l.getD k Bf with _|_
 ·have:eB ps l k=l:=by
   unfold eB;rw[g];rfl
  rw[this];simp
 rw[kS e,rJ e ps l k rfl g];generalize ps.getD k c6=s at*;rcases e with⟨a,c,d,_⟩|⟨a,c,d⟩|⟨a,c,d⟩|⟨a,_,d,c⟩|⟨a,c,d⟩
 ·rw[if_neg (by omega),if_pos (by omega),if_neg (by omega),if_pos (by omega),iJ l _ j b,Bool.true_and,show Dc (k+1=j)=Dc (j=k+1)from by rw[decide_eq_decide];omega]
 ·rw[if_neg (by omega),if_pos (by omega),if_neg (by omega),if_pos (by omega),iJ l _ j b,Bool.true_and,show Dc (k+1=j)=Dc (j=k+1)from by rw[decide_eq_decide];omega]
 ·rw[if_pos a,if_pos a,Bool.true_and,Bool.or_false]
 ·obtain⟨t,f⟩:∃t:Nat,s.th=t:=⟨s.th.toNat,by omega⟩
  rw[if_neg (by omega),if_neg (by omega),if_pos a,if_neg (by omega),if_neg (by omega),if_pos a,Bool.true_and,f,a4A,gL,iJ l _ j b]
 ·obtain⟨t,f⟩:∃t:Nat,s.th=t:=⟨s.th.toNat,by omega⟩
  obtain⟨u,m⟩:∃u:Nat,s.el=u:=⟨s.el.toNat,by omega⟩;rw[if_neg (by omega),if_neg (by omega),if_neg (by omega),if_neg (by omega),if_neg (by omega),if_neg (by omega),Bool.true_and,f,m,a4A,a4A,gL,gL,iJ _ _ j (by rw[List.length_set];exact b),iJ l _ j b,Bool.or_assoc]
theorem lI{ps:List Sy}(c:m9 ps)(j:Nat)(b:j<ps.length):∀i,i≤ps.length→(B7 ps i).getD j Bf=(Dc (j=0)||(q5 i).any fun k=>m2 ps k&&dO (ps.getD k c6) k j)
 |0,_=>by
  simp only[B7,List.range_zero,List.foldl_nil,List.any_nil,Bool.or_false];rw[tW];by_cases a:0=j
  ·simp[←a];omega
  ·have:¬j=0:=fun e=>a e.symm
   simp[a,this,a8,b]
 |i+1,a=>by
  rw[cA,uY c _ (I9 ps i) i j (by omega) b,lI c j b i (by omega),List.range_succ,List.any_append];simp[m2,Bool.or_assoc]
theorem jO{ps:List Sy}(a:m9 ps)(j:Nat)(b:j<ps.length):∀d,j+d≤ps.length→(B7 ps (j+d)).getD j Bf=m2 ps j
 |0,_=>rfl
 |d+1,h=>by
  rw[←Nat.add_assoc,cA,uY a _ (I9 ps _) (j+d) j (by omega) b,jO a j b d (by omega)];cases c:dO (ps.getD (j+d) c6) (j+d) j
  ·simp
  ·have:=qD a (j+d) j (by omega) c
   omega
theorem IJ{ps:List Sy}(f:m9 ps):eE ps=(q5 ps.length).map (m2 ps):=by
 have d:(eE ps).length=ps.length:=I9 ps _;refine List.ext_getElem (by rw[d];simp) fun j b g=> ?_
 have c:j<ps.length:=by omega
 have a:=jO f j c (ps.length-j) (by omega);rw[show j+(ps.length-j)=ps.length by omega]at a;have e:(eE ps)[j]=(eE ps).getD j Bf:=by rw[a8,e9 b];rfl
 rw[e];simp only[List.getElem_map,List.getElem_range];exact a
theorem BV:(prog.info? 374).map (fun i=>(i.zero,i.size,i.bytes))=So (So (Ag #[I U1 0,I V 0,I M 0,I M 0]),4,24):=by kernel_rfl
theorem U7(c:Int)(W:Wd):Ca prog 382 #[I U1 c] W fun e i=>e=X (O (l0 c))∧W=i:=by
 obtain⟨R,f⟩:∃R,l0 c=R:=⟨_,rfl⟩;rw[f];have a:=a6 f;clear f;rcases b:(c==21)with _|_
 ·rcases d:(c==37)with _|_
  ·rcases g:(c==53)with _|_
   ·rcases h:(c==69)with _|_
    all_goals
     go_in;go_wp2;go_ret;exact⟨by rw[←a.out];unfold l0;rw[b,d,g,h];rfl,rfl⟩
   ·go_in
    go_wp2;go_ret;exact⟨by rw[←a.out];unfold l0;rw[b,d,g];rfl,rfl⟩
  ·go_in
   go_wp2;go_ret;exact⟨by rw[←a.out];unfold l0;rw[b,d];rfl,rfl⟩
 ·go_in
  go_wp2;go_ret;exact⟨by rw[←a.out];unfold l0;rw[b];rfl,rfl⟩
theorem L3(x a z:Int)(d f:Nat)(W:Wd)(h:b9 W d 3 #[I M a])(i:b9 W f 3 #[I M z]):
  Ca prog 381 #[I M x,K d,K f] W fun e k=>e=X (O (N5 a z x))∧W=k:=by
 obtain⟨R,b⟩:∃R,N5 a z x=R:=⟨_,rfl⟩;rw[b];have c:=a6 b;clear b;have l:=h.cell 0;have m:=i.cell 0;rcases g:Dc (a<x)with _|_
 ·go_in
  go_wp2;go_ret;exact⟨by rw[←c.out];unfold N5;rw[g];rfl,rfl⟩
 ·rcases j:Dc (x<z)with _|_
  all_goals
   go_in;go_wp2;go_ret;exact⟨by rw[←c.out];unfold N5;rw[g,j];rfl,rfl⟩
theorem a4g:(⟨0,0,0,0,0,0,0,0,0⟩:r9).ok:=⟨by unfold B4;decide,by unfold B4;decide,by unfold mT;decide,by unfold mT;decide,by unfold mT;decide,by unfold mT;decide,by unfold mT;decide,by unfold mT;decide,by unfold mT;decide⟩
theorem vF(k:Int):(s1 k==0)=(k % 4==0&&Dc (k<64)):=by
 unfold s1 Y5;by_cases a:k % 4=0
 ·by_cases b:k<64
  ·simp[a,b]
  ·simp[a,b]
 ·simp[a]
theorem a07(s:Sy)(u:s.ok)(a z:Int)(W:Wd):
  Ca prog 336 #[s.val,I M a,I M z] W fun e y=>e=X (O (aM s a z))∧a9 W y:=by
 obtain⟨R,q⟩:∃R,aM s a z=R:=⟨_,rfl⟩;rw[q];have f:=a6 q;clear q;have j:0≤s.k∧s.k<4294967296:=u.2.1;obtain⟨co,k,th,el⟩:=s;unfold Sy.val Sy.cells;dsimp only at*;have b:=(((a9.refl W).alloc (U #[I U1 co,I V k,I M th,I M el] 374)).alloc (U #[I M a] 3)).alloc (U #[I M z] 3);have B:=((b9.new W 374 #[I U1 co,I V k,I M th,I M el]).alloc (U #[I M a] 3)).alloc (U #[I M z] 3);have A:b9 (((W.alloc (U #[I U1 co,I V k,I M th,I M el] 374)).alloc (U #[I M a] 3)).alloc (U #[I M z] 3)) (W+1) 3 #[I M a]:=(b9.b (by simp)).alloc _;have C:b9 (((W.alloc (U #[I U1 co,I V k,I M th,I M el] 374)).alloc (U #[I M a] 3)).alloc (U #[I M z] 3)) (W+1+1) 3 #[I M z]:=b9.b (by simp);have t:=a6 (fun W'=>yP ⟨0,0,0,0,0,0,0,0,0⟩ a4g k W' j.1 j.2);have m:=vF k;clear u j;have d:=a9.refl W;rcases r:(th==0)with _|_<;>rcases o:(el==0)with _|_
 all_goals
  rcases g:(co==32)with _|_
  ·clear t m
   rcases h:(co==84)with _|_
   ·rcases i:(co==6)with _|_
    ·rcases l:(co==5)with _|_
     ·rcases p:l0 co with _|_
      ·skip
       go_in;go_wp2_with(first
        |(go_at_call 381;apply(L3 _ a z _ _ _ (by assumption) (by assumption)).mono;rintro e c⟨rfl,rfl⟩)
        |(go_at_call 382;apply(U7 _ _).mono;rintro e c⟨rfl,rfl⟩))
       go_ret;exact⟨by rw[←f.out];simp[aM,cE,g,h,i,l,p],by first|exact b|exact b.trans d⟩
      ·rcases n:N5 a z th with _|_
       ·skip
        go_in;go_wp2_with(first
         |(go_at_call 381;apply(L3 _ a z _ _ _ (by assumption) (by assumption)).mono;rintro e c⟨rfl,rfl⟩)
         |(go_at_call 382;apply(U7 _ _).mono;rintro e c⟨rfl,rfl⟩))
        go_ret;exact⟨by rw[←f.out];simp[aM,cE,g,h,i,l,p,n],by first|exact b|exact b.trans d⟩
       ·rcases w:N5 a z el with _|_
        all_goals
         go_in;go_wp2_with(first
          |(go_at_call 381;apply(L3 _ a z _ _ _ (by assumption) (by assumption)).mono;rintro e c⟨rfl,rfl⟩)
          |(go_at_call 382;apply(U7 _ _).mono;rintro e c⟨rfl,rfl⟩))
         go_ret;exact⟨by rw[←f.out];simp[aM,cE,g,h,i,l,p,n,w],by first|exact b|exact b.trans d⟩
     ·rcases j:(k==0)with _|_
      ·skip
       go_in;go_wp2_with(first
        |(go_at_call 381;apply(L3 _ a z _ _ _ (by assumption) (by assumption)).mono;rintro e c⟨rfl,rfl⟩)
        |(go_at_call 382;apply(U7 _ _).mono;rintro e c⟨rfl,rfl⟩))
       go_ret;exact⟨by rw[←f.out];simp[aM,cE,g,h,i,l,j],by first|exact b|exact b.trans d⟩
      ·rcases n:N5 a z th with _|_
       all_goals
        go_in;go_wp2_with(first
         |(go_at_call 381;apply(L3 _ a z _ _ _ (by assumption) (by assumption)).mono;rintro e c⟨rfl,rfl⟩)
         |(go_at_call 382;apply(U7 _ _).mono;rintro e c⟨rfl,rfl⟩))
        go_ret;exact⟨by rw[←f.out];simp[aM,cE,g,h,i,l,j,o,n],by first|exact b|exact b.trans d⟩
    ·skip
     go_in;go_wp2_with(first
      |(go_at_call 381;apply(L3 _ a z _ _ _ (by assumption) (by assumption)).mono;rintro e c⟨rfl,rfl⟩)
      |(go_at_call 382;apply(U7 _ _).mono;rintro e c⟨rfl,rfl⟩))
     go_ret;exact⟨by rw[←f.out];simp[aM,cE,g,h,i,r,o],by first|exact b|exact b.trans d⟩
   ·skip
    go_in;go_wp2_with(first
     |(go_at_call 381;apply(L3 _ a z _ _ _ (by assumption) (by assumption)).mono;rintro e c⟨rfl,rfl⟩)
     |(go_at_call 382;apply(U7 _ _).mono;rintro e c⟨rfl,rfl⟩))
    go_ret;exact⟨by rw[←f.out];simp[aM,cE,g,h,r,o],by first|exact b|exact b.trans d⟩
  ·rcases x:(s1 k==0)with _|_
   all_goals
    rw[x]at m;have v:=a6 m;clear m;go_in;go_wp2_with(go_at_call 136;apply(t _).mono;rintro e c⟨rfl,d⟩)
    go_ret;exact⟨by rw[←f.out];unfold aM cE;rw[←v.out];simp[g,r,o],by first|exact b|exact b.trans d⟩
theorem nS(ps:List Sy)(a:ps.length=0∨131072<ps.length∨(ps.getD (ps.length-1) c6).code≠6∨∃k,k<ps.length∧aM (ps.getD k c6) k ps.length=Bf):fE ps=Bf:=by
 cases d:fE ps
 ·rfl
 ·exfalso
  have:=iU d;rcases a with a|a|a|⟨k,c,a⟩
  ·have:=this.l1;omega
  ·have:=this.l2;omega
  ·exact a this.last
  ·have b:=this.one k c
   rw[a]at b;cases b
theorem VG(ps:List Sy)(a:1≤ps.length)(b:ps.length≤131072)(c:(ps.getD (ps.length-1) c6).code=6)(d:∀k,k<ps.length→aM (ps.getD k c6) k ps.length=Bt):fE ps=Bt:=by
 unfold fE;rw[Bool.and_eq_true,Bool.and_eq_true,Bool.and_eq_true];exact⟨⟨⟨decide_eq_true a,decide_eq_true b⟩,by rw[c];rfl⟩,List.all_eq_true.2 fun k e=>d k (List.mem_range.1 e)⟩
theorem nV{ps:List Sy}{k:Nat}(a:k<ps.length):ps.getD k c6=ps[k]:=by rw[a8,e9 a];rfl
theorem LA(v:Option Ad)(n c:Nat)(ps:List Sy)(w:Wd)(N:ps.length=n)(L:∀i∈ps,i.ok)(ap:n≤maxLen)(C:h9 w v (sc ps)):
  Ca prog 256 #[Z v n c] w fun e aj=>e=X (O (fE ps))∧a9 w aj:=by
 obtain⟨R,o⟩:∃R,fE ps=R:=⟨_,rfl⟩;rw[o];have b:=a6 o;clear o;obtain⟨f,a,aa⟩:=p7 C N L;clear C N L;by_cases B:n=0
 ·subst B
  go_in;go_wp2_with fail
  go_ret;exact⟨by rw[←b.out,nS ps (.inl a.out)];try rfl,a9.refl _⟩
 by_cases F:131072<n
 ·have ak:Dc ((n:Int)<1)=Bf:=by simp;omega
  have al:Dc ((131072:Int)<n)=Bt:=by simp;omega
  go_in;go_wp2_with fail
  go_ret;exact⟨by rw[←b.out,nS ps (.inr (.inl (by rw[a.out];exact F)))];try rfl,a9.refl _⟩
 obtain⟨m,rfl⟩:∃m,n=m+1:=⟨n-1,by omega⟩;have r:m<ps.length:=by rw[a.out];omega
 obtain⟨am,au,rfl,_⟩:=oQ f (by omega);obtain⟨d,_,_,_⟩:=D8 f r;have ak:Dc (((m:Int)+1)<1)=Bf:=by simp;omega
 have al:Dc ((131072:Int)<(m:Int)+1)=Bf:=by simp;omega
 have ao:(((m+1:Nat)):Int)=(m:Int)+1:=by omega
 have ar:(m:Int)≤131071:=by omega
 have aq:(0:Int)≤m:=by omega
 have av:IntKind.i64.wrap ((m:Int)+1-1)=m:=by rw[show(m:Int)+1-1=m by omega];exact a37 _ (by omega)
 have H:ps.getD (ps.length-1) c6=ps[m]:=by rw[a.out,Nat.add_sub_cancel];exact nV r
 have A:=a6 H;clear H B F;rcases p:(ps[m].code !=6)with _|_
 ·have l:ps[m].code=6:=by simpa using p
  have x:=a6 l;rw[l]at d;clear p l;clear d;obtain⟨d,_,_,_⟩:=D8 f r;rw[x.out]at d;go_in;go_wp2_with fail
  clear d;go_loopw [25] (fun u W=>∃k:Nat,k≤m+1∧u=I M k∧(∀j,j<k→aM (ps.getD j c6) j ((m:Int)+1)=Bt)∧a9 w W) (fun u _=>(m+1)-(intOf u).toNat)
  case atStart=>exact⟨0,i5 _,rfl,(fun j ac=>by omega),a9.refl _⟩
  case round=>
   obtain⟨k,q,rfl,D,t⟩:=hrel;have y:=a6 D;clear D;by_cases ad:k<m+1
   ·have g:k<ps.length:=by rw[a.out];exact ad
    obtain⟨af,ag,ah,ai⟩:=D8 (f.h t) g;obtain⟨ab,z⟩:=i6 (aa _ (a30 g)) (nV g);have k1:(0:Int)≤k:=by omega
    have k2:(k:Int)<(m:Int)+1:=by omega
    have k3:(k:Int)≤131071:=by omega
    generalize ps[k]=s at*;obtain⟨co,kk,th,el⟩:=s;dsimp only at af ag ah ai;have Q:=a6 (fun W'=>a07 ⟨co,kk,th,el⟩ ab k ((m:Int)+1) W');go_wp2_with fail
    apply(Q _).mono;rintro e aw⟨rfl,ae⟩;have P:=(t.alloc _).trans ae;rcases E:aM ⟨co,kk,th,el⟩ k ((m:Int)+1)with _|_
    ·have h:=a6 E
     go_wp2_with fail
     go_ret;exact⟨by rw[←b.out,nS ps (.inr (.inr (.inr ⟨k,g,by rw[z.out,a.out];exact h.out⟩)))];try rfl,P⟩
    ·have h:=a6 E
     go_wp2_with fail
     go_roundw
     case rel=>
      refine⟨k+1,by omega,by go_num,fun j ac=> ?_,P⟩;by_cases e:j=k
      ·subst e
       rw[z.out];exact h.out
      ·exact y j (by omega)
     case measure=>simp[intOf];omega
   ·obtain rfl:k=m+1:=by omega
    go_wp2_with fail
    go_ret;exact⟨by rw[←b.out,VG ps (by rw[a.out];omega) (by rw[a.out];omega) (by rw[A.out];exact x.out) (fun k q=>by rw[a.out]at q⊢;exact y k q)];try rfl,t⟩
 ·have S:=a6 p
  generalize G:ps[m].code=an at*;have T:=a6 G;clear G;go_in;go_wp2_with fail
  go_ret;exact⟨by rw[←b.out,nS ps (.inr (.inr (.inl (by rw[A.out,T.out];have:=S.out;simpa using this))))];try rfl,a9.refl _⟩
def C7(l:List Bool):Array Va:=(l.map O).toArray
theorem I8(l:List Bool)(k:Nat)(a:k<l.length):(C7 l)[k]? =So (O l[k]):=by simp[C7,a]
theorem L4(l:List Bool)(k:Nat)(b:Bool):(C7 l).setIfInBounds k (O b)=C7 (l.set k b):=by simp[C7,List.map_set]
theorem tQ:(prog.info? 4).map (fun i=>(i.zero,i.size,i.bytes))=So (So (O Bf),1,1):=by kernel_rfl
theorem uW(n:Nat):madeCells #[O Bf] n=C7 (a2A n Bf):=by
 apply Array.toList_inj.1;rw[toList_madeCells_one];simp[C7]
theorem jA{s:Sy}{a n:Int}(c:H5 s a n):(Y3 s.code).1.cls=if s.code=32 then 1 else if s.code=84 then 3 else if s.code=6 then 5 else 4:=by
 rcases c with⟨b,_,_,_⟩|⟨b,_,_⟩|⟨b,_,_⟩|⟨b,_,_,_⟩|⟨b,_,_⟩
 ·rw[b];kernel_rfl
 ·rw[b];kernel_rfl
 ·rw[b];kernel_rfl
 ·rw[b];kernel_rfl
 ·rcases b with b|b|b|b<;>rw[b]<;>kernel_rfl
theorem wH(s:Sy)(b:(Y3 s.code).1.cls=4)(W:Wd):Ca prog 344 #[s.val] W fun e g=>e=X (O (s.code !=5))∧a9 W g:=by
 have a:=a6 (fun W'=>y7 s.code W');rw[b]at a;clear b;obtain⟨co,k,th,el⟩:=s;unfold Sy.val Sy.cells;dsimp only at*;have f:=(a9.refl W).alloc (U #[I U1 co,I V k,I M th,I M el] 374);have d:=b9.new W 374 #[I U1 co,I V k,I M th,I M el];go_in;go_wp2_with fail
 apply(a _).mono;rintro e m⟨rfl,c⟩;have b1:=d.h c;obtain⟨h,i,j,l⟩:=(b1).c4;go_wp2_with fail
 go_ret;exact⟨rfl,f.trans c⟩
theorem a1b{ps:List Sy}(c:m9 ps){k:Nat}(d:k<ps.length)(a:(ps.getD k c6).code≠6):k+1<ps.length:=by
 have b:=c.last;have:k≠ps.length-1:=fun e=>a (by rw[e];exact b)
 omega
theorem UG(ar:Option Ad)(n c:Nat)(ps:List Sy)(w:Wd)(N:ps.length=n)(ac:m9 ps)(ba:h9 w ar (sc ps)):
  Ca prog 345 #[Z ar n c] w fun e bh=>e=X (Z w n n)∧b9 bh w 4 (C7 (eE ps))∧a9 w bh:=by
 have cm:1≤n:=by have:=ac.l1;omega
 have cn:n≤131072:=by have:=ac.l2;omega
 have ch:∀w:Wd,(Instr.makeSlice 397 (I M (n:Int)) (I M (n:Int))).run prog w= .ok (Z w n n) (w.alloc (U (C7 (a2A n Bf)) 4)):=fun w=>by
  rw[←uW];exact G9 397 4 (O Bf) 1 underlying397 tQ rfl M M n n (a7 _) (by omega) (by decide) w
 obtain⟨au,av,aw,bj⟩:=J5 ba N ac (fun k=>(I9 ps k).trans N);have ah:B7 ps 0=(a2A n Bf).set 0 Bt:=by unfold B7;rw[N];rfl
 obtain⟨bw,bk⟩:=i6 ah (show eE ps=B7 ps n from by unfold eE;rw[N]);have ag:=b9.new w 4 (C7 (a2A n Bf));have bn:=(ag.cell 0).trans (I8 (a2A n Bf) 0 (by simp;omega));have bo:=ag.frozen 0;have ad:b9 (w.alloc (U ((C7 (a2A n Bf)).setIfInBounds 0 (O Bt)) 4)) w 4 (C7 (B7 ps 0)):=by
  have a:=b9.new w 4 ((C7 (a2A n Bf)).setIfInBounds 0 (O Bt));have e:(C7 (a2A n Bf)).setIfInBounds 0 (O Bt)=C7 (B7 ps 0):=by rw[L4,ah]
  unfold b9 at a⊢;rw[a,e]
 obtain⟨ad,bl⟩:=i6 ad ((a9.refl w).alloc (U ((C7 (a2A n Bf)).setIfInBounds 0 (O Bt)) 4));have cp:(0:Int)<n:=by omega
 have cq:(n:Int)≤131072:=by omega
 clear ba N ac ah ag;go_in;go_wp2_with fail
 clear bn bo;go_loopw [13] (fun al W=>∃k:Nat,k≤n∧al=I M k∧a9 w W∧b9 W w 4 (C7 (B7 ps k))) (fun al _=>n-(intOf al).toNat)
 case atStart=>exact⟨0,i5 _,rfl,bl.out,ad.out⟩
 case round=>
  obtain⟨k,ce,rfl,aj,F⟩:=hrel;by_cases bq:k<n
  ·have L:k<ps.length:=by rw[av.out];exact bq
   obtain⟨bz,cr,rfl,bp⟩:=oQ au (by omega);obtain⟨br,bs,bt,bu⟩:=D8 (au.h aj) L;have g:=a0P (aw.one k L);have r:=jA g;have o:=a1b aw L;have bg:=cA ps k;have cg:=bj k;have k1:(0:Int)≤k:=by omega
   have k2:(k:Int)<n:=by omega
   have k3:(k:Int)≤131072:=by omega
   have aa:=fun a=>rJ g ps (B7 ps k) k rfl a
   have az:(B7 ps k).getD k Bf=Bf→eB ps (B7 ps k) k=B7 ps k:=fun a=>by unfold eB;rw[a];rfl
   rw[av.out]at g o;have ai:=(F.cell k).trans (I8 (B7 ps k) k (by omega));have bc:(B7 ps k).getD k Bf=(B7 ps k)[k]'(by omega):=by rw[a8,e9 (by omega)];rfl
   rw[←bc]at ai;rw[nV L]at g r o aa;have B:=a6 bg;clear bg bc;generalize bd:B7 ps k=l at*;generalize ps[k]=s at*;obtain⟨co,kk,th,el⟩:=s;dsimp only at br bs bt bu r o aa;have ay:=b9.new wr 374 #[I U1 co,I V kk,I M th,I M el];have Q:=aj.alloc (U #[I U1 co,I V kk,I M th,I M el] 374);have y:=F.alloc (U #[I U1 co,I V kk,I M th,I M el] 374);have bb:=((y.cell k).trans ((F.cell k).symm.trans ai));have be:w≠wr.heap.size:=by have:=F.lt;omega
   obtain⟨af,ae,bx⟩:=p7 aa az bd;clear az aa bd ai bp L;rcases z:l.getD k Bf with _|_
   ·have b:=ae z
    rw[z]at bb;have i:=a6 b;clear b z ae af;go_wp2_with fail
    go_roundw
    case rel=>exact⟨k+1,by omega,by go_num,Q,by rw[B.out,i.out];exact y⟩
    case measure=>simp[intOf];omega
   ·have b:=af z
    rw[z]at bb;clear ae af z;by_cases d:co=6
    ·rw[if_pos d]at b
     have i:=a6 b;subst d;clear b o r g;go_wp2_with fail
     go_roundw
     case rel=>exact⟨k+1,by omega,by go_num,Q,by rw[B.out,i.out];exact y⟩
     case measure=>simp[intOf];omega
    have cc:(co==6)=Bf:=by simpa using d
    rw[if_neg d]at b;by_cases m:co=32∨co=84
    ·rw[if_pos m]at b
     have i:=a6 b;have cf:k+1<n:=o d;obtain⟨q,bf,ci⟩:∃q:Int,(Y3 co).1.cls=q∧(q !=4)=Bt:=by
      rcases m with a|a
      ·exact⟨1,by rw[a];kernel_rfl,rfl⟩
      ·exact⟨3,by rw[a];kernel_rfl,rfl⟩
     have v:=a6 (fun W'=>y7 co W');rw[bf]at v;have k4:(k:Int)+1<n:=by omega
     clear b o r g m d bf;go_wp2_with fail
     apply(v _).mono;rintro e bi⟨rfl,h⟩;have f:=y.h h;have S:=(f.cell (k+1)).trans (I8 l (k+1) (by omega));have T:=f.frozen (k+1);go_wp2_with fail
     go_roundw
     case rel=>
      have P:=f.f (k+1) (O Bt);rw[L4]at P;exact⟨k+1,by omega,by go_num,(Q.trans h).set (p:=⟨w,k+1,J⟩) (a7 _) _,by rw[B.out,i.out];exact P⟩
     case measure=>simp[intOf];omega
    have D:co≠32:=fun a=>m (.inl a)
    have E:co≠84:=fun a=>m (.inr a)
    rw[if_neg m]at b;have ab:(Y3 co).1.cls=4:=by rw[r,if_neg D,if_neg E,if_neg d]
    obtain⟨v,ax⟩:=i6 (fun W'=>y7 co W') (fun W'=>wH ⟨co,kk,th,el⟩ ab W');rw[ab]at v;obtain⟨t,rfl,cj⟩:∃t:Nat,th=t∧t<n:=by
     rcases g with⟨a,_,_,_⟩|⟨a,_,_⟩|⟨a,_,_⟩|⟨a,_,_,j⟩|⟨a,j,_⟩
     ·exact absurd a D
     ·exact absurd a E
     ·exact absurd a d
     ·exact⟨th.toNat,by dsimp only at j;omega,by dsimp only at j;omega⟩
     ·exact⟨th.toNat,by dsimp only at j;omega,by dsimp only at j;omega⟩
    have cs:(0:Int)≤t:=by omega
    have ct:(t:Int)<n:=by omega
    by_cases x:co=5
    ·rw[if_pos x]at b
     have i:=a6 b;subst x;clear b o r g m d D E ab;go_wp2_with fail
     apply(v _).mono;rintro e bi⟨rfl,h⟩;have f:=y.h h;have S:=(f.cell t).trans (I8 l t (by omega));have T:=f.frozen t;have C:=ay.h h;have R:=C.far (p:=⟨w,t,J⟩) (Ne.symm be) (O Bt);have G:=f.f t (O Bt);rw[L4]at G;have ak:=(Q.trans h).set (p:=⟨w,t,J⟩) (a7 _) (O Bt);have aq:=C.cell 2;obtain⟨am,an,ao,ap⟩:=(R).c4;go_wp2_with fail
     apply(ax _).mono;rintro e bv⟨rfl,A⟩;have H:=G.h A;clear S T aq;go_wp2_with fail
     go_roundw
     case rel=>exact⟨k+1,by omega,by go_num,(ak.trans A),by rw[B.out,i.out];exact H⟩
     case measure=>simp[intOf];omega
    ·rw[if_neg x]at b
     have i:=a6 b;have cb:(co !=5)=Bt:=by simpa using x
     obtain⟨u,rfl,ck⟩:∃u:Nat,el=u∧u<n:=by
      rcases g with⟨a,_,_,_⟩|⟨a,_,_⟩|⟨a,_,_⟩|⟨a,_,_,j⟩|⟨a,_,j⟩
      ·exact absurd a D
      ·exact absurd a E
      ·exact absurd a d
      ·exact absurd a x
      ·exact⟨el.toNat,by dsimp only at j;omega,by dsimp only at j;omega⟩
     have cu:(0:Int)≤u:=by omega
     have cv:(u:Int)<n:=by omega
     clear b o r g m d D E ab x;go_wp2_with fail
     apply(v _).mono;rintro e bi⟨rfl,h⟩;have f:=y.h h;have S:=(f.cell t).trans (I8 l t (by omega));have T:=f.frozen t;have C:=ay.h h;have R:=C.far (p:=⟨w,t,J⟩) (Ne.symm be) (O Bt);have G:=f.f t (O Bt);rw[L4]at G;have ak:=(Q.trans h).set (p:=⟨w,t,J⟩) (a7 _) (O Bt);have aq:=C.cell 2;obtain⟨am,an,ao,ap⟩:=(R).c4;go_wp2_with fail
     apply(ax _).mono;rintro e bv⟨rfl,A⟩;have H:=G.h A;clear S T aq;have bm:=R.h A;clear am an ao ap;obtain⟨am,an,ao,ap⟩:=(bm).c4;have ca:=(H.cell u).trans (I8 (l.set t Bt) u (by rw[List.length_set];omega));have cd:=H.frozen u;go_wp2_with fail
     go_roundw
     case rel=>
      have P:=H.f u (O Bt);rw[L4]at P;exact⟨k+1,by omega,by go_num,(ak.trans A).set (p:=⟨w,u,J⟩) (a7 _) _,by rw[B.out,i.out];exact P⟩
     case measure=>simp[intOf];omega
  ·obtain rfl:k=n:=by omega
   go_wp2_with fail
   go_ret;exact⟨rfl,by rw[bk.out];exact F,aj⟩
section
attribute [local go_sem] Oper.semAt_some
def p1(s:Nat)(A:Option Ad)(n c:Nat)(xs:List Va)(W W':Wd):Prop:=(W.cell? ⟨s,0,J⟩=So (Z A n c)→W'.cell? ⟨s,0,J⟩=So (Z A n c))∧(h9 W A xs→h9 W' A xs)
theorem p1.trans{s:Nat}{e:Option Ad}{n c:Nat}{xs:List Va}{a b d:Wd}(g:p1 s e n c xs a b)(k:p1 s e n c xs b d):p1 s e n c xs a d:=⟨fun f=>k.1 (g.1 f),fun f=>k.2 (g.2 f)⟩
theorem L5(n j:Nat)(b:j<n):(q5 n).reverse.take (n-j)=(q5 n).reverse.take (n-(j+1))++[j]:=by
 have a:n-(j+1)<(q5 n).reverse.length:=by simp;omega
 rw[show n-j=(n-(j+1))+1 by omega,a4a a];congr 2;rw[List.getElem_reverse,List.getElem_range];simp;omega
theorem QN(l s n c B:Nat)(b:Option Ad)(ps:List Sy)(C:ps.length=n)(af:n≤1000000)(Jq:List Nat→Wd→Prop)(y:AbidesFrom B Jq)
  (z:∀r x W,Jq r W→x<n→r.length<n→YieldAt .wide 1 prog l #[I M (x:Nat),(ps.getD x c6).val] W fun e W'=>e=X (O Bt)∧Jq (r++[x]) W'∧p1 s b n c (sc ps) W W')
  (W:Wd) (f:W.cell? ⟨s,0,J⟩=So (Z b n c)) (a:h9 W b (sc ps)) (u:Jq [] W):
  Ci .wide 2 prog 337 #[Fc (.yield l) #[] #[],K s] W fun e W'=>(∃v,e=X v)∧∃xs:List Nat,xs=(q5 n).reverse∧Jq xs W':=by
 have G:=a6 C;have D:IntKind.i64.wrap ((n:Int)-1)=(n:Int)-1:=a37 _ (by omega);clear C;refine Co func337 rfl trivial ?_ rfl;simp only[ntmps337,uE,l9,a4D]
 gi_wp2
 gi_loopw [3] (fun i wr=>∃(k:Nat)(d:Int),k≤n∧d=(k:Int)-1∧i=I M d∧Jq ((q5 n).reverse.take (n-k)) wr∧wr.cell? ⟨s,0,J⟩=So (Z b n c)∧h9 wr b (sc ps)) (fun i _=>(intOf i+1).toNat)
 case atStart=>exact⟨n,_,a7 _,rfl,rfl,by rw[Nat.sub_self];exact u,f,a⟩
 case round=>
  clear f a u;obtain⟨k,d,ag,h,rfl,g,f,a⟩:=hrel;rcases k with _|j
  ·have q:d= -1:=by omega
   subst q;rw[Nat.sub_zero,List.take_of_length_le (by simp)]at g;clear h D
   gi_wp2
   go_end0
   exact⟨⟨_,rfl⟩,_,rfl,g⟩
  ·have q:d=j:=by omega
   subst q;have o:j<n:=by omega
   have p:j<ps.length:=by rw[G.out];exact o
   obtain⟨b1,ah,rfl,N⟩:=oQ a (by omega);obtain⟨aa,ab,ac,ad⟩:=D8 a p;have Q:=a6 (L5 n j o);have A:ps.getD j c6=ps[j]:=by rw[a8,e9 p];rfl
   have m:=a6 (fun(W:Wd)(P:Jq ((q5 n).reverse.take (n-(j+1))) W)=>z _ j W P o (by rw[a4C];simp;omega));rw[A]at m;generalize ps[j]=E at*;obtain⟨co,kk,th,el⟩:=E;simp only[Sy.val,Sy.cells]at m;have b3:(0:Int)≤j:=by omega
   have b4:(j:Int)<n:=by omega
   have ai:IntKind.i64.wrap ((j:Int)-1)=(j:Int)-1:=a37 _ (by omega);obtain⟨t,R,F⟩:=p7 (And.intro f a) y g;clear p z h A D a y g N;gi_wp2_with fail
   obtain⟨ae,tmps,S,T,h,L⟩:=m _ F.out;rw[h]
   gi_wp2
   apply L.mono;rintro e W3⟨rfl,H,w⟩
   gi_wp2
   go_roundw
   case rel=>exact⟨j,_,by omega,rfl,rfl,by rw[Q.out];exact H,w.1 t.1,w.2 t.2⟩
   case measure=>first|(simp[intOf];done)|(simp[intOf];omega)
theorem DQ(a:Option Ad)(n c:Nat)(w:Wd):
  Ci .wide 2 prog 257 #[Z a n c] w fun e b=>e=X (Fc (.func 337) #[] #[K w])∧b=w.alloc (U #[Z a n c] 159):=by
 refine Co func257 rfl trivial ?_ rfl;simp only[ntmps257,uE,l9,a4D]
 gi_wp2
 go_ret;exact⟨rfl,rfl⟩
theorem mP(s n c:Nat)(a:Option Ad)(ps:List Sy)(r:ps.length=n)(m:n≤1000000)(w:Wd)(t:s<w)
  (e:w.cell? ⟨s,0,J⟩=So (Z a n c)) (h:h9 w a (sc ps)):
  jU .wide 2 prog 337 #[K s] (fun i:Nat=> #[I M i,(ps.getD i c6).val]) (fun x _=>x<n) (p1 s a n c (sc ps)) (fun xs=>xs=(q5 n).reverse) n w:=fun l Jq W b g k d=>by
 have f:=(b.cell (p:=⟨s,0,J⟩) t).trans e;have j:h9 W a (sc ps):=h.h b;exact QN l s n c W a ps r m Jq g (fun v x W o u q=>k v x W o u q) W f j d
attribute [local go_sem] Oper.semAt_some
theorem QO(l s n c B:Nat)(b:Option Ad)(ps:List i2)(C:ps.length=n)(af:n≤1000000)(Jq:List Nat→Wd→Prop)(y:AbidesFrom B Jq)
  (z:∀r x W,Jq r W→x<n→r.length<n→YieldAt .wide 1 prog l #[I M (x:Nat),(ps.getD x j5).val] W fun e W'=>e=X (O Bt)∧Jq (r++[x]) W'∧p1 s b n c (pc ps) W W')
  (W:Wd) (f:W.cell? ⟨s,0,J⟩=So (Z b n c)) (a:h9 W b (pc ps)) (u:Jq [] W):
  Ci .wide 2 prog 400 #[Fc (.yield l) #[] #[],K s] W fun e W'=>(∃v,e=X v)∧∃xs:List Nat,xs=(q5 n).reverse∧Jq xs W':=by
 have G:=a6 C;have D:IntKind.i64.wrap ((n:Int)-1)=(n:Int)-1:=a37 _ (by omega);clear C;refine Co func400 rfl trivial ?_ rfl;simp only[ntmps400,uE,l9,a4D]
 gi_wp2
 gi_loopw [3] (fun i wr=>∃(k:Nat)(d:Int),k≤n∧d=(k:Int)-1∧i=I M d∧Jq ((q5 n).reverse.take (n-k)) wr∧wr.cell? ⟨s,0,J⟩=So (Z b n c)∧h9 wr b (pc ps)) (fun i _=>(intOf i+1).toNat)
 case atStart=>exact⟨n,_,a7 _,rfl,rfl,by rw[Nat.sub_self];exact u,f,a⟩
 case round=>
  clear f a u;obtain⟨k,d,ag,h,rfl,g,f,a⟩:=hrel;rcases k with _|j
  ·have q:d= -1:=by omega
   subst q;rw[Nat.sub_zero,List.take_of_length_le (by simp)]at g;clear h D
   gi_wp2
   go_end0
   exact⟨⟨_,rfl⟩,_,rfl,g⟩
  ·have q:d=j:=by omega
   subst q;have o:j<n:=by omega
   have p:j<ps.length:=by rw[G.out];exact o
   obtain⟨b1,aj,rfl,N⟩:=K7 a (by omega);obtain⟨aa,ab,ac,ad⟩:=G1 a p;have Q:=a6 (L5 n j o);have A:ps.getD j j5=ps[j]:=by rw[a8,e9 p];rfl
   have m:=a6 (fun(W:Wd)(P:Jq ((q5 n).reverse.take (n-(j+1))) W)=>z _ j W P o (by rw[a4C];simp;omega));rw[A]at m;generalize ps[j]=E at*;obtain⟨co,ai,ah,kk⟩:=E;simp only[i2.val,i2.cells]at m;have b3:(0:Int)≤j:=by omega
   have b4:(j:Int)<n:=by omega
   have ak:IntKind.i64.wrap ((j:Int)-1)=(j:Int)-1:=a37 _ (by omega);obtain⟨t,R,F⟩:=p7 (And.intro f a) y g;clear p z h A D a y g N;gi_wp2_with fail
   obtain⟨ae,tmps,S,T,h,L⟩:=m _ F.out;rw[h]
   gi_wp2
   apply L.mono;rintro e W3⟨rfl,H,w⟩
   gi_wp2
   go_roundw
   case rel=>exact⟨j,_,by omega,rfl,rfl,by rw[Q.out];exact H,w.1 t.1,w.2 t.2⟩
   case measure=>first|(simp[intOf];done)|(simp[intOf];omega)
theorem ZC(a:Option Ad)(n c:Nat)(w:Wd):
  Ci .wide 2 prog 383 #[Z a n c] w fun e b=>e=X (Fc (.func 400) #[] #[K w])∧b=w.alloc (U #[Z a n c] 49):=by
 refine Co func383 rfl trivial ?_ rfl;simp only[ntmps383,uE,l9,a4D]
 gi_wp2
 go_ret;exact⟨rfl,rfl⟩
theorem DR(s n c:Nat)(a:Option Ad)(ps:List i2)(r:ps.length=n)(m:n≤1000000)(w:Wd)(t:s<w)
  (e:w.cell? ⟨s,0,J⟩=So (Z a n c)) (h:h9 w a (pc ps)):
  jU .wide 2 prog 400 #[K s] (fun i:Nat=> #[I M i,(ps.getD i j5).val]) (fun x _=>x<n) (p1 s a n c (pc ps)) (fun xs=>xs=(q5 n).reverse) n w:=fun l Jq W b g k d=>by
 have f:=(b.cell (p:=⟨s,0,J⟩) t).trans e;have j:h9 W a (pc ps):=h.h b;exact QO l s n c W a ps r m Jq g (fun v x W o u q=>k v x W o u q) W f j d
end
theorem s5{F:Fence}{n:Nat}{P:Pg}{α:Type}{g:Operand}{ps:Array Tmp}{assign body:Code}{Q:Exit→Act→Wd→Prop}{a:Act}{w:Wd}
  (hro:F.round=J) (h1:1≤n) {gf:Nat} {lb:Array Va} (hg:a.eval g=Fc (.func gf) #[] lb) (hFg:F.fn gf) (eg:∀args w,(callFunc gf args).run P w= .ok (.enter gf args) w)
  {encs:α→Array Va} {G:α→Wd→Prop} {Kp:Wd→Wd→Prop} {S:List α→Prop} {N:Nat} {w0:Wd} (hseq:jU F (n-1) P gf lb encs G Kp S N w0)
  (hKt:∀{A B C:Wd},Kp A B→Kp B C→Kp A C) (hKb:∀(W:Wd)(l:Nat)(o o':Obj),w≤l→W.heap[l]? =So o→o.isCells=Bf→o.isWalk=Bf→Kp W (W.putObj l o'))
  (hb0:Below w0 w0 w) (hps:∀x,(encs x).size=ps.size)
  (hG:∀(x:α)(W:Wd)(l:Nat)(o o':Obj),G x W→W.heap[l]? =So o→o.isCells=Bf→G x (W.putObj l o'))
  (aa:List α→Wd→Prop) (hI:OwnFrom w aa) (h0:aa [] w) (A1:α→Nat→Act→Wd→Prop)
  (hA1:∀(x:α)(z:Nat)(a1:Act)(W:Wd)(l:Nat)(o o':Obj),A1 x z a1 W→W.heap[l]? =So o→o.isCells=Bf→A1 x z a1 (W.putObj l o'))
  (hGx:∀(x:α)(W W':Wd),G x W→a9 W W'→G x W') (hKx:∀W W',a9 W W'→Kp W W')
  (hassign:∀(l:Nat)(x:α)(W:Wd)(ab:Act→Wd→Prop),G x W→(∀a1 W1,a9 W W1→A1 x W a1 W1→ab a1 W1)→
   assign.wpIn (F.inRound l) (n-1-1) P (Exit.then ab (fun _ _ _=>False)) {tmps:=(ps.zip (encs x)).foldl (fun t(p,v)=>t.setIfInBounds p v) a.tmps,defers:=[]} W)
  (hbody:∀(l:Nat)(pre:List α)(x:α)(W0 W:Wd)(a1:Act),aa pre W0→aa pre W→G x W→A1 x W0 a1 W→(∀(b:Nat)(o:Obj),W0.heap[b]? =So o→o.isCells=Bt→W.heap[b]? =So o)→pre.length<N→body.wpIn (F.inRound l) (n-1-1) P (iL w Kp aa (pre++[x]) W) a1 W)
  (hdone:∀(D:Nat)(xs:List α)(W:Wd),w≤D→S xs→aa xs W→W.heap[D]? =So (.deferred (So []))→Q .normal {a with defers:= {target:= .collected D,args:= #[]}::a.defers} W):
  (Code.rangeFunc g ps assign body).wpIn F n P Q a w:=by
 refine wpIn_rangeFunc fun fn hfn=> ?_
 rw[hro];obtain⟨rec,hrec⟩:∃rec:LoopState→Option Code→Loop,rec=fun st pe=> {state:=st,pending:=pe,fn,tmps:=a.tmps,params:=ps,assign,body,defers:=w}:=⟨_,rfl⟩
 obtain⟨ac,hV⟩:∃ac,(w.alloc (.deferred (So []))).alloc (.loop (rec .ready J))=ac:=⟨_,rfl⟩;have hL:ac.heap[w.heap.size+1]? =So (.loop (rec .ready J)):=by
  have:=World.alloc_heap_new (w.alloc (.deferred (So []))) (.loop (rec .ready J));rw[World.size_alloc]at this;rw[←hV];exact this
 have hD:ac.heap[w.heap.size]? =So (.deferred (So [])):=by
  rw[←hV];exact(Below.heap_alloc _ _ _ (by simp)).trans (World.alloc_heap_new w _)
 have hIV:aa [] ac:=by rw[←hV];exact hI.alloc _ (hI.alloc _ h0)
 have hbV:Below w0 w0 ac:=by
  rw[←hV];exact hb0.trans ((((Below.refl _ w).alloc (a7 _) _).alloc (by simp) _).mono hb0.size)
 have hz:w+2≤ac.heap.size:=by rw[←hV];simp
 have hE:(Instr.enterLoop fn a.tmps ps assign body J).run P w= .ok (w+1,[{target:= .collected w,args:= #[]}]) ac:=by
  rw[←hV,hrec];exact run_enterLoop_outer _ _ _ _ _
 clear hV;refine⟨w+1,[{target:= .collected w,args:= #[]}],ac,{target:= .fn (.func gf) lb,args:= #[Fc (.yield (w+1)) #[] #[]]},ac,gf,
  #[Fc (.yield (w+1)) #[] #[]]++lb,ac,?_,?_,?_,?_,fun _=>h1,?_⟩
 ·exact hE
 ·simp only[resolve,hg]
  simp[go_sem]
 ·intro f' hf'
  simp[Target.leads]at hf';subst hf';exact hFg
 ·simp[invoke,go_sem,eg]
 ·have far:∀{A B:Wd}{row:Option Nat},(∀r,row=So r→ac.heap.size≤r∧∃o:Obj,A.heap[r]? =So o∧o.isWalk=Bt)→(∀r,row=So r→w.heap.size≤r∧∃o:Obj,A.heap[r]? =So o∧o.isCells=Bf):=
   fun hr r e=>by
    obtain⟨hB,o,ho,hw⟩:=hr r e;exact⟨by omega,o,ho,Obj.not_cells_of_walk hw⟩
  refine(hseq (w+1) (fun pre W=>aa pre W∧W.heap[w.heap.size+1]? =So (.loop (rec .ready J))∧W.heap[w.heap.size]? =So (.deferred (So []))) ac hbV
   (fun s A B row hs hg' hr=>⟨hI s A B row hs.1 hg' (far (B:=B) hr),(grownBy_keeps hg' (fun r e=>(hr r e).2) hs.2.1 rfl).trans hs.2.1,(grownBy_keeps hg' (fun r e=>(hr r e).2) hs.2.2 rfl).trans hs.2.2⟩)
   ?_ ⟨hIV,hL,hD⟩).mono ?_
  ·rintro pre x W⟨hi,hl,hk⟩ hgx hlen
   have hlt:w+1<W.heap.size:=(Array.getElem?_eq_some_iff.1 hl).1;have hy:=run_yield (P:=P) (args:=encs x) hl (by rw[hrec];exact hps x);rw[hrec]at hy;refine⟨fn,_,assign,body,hy,roundIn_of_wpIn hfn (hassign _ x W _ hgx fun a1 W1 hx1 ha1=> ?_)⟩;have hl1:=(hx1.block hlt).trans hl;have hk1:=(hx1.block (by omega:w<W.heap.size)).trans hk;have hlt1:w+1<W1.heap.size:=(Array.getElem?_eq_some_iff.1 hl1).1;have hi1:aa pre W1:=hI _ _ _ J hi ⟨hx1.os,hx1.tape,hx1.output,hx1.size,fun k hk _=>hx1.block hk⟩ (fun r e=>by cases e);have hg1:=hGx x W W1 hgx hx1;have hw1:=hKx W W1 hx1;refine⟨_,run_beginRound hl1 (by rw[hrec]),?_⟩;generalize hW2:W1.putObj (w+1) (.loop {rec .ready J with state:= .busy})=W2;have hl2:W2.heap[w.heap.size+1]? =So (.loop {rec .ready J with state:= .busy}):=by rw[←hW2];exact World.putObj_heap_same hlt1
   have hk2:W2.heap[w.heap.size]? =So (.deferred (So [])):=by rw[←hW2];exact(World.putObj_heap_other (by omega)).trans hk1
   have hw2:Kp W W2:=hKt hw1 (by rw[←hW2];exact hKb _ _ _ _ (by omega) hl1 rfl rfl);have hi2:aa pre W2:=by rw[←hW2];exact hI.putObj _ hi1 (by omega) hl1 rfl
   have hg2:G x W2:=by rw[←hW2];exact hG x W1 _ _ _ hg1 hl1 rfl
   have ha2:A1 x W a1 W2:=by rw[←hW2];exact hA1 x _ a1 W1 _ _ _ ha1 hl1 rfl
   have hb2:∀(b:Nat)(o:Obj),W.heap[b]? =So o→o.isCells=Bt→W2.heap[b]? =So o:=fun b o ho hc=>by
    have h1:=(hx1.block (Array.getElem?_eq_some_iff.1 ho).1).trans ho;have hne:b≠w.heap.size+1:=fun e=>by
     rw[e,hl]at ho;injection ho with ho
     subst ho;cases hc
    rw[←hW2];exact(World.putObj_heap_other hne).trans h1
   refine wpIn_mono (hbody _ pre x W _ a1 hi hi2 hg2 ha2 hb2 hlen) ?_;rintro e a3 W3 hp;cases e with
   |normal=>
    obtain⟨hk3,hkp3,hi3⟩:=hp;have hl3:=hk3.same _ _ (by omega) hl2 rfl;have hr:=run_endRound (P:=P) J hl3;rw[hrec]at hr;exact⟨_,_,hr,rfl,⟨hI.putObj _ hi3 (by omega) hl3 rfl,by rw[hrec];exact World.putObj_heap_same (Array.getElem?_eq_some_iff.1 hl3).1,(World.putObj_heap_other (by omega)).trans (hk3.same _ _ (a7 _) hk2 rfl)⟩,hKt (hKt hw2 hkp3) (hKb _ _ _ _ (by omega) hl3 rfl rfl)⟩
   |ret=>exact hp.elim
   |exit id=>exact hp.elim
   |goto t=>exact hp.elim
   |panic ch=>exact hp.elim
   |outgrown=>exact hp.elim
  ·rintro e W2⟨⟨v,rfl⟩,xs,hS,hi,hl,hk⟩
   have hr:=run_endLoop (P:=P) hl (by rw[hrec];simp);rw[hrec]at hr;exact⟨J,_,hr,hdone _ xs _ (a7 _) hS (hI.putObj _ hi (by omega) hl rfl) ((World.putObj_heap_other (by omega)).trans hk)⟩
theorem mX{P:Pg}(w:Wd)(base:Nat)(t ty e:Ti)(i:TypeInfo)(z:Va)(d r:Nat)(E:P.underlying t=So (.slice e))(hi:P.info? e=So i)(T:i.zero=So z)
  (x:i.size=d) (Q:i.bytes=r) (W:z.cells.size=d) (D:0<d)
  (v:Va) (n:Nat) (xs:List Va) (p:w.ownsRow base e d v n xs)
  (a:Ad) (m c:Nat) (l:List Va) (s:l.length=m*d) (C:∀j u,l[j]? =So u→w.cell? (a.add j)=So u) (L:∀u∈l,u.oneCell'=Bt)
  (N:n+m≤maxLen) (R:(n+m)*r≤140737488355328) (an:base≤w):
  ∃v' o,(Builtin.append_ #[t,t] ty #[v,Z (So a) m c]).run P w= .ok v' o∧o.ownsRow base e d v' (n+m) (xs++l)∧w.grownBy o v.ownBlock∧o.ownsRow base e d v n xs∧
   (∀f ys,w.ownsRow base e d f (n+m) ys→o.ownsRow base e d f (n+m) ys∨o.ownsRow base e d f (n+m) (xs++l))∧(v'.ownBlock=v.ownBlock∨∀b,v'.ownBlock=So b→w.heap.size≤b):=by
 obtain⟨v',o,F,ab,G,_⟩:=run_append_own (P:=P) w base t ty e i z d r E hi T x Q W D v n xs p a m c l s C L N R an;refine⟨v',o,F,ab,G,?_⟩;rcases p.2 with⟨rfl,rfl⟩|⟨g,cap,cur,rfl,A,S,bi,bg,ag,bl⟩
 ·obtain rfl:xs=[]:=List.eq_nil_of_length_eq_zero (by rw[p.1,Nat.zero_mul])
  obtain⟨ay,az,y,aa,ai,_⟩:=run_append_own (P:=P) w w t ty e i z d r E hi T x Q W D (Z J 0 0) 0 [] (World.ownsRow_nil w _ e d) a m c l s C L N R (a7 _);rw[F]at y;injection y with e1 e2
  subst e1 e2;refine⟨⟨p.1,.inl ⟨rfl,rfl⟩⟩,fun f ys h=> .inl (h.kept G ?_),.inr fun b A=>(aa.lt b A).1⟩;show f.ownBlock=J∨f.ownBlock≠J;cases f.ownBlock
  ·exact .inl rfl
  ·exact .inr (fun h=>by cases h)
 ·have ap:∀j,j<cur.size→w.cell? ⟨g,j,J⟩=cur[j]? :=fun j ad=>cell_of_row w g j cur e (0,0) S
  by_cases ae:n+m≤cap
  ·have bf:n*d+l.length≤cur.size:=by
    rw[ag,s,←Nat.add_mul];exact Nat.mul_le_mul_right _ ae
   have af:=run_append_room_cells (P:=P) w t ty e i E hi g 0 n cap a m c l (by rw[x];exact s) C L ae
    (fun j ad=>by rw[a4E,x,ap _ (by omega),Array.getElem?_eq_getElem (by omega)];rfl)
    (fun j ad=>by simp[World.frozen?,S])
   rw[F]at af;injection af with e1 e2
   subst e1;rcases ab.2 with⟨q,_⟩|⟨bc,ba,H,q,am,aq,bj,ar,au,aw⟩
   ·cases q
   ·injection q with k1 _ k2
    injection k1 with k1
    injection k1 with k1
    subst k1 k2;have ah:xs.length=n*d:=p.1;refine⟨⟨ah,.inr ⟨g,cap,H,rfl,am,aq,by omega,ar,au,?_⟩⟩,fun f ys h=> ?_,.inl rfl⟩
    ·have al:(H.toList.take ((n+m)*d)).take (n*d)=H.toList.take (n*d):=by
      rw[List.take_take,Nat.min_eq_left (Nat.mul_le_mul_right _ (by omega))]
     rw[←al,aw,←ah,List.take_left'];rfl
    ·rcases h.2 with⟨q,bd⟩|⟨ak,aj,bb,q,be,B,bk,bh,av,bm⟩
     ·exact .inl (h.kept G (.inl (by rw[q];rfl)))
     ·by_cases ac:ak=g
      ·subst ac
       rw[S]at B;injection B with B
       injection B with hcc
       subst hcc;have ao:aj=cap:=Nat.eq_of_mul_eq_mul_right D (av.symm.trans ag);subst ao;rw[q];exact .inr ab
      ·exact .inl (h.kept G (.inr (by rw[q];intro e;injection e with e;exact ac e)))
  ·obtain⟨ay,az,y,aa,ai⟩:=run_append_arg_grows (P:=P) w t ty e i z d r E hi T x Q W D ⟨g,0,J⟩ n cap xs p.1 (fun j u ax=>p.cells (g:=g) rfl j u ax) a m c l s C (by omega) N R
   rw[F]at y;injection y with e1 e2
   subst e1 e2;have keep:∀f k ys,w.ownsRow base e d f k ys→o.ownsRow base e d f k ys:=fun f k ys h=>h.kept ai (by
    cases f.ownBlock
    ·exact .inl rfl
    ·exact .inr (fun h=>by cases h))
   exact⟨keep _ _ _ p,fun f ys h=> .inl (keep _ _ _ h),.inr fun b A=>(aa.lt b A).1⟩
theorem cQ{l:Fence}{n:Nat}{P:Pg}(w:Wd){y:Array Oper}{rest:List Oper}{h:Oper}{a:Act}{Q:Exit→Act→Wd→Prop}
  (T:h.guard=J) (s x:Operand) (t:Ti) (q:h.op=Op.call {callee:=Callee.builtin Builtin.append,args:= #[s,x],argTypes:= #[t,t]})
  (base:Nat) (e:Ti) (i:TypeInfo) (z:Va) (d p:Nat) (A:P.underlying t=So (.slice e)) (C:P.info? e=So i) (D:i.zero=So z) (E:i.size=d) (F:i.bytes=p) (G:z.cells.size=d) (H:0<d)
  (v:Va) (k:Nat) (xs:List Va) (ac:a.eval s=v) (aa:w.ownsRow base e d v k xs) (o:Ad) (m c:Nat) (g:List Va) (ad:a.eval x=Z (So o) m c) (W:g.length=m*d)
  (R:∀j u,g[j]? =So u→w.cell? (o.add j)=So u) (B:∀u∈g,u.oneCell'=Bt) (b1:k+m≤maxLen) (b2:(k+m)*p≤140737488355328) (b3:base≤w)
  (L:∀v' f,f.ownsRow base e d v' (k+m) (xs++g)→w.grownBy f v.ownBlock→f.ownsRow base e d v k xs→(∀r ys,w.ownsRow base e d r (k+m) ys→f.ownsRow base e d r (k+m) ys∨f.ownsRow base e d r (k+m) (xs++g))→(v'.ownBlock=v.ownBlock∨∀b,v'.ownBlock=So b→w.heap.size≤b)→Wl l n P y Q rest (a.put h.dst v') f):
  Wl l n P y Q (h::rest) a w:=by
 refine wpListIn_plain T fun aj N=> ?_
 obtain⟨v',f,ab,ae,af,ag,ah,ai⟩:=mX (P:=P) w base t h.type e i z d p A C D E F G H v k xs aa o m c g W R B b1 b2 b3;unfold Oper.wpIn;refine⟨?_,?_⟩
 ·simp[Oper.about,q,resolve,Target.leads,Sem.run_pure]
 ·rw[Oper.semAt_plain l _ _ (by rw[q];intro c S;cases S)]
  simp[execOp,q,resolve,invoke,builtin,ac,ad,ab,Result.andThen];exact N _ _ (L v' f ae af ag ah ai)
theorem M4{q:Fence}{n:Nat}{P:Pg}(w:Wd){r:Array Oper}{rest:List Oper}{h:Oper}{a:Act}{Q:Exit→Act→Wd→Prop}
  (R:h.guard=J) (s x:Operand) (t:Ti) (T:h.op=Op.call {callee:=Callee.builtin Builtin.append,args:= #[s,x],argTypes:= #[t,t]})
  (base:Nat) (e:Ti) (i:TypeInfo) (z:Va) (d p:Nat) (A:P.underlying t=So (.slice e)) (C:P.info? e=So i) (D:i.zero=So z) (E:i.size=d) (F:i.bytes=p) (G:z.cells.size=d) (H:0<d)
  (v:Va) (k:Nat) (xs:List Va) (aa:a.eval s=v) (W:w.ownsRow base e d v k xs) (o:Ad) (m c:Nat) (f:List Va) (ab:a.eval x=Z (So o) m c) (S:f.length=m*d)
  (N:∀j u,f[j]? =So u→w.cell? (o.add j)=So u) (B:∀u∈f,u.oneCell'=Bt) (b1:k+m≤maxLen) (b2:(k+m)*p≤140737488355328) (b3:base≤w)
  (L:∀v' g,g.ownsRow base e d v' (k+m) (xs++f)→w.grownBy g v.ownBlock→g.ownsRow base e d v k xs→(∀l,w.ownsRow base e d l (k+m) (xs++f)→g.ownsRow base e d l (k+m) (xs++f))→(v'.ownBlock=v.ownBlock∨∀b,v'.ownBlock=So b→w.heap.size≤b)→Wl q n P r Q rest (a.put h.dst v') g):
  Wl q n P r Q (h::rest) a w:=
 cQ w R s x t T base e i z d p A C D E F G H v k xs aa W o m c f ab S N B b1 b2 b3 fun v' g ac ad ae af ag=>L v' g ac ad ae (fun l y=>(af l _ y).elim id id) ag
end Go.Proofs.YtiomenjfmagknaaGreat
