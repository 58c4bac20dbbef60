/- A region that draws its order, whose operations only add to memory: each operation is walked once, whatever the order. No program is named here. -/
import Derived.Test.YtlicndonhmcmmaaBase
import Derived.Orders
namespace Go.Proofs.Ytlicndonhmcmmaa
open Go.RowKit
set_option linter.unusedVariables false

/-- What is told of a value, and stays told while memory only grows. -/
structure VP where
  p : Value → World → Prop
  st : ∀ v w w', p v w → Ext w w' → p v w'
def VP.is (X : Value) : VP := ⟨fun v _ => v = X, fun _ _ _ h _ => h⟩
def VP.any : VP := ⟨fun _ _ => True, fun _ _ _ _ _ => trivial⟩
/-- A slice of n elements whose cells hold xs. -/
def VP.row (n : Nat) (xs : List Value) : VP := ⟨fun v w => ∃ A c, v = .slice A n c ∧ InM w A xs, fun _ _ _ ⟨A, c, h, k⟩ e => ⟨A, c, h, k.ext e⟩⟩
/-- A pointer to a block of just these cells. -/
def VP.ptr (t : TypeId) (cs : Array Value) : VP := ⟨fun v w => ∃ g, v = .pointer (some ⟨g, 0, none⟩) ∧ Blk w g t cs, fun _ _ _ ⟨g, h, k⟩ e => ⟨g, h, k.ext e⟩⟩
/-- A slice that is the whole of a block. -/
def VP.blk (n : Nat) (t : TypeId) (cs : Array Value) : VP := ⟨fun v w => ∃ g, v = .slice (some ⟨g, 0, none⟩) n n ∧ Blk w g t cs, fun _ _ _ ⟨g, h, k⟩ e => ⟨g, h, k.ext e⟩⟩
def VP.ex {α : Type} (V : α → VP) : VP := ⟨fun v w => ∃ x, (V x).p v w, fun v w w' ⟨x, h⟩ e => ⟨x, (V x).st v w w' h e⟩⟩
def VP.and (V : VP) (p : Prop) : VP := ⟨fun v w => V.p v w ∧ p, fun v w w' h e => ⟨V.st v w w' h.1 e, h.2⟩⟩
def VP.of (q : Value → Prop) : VP := ⟨fun v _ => q v, fun _ _ _ h _ => h⟩

def readDst (a : Act) : Option Tmp → Value
  | some d => a.tmps.getD d undef
  | none => undef
theorem put_read (a : Act) (d : Option Tmp) : a.put d (readDst a d) = a := by
  cases d with
  | none => rfl
  | some d =>
    obtain ⟨t, f⟩ := a
    simp only [Act.put, readDst, Act.mk.injEq, and_true]
    apply Array.ext
    · simp
    · intro i h1 h2
      rw [Array.getElem_setIfInBounds]
      split
      · rename_i h; subst h; simp [h2]
      · rfl
theorem put_put (a : Act) (d : Option Tmp) (u v : Value) : (a.put d u).put d v = a.put d v := by
  cases d with
  | none => rfl
  | some d => simp [Act.put]
theorem put_readput (a : Act) (d : Option Tmp) (v : Value) : a.put d (readDst (a.put d v) d) = a.put d v := by
  have := put_read (a.put d v) d
  rw [put_put] at this
  exact this
theorem put_defers' (a : Act) (d : Option Tmp) (v : Value) : (a.put d v).defers = a.defers := by cases d <;> rfl

/-- The frame with these values in the operations' slots. -/
def fillOps : List Oper → (Nat → Value) → Nat → Act → Act
  | [], _, _, a => a
  | o :: os, x, i, a => fillOps os x (i + 1) (a.put o.dst (x i))
def dstsApart : List Oper → Bool
  | [] => true
  | o :: os => (os.all fun o' => o.dst.isNone || o'.dst != o.dst) && dstsApart os
def edgesBack : List Oper → Nat → Bool
  | [], _ => true
  | o :: os, i => (o.after.toList.all fun e => !Region.binds .any e || decide (e.on < i)) && edgesBack os (i + 1)
def upd (x : Nat → Value) (j : Nat) (v : Value) : Nat → Value := fun m => if m = j then v else x m

theorem fill_congr : ∀ (os : List Oper) (x y : Nat → Value) (k : Nat) (a : Act), (∀ m, k ≤ m → x m = y m) → fillOps os x k a = fillOps os y k a
  | [], _, _, _, _, _ => rfl
  | o :: os, x, y, k, a, h => by
    simp only [fillOps]
    rw [h k (Nat.le_refl _)]
    exact fill_congr os x y (k + 1) _ fun m hm => h m (by omega)
theorem fill_comm : ∀ (os : List Oper) (x : Nat → Value) (k : Nat) (a : Act) (d : Option Tmp) (v : Value), (os.all fun o' => d.isNone || o'.dst != d) = true → (fillOps os x k a).put d v = fillOps os x k (a.put d v)
  | [], _, _, _, _, _, _ => rfl
  | o :: os, x, k, a, d, v, h => by
    simp only [List.all_cons, Bool.and_eq_true] at h
    simp only [fillOps]
    rw [fill_comm os x (k + 1) _ d v h.2]
    congr 1
    refine Act.put_comm a (x k) v fun e he hd => ?_
    subst hd
    simp [he] at h
theorem fill_put : ∀ (os : List Oper) (x : Nat → Value) (k : Nat) (a : Act) (i : Nat) (o : Oper) (v : Value), dstsApart os = true → os[i]? = some o → (fillOps os x k a).put o.dst v = fillOps os (upd x (k + i) v) k a
  | [], _, _, _, _, _, _, _, h => by simp at h
  | o' :: os, x, k, a, 0, o, v, hd, h => by
    simp only [List.getElem?_cons_zero, Option.some.injEq] at h
    subst h
    simp only [dstsApart, Bool.and_eq_true] at hd
    simp only [fillOps]
    rw [fill_comm os x (k + 1) _ _ v hd.1, put_put]
    have : upd x (k + 0) v k = v := by simp [upd]
    rw [this]
    exact fill_congr os _ _ (k + 1) _ fun m hm => by simp only [upd]; rw [if_neg (by omega)]
  | o' :: os, x, k, a, i + 1, o, v, hd, h => by
    simp only [List.getElem?_cons_succ] at h
    simp only [dstsApart, Bool.and_eq_true] at hd
    simp only [fillOps]
    rw [fill_put os x (k + 1) _ i o v hd.2 h]
    have e : upd x (k + 1 + i) v = upd x (k + (i + 1)) v := by rw [show k + 1 + i = k + (i + 1) from by omega]
    have e2 : upd x (k + (i + 1)) v k = x k := by simp only [upd]; rw [if_neg (by omega)]
    rw [e, e2]
theorem fill_start : ∀ (os : List Oper) (k : Nat) (a : Act), ∃ x, fillOps os x k a = a
  | [], _, _ => ⟨fun _ => undef, rfl⟩
  | o :: os, k, a => by
    obtain ⟨x, hx⟩ := fill_start os (k + 1) a
    refine ⟨upd x k (readDst a o.dst), ?_⟩
    simp only [fillOps]
    rw [show upd x k (readDst a o.dst) k = readDst a o.dst from by simp [upd], put_read]
    rw [fill_congr os _ x (k + 1) a fun m hm => by simp only [upd]; rw [if_neg (by omega)]]
    exact hx

def depV (Vs : List VP) (x : Nat → Value) (w : World) (G : Prop) : List Edge → Prop
  | [] => G
  | e :: es => match e.ground with
    | .data | .guard => (Vs.getD e.on .any).p (x e.on) w → depV Vs x w G es
    | _ => depV Vs x w G es
theorem depV_elim {Vs : List VP} {x : Nat → Value} {w : World} {G : Prop} : ∀ (es : List Edge), (∀ e ∈ es, Region.binds .any e = true → (Vs.getD e.on .any).p (x e.on) w) → depV Vs x w G es → G
  | [], _, h => h
  | e :: es, hk, h => by
    have ih := depV_elim (Vs := Vs) (x := x) (w := w) (G := G) es fun e' he' => hk e' (List.mem_cons_of_mem _ he')
    unfold depV at h
    split at h
    · rename_i hg
      exact ih (h (hk e (List.mem_cons_self ..) (by unfold Region.binds; rw [hg])))
    · rename_i hg
      exact ih (h (hk e (List.mem_cons_self ..) (by unfold Region.binds; rw [hg])))
    · exact ih h
def allV (x : Nat → Value) (w : World) (G : Prop) : List VP → Nat → Prop
  | [], _ => G
  | V :: Vs, i => V.p (x i) w → allV x w G Vs (i + 1)
theorem allV_elim {x : Nat → Value} {w : World} {G : Prop} : ∀ (Vs : List VP) (i : Nat), (∀ j (V : VP), Vs[j]? = some V → V.p (x (i + j)) w) → allV x w G Vs i → G
  | [], _, _, h => h
  | V :: Vs, i, hk, h => by
    refine allV_elim Vs (i + 1) (fun j W hj => ?_) (h (hk 0 V rfl))
    have := hk (j + 1) W (by simpa using hj)
    rwa [show i + (j + 1) = i + 1 + j from by omega] at this

/-- Where an operation must end. -/
def Done (V : VP) (d : Option Tmp) (ds : List Deferred) (w0 : World) : Exit → Act → World → Prop
  | .normal, a', w' => V.p (readDst a' d) w' ∧ a'.defers = ds ∧ Ext w0 w'
  | _, _, _ => False
theorem done_mk {V : VP} {d : Option Tmp} {ds : List Deferred} {w0 w' : World} {a' : Act} (h : V.p (readDst a' d) w') (hd : a'.defers = ds) (he : Ext w0 w') : Done V d ds w0 .normal a' w' := ⟨h, hd, he⟩
/-- The slot of operation j. -/
def dstOf : List Oper → Nat → Option Tmp
  | [], _ => none
  | o :: _, 0 => o.dst
  | _ :: os, j + 1 => dstOf os j
def asBool : Value → Option Bool
  | .bool b => some b
  | _ => none
/-- A guarded operation is done, or passed over. -/
def gcase (y : Option Bool) (want : Bool) (run skip : Prop) : Prop := if y = some want then run else skip
theorem gcase_run {y : Option Bool} {want : Bool} {run skip : Prop} (h : y = some want) (k : run) : gcase y want run skip := by unfold gcase; rw [if_pos h]; exact k
theorem gcase_skip {y : Option Bool} {want : Bool} {run skip : Prop} (h : y ≠ some want) (k : skip) : gcase y want run skip := by unfold gcase; rw [if_neg h]; exact k
/-- What is owed of one operation. -/
def One (P : Program) (l : List Oper) (V : VP) (ds : List Deferred) (w : World) (a : Act) : Oper → Prop
  | ⟨dst, op, type, pos, after, none⟩ => wpList P #[] (Done V dst ds w) [⟨dst, op, type, pos, after, none⟩] a w
  | ⟨dst, op, type, pos, after, some (j, want)⟩ => gcase (asBool (readDst a (dstOf l j))) want (wpList P #[] (Done V dst ds w) [⟨dst, op, type, pos, after, none⟩] a w) (V.p undef w)
def Obl (P : Program) (l : List Oper) (A : (Nat → Value) → Act) (ds : List Deferred) (w : World) (Vs : List VP) : List Oper → List VP → Prop
  | [], [] => True
  | o :: os, V :: Ws => (∀ x w', Ext w w' → depV Vs x w' (One P l V ds w' (A x) o) o.after.toList) ∧ Obl P l A ds w Vs os Ws
  | _, _ => False
theorem dstOf_eq : ∀ (l : List Oper) (j : Nat), dstOf l j = (l[j]?).bind (·.dst)
  | [], _ => by simp [dstOf]
  | _ :: _, 0 => rfl
  | _ :: os, j + 1 => by simp only [dstOf, List.getElem?_cons_succ]; exact dstOf_eq os j
theorem wanted_eq (l : List Oper) (o : Oper) (a : Act) (j : Nat) (want : Bool) (hg : o.guard = some (j, want)) : Region.wanted o (yielded l.toArray a.tmps) = true ↔ asBool (readDst a (dstOf l j)) = some want := by
  unfold Region.wanted yielded
  rw [hg, dstOf_eq]
  simp only [List.getElem?_toArray, beq_iff_eq]
  cases (l[j]?).bind (·.dst) with
  | none => simp [readDst, asBool, undef]
  | some d =>
    simp only [Option.bind_some, readDst, Array.getD_eq_getD_getElem?]
    cases a.tmps[d]? with
    | none => simp [asBool, undef]
    | some v => cases v <;> simp [asBool]
theorem readDst_undef (a : Act) (d : Option Tmp) : readDst (a.put d undef) d = undef := by
  cases d with
  | none => rfl
  | some d =>
    simp only [Act.put, readDst, Array.getD_eq_getD_getElem?, Array.getElem?_setIfInBounds]
    split
    · split <;> rfl
    · rename_i h
      cases hq : a.tmps[d]? with
      | none => rfl
      | some v => exact absurd trivial h
theorem One.toList {P : Program} {l : List Oper} {V : VP} {ds : List Deferred} {w : World} {a : Act} {o : Oper} (hds : a.defers = ds) (h : One P l V ds w a o) : wpList P l.toArray (Done V o.dst ds w) [o] a w := by
  obtain ⟨dst, op, type, pos, after, guard⟩ := o
  cases guard with
  | none => exact h
  | some g =>
    obtain ⟨j, want⟩ := g
    have hw := wanted_eq l ⟨dst, op, type, pos, after, some (j, want)⟩ a j want rfl
    simp only [One] at h
    unfold gcase at h
    simp only [wpList] at h ⊢
    by_cases hy : asBool (readDst a (dstOf l j)) = some want
    · rw [if_pos (hw.2 hy)]
      rw [if_pos hy] at h
      exact h
    · rw [if_neg (fun e => hy (hw.1 e))]
      rw [if_neg hy] at h
      exact ⟨by rw [readDst_undef]; exact h, by rw [put_defers']; exact hds, Ext.refl _⟩
theorem obl_len {P : Program} {l : List Oper} {A : (Nat → Value) → Act} {ds : List Deferred} {w : World} {Vs : List VP} : ∀ (os : List Oper) (Ws : List VP), Obl P l A ds w Vs os Ws → os.length = Ws.length
  | [], [], _ => rfl
  | [], _ :: _, h => h.elim
  | _ :: _, [], h => h.elim
  | _ :: os, _ :: Ws, h => by simp [obl_len os Ws h.2]
theorem obl_at {P : Program} {l : List Oper} {A : (Nat → Value) → Act} {ds : List Deferred} {w : World} {Vs : List VP} : ∀ (os : List Oper) (Ws : List VP) (i : Nat) (o : Oper), Obl P l A ds w Vs os Ws → os[i]? = some o →
    ∃ V, Ws[i]? = some V ∧ ∀ x w', Ext w w' → depV Vs x w' (One P l V ds w' (A x) o) o.after.toList
  | [], _, _, _, _, h => by simp at h
  | _ :: _, [], _, _, h, _ => h.elim
  | o' :: os, V :: Ws, 0, o, h, ho => by
    simp only [List.getElem?_cons_zero, Option.some.injEq] at ho
    subst ho
    exact ⟨V, rfl, h.1⟩
  | o' :: os, V :: Ws, i + 1, o, h, ho => by
    simp only [List.getElem?_cons_succ] at ho ⊢
    exact obl_at os Ws i o h.2 ho

theorem opwp_put {P : Program} {o : Oper} {a : Act} {w : World} {K K' : Act → World → Prop} {Qd Q' : Exit → Act → World → Prop} (h : o.wp P a w K Qd) (hk : ∀ a' w', K a' w' → a'.defers = a.defers)
    (hKK : ∀ v w', K (a.put o.dst v) w' → K' (a.put o.dst v) w') (hq : ∀ c a w, Qd (.panic c) a w → Q' (.panic c) a w) (ho : ∀ a w, Qd .outgrown a w → Q' .outgrown a w) : o.wp P a w K' Q' := by
  unfold Oper.wp at *
  generalize (execOp a.eval o).run P w = r at *
  cases r with
  | ok n w' =>
    cases n <;> simp only [Oper.upon] at h ⊢
    case value => exact hKK _ _ h
    case skip => exact hKK _ _ h
    case defer d =>
      have := hk _ _ h
      rw [put_defers'] at this
      have := congrArg List.length this
      simp at this
    case enter =>
      refine Calls.mono h fun e w'' he => ?_
      cases e with
      | returned v => exact hKK _ _ he
      | panicked c => exact hq _ _ _ he
      | outgrown => obtain ⟨a0, w0, h0⟩ := he; exact ⟨a0, w0, ho _ _ h0⟩
    case row => exact Rows.mono h fun _ _ he => hKK _ _ he
  | halt x w' =>
    cases x <;> simp only [Oper.upon] at h ⊢
    case panic => exact hq _ _ _ h

theorem count_set : ∀ (l : List Bool) (i : Nat), l[i]? = some false → (l.set i true).count false + 1 = l.count false
  | [], _, h => by simp at h
  | b :: l, 0, h => by
    simp only [List.getElem?_cons_zero, Option.some.injEq] at h
    subst h
    simp
  | b :: l, i + 1, h => by
    simp only [List.getElem?_cons_succ] at h
    have := count_set l i h
    simp only [List.set_cons_succ, List.count_cons]
    omega
theorem edgesBack_at : ∀ (os : List Oper) (k i : Nat) (o : Oper), edgesBack os k = true → os[i]? = some o → ∀ e ∈ o.after, Region.binds .any e = true → e.on < k + i
  | [], _, _, _, _, h => by simp at h
  | o' :: os, k, 0, o, hb, h => by
    simp only [List.getElem?_cons_zero, Option.some.injEq] at h
    subst h
    simp only [edgesBack, Bool.and_eq_true, List.all_eq_true, Array.mem_toList_iff] at hb
    intro e he hbi
    have := hb.1 e he
    simpa [hbi] using this
  | o' :: os, k, i + 1, o, hb, h => by
    simp only [List.getElem?_cons_succ] at h
    simp only [edgesBack, Bool.and_eq_true] at hb
    intro e he hbi
    have := edgesBack_at os (k + 1) i o hb.2 h e he hbi
    omega

theorem wp_region_mono {P : Program} {ops : Array Oper} {Q : Exit → Act → World → Prop} {a : Act} {w : World} {id : Nat} (hm : P.follows .mixedOrders = true)
    (Vs : List VP) (hd : dstsApart ops.toList = true) (he : edgesBack ops.toList 0 = true) (A : (Nat → Value) → Act) (hA : ∀ x, fillOps ops.toList x 0 a = A x)
    (hob : Obl P ops.toList A a.defers w Vs ops.toList Vs)
    (hfin : ∀ x w', Ext w w' → allV x w' (Q .normal (A x) w') Vs 0) : (Code.region id ops true).wp P Q a w := by
  obtain rfl : (fun x => fillOps ops.toList x 0 a) = A := funext hA
  have hlen : ops.size = Vs.length := by rw [← obl_len _ _ hob]; simp
  have fd : ∀ (os : List Oper) (x : Nat → Value) (k : Nat) (a : Act), (fillOps os x k a).defers = a.defers := by
    intro os
    induction os with
    | nil => intro _ _ _; rfl
    | cons o os ih => intro x k a; simp only [fillOps]; rw [ih, put_defers']
  have key : ∀ (fuel : Nat) (listed : Array Bool) (x : Nat → Value) (w1 : World), Ext w w1 → (∀ j (V : VP), listed[j]? = some true → Vs[j]? = some V → V.p (x j) w1) →
      listed.size = ops.size → listed.toList.count false ≤ fuel → wpAny P .any ops Q fuel listed (fillOps ops.toList x 0 a) w1 := by
    intro fuel
    have hQ : ∀ (listed : Array Bool) (x : Nat → Value) (w1 : World), Ext w w1 → (∀ j (V : VP), listed[j]? = some true → Vs[j]? = some V → V.p (x j) w1) → listed.size = ops.size →
        Region.ready .any ops listed = [] → Q .normal (fillOps ops.toList x 0 a) w1 := by
      intro listed x w1 hx hl hsz hr
      have hall : ∀ n j, j < n → j < ops.size → listed[j]? = some true := by
        intro n
        induction n with
        | zero => intro j hj; omega
        | succ n ih =>
          intro j hj hjs
          have hlt : j < listed.size := by omega
          cases hb : listed[j] with
          | true => rw [Array.getElem?_eq_getElem hlt, hb]
          | false =>
            have : j ∈ Region.ready .any ops listed := by
              rw [mem_ready]
              refine ⟨by simp [Array.getElem?_eq_getElem hlt, hb], ops[j], Array.getElem?_eq_getElem hjs, fun e hee hbi => ?_⟩
              have hon := edgesBack_at ops.toList 0 j ops[j] he (by simp [hjs]) e hee hbi
              have := ih e.on (by omega) (by omega)
              simp [this]
            rw [hr] at this
            cases this
      refine allV_elim Vs 0 (fun j V hj => ?_) (hfin x w1 hx)
      rw [Nat.zero_add]
      have : j < Vs.length := (List.getElem?_eq_some_iff.1 hj).1
      exact hl j V (hall (j + 1) j (by omega) (by omega)) hj
    induction fuel with
    | zero =>
      intro listed x w1 hx hl hsz hc
      have hr : Region.ready .any ops listed = [] := by
        rw [List.eq_nil_iff_forall_not_mem]
        intro j hj
        rw [mem_ready] at hj
        obtain ⟨h0, o, ho, _⟩ := hj
        have hjs : j < ops.size := (Array.getElem?_eq_some_iff.1 ho).1
        have hlt : j < listed.size := by omega
        have hb : listed[j] = false := by simpa [Array.getElem?_eq_getElem hlt] using h0
        have : 0 < listed.toList.count false := List.count_pos_iff.2 (by rw [← hb]; exact Array.getElem_mem_toList hlt)
        omega
      exact ⟨hr, hQ listed x w1 hx hl hsz hr⟩
    | succ fuel ih =>
      intro listed x w1 hx hl hsz hc
      refine ⟨hQ listed x w1 hx hl hsz, fun i hi => ?_⟩
      rw [mem_ready] at hi
      obtain ⟨h0, o, ho, hall⟩ := hi
      have his : i < ops.size := (Array.getElem?_eq_some_iff.1 ho).1
      have hlt : i < listed.size := by omega
      have hb : listed[i] = false := by simpa [Array.getElem?_eq_getElem hlt] using h0
      have hol : ops.toList[i]? = some o := by simpa using ho
      obtain ⟨V, hV, hobi⟩ := obl_at _ _ i o hob hol
      have hdep := depV_elim o.after.toList (fun e hee hbi => by
        have hon := edgesBack_at ops.toList 0 i o he hol e (by simpa using hee) hbi
        have hle := hall e (by simpa using hee) hbi
        have h1 : listed[e.on]? = some true := by
          have : e.on < listed.size := by omega
          rw [Array.getElem?_eq_getElem this] 
          simpa [Array.getElem?_eq_getElem this] using hle
        have h2 : e.on < Vs.length := by omega
        rw [List.getD_eq_getElem?_getD, List.getElem?_eq_getElem h2]
        exact hl e.on _ h1 (List.getElem?_eq_getElem h2)) (hobi x w1 hx)
      have step : ∀ v w2, V.p (readDst ((fillOps ops.toList x 0 a).put o.dst v) o.dst) w2 → Ext w1 w2 → wpAny P .any ops Q fuel (listed.setIfInBounds i true) ((fillOps ops.toList x 0 a).put o.dst v) w2 := by
        intro v w2 hv hx2
        rw [← put_readput, fill_put ops.toList x 0 a i o _ hd hol, Nat.zero_add]
        refine ih _ _ _ (hx.trans hx2) (fun j W hj hW => ?_) (by simpa using hsz) ?_
        · by_cases hji : j = i
          · subst hji
            rw [hV] at hW
            injection hW with hW
            subst hW
            simp only [upd, if_true]
            exact hv
          · simp only [upd, if_neg hji]
            rw [Array.getElem?_setIfInBounds_ne (Ne.symm hji)] at hj
            exact W.st _ _ _ (hl j W hj hW) hx2
        · have := count_set listed.toList i (by simp [hlt, hb])
          simp only [Array.toList_setIfInBounds]
          omega
      unfold wpOp
      rw [ho]
      dsimp only
      have hdep : wpList P ops (Done V o.dst a.defers w1) [o] (fillOps ops.toList x 0 a) w1 := by
        have := One.toList (fd _ _ _ _) hdep
        rwa [Array.toArray_toList] at this
      simp only [wpList] at hdep
      split
      · rename_i hw
        rw [if_pos hw] at hdep
        rcases hdep with hdep | ⟨_, a0, w0, h⟩
        · refine .inl (opwp_put hdep (fun a' w' h => by rw [fd]; exact h.2.1) (fun v w' h => step v w' h.1 h.2.2) (fun _ _ _ h => h.elim) (fun _ _ h => h.elim))
        · exact h.elim
      · rename_i hw
        rw [if_neg hw] at hdep
        exact step _ _ hdep.1 hdep.2.2
  obtain ⟨x0, hx0⟩ := fill_start ops.toList 0 a
  refine wp_region_any hm ?_
  have := key ops.size (Array.replicate ops.size false) x0 { w with drawn := w.drawn + 1 } ((Ext.refl w).drew) (fun j V h _ => by
    simp [Array.getElem?_replicate] at h) (by simp) (by simp)
  rw [hx0] at this
  exact this
end Go.Proofs.Ytlicndonhmcmmaa
