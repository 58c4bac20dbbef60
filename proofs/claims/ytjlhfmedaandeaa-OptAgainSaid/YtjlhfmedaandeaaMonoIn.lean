import Derived.Test.YtjlhfmedaandeaaBase
import Derived.OrdersIn
import Derived.TacticsIn
/- A region that draws its order, inside a fence: each operation is walked once, whatever the order; the last operation may be one that waits for all others, and may do what it likes. No program is named here. -/
namespace Go.Proofs.Ytjlhfmedaandeaa
open Go.RowKit
set_option linter.unusedVariables false

theorem opwpIn_put {F : Fence} {n : Nat} {P : Program} {o : Oper} {a : Act} {w : World} {K K' : Act → World → Prop} {Qd Q' : Exit → Act → World → Prop} (h : o.wpIn F n P a w K Qd) (hk : ∀ a' w', K a' w' → a'.defers = a.defers)
    (hKK : ∀ v w', K (a.put o.dst v) w' → K' (a.put o.dst v) w') (hq : ∀ c a w, Qd (.panic c) a w → Q' (.panic c) a w) (ho : ∀ a w, Qd .outgrown a w → Q' .outgrown a w) : o.wpIn F n P a w K' Q' := by
  unfold Oper.wpIn at *
  refine ⟨h.1, ?_⟩
  replace h := h.2
  generalize (o.semAt F.round a.eval).run P w = r at *
  cases r with
  | ok n w' =>
    cases n <;> simp only [Oper.uponIn] at h ⊢
    case value => exact hKK _ _ h
    case skip => exact hKK _ _ h
    case defer d =>
      have := hk _ _ h
      rw [put_defers'] at this
      have := congrArg List.length this
      simp at this
    case enter =>
      refine ⟨h.1, CallsIn.mono h.2 fun e w'' he => ?_⟩
      cases e with
      | returned v => exact hKK _ _ he
      | panicked c => exact hq _ _ _ he
      | outgrown => obtain ⟨a0, w0, h0⟩ := he; exact ⟨a0, w0, ho _ _ h0⟩
    case row => exact ⟨h.1, RowsIn.mono h.2 fun _ _ he => hKK _ _ he⟩
    case round =>
      refine ⟨h.1, RoundIn.mono h.2 fun e w'' he => ?_⟩
      cases e with
      | returned v => exact hKK _ _ he
      | panicked c => exact hq _ _ _ he
      | outgrown => obtain ⟨a0, w0, h0⟩ := he; exact ⟨a0, w0, ho _ _ h0⟩
  | halt x w' =>
    cases x <;> simp only [Oper.uponIn] at h ⊢
    case panic => exact hq _ _ _ h

def OneIn (F : Fence) (n : Nat) (P : Program) (l : List Oper) (V : VP) (ds : List Deferred) (w : World) (a : Act) : Oper → Prop
  | ⟨dst, op, type, pos, after, none⟩ => wpListIn F n P #[] (Done V dst ds w) [⟨dst, op, type, pos, after, none⟩] a w
  | ⟨dst, op, type, pos, after, some (j, want)⟩ => gcase (asBool (readDst a (dstOf l j))) want (wpListIn F n P #[] (Done V dst ds w) [⟨dst, op, type, pos, after, none⟩] a w) (V.p undef w)
/-- What is owed of the operations; where the row of predicates is one shorter, the last one is left for the end. -/
def OblIn (F : Fence) (n : Nat) (P : Program) (l : List Oper) (A : (Nat → Value) → Act) (ds : List Deferred) (w : World) (Vs : List VP) : List Oper → List VP → Prop
  | [], [] => True
  | [_], [] => True
  | o :: os, V :: Ws => (∀ x w', Ext w w' → depV Vs x w' (OneIn F n P l V ds w' (A x) o) o.after.toList) ∧ OblIn F n P l A ds w Vs os Ws
  | [], _ :: _ => False
  | _ :: _ :: _, [] => False
theorem OneIn.toList {F : Fence} {n : Nat} {P : Program} {l : List Oper} {V : VP} {ds : List Deferred} {w : World} {a : Act} {o : Oper} (hF : ∀ f, F.fn f) (hds : a.defers = ds) (h : OneIn F n P l V ds w a o) : wpListIn F n P l.toArray (Done V o.dst ds w) [o] a w := by
  obtain ⟨dst, op, type, pos, after, guard⟩ := o
  cases guard with
  | none => exact h
  | some g =>
    obtain ⟨j, want⟩ := g
    have hw := wanted_eq l ⟨dst, op, type, pos, after, some (j, want)⟩ a j want rfl
    simp only [OneIn] at h
    unfold gcase at h
    simp only [wpListIn] at h ⊢
    by_cases hy : asBool (readDst a (dstOf l j)) = some want
    · rw [if_pos (hw.2 hy)]
      rw [if_pos hy] at h
      exact h
    · rw [if_neg (fun e => hy (hw.1 e))]
      rw [if_neg hy] at h
      exact ⟨fun f _ => hF f, by rw [readDst_undef]; exact h, by rw [put_defers']; exact hds, Ext.refl _⟩
theorem oblIn_at {F : Fence} {n : Nat} {P : Program} {l : List Oper} {A : (Nat → Value) → Act} {ds : List Deferred} {w : World} {Vs : List VP} : ∀ (os : List Oper) (Ws : List VP) (i : Nat) (o : Oper), OblIn F n P l A ds w Vs os Ws → os[i]? = some o → i < Ws.length →
    ∃ V, Ws[i]? = some V ∧ ∀ x w', Ext w w' → depV Vs x w' (OneIn F n P l V ds w' (A x) o) o.after.toList
  | [], _, _, _, _, h, _ => by simp at h
  | _ :: _, [], _, _, _, _, hi => by simp at hi
  | o' :: os, V :: Ws, 0, o, h, ho, _ => by
    simp only [List.getElem?_cons_zero, Option.some.injEq] at ho
    subst ho
    simp only [OblIn] at h
    exact ⟨V, rfl, h.1⟩
  | o' :: os, V :: Ws, i + 1, o, h, ho, hi => by
    simp only [List.getElem?_cons_succ] at ho ⊢
    simp only [OblIn] at h
    exact oblIn_at os Ws i o h.2 ho (by simpa using hi)

/-- Each operation but the last is waited for by one behind it. -/
def coverBack : List Oper → Nat → Bool
  | [], _ => true
  | [_], _ => true
  | _ :: os, k => (os.any fun o => o.after.toList.any fun e => Region.binds .any e && decide (e.on = k)) && coverBack os (k + 1)
theorem coverBack_at : ∀ (os : List Oper) (k i : Nat), coverBack os k = true → i + 1 < os.length → ∃ j o, i < j ∧ os[j]? = some o ∧ ∃ e ∈ o.after, Region.binds .any e = true ∧ e.on = k + i
  | [], _, _, _, h => by simp at h
  | [_], _, _, _, h => by simp at h
  | o1 :: o2 :: os, k, 0, hc, h => by
    simp only [coverBack, Bool.and_eq_true, List.any_eq_true, Array.mem_toList_iff, decide_eq_true_eq] at hc
    obtain ⟨⟨o, ho, e, he, hb⟩, _⟩ := hc
    obtain ⟨j, hj, hjo⟩ := List.getElem_of_mem ho
    exact ⟨j + 1, o, by omega, by rw [List.getElem?_cons_succ, List.getElem?_eq_getElem hj, hjo], e, he, hb.1, hb.2⟩
  | o1 :: o2 :: os, k, i + 1, hc, h => by
    have hc2 : coverBack (o2 :: os) (k + 1) = true := by
      simp only [coverBack, Bool.and_eq_true] at hc
      exact hc.2
    obtain ⟨j, o, hj, ho, e, he, hb, hon⟩ := coverBack_at (o2 :: os) (k + 1) i hc2 (by simpa using h)
    exact ⟨j + 1, o, by omega, by rw [List.getElem?_cons_succ]; exact ho, e, he, hb, by omega⟩

theorem wpIn_region_core {F : Fence} {n : Nat} {P : Program} {ops : Array Oper} {Q : Exit → Act → World → Prop} {a : Act} {w : World} {id : Nat} (hF : ∀ f, F.fn f) (hm : P.follows .mixedOrders = true)
    (Vs : List VP) (hd : dstsApart ops.toList = true) (he : edgesBack ops.toList 0 = true) (A : (Nat → Value) → Act) (hA : ∀ x, fillOps ops.toList x 0 a = A x)
    (hob : OblIn F n P ops.toList A a.defers w Vs ops.toList Vs)
    (hlen : ops.size = Vs.length ∨ ops.size = Vs.length + 1)
    (hlast : ∀ x w' o, ops[Vs.length]? = some o → Ext w w' → (∀ j (V : VP), Vs[j]? = some V → V.p (x j) w') → (∀ i, i < Vs.length → ∃ j o', i < j ∧ ops[j]? = some o' ∧ ∃ e ∈ o'.after, Region.binds .any e = true ∧ e.on = i) ∧
      wpOpIn F n P ops Q Vs.length (Q .normal) (A x) w')
    (hfin : ops.size = Vs.length → ∀ x w', Ext w w' → (∀ j (V : VP), Vs[j]? = some V → V.p (x j) w') → Q .normal (A x) w')
    (hcov : ops.size = Vs.length + 1 → ∀ i, i < Vs.length → ∃ j o', i < j ∧ ops[j]? = some o' ∧ ∃ e ∈ o'.after, Region.binds .any e = true ∧ e.on = i) : (Code.region id ops true).wpIn F n P Q a w := by
  obtain rfl : (fun x => fillOps ops.toList x 0 a) = A := funext hA
  have fd : ∀ (os : List Oper) (x : Nat → Value) (k : Nat) (a : Act), (fillOps os x k a).defers = a.defers := by
    intro os
    induction os with
    | nil => intro _ _ _; rfl
    | cons o os ih => intro x k a; simp only [fillOps]; rw [ih, put_defers']
  -- what has been listed is shut under 'waits for'; the last one isn't listed yet, where there is one
  have key : ∀ (fuel : Nat) (listed : Array Bool) (x : Nat → Value) (w1 : World), Ext w w1 → (∀ j (V : VP), listed[j]? = some true → Vs[j]? = some V → V.p (x j) w1) →
      (∀ (j : Nat) (o : Oper), listed[j]? = some true → ops[j]? = some o → ∀ e ∈ o.after, Region.binds .any e = true → listed[e.on]? = some true) →
      (∀ j, Vs.length ≤ j → listed[j]? ≠ some true) →
      listed.size = ops.size → listed.toList.count false ≤ fuel → wpAnyIn F n P .any ops Q fuel listed (fillOps ops.toList x 0 a) w1 := by
    intro fuel
    have hall : ∀ (listed : Array Bool), listed.size = ops.size → Region.ready .any ops listed = [] → ∀ n j, j < n → j < ops.size → listed[j]? = some true := by
      intro listed hsz hr n
      induction n with
      | zero => intro j hj; omega
      | succ n ih =>
        intro j hj hjs
        have hlt : j < listed.size := by omega
        cases hb : listed[j] with
        | true => rw [Array.getElem?_eq_getElem hlt, hb]
        | false =>
          have : j ∈ Region.ready .any ops listed := by
            rw [mem_ready]
            refine ⟨by simp [Array.getElem?_eq_getElem hlt, hb], ops[j], Array.getElem?_eq_getElem hjs, fun e hee hbi => ?_⟩
            have hon := edgesBack_at ops.toList 0 j ops[j] he (by simp [hjs]) e hee hbi
            have := ih e.on (by omega) (by omega)
            simp [this]
          rw [hr] at this
          cases this
    have hQ : ∀ (listed : Array Bool) (x : Nat → Value) (w1 : World), Ext w w1 → (∀ j (V : VP), listed[j]? = some true → Vs[j]? = some V → V.p (x j) w1) → (∀ j, Vs.length ≤ j → listed[j]? ≠ some true) → listed.size = ops.size →
        Region.ready .any ops listed = [] → Q .normal (fillOps ops.toList x 0 a) w1 := by
      intro listed x w1 hx hl hnl hsz hr
      have hall := hall listed hsz hr
      have hsize : ops.size = Vs.length := by
        rcases hlen with h | h
        · exact h
        · exact absurd (hall (ops.size + 1) Vs.length (by omega) (by omega)) (hnl _ (Nat.le_refl _))
      refine hfin hsize x w1 hx (fun j V hj => ?_)
      have : j < Vs.length := (List.getElem?_eq_some_iff.1 hj).1
      exact hl j V (hall (j + 1) j (by omega) (by omega)) hj
    induction fuel with
    | zero =>
      intro listed x w1 hx hl hcl hnl hsz hc
      have hr : Region.ready .any ops listed = [] := by
        rw [List.eq_nil_iff_forall_not_mem]
        intro j hj
        rw [mem_ready] at hj
        obtain ⟨h0, o, ho, _⟩ := hj
        have hjs : j < ops.size := (Array.getElem?_eq_some_iff.1 ho).1
        have hlt : j < listed.size := by omega
        have hb : listed[j] = false := by simpa [Array.getElem?_eq_getElem hlt] using h0
        have : 0 < listed.toList.count false := List.count_pos_iff.2 (by rw [← hb]; exact Array.getElem_mem_toList hlt)
        omega
      exact ⟨hr, hQ listed x w1 hx hl hnl hsz hr⟩
    | succ fuel ih =>
      intro listed x w1 hx hl hcl hnl hsz hc
      refine ⟨hQ listed x w1 hx hl hnl hsz, fun i hi => ?_⟩
      rw [mem_ready] at hi
      obtain ⟨h0, o, ho, hdeps⟩ := hi
      have his : i < ops.size := (Array.getElem?_eq_some_iff.1 ho).1
      have hlt : i < listed.size := by omega
      have hb : listed[i] = false := by simpa [Array.getElem?_eq_getElem hlt] using h0
      have hol : ops.toList[i]? = some o := by simpa using ho
      have hdl : ∀ e ∈ o.after, Region.binds .any e = true → listed[e.on]? = some true := fun e hee hbi => by
        have hon := edgesBack_at ops.toList 0 i o he hol e hee hbi
        have hle := hdeps e hee hbi
        have : e.on < listed.size := by omega
        simpa [Array.getElem?_eq_getElem this] using hle
      by_cases hiv : i < Vs.length
      · obtain ⟨V, hV, hobi⟩ := oblIn_at _ _ i o hob hol hiv
        have hdep := depV_elim o.after.toList (fun e hee hbi => by
          have hon := edgesBack_at ops.toList 0 i o he hol e (by simpa using hee) hbi
          have h2 : e.on < Vs.length := by omega
          rw [List.getD_eq_getElem?_getD, List.getElem?_eq_getElem h2]
          exact hl e.on _ (hdl e (by simpa using hee) hbi) (List.getElem?_eq_getElem h2)) (hobi x w1 hx)
        have step : ∀ v w2, V.p (readDst ((fillOps ops.toList x 0 a).put o.dst v) o.dst) w2 → Ext w1 w2 → wpAnyIn F n P .any ops Q fuel (listed.setIfInBounds i true) ((fillOps ops.toList x 0 a).put o.dst v) w2 := by
          intro v w2 hv hx2
          rw [← put_readput, fill_put ops.toList x 0 a i o _ hd hol, Nat.zero_add]
          refine ih _ _ _ (hx.trans hx2) (fun j W hj hW => ?_) (fun j o' hj ho' e hee hbi => ?_) (fun j hj => ?_) (by simpa using hsz) ?_
          · by_cases hji : j = i
            · subst hji
              rw [hV] at hW
              injection hW with hW
              subst hW
              simp only [upd, if_true]
              exact hv
            · simp only [upd, if_neg hji]
              rw [Array.getElem?_setIfInBounds_ne (Ne.symm hji)] at hj
              exact W.st _ _ _ (hl j W hj hW) hx2
          · have hon : listed[e.on]? = some true := by
              by_cases hji : j = i
              · subst hji
                rw [ho] at ho'
                injection ho' with ho'
                subst ho'
                exact hdl e hee hbi
              · rw [Array.getElem?_setIfInBounds_ne (Ne.symm hji)] at hj
                exact hcl j o' hj ho' e hee hbi
            have hne : e.on ≠ i := fun e' => by
              rw [e', Array.getElem?_eq_getElem hlt, hb] at hon
              cases hon
            rw [Array.getElem?_setIfInBounds_ne (Ne.symm hne)]
            exact hon
          · rw [Array.getElem?_setIfInBounds_ne (by omega)]
            exact hnl j hj
          · have := count_set listed.toList i (by simp [hlt, hb])
            simp only [Array.toList_setIfInBounds]
            omega
        unfold wpOpIn
        rw [ho]
        dsimp only
        have hdep : wpListIn F n P ops (Done V o.dst a.defers w1) [o] (fillOps ops.toList x 0 a) w1 := by
          have := OneIn.toList hF (fd _ _ _ _) hdep
          rwa [Array.toArray_toList] at this
        simp only [wpListIn] at hdep
        split
        · rename_i hw
          rw [if_pos hw] at hdep
          refine opwpIn_put hdep (fun a' w' h => by rw [fd]; exact h.2.1) (fun v w' h => step v w' h.1 h.2.2) (fun _ _ _ h => h.elim) (fun _ _ h => h.elim)
        · rename_i hw
          rw [if_neg hw] at hdep
          exact ⟨hdep.1, step _ _ hdep.2.1 hdep.2.2.2⟩
      · have hi' : i = Vs.length := by omega
        subst hi'
        have hsize : ops.size = Vs.length + 1 := by omega
        have hcov := hcov hsize
        -- all others are listed
        have hlist : ∀ m i, Vs.length ≤ i + m → i < Vs.length → listed[i]? = some true := by
          intro m
          induction m with
          | zero => intro i h1 h2; omega
          | succ m ihm =>
            intro i h1 h2
            obtain ⟨j, o', hij, hoj, e, hee, hbi, hon⟩ := hcov i h2
            have hjs : j < ops.size := (Array.getElem?_eq_some_iff.1 hoj).1
            rw [← hon]
            by_cases hj : j = Vs.length
            · subst hj
              rw [ho] at hoj
              injection hoj with hoj
              subst hoj
              exact hdl e hee hbi
            · exact hcl j o' (ihm j (by omega) (by omega)) hoj e hee hbi
        obtain ⟨-, hl2⟩ := hlast x w1 o ho hx (fun j V hj => hl j V (hlist Vs.length j (by omega) (List.getElem?_eq_some_iff.1 hj).1) hj)
        refine wpOpIn_mono (fun a2 w2 hq => ?_) hl2
        have hr : Region.ready .any ops (listed.setIfInBounds Vs.length true) = [] := by
          rw [List.eq_nil_iff_forall_not_mem]
          intro j hj
          rw [mem_ready] at hj
          obtain ⟨h0, o', ho', _⟩ := hj
          have hjs : j < ops.size := (Array.getElem?_eq_some_iff.1 ho').1
          have : (listed.setIfInBounds Vs.length true)[j]? = some true := by
            by_cases hj : j = Vs.length
            · subst hj
              simp [hlt]
            · rw [Array.getElem?_setIfInBounds_ne (Ne.symm hj)]
              exact hlist Vs.length j (by omega) (by omega)
          simp [this] at h0
        cases fuel with
        | zero => exact ⟨hr, hq⟩
        | succ f => exact ⟨fun _ => hq, fun j hj => by rw [hr] at hj; cases hj⟩
  obtain ⟨x0, hx0⟩ := fill_start ops.toList 0 a
  refine wpIn_region_any hm ?_
  have := key ops.size (Array.replicate ops.size false) x0 { w with drawn := w.drawn + 1 } ((Ext.refl w).drew) (fun j V h _ => by
    simp [Array.getElem?_replicate] at h) (fun j o h _ => by simp [Array.getElem?_replicate] at h) (fun j _ h => by simp [Array.getElem?_replicate] at h) (by simp) (by simp)
  rw [hx0] at this
  exact this

/-- All operations only add to memory. -/
theorem wpIn_region_mono {F : Fence} {n : Nat} {P : Program} {ops : Array Oper} {Q : Exit → Act → World → Prop} {a : Act} {w : World} {id : Nat} (hF : ∀ f, F.fn f) (hm : P.follows .mixedOrders = true)
    (Vs : List VP) (hd : dstsApart ops.toList = true) (he : edgesBack ops.toList 0 = true) (hlen : decide (ops.size = Vs.length) = true) (A : (Nat → Value) → Act) (hA : ∀ x, fillOps ops.toList x 0 a = A x)
    (hob : OblIn F n P ops.toList A a.defers w Vs ops.toList Vs)
    (hfin : ∀ x w', Ext w w' → allV x w' (Q .normal (A x) w') Vs 0) : (Code.region id ops true).wpIn F n P Q a w := by
  have hlen : ops.size = Vs.length := of_decide_eq_true hlen
  refine wpIn_region_core hF hm Vs hd he A hA hob (.inl hlen) (fun x w' o ho => ?_) (fun _ x w' hx hV => ?_) (fun h => by omega)
  · have := (Array.getElem?_eq_some_iff.1 ho).1
    omega
  · exact allV_elim Vs 0 (fun j V hj => by rw [Nat.zero_add]; exact hV j V hj) (hfin x w' hx)

/-- All operations but the last only add to memory; the last waits for all of them. -/
theorem wpIn_region_last {F : Fence} {n : Nat} {P : Program} {ops : Array Oper} {Q : Exit → Act → World → Prop} {a : Act} {w : World} {id : Nat} (hF : ∀ f, F.fn f) (hm : P.follows .mixedOrders = true)
    (Vs : List VP) (hd : dstsApart ops.toList = true) (he : edgesBack ops.toList 0 = true) (hc : coverBack ops.toList 0 = true) (A : (Nat → Value) → Act) (hA : ∀ x, fillOps ops.toList x 0 a = A x)
    (hob : OblIn F n P ops.toList A a.defers w Vs ops.toList Vs) (last : Oper) (hl : ops.toList.drop Vs.length = [last]) (hg : last.guard.isNone = true)
    (hfin : ∀ x w', Ext w w' → allV x w' (wpListIn F n P #[] Q [last] (A x) w') Vs 0) : (Code.region id ops true).wpIn F n P Q a w := by
  have hs : ops.size = Vs.length + 1 := by
    have := congrArg List.length hl
    simp at this
    omega
  have ho : ops[Vs.length]? = some last := by
    have h : (ops.toList.drop Vs.length)[0]? = some last := by rw [hl]; rfl
    rw [List.getElem?_drop] at h
    simpa using h
  have hcov : ∀ i, i < Vs.length → ∃ j o', i < j ∧ ops[j]? = some o' ∧ ∃ e ∈ o'.after, Region.binds .any e = true ∧ e.on = i := fun i hi => by
    obtain ⟨j, o, h1, h2, e, h3, h4, h5⟩ := coverBack_at ops.toList 0 i hc (by simp; omega)
    exact ⟨j, o, h1, by simpa using h2, e, h3, h4, by omega⟩
  refine wpIn_region_core hF hm Vs hd he A hA hob (.inr hs) (fun x w' o ho' hx hV => ?_) (fun h => by omega) (fun _ => hcov)
  refine ⟨hcov, ?_⟩
  have hW := allV_elim Vs 0 (fun j V hj => by rw [Nat.zero_add]; exact hV j V hj) (hfin x w' hx)
  unfold wpOpIn
  rw [ho]
  dsimp only
  have hn : last.guard = none := by simpa using hg
  simp only [wpListIn, Region.wanted, hn, if_true] at hW ⊢
  exact Oper.wpIn_mono (fun a w h => h) hW
end Go.Proofs.Ytjlhfmedaandeaa
