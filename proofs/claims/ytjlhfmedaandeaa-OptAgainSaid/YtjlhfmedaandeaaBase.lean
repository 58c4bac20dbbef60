import Derived.WalkKit
import Derived.Deep.QuietTactic
import Derived.BigQuiet
import Derived.Deep.DeepCutAuto
import Derived.Deep.DeepFit
import Derived.Deep.RegionWith
import Derived.Deep.RegionHeld3
import Derived.Deep.AppendLies
import Derived.WalkLawsBesides
import Derived.WalkSpells
import Derived.Maps.AppendAt
import Derived.Lib.Hide
import Derived.Laws.CopyOwn
import Derived.Deep.MidRow
import Derived.Orders
import Derived.RangeFuncNested
import Derived.RangeFuncBound
import Derived.RangeFuncCalls
import Derived.RangeFuncLeaves
/- Plain words on memory for the walks of this family: 'Ext' (a world that keeps all that another one holds), 'InM' (a row of cells that reads as a list of values), 'Blk' (a block known whole). No program is named here. -/
namespace Go.Proofs.Ytjlhfmedaandeaa
open Go.RowKit

/-- All that w holds w' holds too. -/
def Ext (w w' : World) : Prop := Below w.heap.size w w'

theorem Ext.refl (w : World) : Ext w w := Below.refl _ _
theorem Ext.trans {a b c : World} (h : Ext a b) (k : Ext b c) : Ext a c := Below.trans h (Below.mono k h.size)
theorem Ext.drew {a b : World} (h : Ext a b) : Ext a b.drew := Below.drew h
theorem Ext.drewN {a b : World} (h : Ext a b) (n : Nat) : Ext a (b.drewN n) := ⟨h.os, h.tape, h.output, h.size, h.block⟩
theorem Ext.alloc {a b : World} (h : Ext a b) (o : Obj) : Ext a (b.alloc o) := Below.alloc h h.size o
theorem Ext.set {a b : World} (h : Ext a b) {p : Addr} (hp : a.heap.size ≤ p.block) (u : Value) : Ext a (b.setCell p u) := Below.setCell h hp u
theorem Ext.grown {a b c : World} {row : Option Nat} (h : Ext a b) (hg : b.grownBy c row) (hr : ∀ k, row = some k → a.heap.size ≤ k) : Ext a c := Below.grown h hg h.size hr
theorem Ext.size {a b : World} (h : Ext a b) : a.heap.size ≤ b.heap.size := Below.size h
theorem Ext.cell {a b : World} (h : Ext a b) {p : Addr} {u : Value} (hc : a.cell? p = some u) : b.cell? p = some u :=
  (Below.cell h (block_lt_of_cell hc)).trans hc
theorem Ext.frozen {a b : World} (h : Ext a b) {p : Addr} (hp : p.block < a.heap.size) : b.frozen? p = a.frozen? p := Below.frozen h hp
theorem Ext.block {a b : World} (h : Ext a b) {k : Nat} (hk : k < a.heap.size) : b.heap[k]? = a.heap[k]? := Below.block h k hk
theorem Ext.below {a b : World} (h : Ext a b) {B : Nat} (hB : B ≤ a.heap.size) : Below B a b := Below.mono h hB

/-- From A on the cells hold xs. -/
def InM (w : World) (A : Option Addr) (xs : List Value) : Prop :=
  ∀ j u, xs[j]? = some u → ∃ b off, A = some ⟨b, off, none⟩ ∧ w.cell? ⟨b, off + j, none⟩ = some u

theorem InM.nil (w : World) (A : Option Addr) : InM w A [] := fun j u h => by simp at h
theorem InM.ext {w w' : World} {A : Option Addr} {xs : List Value} (h : InM w A xs) (e : Ext w w') : InM w' A xs := fun j u hu => by
  obtain ⟨b, off, ha, hc⟩ := h j u hu
  exact ⟨b, off, ha, e.cell hc⟩
theorem InM.at_ {w : World} {A : Option Addr} {xs : List Value} (h : InM w A xs) {k : Nat} (hk : k < xs.length) :
    ∃ b off, A = some ⟨b, off, none⟩ ∧ b < w.heap.size ∧ w.cell? ⟨b, off + k, none⟩ = some xs[k] := by
  obtain ⟨b, off, ha, hc⟩ := h k _ (List.getElem?_eq_getElem hk)
  exact ⟨b, off, ha, block_lt_of_cell hc, hc⟩
theorem InM.cell {w : World} {b off : Nat} {xs : List Value} (h : InM w (some ⟨b, off, none⟩) xs) {k : Nat} {u : Value} (hk : xs[k]? = some u) :
    w.cell? ⟨b, off + k, none⟩ = some u := by
  obtain ⟨b', off', ha, hc⟩ := h k _ hk
  injection ha with ha
  injection ha with h1 h2
  subst h1 h2
  exact hc
theorem InM.some_ {w : World} {A : Option Addr} {xs : List Value} (h : InM w A xs) (hk : 0 < xs.length) : ∃ b off, A = some ⟨b, off, none⟩ ∧ b < w.heap.size := by
  obtain ⟨b, off, ha, hb, _⟩ := h.at_ hk
  exact ⟨b, off, ha, hb⟩
theorem InM.prefix_ {w : World} {A : Option Addr} {xs ys : List Value} (h : InM w A (xs ++ ys)) : InM w A xs := fun j u hu => by
  refine h j u ?_
  rw [List.getElem?_append_left ((List.getElem?_eq_some_iff.1 hu).1)]
  exact hu
theorem InM.take {w : World} {A : Option Addr} {xs : List Value} (h : InM w A xs) (k : Nat) : InM w A (xs.take k) := fun j u hu => by
  refine h j u ?_
  rw [List.getElem?_take] at hu
  split at hu
  · exact hu
  · cases hu
theorem InM.drop {w : World} {b off : Nat} {xs : List Value} (h : InM w (some ⟨b, off, none⟩) xs) (k : Nat) : InM w (some ⟨b, off + k, none⟩) (xs.drop k) := fun j u hu => by
  rw [List.getElem?_drop] at hu
  refine ⟨b, off + k, rfl, ?_⟩
  have := h.cell hu
  rwa [← Nat.add_assoc] at this

/-- Block g is just these cells of type t, none of them frozen. -/
def Blk (w : World) (g : Nat) (t : TypeId) (cs : Array Value) : Prop := w.heap[g]? = some (.cells cs t (0, 0))

section
variable {w w' : World} {g : Nat} {t : TypeId} {cs : Array Value}
theorem Blk.lt (h : Blk w g t cs) : g < w.heap.size := (Array.getElem?_eq_some_iff.1 h).1
theorem Blk.cell (h : Blk w g t cs) (i : Nat) : w.cell? ⟨g, i, none⟩ = cs[i]? := cell_of_row w g i cs t (0, 0) h
theorem Blk.frozen (h : Blk w g t cs) (i : Nat) : w.frozen? ⟨g, i, none⟩ = false := by unfold Blk at h; simp [World.frozen?, h]
theorem Blk.new (w : World) (t : TypeId) (cs : Array Value) : Blk (w.alloc (.cells cs t)) w.heap.size t cs := heap_alloc_new w _
theorem Blk.ext (h : Blk w g t cs) (e : Ext w w') : Blk w' g t cs := (e.block h.lt).trans h
theorem Blk.alloc (h : Blk w g t cs) (o : Obj) : Blk (w.alloc o) g t cs := h.ext ((Ext.refl w).alloc o)
theorem Blk.drew (h : Blk w g t cs) : Blk w.drew g t cs := h
theorem Blk.drewN (h : Blk w g t cs) (n : Nat) : Blk (w.drewN n) g t cs := h
theorem Blk.set_ (h : Blk w g t cs) (i : Nat) (u : Value) : Blk (w.setCell ⟨g, i, none⟩ u) g t (cs.setIfInBounds i u) := by
  unfold Blk at h ⊢
  simp [World.setCell, Array.getElem?_modify, h]
theorem Blk.far (h : Blk w g t cs) {p : Addr} (hp : g ≠ p.block) (u : Value) : Blk (w.setCell p u) g t cs := (Below.heap_setCell w p u g hp).trans h
theorem Blk.inM (h : Blk w g t cs) : InM w (some ⟨g, 0, none⟩) cs.toList := fun j u hu => ⟨g, 0, rfl, by rw [Nat.zero_add, h.cell]; simpa using hu⟩
theorem Blk.below {B : Nat} (h : Blk w g t cs) (hb : Below B w w') (hg : g < B) : Blk w' g t cs := (hb.block g hg).trans h
theorem Blk.grown {row : Option Nat} (h : Blk w g t cs) (hb : w.grownBy w' row) (hg : some g ≠ row) : Blk w' g t cs := (hb.block g h.lt hg).trans h
end

theorem InM.ofBlk {w : World} {g : Nat} {t : TypeId} {cs : Array Value} {xs : List Value} (h : Blk w g t cs) (e : cs.toList = xs) : InM w (some ⟨g, 0, none⟩) xs := e ▸ h.inM

/-- Bytes, and other numbers of one kind, as cells. -/
abbrev nums (k : IntKind) (xs : List Int) : List Value := xs.map (Value.int k)
theorem nums_at {k : IntKind} {xs : List Int} {j : Nat} (h : j < xs.length) : (nums k xs)[j]? = some (.int k xs[j]) := by simp [nums, h]

theorem InM.seg {w : World} {b off : Nat} {kd : IntKind} {xs : List Int} (h : InM w (some ⟨b, off, none⟩) (nums kd xs)) (k m : Nat) : InM w (some ⟨b, off + k, none⟩) (nums kd ((xs.drop k).take m)) := by
  have := (h.drop k).take m
  rwa [← List.map_drop, ← List.map_take] at this

/-- A row of numbers: the cell at k. -/
theorem InM.num {w : World} {A : Option Addr} {kd : IntKind} {xs : List Int} (h : InM w A (nums kd xs)) {k : Nat} (hk : k < xs.length) :
    ∃ b off, A = some ⟨b, off, none⟩ ∧ b < w.heap.size ∧ w.cell? ⟨b, off + k, none⟩ = some (.int kd xs[k]) := by
  obtain ⟨b, off, ha, hb, hc⟩ := h.at_ (k := k) (by simpa [nums] using hk)
  exact ⟨b, off, ha, hb, by simpa [nums] using hc⟩

theorem add_plain (b off j : Nat) : (⟨b, off, none⟩ : Addr).add j = ⟨b, off + j, none⟩ := by unfold Addr.add; split <;> simp_all
theorem InM.add {w : World} {ad : Addr} {xs : List Value} (h : InM w (some ad) xs) {j : Nat} {u : Value} (hj : xs[j]? = some u) : w.cell? (ad.add j) = some u := by
  obtain ⟨b, off, ha, hc⟩ := h j u hj
  injection ha with ha
  subst ha
  rw [add_plain]
  exact hc

/-- What a row of the call's own holds. -/
theorem own_inM {w : World} {base : Nat} {e : TypeId} {size n m c : Nat} {A : Option Addr} {xs : List Value} (h : w.ownsRow base e size (.slice A m c) n xs) : InM w A xs := fun j u hu => by
  rcases h.2 with ⟨hv, hn⟩ | ⟨g, cap, cur, hv, _, _, _⟩
  · have : xs = [] := List.eq_nil_of_length_eq_zero (by rw [h.1, hn]; simp)
    subst this
    simp at hu
  · injection hv with hA
    subst hA
    have := h.cells (g := g) rfl j u hu
    rw [add_plain] at this
    exact ⟨g, 0, rfl, this⟩
theorem own_base {w : World} {base : Nat} {e : TypeId} {size n m c b off : Nat} {xs : List Value} (h : w.ownsRow base e size (.slice (some ⟨b, off, none⟩) m c) n xs) : base ≤ b := (h.lt b rfl).1

theorem append_nil_run {P : Program} (w : World) (base : Nat) (t ty e : TypeId) (i : TypeInfo) (size : Nat) (ht : P.underlying t = some (.slice e)) (hi : P.info? e = some i)
    (v : Value) (n : Nat) (xs : List Value) (hown : w.ownsRow base e size v n xs) (c : Nat) : (Builtin.append_ #[t, t] ty #[v, .slice none 0 c]).run P w = .ok v w := by
  rcases hown.2 with ⟨rfl, rfl⟩ | ⟨g, cap, cur, rfl, _, _, hnc, _⟩
  · simp [Builtin.append_, run_underlying ht, sizeOf, typeInfo, hi, Builtin.lenOf, Builtin.firstCells]
  · simp [Builtin.append_, run_underlying ht, sizeOf, typeInfo, hi, Builtin.lenOf, Builtin.firstCells, hnc, storeCells]

/-- append onto a row of the call's own, whatever the source: the new slice written out. -/
theorem wpList_app {P : Program} {w : World} {ops : Array Oper} {rest : List Oper} {o : Oper} {a : Act} {Q : Exit → Act → World → Prop} (hgd : o.guard = none) (s x : Operand) (t : TypeId)
    (ho : o.op = .call { callee := .builtin .append, args := #[s, x], argTypes := #[t, t] })
    (base : Nat) (e : TypeId) (i : TypeInfo) (z : Value) (size bytes : Nat) (ht : P.underlying t = some (.slice e)) (hi : P.info? e = some i) (hz : i.zero = some z)
    (hsize : i.size = size) (hby : i.bytes = bytes) (hzs : z.cells.size = size) (hsz : 0 < size)
    (A : Option Addr) (n c : Nat) (xs : List Value) (hs : a.eval s = .slice A n c) (hown : w.ownsRow base e size (.slice A n c) n xs)
    (B : Option Addr) (m d : Nat) (news : List Value) (hx : a.eval x = .slice B m d) (hl : news.length = m * size) (hM : InM w B news) (h1 : ∀ u ∈ news, u.oneCell' = true)
    (h63 : n + m ≤ 1000000) (hbytes : bytes ≤ 10000) (hbase : base ≤ w.heap.size)
    (h : ∀ A' c' w', w'.ownsRow base e size (.slice A' (n + m) c') (n + m) (xs ++ news) → w.grownBy w' (Value.slice A n c).ownBlock →
      ((Value.slice A' (n + m) c').ownBlock = (Value.slice A n c).ownBlock ∨ (Value.slice A' (n + m) c').ownBlock = some w.heap.size) →
      wpList P ops Q rest (a.put o.dst (.slice A' (n + m) c')) w') : wpList P ops Q (o :: rest) a w := by
  have hbb : (n + m) * bytes ≤ 140737488355328 := Nat.le_trans (Nat.mul_le_mul h63 hbytes) (by omega)
  have key : ∃ v' w', (Builtin.append_ #[t, t] o.type #[.slice A n c, .slice B m d]).run P w = .ok v' w' ∧ w'.ownsRow base e size v' (n + m) (xs ++ news) ∧ w.grownBy w' (Value.slice A n c).ownBlock ∧
      (v'.ownBlock = (Value.slice A n c).ownBlock ∨ v'.ownBlock = some w.heap.size) := by
    rcases B with _ | ad
    · have hn : news = [] := by
        rcases news with _ | ⟨u, r⟩
        · rfl
        · obtain ⟨b, off, hB, _⟩ := hM 0 u rfl
          cases hB
      subst hn
      have hm : m = 0 := by
        rcases Nat.eq_zero_or_pos m with h0 | h0
        · exact h0
        · have := Nat.mul_pos h0 hsz
          simp only [List.length_nil] at hl
          omega
      subst hm
      exact ⟨_, w, append_nil_run w base t o.type e i size ht hi _ n xs hown d, by simpa using hown, World.grownBy.refl w _, .inl rfl⟩
    · obtain ⟨v', w', hrun, h2, h3, _, h5⟩ := run_append_own_at (P := P) w base t o.type e i z size bytes ht hi hz hsize hby hzs hsz _ n xs hown ad m d news hl (fun j u hu => hM.add hu) h1 (by unfold maxLen; omega) hbb hbase
      exact ⟨v', w', hrun, h2, h3, h5⟩
  obtain ⟨v', w', hrun, h2, h3, h4⟩ := key
  obtain ⟨A', c', rfl⟩ : ∃ A' c', v' = .slice A' (n + m) c' := by
    rcases h2.2 with ⟨hv, hn⟩ | ⟨g, cap, cur, hv, _⟩
    · exact ⟨none, 0, by rw [hv, hn]⟩
    · exact ⟨_, _, hv⟩
  refine wpList_plain hgd fun K hK => ?_
  unfold Oper.wp execOp
  simp only [ho, resolve, invoke, builtin, Sem.run_bind, Sem.run_pure, Result.andThen_ok, List.map_toArray, List.map_cons, List.map_nil, hs, hx, hrun]
  exact hK _ _ (h A' c' w' h2 h3 h4)

theorem Ext.app {a w w' : World} {base : Nat} {e : TypeId} {size n : Nat} {v : Value} {xs : List Value} (h : Ext a w) (hown : w.ownsRow base e size v n xs) (hb : a.heap.size ≤ base) (hg : w.grownBy w' v.ownBlock) : Ext a w' :=
  h.grown hg fun k hk => Nat.le_trans hb (hown.lt k hk).1
theorem nums_one {k : IntKind} {xs : List Int} : ∀ u ∈ nums k xs, u.oneCell' = true := fun u hu => by
  obtain ⟨x, _, rfl⟩ := List.mem_map.1 hu
  rfl

/-- make([]T, n), n a variable, T of any number of cells, for every world. -/
theorem make_run {P : Program} (t e : TypeId) (i : TypeInfo) (z : Value) (ht : P.underlying t = some (.slice e)) (hi : P.info? e = some i) (hz : i.zero = some z)
    (kl kc : IntKind) (n c : Nat) (hnc : n ≤ c) (h : c ≤ 1000000) (hb : i.bytes ≤ 10000) (w : World) :
    (Instr.makeSlice t (.int kl (n : Int)) (.int kc (c : Int))).run P w = .ok (.slice (some ⟨w.heap.size, 0, none⟩) n c) (w.alloc (.cells (madeCells z.cells (c * i.size)) e)) := by
  have hb' : (i.bytes : Int) * (c : Int) ≤ 281474976710656 := by
    have h : i.bytes * c ≤ 281474976710656 := Nat.le_trans (Nat.mul_le_mul hb h) (by omega)
    have h : ((i.bytes * c : Nat) : Int) ≤ 281474976710656 := by omega
    rwa [Int.natCast_mul] at h
  have hr := run_make (P := P) w t e i z ht hi hz kl kc n c (by omega) (by omega) hb' (by omega)
  simp only [Int.toNat_natCast] at hr
  exact hr

/-- The same at one cell. -/
theorem make_run1 {P : Program} (t e : TypeId) (z : Value) (bytes : Nat) (ht : P.underlying t = some (.slice e)) (hinfo : (P.info? e).map (fun i => (i.zero, i.size, i.bytes)) = some (some z, 1, bytes)) (hz1 : z.cells = #[z])
    (kl kc : IntKind) (n c : Nat) (hnc : n ≤ c) (h : c ≤ 1000000) (hb : bytes ≤ 10000) (w : World) :
    (Instr.makeSlice t (.int kl (n : Int)) (.int kc (c : Int))).run P w = .ok (.slice (some ⟨w.heap.size, 0, none⟩) n c) (w.alloc (.cells (madeCells #[z] c) e)) := by
  obtain ⟨i, hi, hzz⟩ := Option.map_eq_some_iff.1 hinfo
  simp only [Prod.mk.injEq] at hzz
  obtain ⟨hz, hs, hbb⟩ := hzz
  have := make_run (P := P) t e i z ht hi hz kl kc n c hnc h (by omega) w
  rw [hs, Nat.mul_one, hz1] at this
  exact this

theorem ret_int {k : IntKind} {a b : Int} (h : a = b) : Ending.returned (.int k a) = .returned (.int k b) := by rw [h]
theorem ret_bool {a b : Bool} (h : a = b) : Ending.returned (.bool a) = .returned (.bool b) := by rw [h]
theorem ret_val {a b : Value} (h : a = b) : Ending.returned a = .returned b := by rw [h]
end Go.Proofs.Ytjlhfmedaandeaa

/- More plain words: a struct or an array written into a block that is known whole; read from cells that are known. No program is named here. -/
namespace Go.Proofs.Ytjlhfmedaandeaa
open Go.RowKit

theorem Blk.new_ {w : World} {t : TypeId} {cs : Array Value} {g : Nat} (h : g = w.heap.size) : Blk (w.alloc (.cells cs t)) g t cs := by subst h; exact Blk.new _ _ _
theorem splice_whole {α : Type} (L cs : List α) (h : cs.length = L.length) : splice L 0 cs = cs := by
  unfold splice
  rw [List.drop_eq_nil_of_le (by omega)]
  simp

theorem store_row_run {P : Program} (w : World) (g o : Nat) (t ty : TypeId) (cur : List Value) (cs : Array Value) (hb : Blk w g t cur.toArray) (hfit : o + cs.size ≤ cur.length) (hi : (P.info? ty).map (·.size) = some cs.size) (h1 : ∀ v ∈ cs.toList, v.oneCell' = true) :
    (storeVar ty ⟨g, o, none⟩ (.agg cs)).run P w = .ok () (w.setRow g (splice cur o cs.toList).toArray) := by
  have := run_storeCells_at P g o t cs.toList 0 cur.toArray w hb (by simpa using hfit) h1
  cases hq : P.info? ty with
  | none => simp [hq] at hi
  | some i =>
    have hs : cs.size = i.size := by simp [hq] at hi; omega
    simp only [Nat.add_zero] at this
    simp [storeVar, sizeOf, typeInfo, hq, Value.cells, hs, this, splice, List.append_assoc]

theorem grown_setRow (w : World) (g : Nat) (cs : Array Value) : w.grownBy (w.setRow g cs) (some g) :=
  ⟨rfl, rfl, rfl, by simp, fun k _ hk => setRow_other w g k cs (fun e => hk (by rw [e]))⟩

/-- A struct or an array into a block known whole, from cell o on. -/
theorem wpList_store_row {P : Program} {w : World} {ops : Array Oper} {rest : List Oper} {op : Oper} {a : Act} {Q : Exit → Act → World → Prop} (hgd : op.guard = none) (ty : TypeId) (x y : Operand) (ho : op.op = .store ty x y)
    (g o : Nat) (t : TypeId) (cur : List Value) (cs : Array Value) (hx : a.eval x = .pointer (some ⟨g, o, none⟩)) (hy : a.eval y = .agg cs) (hb : Blk w g t cur.toArray) (hfit : o + cs.size ≤ cur.length)
    (hi : (P.info? ty).map (·.size) = some cs.size) (h1 : ∀ v ∈ cs.toList, v.oneCell' = true)
    (h : ∀ w', Blk w' g t (splice cur o cs.toList).toArray → w.grownBy w' (some g) → wpList P ops Q rest (a.put op.dst undef) w') : wpList P ops Q (op :: rest) a w := by
  refine wpList_plain hgd fun K hK => ?_
  unfold Oper.wp execOp
  simp only [ho, hx, hy, Instr.storeAt, Instr.sureAddr, Sem.run_bind, Sem.run_pure, Result.andThen_ok, store_row_run w g o t ty cur cs hb hfit hi h1]
  exact hK _ _ (h _ (setRow_heap w g _ _ t _ hb) (grown_setRow w g _))

/-- The whole block. -/
theorem wpList_store_all {P : Program} {w : World} {ops : Array Oper} {rest : List Oper} {op : Oper} {a : Act} {Q : Exit → Act → World → Prop} (hgd : op.guard = none) (ty : TypeId) (x y : Operand) (ho : op.op = .store ty x y)
    (g : Nat) (t : TypeId) (cur cs : Array Value) (hx : a.eval x = .pointer (some ⟨g, 0, none⟩)) (hy : a.eval y = .agg cs) (hb : Blk w g t cur) (hsz : cs.size = cur.size)
    (hi : (P.info? ty).map (·.size) = some cs.size) (h1 : ∀ v ∈ cs.toList, v.oneCell' = true)
    (h : ∀ w', Blk w' g t cs → w.grownBy w' (some g) → wpList P ops Q rest (a.put op.dst undef) w') : wpList P ops Q (op :: rest) a w := by
  refine wpList_store_row hgd ty x y ho g 0 t cur.toList cs hx hy (by rwa [Array.toArray_toList]) (by simp; omega) hi h1 fun w' hb' hg => h w' ?_ hg
  rwa [splice_whole _ _ (by simp; omega), Array.toArray_toList] at hb'

theorem wpList_load_blk {P : Program} {w : World} {ops : Array Oper} {rest : List Oper} {op : Oper} {a : Act} {Q : Exit → Act → World → Prop} (hgd : op.guard = none) (ty : TypeId) (x : Operand) (ho : op.op = .load ty x)
    (g : Nat) (t : TypeId) (cs : Array Value) (d : TypeDesc) (hx : a.eval x = .pointer (some ⟨g, 0, none⟩)) (hb : Blk w g t cs)
    (hu : P.underlying ty = some d) (hd : d.isRow = true) (hi : (P.info? ty).map (·.size) = some cs.size)
    (h : wpList P ops Q rest (a.put op.dst (.agg cs)) w) : wpList P ops Q (op :: rest) a w :=
  wpList_load_row hgd ty x ho g hx t cs (0, 0) d hb hu (by cases d <;> first | rfl | (simp [TypeDesc.isRow] at hd)) hi h

theorem results_blk2 {fn : Func} {p q : Tmp} {ty : TypeId} {P : Program} (h : fn.results = #[.cell p ty, .tmp q]) (tmps : Array Value) (w : World) (g : Nat) (t : TypeId) (cs : Array Value) (d : TypeDesc)
    (hp : tmps.getD p undef = .pointer (some ⟨g, 0, none⟩)) (hg : Blk w g t cs)
    (hu : P.underlying ty = some d) (hd : d.isRow = true) (hi : (P.info? ty).map (·.size) = some cs.size) :
    (results fn tmps).run P w = .ok (.tuple #[.agg cs, tmps.getD q undef]) w := by
  have hp' : tmps[p]?.getD undef = .pointer (some ⟨g, 0, none⟩) := by simpa using hp
  simp [results, h, hp', asAddr, run_loadVar_row w g t ty cs (0, 0) d hg hu (by cases d <;> first | rfl | (simp [TypeDesc.isRow] at hd)) hi]
theorem results_blk1 {fn : Func} {p : Tmp} {ty : TypeId} {P : Program} (h : fn.results = #[.cell p ty]) (tmps : Array Value) (w : World) (g : Nat) (t : TypeId) (cs : Array Value) (d : TypeDesc)
    (hp : tmps.getD p undef = .pointer (some ⟨g, 0, none⟩)) (hg : Blk w g t cs)
    (hu : P.underlying ty = some d) (hd : d.isRow = true) (hi : (P.info? ty).map (·.size) = some cs.size) :
    (results fn tmps).run P w = .ok (.agg cs) w := results_cell_row h tmps w g t cs (0, 0) d hp hg hu (by cases d <;> first | rfl | (simp [TypeDesc.isRow] at hd)) hi
end Go.Proofs.Ytjlhfmedaandeaa

namespace Go.Proofs.Ytjlhfmedaandeaa
open Go.RowKit
theorem own_ext {w w' : World} {base : Nat} {e : TypeId} {size n : Nat} {v : Value} {xs : List Value} (h : w.ownsRow base e size v n xs) (hx : Ext w w') : w'.ownsRow base e size v n xs :=
  h.kept (row := none) ⟨hx.os, hx.tape, hx.output, hx.size, fun k hk _ => hx.block hk⟩ (by
    rcases ho : v.ownBlock with _ | g
    · exact .inl rfl
    · exact .inr (by simp))
end Go.Proofs.Ytjlhfmedaandeaa

/- A region that draws its order, whose operations only add to memory: each operation is walked once, whatever the order. No program is named here. -/
namespace Go.Proofs.Ytjlhfmedaandeaa
open Go.RowKit
set_option linter.unusedVariables false

/-- What is told of a value, and stays told while memory only grows. -/
structure VP where
  p : Value → World → Prop
  st : ∀ v w w', p v w → Ext w w' → p v w'
def VP.is (X : Value) : VP := ⟨fun v _ => v = X, fun _ _ _ h _ => h⟩
def VP.any : VP := ⟨fun _ _ => True, fun _ _ _ _ _ => trivial⟩
/-- A slice of n elements whose cells hold xs. -/
def VP.row (n : Nat) (xs : List Value) : VP := ⟨fun v w => ∃ A c, v = .slice A n c ∧ InM w A xs, fun _ _ _ ⟨A, c, h, k⟩ e => ⟨A, c, h, k.ext e⟩⟩
/-- A pointer to a block of just these cells. -/
def VP.ptr (t : TypeId) (cs : Array Value) : VP := ⟨fun v w => ∃ g, v = .pointer (some ⟨g, 0, none⟩) ∧ Blk w g t cs, fun _ _ _ ⟨g, h, k⟩ e => ⟨g, h, k.ext e⟩⟩
/-- A slice that is the whole of a block. -/
def VP.blk (n : Nat) (t : TypeId) (cs : Array Value) : VP := ⟨fun v w => ∃ g, v = .slice (some ⟨g, 0, none⟩) n n ∧ Blk w g t cs, fun _ _ _ ⟨g, h, k⟩ e => ⟨g, h, k.ext e⟩⟩
def VP.ex {α : Type} (V : α → VP) : VP := ⟨fun v w => ∃ x, (V x).p v w, fun v w w' ⟨x, h⟩ e => ⟨x, (V x).st v w w' h e⟩⟩
def VP.and (V : VP) (p : Prop) : VP := ⟨fun v w => V.p v w ∧ p, fun v w w' h e => ⟨V.st v w w' h.1 e, h.2⟩⟩
def VP.of (q : Value → Prop) : VP := ⟨fun v _ => q v, fun _ _ _ h _ => h⟩

def readDst (a : Act) : Option Tmp → Value
  | some d => a.tmps.getD d undef
  | none => undef
theorem put_read (a : Act) (d : Option Tmp) : a.put d (readDst a d) = a := by
  cases d with
  | none => rfl
  | some d =>
    obtain ⟨t, f⟩ := a
    simp only [Act.put, readDst, Act.mk.injEq, and_true]
    apply Array.ext
    · simp
    · intro i h1 h2
      rw [Array.getElem_setIfInBounds]
      split
      · rename_i h; subst h; simp [h2]
      · rfl
theorem put_put (a : Act) (d : Option Tmp) (u v : Value) : (a.put d u).put d v = a.put d v := by
  cases d with
  | none => rfl
  | some d => simp [Act.put]
theorem put_readput (a : Act) (d : Option Tmp) (v : Value) : a.put d (readDst (a.put d v) d) = a.put d v := by
  have := put_read (a.put d v) d
  rw [put_put] at this
  exact this
theorem put_defers' (a : Act) (d : Option Tmp) (v : Value) : (a.put d v).defers = a.defers := by cases d <;> rfl

/-- The frame with these values in the operations' slots. -/
def fillOps : List Oper → (Nat → Value) → Nat → Act → Act
  | [], _, _, a => a
  | o :: os, x, i, a => fillOps os x (i + 1) (a.put o.dst (x i))
def dstsApart : List Oper → Bool
  | [] => true
  | o :: os => (os.all fun o' => o.dst.isNone || o'.dst != o.dst) && dstsApart os
def edgesBack : List Oper → Nat → Bool
  | [], _ => true
  | o :: os, i => (o.after.toList.all fun e => !Region.binds .any e || decide (e.on < i)) && edgesBack os (i + 1)
def upd (x : Nat → Value) (j : Nat) (v : Value) : Nat → Value := fun m => if m = j then v else x m

theorem fill_congr : ∀ (os : List Oper) (x y : Nat → Value) (k : Nat) (a : Act), (∀ m, k ≤ m → x m = y m) → fillOps os x k a = fillOps os y k a
  | [], _, _, _, _, _ => rfl
  | o :: os, x, y, k, a, h => by
    simp only [fillOps]
    rw [h k (Nat.le_refl _)]
    exact fill_congr os x y (k + 1) _ fun m hm => h m (by omega)
theorem fill_comm : ∀ (os : List Oper) (x : Nat → Value) (k : Nat) (a : Act) (d : Option Tmp) (v : Value), (os.all fun o' => d.isNone || o'.dst != d) = true → (fillOps os x k a).put d v = fillOps os x k (a.put d v)
  | [], _, _, _, _, _, _ => rfl
  | o :: os, x, k, a, d, v, h => by
    simp only [List.all_cons, Bool.and_eq_true] at h
    simp only [fillOps]
    rw [fill_comm os x (k + 1) _ d v h.2]
    congr 1
    refine Act.put_comm a (x k) v fun e he hd => ?_
    subst hd
    simp [he] at h
theorem fill_put : ∀ (os : List Oper) (x : Nat → Value) (k : Nat) (a : Act) (i : Nat) (o : Oper) (v : Value), dstsApart os = true → os[i]? = some o → (fillOps os x k a).put o.dst v = fillOps os (upd x (k + i) v) k a
  | [], _, _, _, _, _, _, _, h => by simp at h
  | o' :: os, x, k, a, 0, o, v, hd, h => by
    simp only [List.getElem?_cons_zero, Option.some.injEq] at h
    subst h
    simp only [dstsApart, Bool.and_eq_true] at hd
    simp only [fillOps]
    rw [fill_comm os x (k + 1) _ _ v hd.1, put_put]
    have : upd x (k + 0) v k = v := by simp [upd]
    rw [this]
    exact fill_congr os _ _ (k + 1) _ fun m hm => by simp only [upd]; rw [if_neg (by omega)]
  | o' :: os, x, k, a, i + 1, o, v, hd, h => by
    simp only [List.getElem?_cons_succ] at h
    simp only [dstsApart, Bool.and_eq_true] at hd
    simp only [fillOps]
    rw [fill_put os x (k + 1) _ i o v hd.2 h]
    have e : upd x (k + 1 + i) v = upd x (k + (i + 1)) v := by rw [show k + 1 + i = k + (i + 1) from by omega]
    have e2 : upd x (k + (i + 1)) v k = x k := by simp only [upd]; rw [if_neg (by omega)]
    rw [e, e2]
theorem fill_start : ∀ (os : List Oper) (k : Nat) (a : Act), ∃ x, fillOps os x k a = a
  | [], _, _ => ⟨fun _ => undef, rfl⟩
  | o :: os, k, a => by
    obtain ⟨x, hx⟩ := fill_start os (k + 1) a
    refine ⟨upd x k (readDst a o.dst), ?_⟩
    simp only [fillOps]
    rw [show upd x k (readDst a o.dst) k = readDst a o.dst from by simp [upd], put_read]
    rw [fill_congr os _ x (k + 1) a fun m hm => by simp only [upd]; rw [if_neg (by omega)]]
    exact hx

def depV (Vs : List VP) (x : Nat → Value) (w : World) (G : Prop) : List Edge → Prop
  | [] => G
  | e :: es => match e.ground with
    | .data | .guard => (Vs.getD e.on .any).p (x e.on) w → depV Vs x w G es
    | _ => depV Vs x w G es
theorem depV_elim {Vs : List VP} {x : Nat → Value} {w : World} {G : Prop} : ∀ (es : List Edge), (∀ e ∈ es, Region.binds .any e = true → (Vs.getD e.on .any).p (x e.on) w) → depV Vs x w G es → G
  | [], _, h => h
  | e :: es, hk, h => by
    have ih := depV_elim (Vs := Vs) (x := x) (w := w) (G := G) es fun e' he' => hk e' (List.mem_cons_of_mem _ he')
    unfold depV at h
    split at h
    · rename_i hg
      exact ih (h (hk e (List.mem_cons_self ..) (by unfold Region.binds; rw [hg])))
    · rename_i hg
      exact ih (h (hk e (List.mem_cons_self ..) (by unfold Region.binds; rw [hg])))
    · exact ih h
def allV (x : Nat → Value) (w : World) (G : Prop) : List VP → Nat → Prop
  | [], _ => G
  | V :: Vs, i => V.p (x i) w → allV x w G Vs (i + 1)
theorem allV_elim {x : Nat → Value} {w : World} {G : Prop} : ∀ (Vs : List VP) (i : Nat), (∀ j (V : VP), Vs[j]? = some V → V.p (x (i + j)) w) → allV x w G Vs i → G
  | [], _, _, h => h
  | V :: Vs, i, hk, h => by
    refine allV_elim Vs (i + 1) (fun j W hj => ?_) (h (hk 0 V rfl))
    have := hk (j + 1) W (by simpa using hj)
    rwa [show i + (j + 1) = i + 1 + j from by omega] at this

/-- Where an operation must end. -/
def Done (V : VP) (d : Option Tmp) (ds : List Deferred) (w0 : World) : Exit → Act → World → Prop
  | .normal, a', w' => V.p (readDst a' d) w' ∧ a'.defers = ds ∧ Ext w0 w'
  | _, _, _ => False
theorem done_mk {V : VP} {d : Option Tmp} {ds : List Deferred} {w0 w' : World} {a' : Act} (h : V.p (readDst a' d) w') (hd : a'.defers = ds) (he : Ext w0 w') : Done V d ds w0 .normal a' w' := ⟨h, hd, he⟩
/-- The slot of operation j. -/
def dstOf : List Oper → Nat → Option Tmp
  | [], _ => none
  | o :: _, 0 => o.dst
  | _ :: os, j + 1 => dstOf os j
def asBool : Value → Option Bool
  | .bool b => some b
  | _ => none
/-- A guarded operation is done, or passed over. -/
def gcase (y : Option Bool) (want : Bool) (run skip : Prop) : Prop := if y = some want then run else skip
theorem gcase_run {y : Option Bool} {want : Bool} {run skip : Prop} (h : y = some want) (k : run) : gcase y want run skip := by unfold gcase; rw [if_pos h]; exact k
theorem gcase_skip {y : Option Bool} {want : Bool} {run skip : Prop} (h : y ≠ some want) (k : skip) : gcase y want run skip := by unfold gcase; rw [if_neg h]; exact k
/-- What is owed of one operation. -/
def One (P : Program) (l : List Oper) (V : VP) (ds : List Deferred) (w : World) (a : Act) : Oper → Prop
  | ⟨dst, op, type, pos, after, none⟩ => wpList P #[] (Done V dst ds w) [⟨dst, op, type, pos, after, none⟩] a w
  | ⟨dst, op, type, pos, after, some (j, want)⟩ => gcase (asBool (readDst a (dstOf l j))) want (wpList P #[] (Done V dst ds w) [⟨dst, op, type, pos, after, none⟩] a w) (V.p undef w)
def Obl (P : Program) (l : List Oper) (A : (Nat → Value) → Act) (ds : List Deferred) (w : World) (Vs : List VP) : List Oper → List VP → Prop
  | [], [] => True
  | o :: os, V :: Ws => (∀ x w', Ext w w' → depV Vs x w' (One P l V ds w' (A x) o) o.after.toList) ∧ Obl P l A ds w Vs os Ws
  | _, _ => False
theorem dstOf_eq : ∀ (l : List Oper) (j : Nat), dstOf l j = (l[j]?).bind (·.dst)
  | [], _ => by simp [dstOf]
  | _ :: _, 0 => rfl
  | _ :: os, j + 1 => by simp only [dstOf, List.getElem?_cons_succ]; exact dstOf_eq os j
theorem wanted_eq (l : List Oper) (o : Oper) (a : Act) (j : Nat) (want : Bool) (hg : o.guard = some (j, want)) : Region.wanted o (yielded l.toArray a.tmps) = true ↔ asBool (readDst a (dstOf l j)) = some want := by
  unfold Region.wanted yielded
  rw [hg, dstOf_eq]
  simp only [List.getElem?_toArray, beq_iff_eq]
  cases (l[j]?).bind (·.dst) with
  | none => simp [readDst, asBool, undef]
  | some d =>
    simp only [Option.bind_some, readDst, Array.getD_eq_getD_getElem?]
    cases a.tmps[d]? with
    | none => simp [asBool, undef]
    | some v => cases v <;> simp [asBool]
theorem readDst_undef (a : Act) (d : Option Tmp) : readDst (a.put d undef) d = undef := by
  cases d with
  | none => rfl
  | some d =>
    simp only [Act.put, readDst, Array.getD_eq_getD_getElem?, Array.getElem?_setIfInBounds]
    split
    · split <;> rfl
    · rename_i h
      cases hq : a.tmps[d]? with
      | none => rfl
      | some v => exact absurd trivial h
theorem One.toList {P : Program} {l : List Oper} {V : VP} {ds : List Deferred} {w : World} {a : Act} {o : Oper} (hds : a.defers = ds) (h : One P l V ds w a o) : wpList P l.toArray (Done V o.dst ds w) [o] a w := by
  obtain ⟨dst, op, type, pos, after, guard⟩ := o
  cases guard with
  | none => exact h
  | some g =>
    obtain ⟨j, want⟩ := g
    have hw := wanted_eq l ⟨dst, op, type, pos, after, some (j, want)⟩ a j want rfl
    simp only [One] at h
    unfold gcase at h
    simp only [wpList] at h ⊢
    by_cases hy : asBool (readDst a (dstOf l j)) = some want
    · rw [if_pos (hw.2 hy)]
      rw [if_pos hy] at h
      exact h
    · rw [if_neg (fun e => hy (hw.1 e))]
      rw [if_neg hy] at h
      exact ⟨by rw [readDst_undef]; exact h, by rw [put_defers']; exact hds, Ext.refl _⟩
theorem obl_len {P : Program} {l : List Oper} {A : (Nat → Value) → Act} {ds : List Deferred} {w : World} {Vs : List VP} : ∀ (os : List Oper) (Ws : List VP), Obl P l A ds w Vs os Ws → os.length = Ws.length
  | [], [], _ => rfl
  | [], _ :: _, h => h.elim
  | _ :: _, [], h => h.elim
  | _ :: os, _ :: Ws, h => by simp [obl_len os Ws h.2]
theorem obl_at {P : Program} {l : List Oper} {A : (Nat → Value) → Act} {ds : List Deferred} {w : World} {Vs : List VP} : ∀ (os : List Oper) (Ws : List VP) (i : Nat) (o : Oper), Obl P l A ds w Vs os Ws → os[i]? = some o →
    ∃ V, Ws[i]? = some V ∧ ∀ x w', Ext w w' → depV Vs x w' (One P l V ds w' (A x) o) o.after.toList
  | [], _, _, _, _, h => by simp at h
  | _ :: _, [], _, _, h, _ => h.elim
  | o' :: os, V :: Ws, 0, o, h, ho => by
    simp only [List.getElem?_cons_zero, Option.some.injEq] at ho
    subst ho
    exact ⟨V, rfl, h.1⟩
  | o' :: os, V :: Ws, i + 1, o, h, ho => by
    simp only [List.getElem?_cons_succ] at ho ⊢
    exact obl_at os Ws i o h.2 ho

theorem opwp_put {P : Program} {o : Oper} {a : Act} {w : World} {K K' : Act → World → Prop} {Qd Q' : Exit → Act → World → Prop} (h : o.wp P a w K Qd) (hk : ∀ a' w', K a' w' → a'.defers = a.defers)
    (hKK : ∀ v w', K (a.put o.dst v) w' → K' (a.put o.dst v) w') (hq : ∀ c a w, Qd (.panic c) a w → Q' (.panic c) a w) (ho : ∀ a w, Qd .outgrown a w → Q' .outgrown a w) : o.wp P a w K' Q' := by
  unfold Oper.wp at *
  generalize (execOp a.eval o).run P w = r at *
  cases r with
  | ok n w' =>
    cases n <;> simp only [Oper.upon] at h ⊢
    case value => exact hKK _ _ h
    case skip => exact hKK _ _ h
    case defer d =>
      have := hk _ _ h
      rw [put_defers'] at this
      have := congrArg List.length this
      simp at this
    case enter =>
      refine Calls.mono h fun e w'' he => ?_
      cases e with
      | returned v => exact hKK _ _ he
      | panicked c => exact hq _ _ _ he
      | outgrown => obtain ⟨a0, w0, h0⟩ := he; exact ⟨a0, w0, ho _ _ h0⟩
    case row => exact Rows.mono h fun _ _ he => hKK _ _ he
  | halt x w' =>
    cases x <;> simp only [Oper.upon] at h ⊢
    case panic => exact hq _ _ _ h

theorem count_set : ∀ (l : List Bool) (i : Nat), l[i]? = some false → (l.set i true).count false + 1 = l.count false
  | [], _, h => by simp at h
  | b :: l, 0, h => by
    simp only [List.getElem?_cons_zero, Option.some.injEq] at h
    subst h
    simp
  | b :: l, i + 1, h => by
    simp only [List.getElem?_cons_succ] at h
    have := count_set l i h
    simp only [List.set_cons_succ, List.count_cons]
    omega
theorem edgesBack_at : ∀ (os : List Oper) (k i : Nat) (o : Oper), edgesBack os k = true → os[i]? = some o → ∀ e ∈ o.after, Region.binds .any e = true → e.on < k + i
  | [], _, _, _, _, h => by simp at h
  | o' :: os, k, 0, o, hb, h => by
    simp only [List.getElem?_cons_zero, Option.some.injEq] at h
    subst h
    simp only [edgesBack, Bool.and_eq_true, List.all_eq_true, Array.mem_toList_iff] at hb
    intro e he hbi
    have := hb.1 e he
    simpa [hbi] using this
  | o' :: os, k, i + 1, o, hb, h => by
    simp only [List.getElem?_cons_succ] at h
    simp only [edgesBack, Bool.and_eq_true] at hb
    intro e he hbi
    have := edgesBack_at os (k + 1) i o hb.2 h e he hbi
    omega

theorem wp_region_mono {P : Program} {ops : Array Oper} {Q : Exit → Act → World → Prop} {a : Act} {w : World} {id : Nat} (hm : P.follows .mixedOrders = true)
    (Vs : List VP) (hd : dstsApart ops.toList = true) (he : edgesBack ops.toList 0 = true) (A : (Nat → Value) → Act) (hA : ∀ x, fillOps ops.toList x 0 a = A x)
    (hob : Obl P ops.toList A a.defers w Vs ops.toList Vs)
    (hfin : ∀ x w', Ext w w' → allV x w' (Q .normal (A x) w') Vs 0) : (Code.region id ops true).wp P Q a w := by
  obtain rfl : (fun x => fillOps ops.toList x 0 a) = A := funext hA
  have hlen : ops.size = Vs.length := by rw [← obl_len _ _ hob]; simp
  have fd : ∀ (os : List Oper) (x : Nat → Value) (k : Nat) (a : Act), (fillOps os x k a).defers = a.defers := by
    intro os
    induction os with
    | nil => intro _ _ _; rfl
    | cons o os ih => intro x k a; simp only [fillOps]; rw [ih, put_defers']
  have key : ∀ (fuel : Nat) (listed : Array Bool) (x : Nat → Value) (w1 : World), Ext w w1 → (∀ j (V : VP), listed[j]? = some true → Vs[j]? = some V → V.p (x j) w1) →
      listed.size = ops.size → listed.toList.count false ≤ fuel → wpAny P .any ops Q fuel listed (fillOps ops.toList x 0 a) w1 := by
    intro fuel
    have hQ : ∀ (listed : Array Bool) (x : Nat → Value) (w1 : World), Ext w w1 → (∀ j (V : VP), listed[j]? = some true → Vs[j]? = some V → V.p (x j) w1) → listed.size = ops.size →
        Region.ready .any ops listed = [] → Q .normal (fillOps ops.toList x 0 a) w1 := by
      intro listed x w1 hx hl hsz hr
      have hall : ∀ n j, j < n → j < ops.size → listed[j]? = some true := by
        intro n
        induction n with
        | zero => intro j hj; omega
        | succ n ih =>
          intro j hj hjs
          have hlt : j < listed.size := by omega
          cases hb : listed[j] with
          | true => rw [Array.getElem?_eq_getElem hlt, hb]
          | false =>
            have : j ∈ Region.ready .any ops listed := by
              rw [mem_ready]
              refine ⟨by simp [Array.getElem?_eq_getElem hlt, hb], ops[j], Array.getElem?_eq_getElem hjs, fun e hee hbi => ?_⟩
              have hon := edgesBack_at ops.toList 0 j ops[j] he (by simp [hjs]) e hee hbi
              have := ih e.on (by omega) (by omega)
              simp [this]
            rw [hr] at this
            cases this
      refine allV_elim Vs 0 (fun j V hj => ?_) (hfin x w1 hx)
      rw [Nat.zero_add]
      have : j < Vs.length := (List.getElem?_eq_some_iff.1 hj).1
      exact hl j V (hall (j + 1) j (by omega) (by omega)) hj
    induction fuel with
    | zero =>
      intro listed x w1 hx hl hsz hc
      have hr : Region.ready .any ops listed = [] := by
        rw [List.eq_nil_iff_forall_not_mem]
        intro j hj
        rw [mem_ready] at hj
        obtain ⟨h0, o, ho, _⟩ := hj
        have hjs : j < ops.size := (Array.getElem?_eq_some_iff.1 ho).1
        have hlt : j < listed.size := by omega
        have hb : listed[j] = false := by simpa [Array.getElem?_eq_getElem hlt] using h0
        have : 0 < listed.toList.count false := List.count_pos_iff.2 (by rw [← hb]; exact Array.getElem_mem_toList hlt)
        omega
      exact ⟨hr, hQ listed x w1 hx hl hsz hr⟩
    | succ fuel ih =>
      intro listed x w1 hx hl hsz hc
      refine ⟨hQ listed x w1 hx hl hsz, fun i hi => ?_⟩
      rw [mem_ready] at hi
      obtain ⟨h0, o, ho, hall⟩ := hi
      have his : i < ops.size := (Array.getElem?_eq_some_iff.1 ho).1
      have hlt : i < listed.size := by omega
      have hb : listed[i] = false := by simpa [Array.getElem?_eq_getElem hlt] using h0
      have hol : ops.toList[i]? = some o := by simpa using ho
      obtain ⟨V, hV, hobi⟩ := obl_at _ _ i o hob hol
      have hdep := depV_elim o.after.toList (fun e hee hbi => by
        have hon := edgesBack_at ops.toList 0 i o he hol e (by simpa using hee) hbi
        have hle := hall e (by simpa using hee) hbi
        have h1 : listed[e.on]? = some true := by
          have : e.on < listed.size := by omega
          rw [Array.getElem?_eq_getElem this] 
          simpa [Array.getElem?_eq_getElem this] using hle
        have h2 : e.on < Vs.length := by omega
        rw [List.getD_eq_getElem?_getD, List.getElem?_eq_getElem h2]
        exact hl e.on _ h1 (List.getElem?_eq_getElem h2)) (hobi x w1 hx)
      have step : ∀ v w2, V.p (readDst ((fillOps ops.toList x 0 a).put o.dst v) o.dst) w2 → Ext w1 w2 → wpAny P .any ops Q fuel (listed.setIfInBounds i true) ((fillOps ops.toList x 0 a).put o.dst v) w2 := by
        intro v w2 hv hx2
        rw [← put_readput, fill_put ops.toList x 0 a i o _ hd hol, Nat.zero_add]
        refine ih _ _ _ (hx.trans hx2) (fun j W hj hW => ?_) (by simpa using hsz) ?_
        · by_cases hji : j = i
          · subst hji
            rw [hV] at hW
            injection hW with hW
            subst hW
            simp only [upd, if_true]
            exact hv
          · simp only [upd, if_neg hji]
            rw [Array.getElem?_setIfInBounds_ne (Ne.symm hji)] at hj
            exact W.st _ _ _ (hl j W hj hW) hx2
        · have := count_set listed.toList i (by simp [hlt, hb])
          simp only [Array.toList_setIfInBounds]
          omega
      unfold wpOp
      rw [ho]
      dsimp only
      have hdep : wpList P ops (Done V o.dst a.defers w1) [o] (fillOps ops.toList x 0 a) w1 := by
        have := One.toList (fd _ _ _ _) hdep
        rwa [Array.toArray_toList] at this
      simp only [wpList] at hdep
      split
      · rename_i hw
        rw [if_pos hw] at hdep
        rcases hdep with hdep | ⟨_, a0, w0, h⟩
        · refine .inl (opwp_put hdep (fun a' w' h => by rw [fd]; exact h.2.1) (fun v w' h => step v w' h.1 h.2.2) (fun _ _ _ h => h.elim) (fun _ _ h => h.elim))
        · exact h.elim
      · rename_i hw
        rw [if_neg hw] at hdep
        exact step _ _ hdep.1 hdep.2.2
  obtain ⟨x0, hx0⟩ := fill_start ops.toList 0 a
  refine wp_region_any hm ?_
  have := key ops.size (Array.replicate ops.size false) x0 { w with drawn := w.drawn + 1 } ((Ext.refl w).drew) (fun j V h _ => by
    simp [Array.getElem?_replicate] at h) (by simp) (by simp)
  rw [hx0] at this
  exact this
end Go.Proofs.Ytjlhfmedaandeaa

/- A range over a function whose yielded values carry facts on memory with them (G): the body is walked at a value of which G is told. The body always ends its round. No program is named here. -/
namespace Go.Proofs.Ytjlhfmedaandeaa
open Go.RowKit
set_option linter.unusedVariables false

/-- The iterator's contract: at each yield G is told of the value. -/
def Tells {α : Type} (F : Fence) (n : Nat) (P : Program) (g : Nat) (lb : Array Value) (encs : α → Array Value) (G : α → World → Prop) (Kp : World → World → Prop) (S : List α → Prop) (N : Nat) (w : World) : Prop :=
  ∀ (l : Nat) (J : List α → World → Prop) (W : World), Below w.heap.size w W → AbidesFrom W.heap.size J →
    (∀ pre x W1, J pre W1 → G x W1 → pre.length < N → YieldAt F (n - 1) P l (encs x) W1 fun e W' => e = .returned (.bool true) ∧ J (pre ++ [x]) W' ∧ Kp W1 W') →
    J [] W →
    CallsIn F n P g (#[.func (.yield l) #[] #[]] ++ lb) W fun e W' => (∃ v, e = .returned v) ∧ ∃ xs, S xs ∧ J xs W'

/-- Where a round of the body ends. -/
def roundEnd {α : Type} (B : Nat) (Kp : World → World → Prop) (I : List α → World → Prop) (xs : List α) (W : World) : Exit → Act → World → Prop
  | .normal, _, W' => KeepsFrom B W W' ∧ Kp W W' ∧ I xs W'
  | _, _, _ => False

theorem rangeFunc_tells {F : Fence} {n : Nat} {P : Program} {α : Type} {g : Operand} {ps : Array Tmp} {assign body : Code} {Q : Exit → Act → World → Prop} {a : Act} {w : World}
    (hro : F.round = none) (h1 : 1 ≤ n) {gf : Nat} {lb : Array Value} (hg : a.eval g = .func (.func gf) #[] lb) (hFg : F.fn gf) (eg : ∀ args w, (callFunc gf args).run P w = .ok (.enter gf args) w)
    {encs : α → Array Value} {G : α → World → Prop} {Kp : World → World → Prop} {S : List α → Prop} {N : Nat} {w0 : World} (hseq : Tells F (n - 1) P gf lb encs G Kp S N w0)
    (hKt : ∀ {A B C : World}, Kp A B → Kp B C → Kp A C) (hKb : ∀ (W : World) (l : Nat) (o o' : Obj), w.heap.size ≤ l → W.heap[l]? = some o → o.isCells = false → o.isWalk = false → Kp W (W.putObj l o'))
    (hb0 : Below w0.heap.size w0 w) (hps : ∀ x, (encs x).size = ps.size)
    (hG : ∀ (x : α) (W : World) (l : Nat) (o o' : Obj), G x W → W.heap[l]? = some o → o.isCells = false → G x (W.putObj l o'))
    (I : List α → World → Prop) (hI : OwnFrom w.heap.size I) (h0 : I [] w) (a₁ : α → Act)
    (hassign : ∀ (l : Nat) (x : α) (W : World) (K : Act → World → Prop), K (a₁ x) W →
      assign.wpIn (F.inRound l) (n - 1 - 1) P (Exit.then K (fun _ _ _ => False)) { tmps := (ps.zip (encs x)).foldl (fun t (p, v) => t.setIfInBounds p v) a.tmps, defers := [] } W)
    (hbody : ∀ (l : Nat) (pre : List α) (x : α) (W : World), I pre W → G x W → pre.length < N → body.wpIn (F.inRound l) (n - 1 - 1) P (roundEnd w.heap.size Kp I (pre ++ [x]) W) (a₁ x) W)
    (hdone : ∀ (D : Nat) (xs : List α) (W : World), w.heap.size ≤ D → S xs → I xs W → W.heap[D]? = some (.deferred (some [])) → Q .normal { a with defers := { target := .collected D, args := #[] } :: a.defers } W) :
    (Code.rangeFunc g ps assign body).wpIn F n P Q a w := by
  refine wpIn_rangeFunc fun fn hfn => ?_
  rw [hro]
  obtain ⟨rec, hrec⟩ : ∃ rec : LoopState → Option Code → Loop, rec = fun st pe => { state := st, pending := pe, fn, tmps := a.tmps, params := ps, assign, body, defers := w.heap.size } := ⟨_, rfl⟩
  obtain ⟨V, hV⟩ : ∃ V, (w.alloc (.deferred (some []))).alloc (.loop (rec .ready none)) = V := ⟨_, rfl⟩
  have hL : V.heap[w.heap.size + 1]? = some (.loop (rec .ready none)) := by
    have := World.alloc_heap_new (w.alloc (.deferred (some []))) (.loop (rec .ready none))
    rw [World.size_alloc] at this
    rw [← hV]
    exact this
  have hD : V.heap[w.heap.size]? = some (.deferred (some [])) := by
    rw [← hV]
    exact (Below.heap_alloc _ _ _ (by simp)).trans (World.alloc_heap_new w _)
  have hIV : I [] V := by rw [← hV]; exact hI.alloc _ (hI.alloc _ h0)
  have hbV : Below w0.heap.size w0 V := by
    rw [← hV]
    exact hb0.trans ((((Below.refl _ w).alloc (Nat.le_refl _) _).alloc (by simp) _).mono hb0.size)
  have hz : w.heap.size + 2 ≤ V.heap.size := by rw [← hV]; simp
  have hE : (Instr.enterLoop fn a.tmps ps assign body none).run P w = .ok (w.heap.size + 1, [{ target := .collected w.heap.size, args := #[] }]) V := by
    rw [← hV, hrec]
    exact run_enterLoop_outer _ _ _ _ _
  clear hV
  refine ⟨w.heap.size + 1, [{ target := .collected w.heap.size, args := #[] }], V, { target := .fn (.func gf) lb, args := #[.func (.yield (w.heap.size + 1)) #[] #[]] }, V, gf,
    #[.func (.yield (w.heap.size + 1)) #[] #[]] ++ lb, V, ?_, ?_, ?_, ?_, fun _ => h1, ?_⟩
  · exact hE
  · simp only [resolve, hg]
    simp [go_sem]
  · intro f' hf'
    simp [Target.leads] at hf'
    subst hf'
    exact hFg
  · simp [invoke, go_sem, eg]
  · have far : ∀ {A B : World} {row : Option Nat}, (∀ r, row = some r → V.heap.size ≤ r ∧ ∃ o : Obj, A.heap[r]? = some o ∧ o.isWalk = true) → (∀ r, row = some r → w.heap.size ≤ r ∧ ∃ o : Obj, A.heap[r]? = some o ∧ o.isCells = false) :=
      fun hr r e => by
        obtain ⟨hB, o, ho, hw⟩ := hr r e
        exact ⟨by omega, o, ho, Obj.not_cells_of_walk hw⟩
    refine (hseq (w.heap.size + 1) (fun pre W => I pre W ∧ W.heap[w.heap.size + 1]? = some (.loop (rec .ready none)) ∧ W.heap[w.heap.size]? = some (.deferred (some []))) V hbV
      (fun s A B row hs hg' hr => ⟨hI s A B row hs.1 hg' (far (B := B) hr), (grownBy_keeps hg' (fun r e => (hr r e).2) hs.2.1 rfl).trans hs.2.1, (grownBy_keeps hg' (fun r e => (hr r e).2) hs.2.2 rfl).trans hs.2.2⟩)
      ?_ ⟨hIV, hL, hD⟩).mono ?_
    · rintro pre x W ⟨hi, hl, hk⟩ hgx hlen
      have hlt : w.heap.size + 1 < W.heap.size := (Array.getElem?_eq_some_iff.1 hl).1
      have hy := run_yield (P := P) (args := encs x) hl (by rw [hrec]; exact hps x)
      rw [hrec] at hy
      refine ⟨fn, _, assign, body, hy, roundIn_of_wpIn hfn (hassign _ x W _ ⟨_, run_beginRound hl (by rw [hrec]), ?_⟩)⟩
      generalize hW2 : W.putObj (w.heap.size + 1) (.loop { rec .ready none with state := .busy }) = W2
      have hl2 : W2.heap[w.heap.size + 1]? = some (.loop { rec .ready none with state := .busy }) := by rw [← hW2]; exact World.putObj_heap_same hlt
      have hk2 : W2.heap[w.heap.size]? = some (.deferred (some [])) := by rw [← hW2]; exact (World.putObj_heap_other (by omega)).trans hk
      have hw2 : Kp W W2 := by rw [← hW2]; exact hKb _ _ _ _ (by omega) hl rfl rfl
      have hi2 : I pre W2 := by rw [← hW2]; exact hI.putObj _ hi (by omega) hl rfl
      have hg2 : G x W2 := by rw [← hW2]; exact hG x W _ _ _ hgx hl rfl
      refine wpIn_mono (hbody _ pre x _ hi2 hg2 hlen) ?_
      rintro e a3 W3 hp
      cases e with
      | normal =>
        obtain ⟨hk3, hkp3, hi3⟩ := hp
        have hl3 := hk3.same _ _ (by omega) hl2 rfl
        have hr := run_endRound (P := P) none hl3
        rw [hrec] at hr
        exact ⟨_, _, hr, rfl, ⟨hI.putObj _ hi3 (by omega) hl3 rfl, by rw [hrec]; exact World.putObj_heap_same (Array.getElem?_eq_some_iff.1 hl3).1, (World.putObj_heap_other (by omega)).trans (hk3.same _ _ (Nat.le_refl _) hk2 rfl)⟩, hKt (hKt hw2 hkp3) (hKb _ _ _ _ (by omega) hl3 rfl rfl)⟩
      | ret => exact hp.elim
      | exit id => exact hp.elim
      | goto t => exact hp.elim
      | panic ch => exact hp.elim
      | outgrown => exact hp.elim
    · rintro e W2 ⟨⟨v, rfl⟩, xs, hS, hi, hl, hk⟩
      have hr := run_endLoop (P := P) hl (by rw [hrec]; simp)
      rw [hrec] at hr
      exact ⟨none, _, hr, hdone _ xs _ (Nat.le_refl _) hS (hI.putObj _ hi (by omega) hl rfl) ((World.putObj_heap_other (by omega)).trans hk)⟩
end Go.Proofs.Ytjlhfmedaandeaa

/- A range over a function whose yielded values carry facts on memory with them (G): the body is walked at a value of which G is told. The body always ends its round. No program is named here. -/
namespace Go.Proofs.Ytjlhfmedaandeaa
open Go.RowKit
set_option linter.unusedVariables false

/-- The iterator's contract: at each yield G is told of the value; of the body's blocks Bd is told. -/
def TellsB {α : Type} (F : Fence) (n : Nat) (P : Program) (g : Nat) (lb : Array Value) (encs : α → Array Value) (G : α → World → Prop) (Kp : World → World → Prop) (Bd : World → Prop) (S : List α → Prop) (N : Nat) (w : World) : Prop :=
  ∀ (l : Nat) (J : List α → World → Prop) (W : World), Below w.heap.size w W → AbidesFrom W.heap.size J → (∀ pre W, J pre W → Bd W) →
    (∀ pre x W1, J pre W1 → G x W1 → pre.length < N → YieldAt F (n - 1) P l (encs x) W1 fun e W' => e = .returned (.bool true) ∧ J (pre ++ [x]) W' ∧ Kp W1 W') →
    J [] W →
    CallsIn F n P g (#[.func (.yield l) #[] #[]] ++ lb) W fun e W' => (∃ v, e = .returned v) ∧ ∃ xs, S xs ∧ J xs W'

theorem rangeFunc_tellsB {F : Fence} {n : Nat} {P : Program} {α : Type} {g : Operand} {ps : Array Tmp} {assign body : Code} {Q : Exit → Act → World → Prop} {a : Act} {w : World}
    (hro : F.round = none) (h1 : 1 ≤ n) {gf : Nat} {lb : Array Value} (hg : a.eval g = .func (.func gf) #[] lb) (hFg : F.fn gf) (eg : ∀ args w, (callFunc gf args).run P w = .ok (.enter gf args) w)
    {encs : α → Array Value} {G : α → World → Prop} {Kp : World → World → Prop} {Bd : World → Prop} {S : List α → Prop} {N : Nat} {w0 : World} (hseq : TellsB F (n - 1) P gf lb encs G Kp Bd S N w0)
    (hKt : ∀ {A B C : World}, Kp A B → Kp B C → Kp A C) (hKb : ∀ (W : World) (l : Nat) (o o' : Obj), w.heap.size ≤ l → W.heap[l]? = some o → o.isCells = false → o.isWalk = false → Kp W (W.putObj l o'))
    (hb0 : Below w0.heap.size w0 w) (hps : ∀ x, (encs x).size = ps.size)
    (hG : ∀ (x : α) (W : World) (l : Nat) (o o' : Obj), G x W → W.heap[l]? = some o → o.isCells = false → G x (W.putObj l o'))
    (I : List α → World → Prop) (hBd : ∀ pre W, I pre W → Bd W) (hI : OwnFrom w.heap.size I) (h0 : I [] w) (a₁ : α → Act)
    (hassign : ∀ (l : Nat) (x : α) (W : World) (K : Act → World → Prop), K (a₁ x) W →
      assign.wpIn (F.inRound l) (n - 1 - 1) P (Exit.then K (fun _ _ _ => False)) { tmps := (ps.zip (encs x)).foldl (fun t (p, v) => t.setIfInBounds p v) a.tmps, defers := [] } W)
    (hbody : ∀ (l : Nat) (pre : List α) (x : α) (W : World), I pre W → G x W → pre.length < N → body.wpIn (F.inRound l) (n - 1 - 1) P (roundEnd w.heap.size Kp I (pre ++ [x]) W) (a₁ x) W)
    (hdone : ∀ (D : Nat) (xs : List α) (W : World), w.heap.size ≤ D → S xs → I xs W → W.heap[D]? = some (.deferred (some [])) → Q .normal { a with defers := { target := .collected D, args := #[] } :: a.defers } W) :
    (Code.rangeFunc g ps assign body).wpIn F n P Q a w := by
  refine wpIn_rangeFunc fun fn hfn => ?_
  rw [hro]
  obtain ⟨rec, hrec⟩ : ∃ rec : LoopState → Option Code → Loop, rec = fun st pe => { state := st, pending := pe, fn, tmps := a.tmps, params := ps, assign, body, defers := w.heap.size } := ⟨_, rfl⟩
  obtain ⟨V, hV⟩ : ∃ V, (w.alloc (.deferred (some []))).alloc (.loop (rec .ready none)) = V := ⟨_, rfl⟩
  have hL : V.heap[w.heap.size + 1]? = some (.loop (rec .ready none)) := by
    have := World.alloc_heap_new (w.alloc (.deferred (some []))) (.loop (rec .ready none))
    rw [World.size_alloc] at this
    rw [← hV]
    exact this
  have hD : V.heap[w.heap.size]? = some (.deferred (some [])) := by
    rw [← hV]
    exact (Below.heap_alloc _ _ _ (by simp)).trans (World.alloc_heap_new w _)
  have hIV : I [] V := by rw [← hV]; exact hI.alloc _ (hI.alloc _ h0)
  have hbV : Below w0.heap.size w0 V := by
    rw [← hV]
    exact hb0.trans ((((Below.refl _ w).alloc (Nat.le_refl _) _).alloc (by simp) _).mono hb0.size)
  have hz : w.heap.size + 2 ≤ V.heap.size := by rw [← hV]; simp
  have hE : (Instr.enterLoop fn a.tmps ps assign body none).run P w = .ok (w.heap.size + 1, [{ target := .collected w.heap.size, args := #[] }]) V := by
    rw [← hV, hrec]
    exact run_enterLoop_outer _ _ _ _ _
  clear hV
  refine ⟨w.heap.size + 1, [{ target := .collected w.heap.size, args := #[] }], V, { target := .fn (.func gf) lb, args := #[.func (.yield (w.heap.size + 1)) #[] #[]] }, V, gf,
    #[.func (.yield (w.heap.size + 1)) #[] #[]] ++ lb, V, ?_, ?_, ?_, ?_, fun _ => h1, ?_⟩
  · exact hE
  · simp only [resolve, hg]
    simp [go_sem]
  · intro f' hf'
    simp [Target.leads] at hf'
    subst hf'
    exact hFg
  · simp [invoke, go_sem, eg]
  · have far : ∀ {A B : World} {row : Option Nat}, (∀ r, row = some r → V.heap.size ≤ r ∧ ∃ o : Obj, A.heap[r]? = some o ∧ o.isWalk = true) → (∀ r, row = some r → w.heap.size ≤ r ∧ ∃ o : Obj, A.heap[r]? = some o ∧ o.isCells = false) :=
      fun hr r e => by
        obtain ⟨hB, o, ho, hw⟩ := hr r e
        exact ⟨by omega, o, ho, Obj.not_cells_of_walk hw⟩
    refine (hseq (w.heap.size + 1) (fun pre W => I pre W ∧ W.heap[w.heap.size + 1]? = some (.loop (rec .ready none)) ∧ W.heap[w.heap.size]? = some (.deferred (some []))) V hbV
      (fun s A B row hs hg' hr => ⟨hI s A B row hs.1 hg' (far (B := B) hr), (grownBy_keeps hg' (fun r e => (hr r e).2) hs.2.1 rfl).trans hs.2.1, (grownBy_keeps hg' (fun r e => (hr r e).2) hs.2.2 rfl).trans hs.2.2⟩)
      (fun pre W hs => hBd pre W hs.1) ?_ ⟨hIV, hL, hD⟩).mono ?_
    · rintro pre x W ⟨hi, hl, hk⟩ hgx hlen
      have hlt : w.heap.size + 1 < W.heap.size := (Array.getElem?_eq_some_iff.1 hl).1
      have hy := run_yield (P := P) (args := encs x) hl (by rw [hrec]; exact hps x)
      rw [hrec] at hy
      refine ⟨fn, _, assign, body, hy, roundIn_of_wpIn hfn (hassign _ x W _ ⟨_, run_beginRound hl (by rw [hrec]), ?_⟩)⟩
      generalize hW2 : W.putObj (w.heap.size + 1) (.loop { rec .ready none with state := .busy }) = W2
      have hl2 : W2.heap[w.heap.size + 1]? = some (.loop { rec .ready none with state := .busy }) := by rw [← hW2]; exact World.putObj_heap_same hlt
      have hk2 : W2.heap[w.heap.size]? = some (.deferred (some [])) := by rw [← hW2]; exact (World.putObj_heap_other (by omega)).trans hk
      have hw2 : Kp W W2 := by rw [← hW2]; exact hKb _ _ _ _ (by omega) hl rfl rfl
      have hi2 : I pre W2 := by rw [← hW2]; exact hI.putObj _ hi (by omega) hl rfl
      have hg2 : G x W2 := by rw [← hW2]; exact hG x W _ _ _ hgx hl rfl
      refine wpIn_mono (hbody _ pre x _ hi2 hg2 hlen) ?_
      rintro e a3 W3 hp
      cases e with
      | normal =>
        obtain ⟨hk3, hkp3, hi3⟩ := hp
        have hl3 := hk3.same _ _ (by omega) hl2 rfl
        have hr := run_endRound (P := P) none hl3
        rw [hrec] at hr
        exact ⟨_, _, hr, rfl, ⟨hI.putObj _ hi3 (by omega) hl3 rfl, by rw [hrec]; exact World.putObj_heap_same (Array.getElem?_eq_some_iff.1 hl3).1, (World.putObj_heap_other (by omega)).trans (hk3.same _ _ (Nat.le_refl _) hk2 rfl)⟩, hKt (hKt hw2 hkp3) (hKb _ _ _ _ (by omega) hl3 rfl rfl)⟩
      | ret => exact hp.elim
      | exit id => exact hp.elim
      | goto t => exact hp.elim
      | panic ch => exact hp.elim
      | outgrown => exact hp.elim
    · rintro e W2 ⟨⟨v, rfl⟩, xs, hS, hi, hl, hk⟩
      have hr := run_endLoop (P := P) hl (by rw [hrec]; simp)
      rw [hrec] at hr
      exact ⟨none, _, hr, hdone _ xs _ (Nat.le_refl _) hS (hI.putObj _ hi (by omega) hl rfl) ((World.putObj_heap_other (by omega)).trans hk)⟩

/-- What the body does not own stays, and stays not its own. -/
def KpO (Own : World → Nat → Prop) (W W' : World) : Prop := ∀ b cs t, Blk W b t cs → ¬ Own W b → Blk W' b t cs ∧ ¬ Own W' b
theorem KpO.trans {Own : World → Nat → Prop} {A B C : World} (h : KpO Own A B) (k : KpO Own B C) : KpO Own A C := fun b cs t hb ho => let ⟨h1, h2⟩ := h b cs t hb ho; k b cs t h1 h2
end Go.Proofs.Ytjlhfmedaandeaa
