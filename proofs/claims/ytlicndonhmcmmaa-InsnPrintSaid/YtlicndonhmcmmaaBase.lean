/- Plain words on memory for the walks of this family: 'Ext' (a world that keeps all that another one holds), 'InM' (a row of cells that reads as a list of values), 'Blk' (a block known whole). No program is named here. -/
import Derived.WalkKit
import Derived.Deep.QuietTactic
import Derived.BigQuiet
import Derived.Deep.DeepCutAuto
import Derived.Deep.DeepFit
import Derived.Deep.RegionWith
import Derived.Deep.RegionHeld3
import Derived.Deep.AppendLies
import Derived.WalkLawsBesides
import Derived.WalkSpells
import Derived.Maps.AppendAt
import Derived.Lib.Hide
namespace Go.Proofs.Ytlicndonhmcmmaa
open Go.RowKit

/-- All that w holds w' holds too. -/
def Ext (w w' : World) : Prop := Below w.heap.size w w'

theorem Ext.refl (w : World) : Ext w w := Below.refl _ _
theorem Ext.trans {a b c : World} (h : Ext a b) (k : Ext b c) : Ext a c := Below.trans h (Below.mono k h.size)
theorem Ext.drew {a b : World} (h : Ext a b) : Ext a b.drew := Below.drew h
theorem Ext.drewN {a b : World} (h : Ext a b) (n : Nat) : Ext a (b.drewN n) := ⟨h.os, h.tape, h.output, h.size, h.block⟩
theorem Ext.alloc {a b : World} (h : Ext a b) (o : Obj) : Ext a (b.alloc o) := Below.alloc h h.size o
theorem Ext.set {a b : World} (h : Ext a b) {p : Addr} (hp : a.heap.size ≤ p.block) (u : Value) : Ext a (b.setCell p u) := Below.setCell h hp u
theorem Ext.grown {a b c : World} {row : Option Nat} (h : Ext a b) (hg : b.grownBy c row) (hr : ∀ k, row = some k → a.heap.size ≤ k) : Ext a c := Below.grown h hg h.size hr
theorem Ext.size {a b : World} (h : Ext a b) : a.heap.size ≤ b.heap.size := Below.size h
theorem Ext.cell {a b : World} (h : Ext a b) {p : Addr} {u : Value} (hc : a.cell? p = some u) : b.cell? p = some u :=
  (Below.cell h (block_lt_of_cell hc)).trans hc
theorem Ext.frozen {a b : World} (h : Ext a b) {p : Addr} (hp : p.block < a.heap.size) : b.frozen? p = a.frozen? p := Below.frozen h hp
theorem Ext.block {a b : World} (h : Ext a b) {k : Nat} (hk : k < a.heap.size) : b.heap[k]? = a.heap[k]? := Below.block h k hk
theorem Ext.below {a b : World} (h : Ext a b) {B : Nat} (hB : B ≤ a.heap.size) : Below B a b := Below.mono h hB

/-- From A on the cells hold xs. -/
def InM (w : World) (A : Option Addr) (xs : List Value) : Prop :=
  ∀ j u, xs[j]? = some u → ∃ b off, A = some ⟨b, off, none⟩ ∧ w.cell? ⟨b, off + j, none⟩ = some u

theorem InM.nil (w : World) (A : Option Addr) : InM w A [] := fun j u h => by simp at h
theorem InM.ext {w w' : World} {A : Option Addr} {xs : List Value} (h : InM w A xs) (e : Ext w w') : InM w' A xs := fun j u hu => by
  obtain ⟨b, off, ha, hc⟩ := h j u hu
  exact ⟨b, off, ha, e.cell hc⟩
theorem InM.at_ {w : World} {A : Option Addr} {xs : List Value} (h : InM w A xs) {k : Nat} (hk : k < xs.length) :
    ∃ b off, A = some ⟨b, off, none⟩ ∧ b < w.heap.size ∧ w.cell? ⟨b, off + k, none⟩ = some xs[k] := by
  obtain ⟨b, off, ha, hc⟩ := h k _ (List.getElem?_eq_getElem hk)
  exact ⟨b, off, ha, block_lt_of_cell hc, hc⟩
theorem InM.cell {w : World} {b off : Nat} {xs : List Value} (h : InM w (some ⟨b, off, none⟩) xs) {k : Nat} {u : Value} (hk : xs[k]? = some u) :
    w.cell? ⟨b, off + k, none⟩ = some u := by
  obtain ⟨b', off', ha, hc⟩ := h k _ hk
  injection ha with ha
  injection ha with h1 h2
  subst h1 h2
  exact hc
theorem InM.some_ {w : World} {A : Option Addr} {xs : List Value} (h : InM w A xs) (hk : 0 < xs.length) : ∃ b off, A = some ⟨b, off, none⟩ ∧ b < w.heap.size := by
  obtain ⟨b, off, ha, hb, _⟩ := h.at_ hk
  exact ⟨b, off, ha, hb⟩
theorem InM.prefix_ {w : World} {A : Option Addr} {xs ys : List Value} (h : InM w A (xs ++ ys)) : InM w A xs := fun j u hu => by
  refine h j u ?_
  rw [List.getElem?_append_left ((List.getElem?_eq_some_iff.1 hu).1)]
  exact hu
theorem InM.take {w : World} {A : Option Addr} {xs : List Value} (h : InM w A xs) (k : Nat) : InM w A (xs.take k) := fun j u hu => by
  refine h j u ?_
  rw [List.getElem?_take] at hu
  split at hu
  · exact hu
  · cases hu
theorem InM.drop {w : World} {b off : Nat} {xs : List Value} (h : InM w (some ⟨b, off, none⟩) xs) (k : Nat) : InM w (some ⟨b, off + k, none⟩) (xs.drop k) := fun j u hu => by
  rw [List.getElem?_drop] at hu
  refine ⟨b, off + k, rfl, ?_⟩
  have := h.cell hu
  rwa [← Nat.add_assoc] at this

/-- Block g is just these cells of type t, none of them frozen. -/
def Blk (w : World) (g : Nat) (t : TypeId) (cs : Array Value) : Prop := w.heap[g]? = some (.cells cs t (0, 0))

section
variable {w w' : World} {g : Nat} {t : TypeId} {cs : Array Value}
theorem Blk.lt (h : Blk w g t cs) : g < w.heap.size := (Array.getElem?_eq_some_iff.1 h).1
theorem Blk.cell (h : Blk w g t cs) (i : Nat) : w.cell? ⟨g, i, none⟩ = cs[i]? := cell_of_row w g i cs t (0, 0) h
theorem Blk.frozen (h : Blk w g t cs) (i : Nat) : w.frozen? ⟨g, i, none⟩ = false := by unfold Blk at h; simp [World.frozen?, h]
theorem Blk.new (w : World) (t : TypeId) (cs : Array Value) : Blk (w.alloc (.cells cs t)) w.heap.size t cs := heap_alloc_new w _
theorem Blk.ext (h : Blk w g t cs) (e : Ext w w') : Blk w' g t cs := (e.block h.lt).trans h
theorem Blk.alloc (h : Blk w g t cs) (o : Obj) : Blk (w.alloc o) g t cs := h.ext ((Ext.refl w).alloc o)
theorem Blk.drew (h : Blk w g t cs) : Blk w.drew g t cs := h
theorem Blk.drewN (h : Blk w g t cs) (n : Nat) : Blk (w.drewN n) g t cs := h
theorem Blk.set_ (h : Blk w g t cs) (i : Nat) (u : Value) : Blk (w.setCell ⟨g, i, none⟩ u) g t (cs.setIfInBounds i u) := by
  unfold Blk at h ⊢
  simp [World.setCell, Array.getElem?_modify, h]
theorem Blk.far (h : Blk w g t cs) {p : Addr} (hp : g ≠ p.block) (u : Value) : Blk (w.setCell p u) g t cs := (Below.heap_setCell w p u g hp).trans h
theorem Blk.inM (h : Blk w g t cs) : InM w (some ⟨g, 0, none⟩) cs.toList := fun j u hu => ⟨g, 0, rfl, by rw [Nat.zero_add, h.cell]; simpa using hu⟩
theorem Blk.below {B : Nat} (h : Blk w g t cs) (hb : Below B w w') (hg : g < B) : Blk w' g t cs := (hb.block g hg).trans h
theorem Blk.grown {row : Option Nat} (h : Blk w g t cs) (hb : w.grownBy w' row) (hg : some g ≠ row) : Blk w' g t cs := (hb.block g h.lt hg).trans h
end

theorem InM.ofBlk {w : World} {g : Nat} {t : TypeId} {cs : Array Value} {xs : List Value} (h : Blk w g t cs) (e : cs.toList = xs) : InM w (some ⟨g, 0, none⟩) xs := e ▸ h.inM

/-- Bytes, and other numbers of one kind, as cells. -/
abbrev nums (k : IntKind) (xs : List Int) : List Value := xs.map (Value.int k)
theorem nums_at {k : IntKind} {xs : List Int} {j : Nat} (h : j < xs.length) : (nums k xs)[j]? = some (.int k xs[j]) := by simp [nums, h]

theorem InM.seg {w : World} {b off : Nat} {kd : IntKind} {xs : List Int} (h : InM w (some ⟨b, off, none⟩) (nums kd xs)) (k m : Nat) : InM w (some ⟨b, off + k, none⟩) (nums kd ((xs.drop k).take m)) := by
  have := (h.drop k).take m
  rwa [← List.map_drop, ← List.map_take] at this

/-- A row of numbers: the cell at k. -/
theorem InM.num {w : World} {A : Option Addr} {kd : IntKind} {xs : List Int} (h : InM w A (nums kd xs)) {k : Nat} (hk : k < xs.length) :
    ∃ b off, A = some ⟨b, off, none⟩ ∧ b < w.heap.size ∧ w.cell? ⟨b, off + k, none⟩ = some (.int kd xs[k]) := by
  obtain ⟨b, off, ha, hb, hc⟩ := h.at_ (k := k) (by simpa [nums] using hk)
  exact ⟨b, off, ha, hb, by simpa [nums] using hc⟩

theorem add_plain (b off j : Nat) : (⟨b, off, none⟩ : Addr).add j = ⟨b, off + j, none⟩ := by unfold Addr.add; split <;> simp_all
theorem InM.add {w : World} {ad : Addr} {xs : List Value} (h : InM w (some ad) xs) {j : Nat} {u : Value} (hj : xs[j]? = some u) : w.cell? (ad.add j) = some u := by
  obtain ⟨b, off, ha, hc⟩ := h j u hj
  injection ha with ha
  subst ha
  rw [add_plain]
  exact hc

/-- What a row of the call's own holds. -/
theorem own_inM {w : World} {base : Nat} {e : TypeId} {size n m c : Nat} {A : Option Addr} {xs : List Value} (h : w.ownsRow base e size (.slice A m c) n xs) : InM w A xs := fun j u hu => by
  rcases h.2 with ⟨hv, hn⟩ | ⟨g, cap, cur, hv, _, _, _⟩
  · have : xs = [] := List.eq_nil_of_length_eq_zero (by rw [h.1, hn]; simp)
    subst this
    simp at hu
  · injection hv with hA
    subst hA
    have := h.cells (g := g) rfl j u hu
    rw [add_plain] at this
    exact ⟨g, 0, rfl, this⟩
theorem own_base {w : World} {base : Nat} {e : TypeId} {size n m c b off : Nat} {xs : List Value} (h : w.ownsRow base e size (.slice (some ⟨b, off, none⟩) m c) n xs) : base ≤ b := (h.lt b rfl).1

theorem append_nil_run {P : Program} (w : World) (base : Nat) (t ty e : TypeId) (i : TypeInfo) (size : Nat) (ht : P.underlying t = some (.slice e)) (hi : P.info? e = some i)
    (v : Value) (n : Nat) (xs : List Value) (hown : w.ownsRow base e size v n xs) (c : Nat) : (Builtin.append_ #[t, t] ty #[v, .slice none 0 c]).run P w = .ok v w := by
  rcases hown.2 with ⟨rfl, rfl⟩ | ⟨g, cap, cur, rfl, _, _, hnc, _⟩
  · simp [Builtin.append_, run_underlying ht, sizeOf, typeInfo, hi, Builtin.lenOf, Builtin.firstCells]
  · simp [Builtin.append_, run_underlying ht, sizeOf, typeInfo, hi, Builtin.lenOf, Builtin.firstCells, hnc, storeCells]

/-- append onto a row of the call's own, whatever the source: the new slice written out. -/
theorem wpList_app {P : Program} {w : World} {ops : Array Oper} {rest : List Oper} {o : Oper} {a : Act} {Q : Exit → Act → World → Prop} (hgd : o.guard = none) (s x : Operand) (t : TypeId)
    (ho : o.op = .call { callee := .builtin .append, args := #[s, x], argTypes := #[t, t] })
    (base : Nat) (e : TypeId) (i : TypeInfo) (z : Value) (size bytes : Nat) (ht : P.underlying t = some (.slice e)) (hi : P.info? e = some i) (hz : i.zero = some z)
    (hsize : i.size = size) (hby : i.bytes = bytes) (hzs : z.cells.size = size) (hsz : 0 < size)
    (A : Option Addr) (n c : Nat) (xs : List Value) (hs : a.eval s = .slice A n c) (hown : w.ownsRow base e size (.slice A n c) n xs)
    (B : Option Addr) (m d : Nat) (news : List Value) (hx : a.eval x = .slice B m d) (hl : news.length = m * size) (hM : InM w B news) (h1 : ∀ u ∈ news, u.oneCell' = true)
    (h63 : n + m ≤ 1000000) (hbytes : bytes ≤ 10000) (hbase : base ≤ w.heap.size)
    (h : ∀ A' c' w', w'.ownsRow base e size (.slice A' (n + m) c') (n + m) (xs ++ news) → w.grownBy w' (Value.slice A n c).ownBlock →
      ((Value.slice A' (n + m) c').ownBlock = (Value.slice A n c).ownBlock ∨ (Value.slice A' (n + m) c').ownBlock = some w.heap.size) →
      wpList P ops Q rest (a.put o.dst (.slice A' (n + m) c')) w') : wpList P ops Q (o :: rest) a w := by
  have hbb : (n + m) * bytes ≤ 140737488355328 := Nat.le_trans (Nat.mul_le_mul h63 hbytes) (by omega)
  have key : ∃ v' w', (Builtin.append_ #[t, t] o.type #[.slice A n c, .slice B m d]).run P w = .ok v' w' ∧ w'.ownsRow base e size v' (n + m) (xs ++ news) ∧ w.grownBy w' (Value.slice A n c).ownBlock ∧
      (v'.ownBlock = (Value.slice A n c).ownBlock ∨ v'.ownBlock = some w.heap.size) := by
    rcases B with _ | ad
    · have hn : news = [] := by
        rcases news with _ | ⟨u, r⟩
        · rfl
        · obtain ⟨b, off, hB, _⟩ := hM 0 u rfl
          cases hB
      subst hn
      have hm : m = 0 := by
        rcases Nat.eq_zero_or_pos m with h0 | h0
        · exact h0
        · have := Nat.mul_pos h0 hsz
          simp only [List.length_nil] at hl
          omega
      subst hm
      exact ⟨_, w, append_nil_run w base t o.type e i size ht hi _ n xs hown d, by simpa using hown, World.grownBy.refl w _, .inl rfl⟩
    · obtain ⟨v', w', hrun, h2, h3, _, h5⟩ := run_append_own_at (P := P) w base t o.type e i z size bytes ht hi hz hsize hby hzs hsz _ n xs hown ad m d news hl (fun j u hu => hM.add hu) h1 (by unfold maxLen; omega) hbb hbase
      exact ⟨v', w', hrun, h2, h3, h5⟩
  obtain ⟨v', w', hrun, h2, h3, h4⟩ := key
  obtain ⟨A', c', rfl⟩ : ∃ A' c', v' = .slice A' (n + m) c' := by
    rcases h2.2 with ⟨hv, hn⟩ | ⟨g, cap, cur, hv, _⟩
    · exact ⟨none, 0, by rw [hv, hn]⟩
    · exact ⟨_, _, hv⟩
  refine wpList_plain hgd fun K hK => ?_
  unfold Oper.wp execOp
  simp only [ho, resolve, invoke, builtin, Sem.run_bind, Sem.run_pure, Result.andThen_ok, List.map_toArray, List.map_cons, List.map_nil, hs, hx, hrun]
  exact hK _ _ (h A' c' w' h2 h3 h4)

theorem Ext.app {a w w' : World} {base : Nat} {e : TypeId} {size n : Nat} {v : Value} {xs : List Value} (h : Ext a w) (hown : w.ownsRow base e size v n xs) (hb : a.heap.size ≤ base) (hg : w.grownBy w' v.ownBlock) : Ext a w' :=
  h.grown hg fun k hk => Nat.le_trans hb (hown.lt k hk).1
theorem nums_one {k : IntKind} {xs : List Int} : ∀ u ∈ nums k xs, u.oneCell' = true := fun u hu => by
  obtain ⟨x, _, rfl⟩ := List.mem_map.1 hu
  rfl

/-- make([]T, n), n a variable, T of any number of cells, for every world. -/
theorem make_run {P : Program} (t e : TypeId) (i : TypeInfo) (z : Value) (ht : P.underlying t = some (.slice e)) (hi : P.info? e = some i) (hz : i.zero = some z)
    (kl kc : IntKind) (n c : Nat) (hnc : n ≤ c) (h : c ≤ 1000000) (hb : i.bytes ≤ 10000) (w : World) :
    (Instr.makeSlice t (.int kl (n : Int)) (.int kc (c : Int))).run P w = .ok (.slice (some ⟨w.heap.size, 0, none⟩) n c) (w.alloc (.cells (madeCells z.cells (c * i.size)) e)) := by
  have hb' : (i.bytes : Int) * (c : Int) ≤ 281474976710656 := by
    have h : i.bytes * c ≤ 281474976710656 := Nat.le_trans (Nat.mul_le_mul hb h) (by omega)
    have h : ((i.bytes * c : Nat) : Int) ≤ 281474976710656 := by omega
    rwa [Int.natCast_mul] at h
  have hr := run_make (P := P) w t e i z ht hi hz kl kc n c (by omega) (by omega) hb' (by omega)
  simp only [Int.toNat_natCast] at hr
  exact hr

/-- The same at one cell. -/
theorem make_run1 {P : Program} (t e : TypeId) (z : Value) (bytes : Nat) (ht : P.underlying t = some (.slice e)) (hinfo : (P.info? e).map (fun i => (i.zero, i.size, i.bytes)) = some (some z, 1, bytes)) (hz1 : z.cells = #[z])
    (kl kc : IntKind) (n c : Nat) (hnc : n ≤ c) (h : c ≤ 1000000) (hb : bytes ≤ 10000) (w : World) :
    (Instr.makeSlice t (.int kl (n : Int)) (.int kc (c : Int))).run P w = .ok (.slice (some ⟨w.heap.size, 0, none⟩) n c) (w.alloc (.cells (madeCells #[z] c) e)) := by
  obtain ⟨i, hi, hzz⟩ := Option.map_eq_some_iff.1 hinfo
  simp only [Prod.mk.injEq] at hzz
  obtain ⟨hz, hs, hbb⟩ := hzz
  have := make_run (P := P) t e i z ht hi hz kl kc n c hnc h (by omega) w
  rw [hs, Nat.mul_one, hz1] at this
  exact this

theorem ret_int {k : IntKind} {a b : Int} (h : a = b) : Ending.returned (.int k a) = .returned (.int k b) := by rw [h]
theorem ret_bool {a b : Bool} (h : a = b) : Ending.returned (.bool a) = .returned (.bool b) := by rw [h]
theorem ret_val {a b : Value} (h : a = b) : Ending.returned a = .returned b := by rw [h]
end Go.Proofs.Ytlicndonhmcmmaa
