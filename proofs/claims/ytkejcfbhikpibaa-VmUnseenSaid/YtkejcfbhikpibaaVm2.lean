import Derived.Test.YtkejcfbhikpibaaVm1
import Derived.Laws.EntriesVeiled
/- vm: the machine in memory; its cells; the pair of a code. -/
namespace Go.Proofs.Ytkejcfbhikpibaa
open Go.RowKit Go.ChangeShapes Go.WideShapes
set_option linter.unusedVariables false
set_option linter.unusedSimpArgs false

/-- A, X, the cells, what is told, whether it is over. -/
structure Vm where
  a : Int
  x : Int
  cs : List Int
  told : Int
  over : Bool
structure Vm.ok (s : Vm) : Prop where
  a : U32 s.a
  x : U32 s.x
  len : s.cs.length = 16
  cs : ∀ k, U32 (s.cs.getD k 0)
  told : U32 s.told
def dcl (d : Dat) : List Value := [.int .u32 d.nr, .int .u32 d.arch, .int .u64 d.ip, .int .u64 d.a0, .int .u64 d.a1, .int .u64 d.a2, .int .u64 d.a3, .int .u64 d.a4, .int .u64 d.a5]
def mcl (d : Dat) (s : Vm) : List Value := .int .u32 s.a :: .int .u32 s.x :: (nums .u32 s.cs ++ (dcl d ++ [.int .u32 s.told, .bool s.over]))
/-- Block g is the machine. -/
structure MB (W : World) (g : Nat) (d : Dat) (s : Vm) : Prop where
  blk : Blk W g 86 (mcl d s).toArray
  len : s.cs.length = 16
section
variable {W W' : World} {g : Nat} {d : Dat} {s : Vm}
theorem MB.ext (h : MB W g d s) (e : Ext W W') : MB W' g d s := ⟨h.blk.ext e, h.len⟩
theorem MB.at_ (h : MB W g d s) (i : Nat) : W.cell? ⟨g, i, none⟩ = (mcl d s)[i]? := by rw [h.blk.cell]; simp
theorem MB.a (h : MB W g d s) : W.cell? ⟨g, 0, none⟩ = some (.int .u32 s.a) := h.at_ 0
theorem MB.x (h : MB W g d s) : W.cell? ⟨g, 1, none⟩ = some (.int .u32 s.x) := h.at_ 1
theorem MB.c (h : MB W g d s) {k : Nat} (hk : k < 16) : W.cell? ⟨g, 2 + k, none⟩ = some (.int .u32 (s.cs.getD k 0)) := by
  have hl := h.len
  rw [h.at_, show 2 + k = k + 1 + 1 from by omega]
  simp only [mcl, List.getElem?_cons_succ]
  rw [List.getElem?_append_left (by simp [nums]; omega)]
  simp [nums, List.getD_eq_getElem?_getD, List.getElem?_eq_getElem (show k < s.cs.length by omega)]
theorem MB.dat (h : MB W g d s) {j : Nat} (hj : j < 9) : W.cell? ⟨g, 18 + j, none⟩ = (dcl d)[j]? := by
  have hl := h.len
  rw [h.at_, show 18 + j = 16 + j + 1 + 1 from by omega]
  simp only [mcl, List.getElem?_cons_succ]
  rw [List.getElem?_append_right (by simp [nums]; omega), List.getElem?_append_left (by simp [nums, dcl]; omega)]
  simp [nums, hl]
theorem MB.told (h : MB W g d s) : W.cell? ⟨g, 27, none⟩ = some (.int .u32 s.told) := by
  have hl := h.len
  rw [h.at_, show 27 = 25 + 1 + 1 from rfl]
  simp only [mcl, List.getElem?_cons_succ]
  rw [List.getElem?_append_right (by simp [nums]; omega), List.getElem?_append_right (by simp [nums, dcl]; omega)]
  simp [nums, hl, dcl]
theorem MB.over (h : MB W g d s) : W.cell? ⟨g, 28, none⟩ = some (.bool s.over) := by
  have hl := h.len
  rw [h.at_, show 28 = 26 + 1 + 1 from rfl]
  simp only [mcl, List.getElem?_cons_succ]
  rw [List.getElem?_append_right (by simp [nums]; omega), List.getElem?_append_right (by simp [nums, dcl]; omega)]
  simp [nums, hl, dcl]
theorem MB.fz (h : MB W g d s) (i : Nat) : W.frozen? ⟨g, i, none⟩ = false := h.blk.frozen i
theorem MB.set_ (h : MB W g d s) (i : Nat) (u : Value) {t : Vm} (ht : t.cs.length = 16) (e : (mcl d s).set i u = mcl d t) : MB (W.setCell ⟨g, i, none⟩ u) g d t := by
  refine ⟨?_, ht⟩
  have := h.blk.set_ i u
  rwa [List.setIfInBounds_toArray, e] at this
theorem MB.setA (h : MB W g d s) (v : Int) : MB (W.setCell ⟨g, 0, none⟩ (.int .u32 v)) g d { s with a := v } := h.set_ _ _ h.len rfl
theorem MB.setX (h : MB W g d s) (v : Int) : MB (W.setCell ⟨g, 1, none⟩ (.int .u32 v)) g d { s with x := v } := h.set_ _ _ h.len rfl
theorem MB.setC (h : MB W g d s) {k : Nat} (hk : k < 16) (v : Int) : MB (W.setCell ⟨g, 2 + k, none⟩ (.int .u32 v)) g d { s with cs := s.cs.set k v } := by
  have hl := h.len
  refine h.set_ _ _ (by simp [hl]) ?_
  rw [show 2 + k = k + 1 + 1 from by omega]
  simp only [mcl, List.set_cons_succ]
  rw [List.set_append_left _ _ (by simp [nums]; omega)]
  simp [nums, List.map_set]
theorem MB.setT (h : MB W g d s) (v : Int) : MB (W.setCell ⟨g, 27, none⟩ (.int .u32 v)) g d { s with told := v } := by
  have hl := h.len
  refine h.set_ _ _ hl ?_
  rw [show 27 = 25 + 1 + 1 from rfl]
  simp only [mcl, List.set_cons_succ]
  rw [List.set_append_right _ _ (by simp [nums]; omega), List.set_append_right _ _ (by simp [nums, dcl]; omega)]
  simp [nums, hl, dcl]
theorem MB.setO (h : MB W g d s) (v : Bool) : MB (W.setCell ⟨g, 28, none⟩ (.bool v)) g d { s with over := v } := by
  have hl := h.len
  refine h.set_ _ _ hl ?_
  rw [show 28 = 26 + 1 + 1 from rfl]
  simp only [mcl, List.set_cons_succ]
  rw [List.set_append_right _ _ (by simp [nums]; omega), List.set_append_right _ _ (by simp [nums, dcl]; omega)]
  simp [nums, hl, dcl]
end

/-- Only block g may have changed of what was there. -/
structure Upd (g : Nat) (w w' : World) : Prop where
  os : w'.os = w.os
  tape : w'.tape = w.tape
  output : w'.output = w.output
  size : w.heap.size ≤ w'.heap.size
  block : ∀ k, k < w.heap.size → k ≠ g → w'.heap[k]? = w.heap[k]?
theorem Upd.of_ext {g : Nat} {w w' : World} (h : Ext w w') : Upd g w w' := ⟨h.os, h.tape, h.output, h.size, fun k hk _ => h.block hk⟩
theorem Upd.refl (g : Nat) (w : World) : Upd g w w := Upd.of_ext (Ext.refl w)
theorem Upd.trans {g : Nat} {a b c : World} (h : Upd g a b) (k : Upd g b c) : Upd g a c :=
  ⟨k.os.trans h.os, k.tape.trans h.tape, k.output.trans h.output, Nat.le_trans h.size k.size, fun i hi hg => (k.block i (Nat.lt_of_lt_of_le hi h.size) hg).trans (h.block i hi hg)⟩
theorem Upd.ext {g : Nat} {a b c : World} (h : Upd g a b) (k : Ext b c) : Upd g a c := h.trans (.of_ext k)
theorem Upd.set {g : Nat} {a b : World} (h : Upd g a b) (i : Nat) (u : Value) : Upd g a (b.setCell ⟨g, i, none⟩ u) :=
  h.trans ⟨rfl, rfl, rfl, by simp, fun k _ hg => Below.heap_setCell b ⟨g, i, none⟩ u k hg⟩
theorem Upd.grown {g : Nat} {a b : World} (h : Upd g a b) : a.grownBy b (some g) := ⟨h.os, h.tape, h.output, h.size, fun k hk hg => h.block k hk fun e => hg (congrArg some e)⟩
theorem Upd.blk {g k : Nat} {a b : World} {t : TypeId} {cs : Array Value} (h : Upd g a b) (hb : Blk a k t cs) (hk : k ≠ g) : Blk b k t cs := (h.block k hb.lt hk).trans hb
theorem Upd.inM {g : Nat} {a b : World} {A : Option Addr} {xs : List Value} (h : Upd g a b) (hM : InM a A xs) (hA : ∀ p, A = some p → p.block ≠ g) : InM b A xs := fun j u hu => by
  obtain ⟨k, off, ha, hc⟩ := hM j u hu
  refine ⟨k, off, ha, ?_⟩
  have := h.block k (block_lt_of_cell hc) (hA _ ha)
  simp only [World.cell?, this] at hc ⊢
  exact hc
theorem Upd.toExt {g : Nat} {w a b : World} (h : Upd g a b) (hx : Ext w a) (hg : w.heap.size ≤ g) : Ext w b :=
  hx.grown h.grown fun k e => by cases e; exact hg

/-- The place of a code's pair. -/
def byI (c : Int) : Nat := prC.findIdx (· == (if takesX c then bits .andNot .u16 c 8 else c))
def prD (k : Nat) : Value := if k < 10 then .func (.func (prF k)) #[] #[] else .nilFunc
def prH (k : Nat) : Value := if k < 10 then .nilFunc else .func (.func (prF k)) #[] #[]
theorem prP_eq (k : Nat) : prP k = .agg #[.int .u16 (prC.getD k 0), prD k, prH k] := by
  unfold prP prD prH
  split <;> rfl
theorem prC_at {c : Int} {k : Nat} (hk : k < 14) (hno : ∀ j, j < k → (prC.getD j 0 == c) = false) (h : (prC.getD k 0 == c) = true) : prC.findIdx (· == c) = k := by
  have hl : prC.length = 14 := rfl
  have g := fun j (hj : j < 14) => show prC.getD j 0 = prC[j]'(by omega) by rw [List.getD_eq_getElem?_getD, List.getElem?_eq_getElem (by omega)]; rfl
  rw [List.findIdx_eq (by omega)]
  refine ⟨by rw [← g k hk]; exact h, fun j hj => ?_⟩
  rw [← g j (by omega)]
  exact hno j hj
theorem prC_no {c : Int} (hno : ∀ j, j < 14 → (prC.getD j 0 == c) = false) : prC.findIdx (· == c) = 14 := by
  have hl : prC.length = 14 := rfl
  have g := fun j (hj : j < 14) => show prC.getD j 0 = prC[j]'(by omega) by rw [List.getD_eq_getElem?_getD, List.getElem?_eq_getElem (by omega)]; rfl
  rw [← hl]
  refine List.findIdx_eq_length_of_false fun x hx => ?_
  obtain ⟨j, hj, rfl⟩ := List.getElem_of_mem hx
  rw [← g j (by omega)]
  exact hno j (by omega)
end Go.Proofs.Ytkejcfbhikpibaa
