import Derived.Test.YtjlhfmedaandeaaMonoIn
/- A function that ranges over a function many times leaves with many marks. What a closure owns, and what stays. No program is named here. -/
namespace Go.Proofs.Ytjlhfmedaandeaa
open Go.RowKit
set_option linter.unusedVariables false

def mark (D : Nat) : Deferred := { target := .collected D, args := #[] }
def marksAt (Ds : List Nat) (W : World) : Prop := Ds.Nodup ∧ ∀ D ∈ Ds, W.heap[D]? = some (.deferred (some []))
def shutAll (Ds : List Nat) (W : World) : World := Ds.foldl (fun W D => W.putObj D (.deferred none)) W
theorem leaves_marks {F : Fence} {n : Nat} {P : Program} {fn : Func} {tmps : Array Value} {R : Ending → World → Prop} : ∀ (Ds : List Nat) (W : World), marksAt Ds W → (∃ v, (results fn tmps).run P (shutAll Ds W) = .ok v (shutAll Ds W) ∧ R (.returned v) (shutAll Ds W)) →
    LeavesInM F n P fn tmps R (Ds.map mark) .returning W
  | [], W, _, h => h
  | D :: Ds, W, hm, h => by
    obtain ⟨hn, hD⟩ := hm
    have hk := hD D (by simp)
    refine ⟨by simp, .inl ⟨D, _, rfl, run_takeDeferred hk, ?_⟩⟩
    refine leaves_marks Ds _ ⟨(List.nodup_cons.1 hn).2, fun E hE => ?_⟩ h
    refine (World.putObj_heap_other ?_).trans (hD E (by simp [hE]))
    rintro rfl
    exact (List.nodup_cons.1 hn).1 hE
theorem shutAll_block : ∀ (Ds : List Nat) (W : World) (b : Nat), b ∉ Ds → (shutAll Ds W).heap[b]? = W.heap[b]?
  | [], W, b, _ => rfl
  | D :: Ds, W, b, h => by
    have h1 : b ≠ D := fun e => h (by simp [e])
    have := shutAll_block Ds (W.putObj D (.deferred none)) b (fun k => h (by simp [k]))
    exact this.trans (World.putObj_heap_other h1)
theorem shutAll_size : ∀ (Ds : List Nat) (W : World), (shutAll Ds W).heap.size = W.heap.size
  | [], W => rfl
  | D :: Ds, W => by
    have := shutAll_size Ds (W.putObj D (.deferred none))
    exact this.trans (by simp [World.putObj])
theorem shutAll_rest : ∀ (Ds : List Nat) (W : World), (shutAll Ds W).os = W.os ∧ (shutAll Ds W).tape = W.tape ∧ (shutAll Ds W).output = W.output
  | [], W => ⟨rfl, rfl, rfl⟩
  | D :: Ds, W => by
    have := shutAll_rest Ds (W.putObj D (.deferred none))
    exact this

/-- All but what is owned stays as it lay, and nothing of it comes to be owned. -/
structure VK (OV : World → Nat → Prop) (W W' : World) : Prop where
  os : W'.os = W.os
  tape : W'.tape = W.tape
  output : W'.output = W.output
  size : W.heap.size ≤ W'.heap.size
  keep : ∀ b, b < W.heap.size → ¬ OV W b → W'.heap[b]? = W.heap[b]? ∧ ¬ OV W' b
theorem VK.trans {OV : World → Nat → Prop} {A B C : World} (h : VK OV A B) (k : VK OV B C) : VK OV A C :=
  ⟨k.os.trans h.os, k.tape.trans h.tape, k.output.trans h.output, Nat.le_trans h.size k.size, fun b hb ho => by
    obtain ⟨h1, h2⟩ := h.keep b hb ho
    obtain ⟨k1, k2⟩ := k.keep b (Nat.lt_of_lt_of_le hb h.size) h2
    exact ⟨k1.trans h1, k2⟩⟩
/-- A change that leaves alone all blocks under B, and all that is owned. -/
structure Off (OV : World → Nat → Prop) (B : Nat) (W W' : World) : Prop where
  os : W'.os = W.os
  tape : W'.tape = W.tape
  output : W'.output = W.output
  size : W.heap.size ≤ W'.heap.size
  keep : ∀ b, b < W.heap.size → b < B ∨ OV W b → W'.heap[b]? = W.heap[b]?
theorem Off.of_ext {OV : World → Nat → Prop} {B : Nat} {W W' : World} (h : Ext W W') : Off OV B W W' := ⟨h.os, h.tape, h.output, h.size, fun b hb _ => h.block hb⟩
theorem Off.of_grown {OV : World → Nat → Prop} {B : Nat} {W W' : World} {row : Option Nat} (h : W.grownBy W' row) (hr : ∀ r, row = some r → B ≤ r ∧ ¬ OV W r) : Off OV B W W' :=
  ⟨h.os, h.tape, h.output, h.size, fun b hb ho => h.block b hb (fun e => by
    obtain ⟨h1, h2⟩ := hr b e.symm
    rcases ho with ho | ho
    · omega
    · exact h2 ho)⟩
/-- The contract of what a closure owns (VI: what holds between its calls; OV: the blocks that it owns; B: what lies below stays). -/
structure Owns {α : Type} (OV : World → Nat → Prop) (VI : α → World → Prop) (B : Nat) : Prop where
  cells : ∀ s W b, VI s W → OV W b → ∃ cs t z, W.heap[b]? = some (.cells cs t z)
  stay : ∀ s W W', VI s W → Off OV B W W' → VI s W' ∧ ∀ b, OV W' b ↔ OV W b
theorem Owns.lt {α : Type} {OV : World → Nat → Prop} {VI : α → World → Prop} {B : Nat} (h : Owns OV VI B) {s : α} {W : World} {b : Nat} (hv : VI s W) (ho : OV W b) : b < W.heap.size := by
  obtain ⟨cs, t, z, hc⟩ := h.cells s W b hv ho
  exact (Array.getElem?_eq_some_iff.1 hc).1
theorem Owns.off {α : Type} {OV : World → Nat → Prop} {VI : α → World → Prop} {B : Nat} (h : Owns OV VI B) {s : α} {W W' : World} (hv : VI s W) (o : Off OV B W W') : VI s W' ∧ ∀ b, OV W' b ↔ OV W b :=
  h.stay s W W' hv o
theorem Owns.vk {α : Type} {OV : World → Nat → Prop} {VI : α → World → Prop} {w : World} (h : Owns OV VI w.heap.size) {s : α} {W W' : World} (hv : VI s W) (o : Off OV w.heap.size W W') (k : VK OV w W) : VK OV w W' :=
  ⟨o.os.trans k.os, o.tape.trans k.tape, o.output.trans k.output, Nat.le_trans k.size o.size, fun b hb ho => by
    obtain ⟨k1, k2⟩ := k.keep b hb ho
    exact ⟨(o.keep b (Nat.lt_of_lt_of_le hb k.size) (.inl hb)).trans k1, fun e => k2 (((h.off hv o).2 b).1 e)⟩⟩
theorem Off.blk {OV : World → Nat → Prop} {B : Nat} {W W' : World} (o : Off OV B W W') {g : Nat} {t : TypeId} {cs : Array Value} (h : Blk W g t cs) (hg : g < B ∨ OV W g) : Blk W' g t cs := (o.keep g h.lt hg).trans h
theorem Off.inM {OV : World → Nat → Prop} {B : Nat} {W W' : World} (o : Off OV B W W') {A : Option Addr} {xs : List Value} (h : InM W A xs) (ho : 0 < xs.length → ∀ a, A = some a → a.block < B) : InM W' A xs := fun j u hu => by
  obtain ⟨b, off, ha, hc⟩ := h j u hu
  have hl := (List.getElem?_eq_some_iff.1 hu).1
  have := o.keep b (block_lt_of_cell hc) (.inl (ho (by omega) _ ha))
  refine ⟨b, off, ha, ?_⟩
  simp only [World.cell?, this] at hc ⊢
  exact hc
theorem VK.of_ext {OV : World → Nat → Prop} {W W' : World} (h : Ext W W') (o : ∀ b, OV W' b ↔ OV W b) : VK OV W W' := ⟨h.os, h.tape, h.output, h.size, fun b hb ho => ⟨h.block hb, fun e => ho ((o b).1 e)⟩⟩
/-- What isn't owned stays, if nothing is written but what is. -/
theorem VK.blk {OV : World → Nat → Prop} {W W' : World} {g : Nat} {t : TypeId} {cs : Array Value} (k : VK OV W W') (h : Blk W g t cs) (ho : ¬ OV W g) : Blk W' g t cs ∧ ¬ OV W' g := by
  obtain ⟨h1, h2⟩ := k.keep g h.lt ho
  exact ⟨h1.trans h, h2⟩
theorem VK.inM {OV : World → Nat → Prop} {W W' : World} {A : Option Addr} {xs : List Value} (k : VK OV W W') (h : InM W A xs) (ho : 0 < xs.length → ∀ a, A = some a → ¬ OV W a.block) : InM W' A xs := fun j u hu => by
  obtain ⟨b, off, ha, hc⟩ := h j u hu
  have hl := (List.getElem?_eq_some_iff.1 hu).1
  have := (k.keep b (block_lt_of_cell hc) (ho (by omega) _ ha)).1
  refine ⟨b, off, ha, ?_⟩
  simp only [World.cell?, this] at hc ⊢
  exact hc
end Go.Proofs.Ytjlhfmedaandeaa
