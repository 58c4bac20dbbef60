import Derived.Test.YtjlhfmedaandeaaChkA
import Derived.Test.YtjlhfmedaandeaaData
import Derived.Laws.EntriesVeiled
/- vm: what a code does of two numbers, and what it compares. -/
namespace Go.Proofs.Ytjlhfmedaandeaa
open Go.RowKit Go.ChangeShapes Go.WideShapes
set_option linter.unusedVariables false
set_option linter.unusedSimpArgs false

/-- The numbers' operations, by their place among the pairs. -/
def doE : Nat → Int → Int → Int
  | 0, a, b => IntKind.u32.wrap (a + b)
  | 1, a, b => IntKind.u32.wrap (a - b)
  | 2, a, b => IntKind.u32.wrap (a * b)
  | 3, a, b => a / max b 1
  | 4, a, b => bits .or .u32 a b
  | 5, a, b => bits .and .u32 a b
  | 6, a, b => IntKind.u32.wrap (a * 2 ^ (b % 32).toNat)
  | 7, a, b => a / 2 ^ (b % 32).toNat
  | 8, a, b => bits .xor .u32 a b
  | _, a, _ => IntKind.u32.wrap (-a)
def hoE : Nat → Int → Int → Bool
  | 0, a, b => a == b
  | 1, a, b => decide (b < a)
  | 2, a, b => decide (b ≤ a)
  | _, a, b => bits .and .u32 a b != 0

theorem pr1 (a b : Int) (ha : U32 a) (hb : U32 b) (W : World) : Calls Try.prog 112 #[.int .u32 a, .int .u32 b] W fun e w' => e = .returned (.int .u32 (doE 0 a b)) ∧ W = w' := by
  obtain ⟨a0, a1⟩ := ha
  obtain ⟨b0, b1⟩ := hb
  unfold doE
  go_enter Try.func112, Try.ntmps112
  go_wp2
  go_ret
  exact ⟨rfl, rfl⟩
theorem pr2 (a b : Int) (ha : U32 a) (hb : U32 b) (W : World) : Calls Try.prog 113 #[.int .u32 a, .int .u32 b] W fun e w' => e = .returned (.int .u32 (doE 1 a b)) ∧ W = w' := by
  obtain ⟨a0, a1⟩ := ha
  obtain ⟨b0, b1⟩ := hb
  unfold doE
  go_enter Try.func113, Try.ntmps113
  go_wp2
  go_ret
  exact ⟨rfl, rfl⟩
theorem pr3 (a b : Int) (ha : U32 a) (hb : U32 b) (W : World) : Calls Try.prog 114 #[.int .u32 a, .int .u32 b] W fun e w' => e = .returned (.int .u32 (doE 2 a b)) ∧ W = w' := by
  obtain ⟨a0, a1⟩ := ha
  obtain ⟨b0, b1⟩ := hb
  unfold doE
  go_enter Try.func114, Try.ntmps114
  go_wp2
  go_ret
  exact ⟨rfl, rfl⟩
theorem pr4 (a b : Int) (ha : U32 a) (hb : U32 b) (W : World) : Calls Try.prog 115 #[.int .u32 a, .int .u32 b] W fun e w' => e = .returned (.int .u32 (doE 3 a b)) ∧ W = w' := by
  obtain ⟨a0, a1⟩ := ha
  obtain ⟨b0, b1⟩ := hb
  unfold doE
  have hm : ¬ max b 1 = 0 := by omega
  have hd : IntKind.u32.wrap (a / max b 1) = a / max b 1 := by
    have h1 : 0 ≤ a / max b 1 := Int.ediv_nonneg a0 (by omega)
    have h2 : a / max b 1 ≤ a := Int.ediv_le_self _ a0
    exact IntWalk.u32_in _ (by omega)
  go_enter Try.func115, Try.ntmps115
  go_wp2
  go_ret
  exact ⟨rfl, rfl⟩
theorem pr5 (a b : Int) (ha : U32 a) (hb : U32 b) (W : World) : Calls Try.prog 116 #[.int .u32 a, .int .u32 b] W fun e w' => e = .returned (.int .u32 (doE 4 a b)) ∧ W = w' := by
  obtain ⟨a0, a1⟩ := ha
  obtain ⟨b0, b1⟩ := hb
  unfold doE
  go_enter Try.func116, Try.ntmps116
  go_wp2
  go_ret
  exact ⟨rfl, rfl⟩
theorem pr6 (a b : Int) (ha : U32 a) (hb : U32 b) (W : World) : Calls Try.prog 117 #[.int .u32 a, .int .u32 b] W fun e w' => e = .returned (.int .u32 (doE 5 a b)) ∧ W = w' := by
  obtain ⟨a0, a1⟩ := ha
  obtain ⟨b0, b1⟩ := hb
  unfold doE
  go_enter Try.func117, Try.ntmps117
  go_wp2
  go_ret
  exact ⟨rfl, rfl⟩
theorem pr7 (a b : Int) (ha : U32 a) (hb : U32 b) (W : World) : Calls Try.prog 118 #[.int .u32 a, .int .u32 b] W fun e w' => e = .returned (.int .u32 (doE 6 a b)) ∧ W = w' := by
  obtain ⟨a0, a1⟩ := ha
  obtain ⟨b0, b1⟩ := hb
  unfold doE
  have h1 : 0 ≤ b % 32 := by omega
  have h2 : b % 32 < 32 := by omega
  go_enter Try.func118, Try.ntmps118
  go_wp2
  go_ret
  exact ⟨rfl, rfl⟩
theorem pr8 (a b : Int) (ha : U32 a) (hb : U32 b) (W : World) : Calls Try.prog 119 #[.int .u32 a, .int .u32 b] W fun e w' => e = .returned (.int .u32 (doE 7 a b)) ∧ W = w' := by
  obtain ⟨a0, a1⟩ := ha
  obtain ⟨b0, b1⟩ := hb
  unfold doE
  have h1 : 0 ≤ b % 32 := by omega
  have h2 : b % 32 < 32 := by omega
  go_enter Try.func119, Try.ntmps119
  go_wp2
  go_ret
  exact ⟨rfl, rfl⟩
theorem pr9 (a b : Int) (ha : U32 a) (hb : U32 b) (W : World) : Calls Try.prog 120 #[.int .u32 a, .int .u32 b] W fun e w' => e = .returned (.int .u32 (doE 8 a b)) ∧ W = w' := by
  obtain ⟨a0, a1⟩ := ha
  obtain ⟨b0, b1⟩ := hb
  unfold doE
  go_enter Try.func120, Try.ntmps120
  go_wp2
  go_ret
  exact ⟨rfl, rfl⟩
theorem pr10 (a b : Int) (ha : U32 a) (hb : U32 b) (W : World) : Calls Try.prog 121 #[.int .u32 a, .int .u32 b] W fun e w' => e = .returned (.int .u32 (doE 9 a b)) ∧ W = w' := by
  obtain ⟨a0, a1⟩ := ha
  obtain ⟨b0, b1⟩ := hb
  unfold doE
  go_enter Try.func121, Try.ntmps121
  go_wp2
  go_ret
  exact ⟨rfl, rfl⟩
theorem pr11 (a b : Int) (ha : U32 a) (hb : U32 b) (W : World) : Calls Try.prog 122 #[.int .u32 a, .int .u32 b] W fun e w' => e = .returned (.bool (hoE 0 a b)) ∧ W = w' := by
  obtain ⟨a0, a1⟩ := ha
  obtain ⟨b0, b1⟩ := hb
  unfold hoE
  go_enter Try.func122, Try.ntmps122
  go_wp2
  go_ret
  exact ⟨rfl, rfl⟩
theorem pr12 (a b : Int) (ha : U32 a) (hb : U32 b) (W : World) : Calls Try.prog 123 #[.int .u32 a, .int .u32 b] W fun e w' => e = .returned (.bool (hoE 1 a b)) ∧ W = w' := by
  obtain ⟨a0, a1⟩ := ha
  obtain ⟨b0, b1⟩ := hb
  unfold hoE
  go_enter Try.func123, Try.ntmps123
  go_wp2
  go_ret
  exact ⟨rfl, rfl⟩
theorem pr13 (a b : Int) (ha : U32 a) (hb : U32 b) (W : World) : Calls Try.prog 124 #[.int .u32 a, .int .u32 b] W fun e w' => e = .returned (.bool (hoE 2 a b)) ∧ W = w' := by
  obtain ⟨a0, a1⟩ := ha
  obtain ⟨b0, b1⟩ := hb
  unfold hoE
  go_enter Try.func124, Try.ntmps124
  go_wp2
  go_ret
  exact ⟨rfl, rfl⟩
theorem pr14 (a b : Int) (ha : U32 a) (hb : U32 b) (W : World) : Calls Try.prog 125 #[.int .u32 a, .int .u32 b] W fun e w' => e = .returned (.bool (hoE 3 a b)) ∧ W = w' := by
  obtain ⟨a0, a1⟩ := ha
  obtain ⟨b0, b1⟩ := hb
  unfold hoE
  go_enter Try.func125, Try.ntmps125
  go_wp2
  go_ret
  exact ⟨rfl, rfl⟩
def prC : List Int := [4, 20, 36, 52, 68, 84, 100, 116, 164, 132, 21, 37, 53, 69]
def prF : Nat → Nat
  | 0 => 112
  | 1 => 113
  | 2 => 114
  | 3 => 115
  | 4 => 116
  | 5 => 117
  | 6 => 118
  | 7 => 119
  | 8 => 120
  | 9 => 121
  | 10 => 122
  | 11 => 123
  | 12 => 124
  | _ => 125
def prA : Array Value := #[.int .u16 4, .func (.func 112) #[] #[], .nilFunc, .int .u16 20, .func (.func 113) #[] #[], .nilFunc, .int .u16 36, .func (.func 114) #[] #[], .nilFunc, .int .u16 52, .func (.func 115) #[] #[], .nilFunc, .int .u16 68, .func (.func 116) #[] #[], .nilFunc, .int .u16 84, .func (.func 117) #[] #[], .nilFunc, .int .u16 100, .func (.func 118) #[] #[], .nilFunc, .int .u16 116, .func (.func 119) #[] #[], .nilFunc, .int .u16 164, .func (.func 120) #[] #[], .nilFunc, .int .u16 132, .func (.func 121) #[] #[], .nilFunc, .int .u16 21, .nilFunc, .func (.func 122) #[] #[], .int .u16 37, .nilFunc, .func (.func 123) #[] #[], .int .u16 53, .nilFunc, .func (.func 124) #[] #[], .int .u16 69, .nilFunc, .func (.func 125) #[] #[]]
/-- A pair, by its place. -/
def prP (k : Nat) : Value := .agg (if k < 10 then #[.int .u16 (prC.getD k 0), .func (.func (prF k)) #[] #[], .nilFunc] else #[.int .u16 (prC.getD k 0), .nilFunc, .func (.func (prF k)) #[] #[]])
theorem pr_index : ∀ (k : Nat) (hk : k < 14) (W : World), (Instr.index 144 (.agg prA) (.int .i64 k)).run Try.prog W = .ok (prP k) W
  | 0, _, _ => by kernel_rfl
  | 1, _, _ => by kernel_rfl
  | 2, _, _ => by kernel_rfl
  | 3, _, _ => by kernel_rfl
  | 4, _, _ => by kernel_rfl
  | 5, _, _ => by kernel_rfl
  | 6, _, _ => by kernel_rfl
  | 7, _, _ => by kernel_rfl
  | 8, _, _ => by kernel_rfl
  | 9, _, _ => by kernel_rfl
  | 10, _, _ => by kernel_rfl
  | 11, _, _ => by kernel_rfl
  | 12, _, _ => by kernel_rfl
  | 13, _, _ => by kernel_rfl
  | n + 14, h, _ => absurd h (by omega)
set_option maxHeartbeats 2000000 in
set_option maxRecDepth 100000 in
theorem pairs_any (W : World) : Calls Try.prog 109 #[] W fun e w' => e = .returned (.agg prA) ∧ Ext W w' := by
  have hall : ∀ v ∈ prA.toList, v.oneCell' = true := by
    have : (prA.toList.all fun v => v.oneCell') = true := by kernel_rfl
    exact List.all_eq_true.1 this
  go_enter Try.func109, Try.ntmps109
  have hal : ∀ cs : Array Value, Blk (W.alloc (.cells cs 144)) W.heap.size 144 cs := fun cs => Blk.new W _ cs
  go_wp2_with (first | (refine wpList_build_lit rfl 144 _ rfl prA (by kernel_rfl) ?_) | (refine wpList_store_all rfl 144 (.tmp 0) (.tmp 15) rfl W.heap.size 144 _ prA rfl rfl (hal _) (by kernel_rfl) (by kernel_rfl) hall ?_; intro wz Bz hgz))

  exact bodyPost_ret (results_blk1 rfl _ _ _ _ _ _ rfl Bz Try.underlying144 rfl (by kernel_rfl)) rfl ⟨rfl, ((Ext.refl W).alloc _).grown hgz (fun k e => by cases e; exact Nat.le_refl _)⟩
end Go.Proofs.Ytjlhfmedaandeaa

/- vm: the machine in memory; its cells; the pair of a code. -/
namespace Go.Proofs.Ytjlhfmedaandeaa
open Go.RowKit Go.ChangeShapes Go.WideShapes
set_option linter.unusedVariables false
set_option linter.unusedSimpArgs false

/-- A, X, the cells, what is told, whether it is over. -/
structure Vm where
  a : Int
  x : Int
  cs : List Int
  told : Int
  over : Bool
structure Vm.ok (s : Vm) : Prop where
  a : U32 s.a
  x : U32 s.x
  len : s.cs.length = 16
  cs : ∀ k, U32 (s.cs.getD k 0)
  told : U32 s.told
def dcl (d : Dat) : List Value := [.int .u32 d.nr, .int .u32 d.arch, .int .u64 d.ip, .int .u64 d.a0, .int .u64 d.a1, .int .u64 d.a2, .int .u64 d.a3, .int .u64 d.a4, .int .u64 d.a5]
def mcl (d : Dat) (s : Vm) : List Value := .int .u32 s.a :: .int .u32 s.x :: (nums .u32 s.cs ++ (dcl d ++ [.int .u32 s.told, .bool s.over]))
/-- Block g is the machine. -/
structure MB (W : World) (g : Nat) (d : Dat) (s : Vm) : Prop where
  blk : Blk W g 106 (mcl d s).toArray
  len : s.cs.length = 16
section
variable {W W' : World} {g : Nat} {d : Dat} {s : Vm}
theorem MB.ext (h : MB W g d s) (e : Ext W W') : MB W' g d s := ⟨h.blk.ext e, h.len⟩
theorem MB.at_ (h : MB W g d s) (i : Nat) : W.cell? ⟨g, i, none⟩ = (mcl d s)[i]? := by rw [h.blk.cell]; simp
theorem MB.a (h : MB W g d s) : W.cell? ⟨g, 0, none⟩ = some (.int .u32 s.a) := h.at_ 0
theorem MB.x (h : MB W g d s) : W.cell? ⟨g, 1, none⟩ = some (.int .u32 s.x) := h.at_ 1
theorem MB.c (h : MB W g d s) {k : Nat} (hk : k < 16) : W.cell? ⟨g, 2 + k, none⟩ = some (.int .u32 (s.cs.getD k 0)) := by
  have hl := h.len
  rw [h.at_, show 2 + k = k + 1 + 1 from by omega]
  simp only [mcl, List.getElem?_cons_succ]
  rw [List.getElem?_append_left (by simp [nums]; omega)]
  simp [nums, List.getD_eq_getElem?_getD, List.getElem?_eq_getElem (show k < s.cs.length by omega)]
theorem MB.dat (h : MB W g d s) {j : Nat} (hj : j < 9) : W.cell? ⟨g, 18 + j, none⟩ = (dcl d)[j]? := by
  have hl := h.len
  rw [h.at_, show 18 + j = 16 + j + 1 + 1 from by omega]
  simp only [mcl, List.getElem?_cons_succ]
  rw [List.getElem?_append_right (by simp [nums]; omega), List.getElem?_append_left (by simp [nums, dcl]; omega)]
  simp [nums, hl]
theorem MB.told (h : MB W g d s) : W.cell? ⟨g, 27, none⟩ = some (.int .u32 s.told) := by
  have hl := h.len
  rw [h.at_, show 27 = 25 + 1 + 1 from rfl]
  simp only [mcl, List.getElem?_cons_succ]
  rw [List.getElem?_append_right (by simp [nums]; omega), List.getElem?_append_right (by simp [nums, dcl]; omega)]
  simp [nums, hl, dcl]
theorem MB.over (h : MB W g d s) : W.cell? ⟨g, 28, none⟩ = some (.bool s.over) := by
  have hl := h.len
  rw [h.at_, show 28 = 26 + 1 + 1 from rfl]
  simp only [mcl, List.getElem?_cons_succ]
  rw [List.getElem?_append_right (by simp [nums]; omega), List.getElem?_append_right (by simp [nums, dcl]; omega)]
  simp [nums, hl, dcl]
theorem MB.fz (h : MB W g d s) (i : Nat) : W.frozen? ⟨g, i, none⟩ = false := h.blk.frozen i
theorem MB.set_ (h : MB W g d s) (i : Nat) (u : Value) {t : Vm} (ht : t.cs.length = 16) (e : (mcl d s).set i u = mcl d t) : MB (W.setCell ⟨g, i, none⟩ u) g d t := by
  refine ⟨?_, ht⟩
  have := h.blk.set_ i u
  rwa [List.setIfInBounds_toArray, e] at this
theorem MB.setA (h : MB W g d s) (v : Int) : MB (W.setCell ⟨g, 0, none⟩ (.int .u32 v)) g d { s with a := v } := h.set_ _ _ h.len rfl
theorem MB.setX (h : MB W g d s) (v : Int) : MB (W.setCell ⟨g, 1, none⟩ (.int .u32 v)) g d { s with x := v } := h.set_ _ _ h.len rfl
theorem MB.setC (h : MB W g d s) {k : Nat} (hk : k < 16) (v : Int) : MB (W.setCell ⟨g, 2 + k, none⟩ (.int .u32 v)) g d { s with cs := s.cs.set k v } := by
  have hl := h.len
  refine h.set_ _ _ (by simp [hl]) ?_
  rw [show 2 + k = k + 1 + 1 from by omega]
  simp only [mcl, List.set_cons_succ]
  rw [List.set_append_left _ _ (by simp [nums]; omega)]
  simp [nums, List.map_set]
theorem MB.setT (h : MB W g d s) (v : Int) : MB (W.setCell ⟨g, 27, none⟩ (.int .u32 v)) g d { s with told := v } := by
  have hl := h.len
  refine h.set_ _ _ hl ?_
  rw [show 27 = 25 + 1 + 1 from rfl]
  simp only [mcl, List.set_cons_succ]
  rw [List.set_append_right _ _ (by simp [nums]; omega), List.set_append_right _ _ (by simp [nums, dcl]; omega)]
  simp [nums, hl, dcl]
theorem MB.setO (h : MB W g d s) (v : Bool) : MB (W.setCell ⟨g, 28, none⟩ (.bool v)) g d { s with over := v } := by
  have hl := h.len
  refine h.set_ _ _ hl ?_
  rw [show 28 = 26 + 1 + 1 from rfl]
  simp only [mcl, List.set_cons_succ]
  rw [List.set_append_right _ _ (by simp [nums]; omega), List.set_append_right _ _ (by simp [nums, dcl]; omega)]
  simp [nums, hl, dcl]
end

/-- Only block g may have changed of what was there. -/
structure Upd (g : Nat) (w w' : World) : Prop where
  os : w'.os = w.os
  tape : w'.tape = w.tape
  output : w'.output = w.output
  size : w.heap.size ≤ w'.heap.size
  block : ∀ k, k < w.heap.size → k ≠ g → w'.heap[k]? = w.heap[k]?
theorem Upd.of_ext {g : Nat} {w w' : World} (h : Ext w w') : Upd g w w' := ⟨h.os, h.tape, h.output, h.size, fun k hk _ => h.block hk⟩
theorem Upd.refl (g : Nat) (w : World) : Upd g w w := Upd.of_ext (Ext.refl w)
theorem Upd.trans {g : Nat} {a b c : World} (h : Upd g a b) (k : Upd g b c) : Upd g a c :=
  ⟨k.os.trans h.os, k.tape.trans h.tape, k.output.trans h.output, Nat.le_trans h.size k.size, fun i hi hg => (k.block i (Nat.lt_of_lt_of_le hi h.size) hg).trans (h.block i hi hg)⟩
theorem Upd.ext {g : Nat} {a b c : World} (h : Upd g a b) (k : Ext b c) : Upd g a c := h.trans (.of_ext k)
theorem Upd.set {g : Nat} {a b : World} (h : Upd g a b) (i : Nat) (u : Value) : Upd g a (b.setCell ⟨g, i, none⟩ u) :=
  h.trans ⟨rfl, rfl, rfl, by simp, fun k _ hg => Below.heap_setCell b ⟨g, i, none⟩ u k hg⟩
theorem Upd.grown {g : Nat} {a b : World} (h : Upd g a b) : a.grownBy b (some g) := ⟨h.os, h.tape, h.output, h.size, fun k hk hg => h.block k hk fun e => hg (congrArg some e)⟩
theorem Upd.blk {g k : Nat} {a b : World} {t : TypeId} {cs : Array Value} (h : Upd g a b) (hb : Blk a k t cs) (hk : k ≠ g) : Blk b k t cs := (h.block k hb.lt hk).trans hb
theorem Upd.inM {g : Nat} {a b : World} {A : Option Addr} {xs : List Value} (h : Upd g a b) (hM : InM a A xs) (hA : ∀ p, A = some p → p.block ≠ g) : InM b A xs := fun j u hu => by
  obtain ⟨k, off, ha, hc⟩ := hM j u hu
  refine ⟨k, off, ha, ?_⟩
  have := h.block k (block_lt_of_cell hc) (hA _ ha)
  simp only [World.cell?, this] at hc ⊢
  exact hc
theorem Upd.toExt {g : Nat} {w a b : World} (h : Upd g a b) (hx : Ext w a) (hg : w.heap.size ≤ g) : Ext w b :=
  hx.grown h.grown fun k e => by cases e; exact hg

/-- The place of a code's pair. -/
def byI (c : Int) : Nat := prC.findIdx (· == (if takesX c then bits .andNot .u16 c 8 else c))
def prD (k : Nat) : Value := if k < 10 then .func (.func (prF k)) #[] #[] else .nilFunc
def prH (k : Nat) : Value := if k < 10 then .nilFunc else .func (.func (prF k)) #[] #[]
theorem prP_eq (k : Nat) : prP k = .agg #[.int .u16 (prC.getD k 0), prD k, prH k] := by
  unfold prP prD prH
  split <;> rfl
theorem prC_at {c : Int} {k : Nat} (hk : k < 14) (hno : ∀ j, j < k → (prC.getD j 0 == c) = false) (h : (prC.getD k 0 == c) = true) : prC.findIdx (· == c) = k := by
  have hl : prC.length = 14 := rfl
  have g := fun j (hj : j < 14) => show prC.getD j 0 = prC[j]'(by omega) by rw [List.getD_eq_getElem?_getD, List.getElem?_eq_getElem (by omega)]; rfl
  rw [List.findIdx_eq (by omega)]
  refine ⟨by rw [← g k hk]; exact h, fun j hj => ?_⟩
  rw [← g j (by omega)]
  exact hno j hj
theorem prC_no {c : Int} (hno : ∀ j, j < 14 → (prC.getD j 0 == c) = false) : prC.findIdx (· == c) = 14 := by
  have hl : prC.length = 14 := rfl
  have g := fun j (hj : j < 14) => show prC.getD j 0 = prC[j]'(by omega) by rw [List.getD_eq_getElem?_getD, List.getElem?_eq_getElem (by omega)]; rfl
  rw [← hl]
  refine List.findIdx_eq_length_of_false fun x hx => ?_
  obtain ⟨j, hj, rfl⟩ := List.getElem_of_mem hx
  rw [← g j (by omega)]
  exact hno j (by omega)
end Go.Proofs.Ytjlhfmedaandeaa

/- vm: fail, cell, second; the pair of a code. -/
namespace Go.Proofs.Ytjlhfmedaandeaa
open Go.RowKit Go.ChangeShapes Go.WideShapes
set_option linter.unusedVariables false
set_option linter.unusedSimpArgs false

/-- An error that is raised. -/
def pan (e : Int) : List PanicEntry := [{ v := .iface 24 (.int .i64 e), recovered := false }]
theorem fail_any (x : Int) (W : World) : Calls Try.prog 76 #[.int .i64 x] W fun e w' => e = .panicked (pan x) ∧ W = w' := by
  unfold pan
  go_enter Try.func76, Try.ntmps76
  go_wp2
  exact ⟨rfl, rfl, rfl⟩
theorem cell_no (g : Nat) (k : Int) (h : 16 ≤ k) (W : World) : Calls Try.prog 87 #[.pointer (some ⟨g, 0, none⟩), .int .u32 k] W fun e w' => e = .panicked (pan 43) ∧ W = w' := by
  go_enter Try.func87, Try.ntmps87
  go_wp2_with fail
  refine (fail_any 43 _).mono ?_
  rintro e w1 ⟨rfl, rfl⟩
  exact ⟨rfl, rfl, rfl⟩
theorem cell_yes (g : Nat) (k : Nat) (h : k < 16) (W : World) : Calls Try.prog 87 #[.pointer (some ⟨g, 0, none⟩), .int .u32 k] W fun e w' => e = .returned (.pointer (some ⟨g, 2 + k, none⟩)) ∧ W = w' := by
  have h1 : ¬ (16 : Int) ≤ k := by omega
  have h2 : (0 : Int) ≤ k := by omega
  have h3 : (k : Int) < 16 := by omega
  go_enter Try.func87, Try.ntmps87
  go_wp2
  go_ret
  exact ⟨rfl, rfl⟩
def secondE (i : Ins) (s : Vm) : Int := if takesX i.code then s.x else i.k
theorem second_any (i : Ins) (g : Nat) (d : Dat) (s : Vm) (W : World) (B : MB W g d s) : Calls Try.prog 95 #[.pointer (some ⟨g, 0, none⟩), i.val] W fun e w' => e = .returned (.int .u32 (secondE i s)) ∧ Ext W w' := by
  have HK := Lib.hid (fun W => withX_any i.code W)
  have hx := (Ext.refl W).alloc (.cells #[.int .u16 i.code, .int .u8 i.jt, .int .u8 i.jf, .int .u32 i.k] 43)
  have B0 := Blk.new W 43 #[.int .u16 i.code, .int .u8 i.jt, .int .u8 i.jf, .int .u32 i.k]
  have B1 := B.ext hx
  unfold secondE
  unfold Ins.val Ins.cells
  obtain ⟨co, jt, jf, k⟩ := i
  dsimp only at *
  generalize takesX co = b at *
  go_enter Try.func95, Try.ntmps95
  go_wp2_with fail
  refine (HK.out _).mono ?_
  rintro e w1 ⟨rfl, hx1⟩
  have q0 := (B0.ext hx1).cell 3
  have q1 := (B1.ext hx1).x
  replace hx := hx.trans hx1
  cases b
  · go_wp2
    go_ret
    exact ⟨rfl, hx⟩
  · go_wp2
    go_ret
    exact ⟨rfl, hx⟩
end Go.Proofs.Ytjlhfmedaandeaa

/- vm: by. -/
namespace Go.Proofs.Ytjlhfmedaandeaa
open Go.RowKit Go.ChangeShapes Go.WideShapes
set_option linter.unusedVariables false
set_option linter.unusedSimpArgs false

theorem pr_index2 (k : Nat) (hk : k < 14) (W : World) : (Instr.index 144 (.agg prA) (.int .i64 k)).run Try.prog W = .ok (.agg #[.int .u16 (prC.getD k 0), prD k, prH k]) W := by
  rw [← prP_eq]
  exact pr_index k hk W

set_option maxHeartbeats 1000000 in
set_option maxRecDepth 100000 in
theorem by_vm (c : Int) (kk : Nat) (hkk : kk < 14) (hb : byI c = kk) (W : World) : Calls Try.prog 96 #[.int .u16 c] W fun e w' => e = .returned (.agg #[.int .u16 (prC.getD kk 0), prD kk, prH kk]) ∧ Ext W w' := by
  have HK := Lib.hid (fun W => withX_any c W)
  have HI := Lib.hid (fun (k : Nat) (hk : k < 14) (W : World) => pr_index2 k hk W)
  have HE := Lib.hid (fun W : World => pairs_any W)
  obtain ⟨cc, hcc⟩ : ∃ cc, cc = (if takesX c then bits .andNot .u16 c 8 else c) := ⟨_, rfl⟩
  have HF := Lib.hid (fun (k : Nat) (hk : k < 14) hno h => show k = kk by rw [← hb, byI, ← hcc]; exact (prC_at (c := cc) hk hno h).symm)
  have HN := Lib.hid (fun (hno : ∀ j, j < 14 → (prC.getD j 0 == cc) = false) => show kk = 14 by rw [← hb, byI, ← hcc]; exact prC_no hno)
  have hx0 := (Ext.refl W).alloc (.cells #[.int .u16 0, .nilFunc, .nilFunc] 137)
  have B0 := Blk.new W 137 #[.int .u16 0, .nilFunc, .nilFunc]
  clear hb
  have HG := Lib.hid (fun k (h : k = kk) => (⟨by rw [h], by rw [h], by rw [h]⟩ : prC.getD k 0 = prC.getD kk 0 ∧ prD k = prD kk ∧ prH k = prH kk))
  generalize prC.getD kk 0 = PC at *
  generalize prD kk = PD at *
  generalize prH kk = PH at *
  generalize prA = PA at *
  generalize hV : Value.agg PA = V at *
  clear hV
  generalize takesX c = tx at *
  have HCC := Lib.hid hcc
  clear hcc
  go_enter Try.func96, Try.ntmps96
  go_wp2_with fail
  refine (HK.out _).mono ?_
  rintro e w1 ⟨rfl, hx1⟩
  replace hx0 := hx0.trans hx1
  replace B0 := B0.ext hx1
  clear hx1 HK
  cases tx
  · have e0 : cc = c := HCC.out
    subst e0
    clear HCC
    go_wp2_with fail
    refine (HE.out _).mono ?_
    rintro e w1 ⟨rfl, hx1⟩
    replace hx0 := hx0.trans hx1
    replace B0 := B0.ext hx1
    clear hx1
    go_wp2_with fail
    go_loopw [10] (fun i wr => ∃ k : Nat, k ≤ 14 ∧ i = .int .i64 k ∧ (∀ j, j < k → (prC.getD j 0 == cc) = false) ∧ Ext W wr ∧ Blk wr W.heap.size 137 #[.int .u16 0, .nilFunc, .nilFunc]) (fun i _ => 14 - (intOf i).toNat)
    case atStart => exact ⟨0, by decide, rfl, fun j hj => absurd hj (by omega), hx0, B0⟩
    case round =>
      clear hx0 B0
      obtain ⟨k, hk, rfl, hno, hx, B0⟩ := hrel
      by_cases hlt : k < 14
      · have hidx : ∀ W, (Instr.index 144 V (.int .i64 k)).run Try.prog W = .ok (.agg #[.int .u16 (prC.getD k 0), prD k, prH k]) W := fun W => HI.out k hlt W
        have hf := Lib.hid (HF.out k hlt hno)
        have hno' : ∀ (h : (prC.getD k 0 == cc) = false) j, j < k + 1 → (prC.getD j 0 == cc) = false := fun h j hj => by
          rcases Nat.lt_succ_iff_lt_or_eq.1 hj with h1 | rfl
          · exact hno j h1
          · exact h
        generalize hpc : prC.getD k 0 = pcode at *
        have HPC := Lib.hid hpc
        clear hno hpc
        by_cases h10 : k < 10
        · have e1 : prD k = .func (.func (prF k)) #[] #[] := by unfold prD; rw [if_pos h10]
          have e2 : prH k = .nilFunc := by unfold prH; rw [if_pos h10]
          have HE1 := Lib.hid e1
          have HE2 := Lib.hid e2
          rw [e1, e2] at hidx
          clear e1 e2
          generalize prF k = F at *
          have Bw := Blk.new wr 137 #[.int .u16 pcode, .func (.func F) #[] #[], .nilFunc]
          have hxa := hx.alloc (.cells #[.int .u16 pcode, .func (.func F) #[] #[], .nilFunc] 137)
          have B1 := B0.alloc (.cells #[.int .u16 pcode, .func (.func F) #[] #[], .nilFunc] 137)
          by_cases h : (pcode == cc) = true
          · have hkk := hf.out h
            obtain ⟨g1, g2, g3⟩ := HG.out k hkk
            rw [HE1.out] at g2
            rw [HE2.out] at g3
            rw [HPC.out] at g1
            subst g1 g2 g3
            clear hno' hf HF HN HI HE hx B0 hkk HE1 HE2 HG HPC
            go_wp2_with (first | (refine wpList_load_blk rfl 137 (.tmp 4) rfl _ _ _ _ rfl Bw Try.underlying137 rfl (by kernel_rfl) ?_) | (refine wpList_store_all rfl 137 (.tmp 2) (.tmp 17) rfl _ _ _ _ rfl rfl B1 rfl (by kernel_rfl) (by simp [Value.oneCell']) ?_; intro wz Bz hgz))
            exact bodyPost_ret (results_blk1 rfl _ _ _ _ _ _ rfl Bz Try.underlying137 rfl (by kernel_rfl)) rfl ⟨rfl, hxa.grown hgz (fun k e => by cases e; exact Nat.le_refl _)⟩
          · have h : (pcode == cc) = false := by simpa using h
            replace hno' := hno' h
            clear hf Bw hx B0
            go_wp2
            go_roundw
            case rel => exact ⟨k + 1, by omega, by go_num, hno', hxa, B1⟩
            case measure => simp [intOf]; omega
        · have e1 : prD k = .nilFunc := by unfold prD; rw [if_neg h10]
          have e2 : prH k = .func (.func (prF k)) #[] #[] := by unfold prH; rw [if_neg h10]
          have HE1 := Lib.hid e1
          have HE2 := Lib.hid e2
          rw [e1, e2] at hidx
          clear e1 e2
          generalize prF k = F at *
          have Bw := Blk.new wr 137 #[.int .u16 pcode, .nilFunc, .func (.func F) #[] #[]]
          have hxa := hx.alloc (.cells #[.int .u16 pcode, .nilFunc, .func (.func F) #[] #[]] 137)
          have B1 := B0.alloc (.cells #[.int .u16 pcode, .nilFunc, .func (.func F) #[] #[]] 137)
          by_cases h : (pcode == cc) = true
          · have hkk := hf.out h
            obtain ⟨g1, g2, g3⟩ := HG.out k hkk
            rw [HE1.out] at g2
            rw [HE2.out] at g3
            rw [HPC.out] at g1
            subst g1 g2 g3
            clear hno' hf HF HN HI HE hx B0 hkk HE1 HE2 HG HPC
            go_wp2_with (first | (refine wpList_load_blk rfl 137 (.tmp 4) rfl _ _ _ _ rfl Bw Try.underlying137 rfl (by kernel_rfl) ?_) | (refine wpList_store_all rfl 137 (.tmp 2) (.tmp 17) rfl _ _ _ _ rfl rfl B1 rfl (by kernel_rfl) (by simp [Value.oneCell']) ?_; intro wz Bz hgz))
            exact bodyPost_ret (results_blk1 rfl _ _ _ _ _ _ rfl Bz Try.underlying137 rfl (by kernel_rfl)) rfl ⟨rfl, hxa.grown hgz (fun k e => by cases e; exact Nat.le_refl _)⟩
          · have h : (pcode == cc) = false := by simpa using h
            replace hno' := hno' h
            clear hf Bw hx B0
            go_wp2
            go_roundw
            case rel => exact ⟨k + 1, by omega, by go_num, hno', hxa, B1⟩
            case measure => simp [intOf]; omega
      · obtain rfl : k = 14 := by omega
        exact absurd (HN.out hno) (by omega)
  · have e0 : bits .andNot .u16 c 8 = cc := HCC.out.symm
    clear HCC
    go_wp2_with fail
    clear e0
    refine (HE.out _).mono ?_
    rintro e w1 ⟨rfl, hx1⟩
    replace hx0 := hx0.trans hx1
    replace B0 := B0.ext hx1
    clear hx1
    go_wp2_with fail
    go_loopw [10] (fun i wr => ∃ k : Nat, k ≤ 14 ∧ i = .int .i64 k ∧ (∀ j, j < k → (prC.getD j 0 == cc) = false) ∧ Ext W wr ∧ Blk wr W.heap.size 137 #[.int .u16 0, .nilFunc, .nilFunc]) (fun i _ => 14 - (intOf i).toNat)
    case atStart => exact ⟨0, by decide, rfl, fun j hj => absurd hj (by omega), hx0, B0⟩
    case round =>
      clear hx0 B0
      obtain ⟨k, hk, rfl, hno, hx, B0⟩ := hrel
      by_cases hlt : k < 14
      · have hidx : ∀ W, (Instr.index 144 V (.int .i64 k)).run Try.prog W = .ok (.agg #[.int .u16 (prC.getD k 0), prD k, prH k]) W := fun W => HI.out k hlt W
        have hf := Lib.hid (HF.out k hlt hno)
        have hno' : ∀ (h : (prC.getD k 0 == cc) = false) j, j < k + 1 → (prC.getD j 0 == cc) = false := fun h j hj => by
          rcases Nat.lt_succ_iff_lt_or_eq.1 hj with h1 | rfl
          · exact hno j h1
          · exact h
        generalize hpc : prC.getD k 0 = pcode at *
        have HPC := Lib.hid hpc
        clear hno hpc
        by_cases h10 : k < 10
        · have e1 : prD k = .func (.func (prF k)) #[] #[] := by unfold prD; rw [if_pos h10]
          have e2 : prH k = .nilFunc := by unfold prH; rw [if_pos h10]
          have HE1 := Lib.hid e1
          have HE2 := Lib.hid e2
          rw [e1, e2] at hidx
          clear e1 e2
          generalize prF k = F at *
          have Bw := Blk.new wr 137 #[.int .u16 pcode, .func (.func F) #[] #[], .nilFunc]
          have hxa := hx.alloc (.cells #[.int .u16 pcode, .func (.func F) #[] #[], .nilFunc] 137)
          have B1 := B0.alloc (.cells #[.int .u16 pcode, .func (.func F) #[] #[], .nilFunc] 137)
          by_cases h : (pcode == cc) = true
          · have hkk := hf.out h
            obtain ⟨g1, g2, g3⟩ := HG.out k hkk
            rw [HE1.out] at g2
            rw [HE2.out] at g3
            rw [HPC.out] at g1
            subst g1 g2 g3
            clear hno' hf HF HN HI HE hx B0 hkk HE1 HE2 HG HPC
            go_wp2_with (first | (refine wpList_load_blk rfl 137 (.tmp 4) rfl _ _ _ _ rfl Bw Try.underlying137 rfl (by kernel_rfl) ?_) | (refine wpList_store_all rfl 137 (.tmp 2) (.tmp 17) rfl _ _ _ _ rfl rfl B1 rfl (by kernel_rfl) (by simp [Value.oneCell']) ?_; intro wz Bz hgz))
            exact bodyPost_ret (results_blk1 rfl _ _ _ _ _ _ rfl Bz Try.underlying137 rfl (by kernel_rfl)) rfl ⟨rfl, hxa.grown hgz (fun k e => by cases e; exact Nat.le_refl _)⟩
          · have h : (pcode == cc) = false := by simpa using h
            replace hno' := hno' h
            clear hf Bw hx B0
            go_wp2
            go_roundw
            case rel => exact ⟨k + 1, by omega, by go_num, hno', hxa, B1⟩
            case measure => simp [intOf]; omega
        · have e1 : prD k = .nilFunc := by unfold prD; rw [if_neg h10]
          have e2 : prH k = .func (.func (prF k)) #[] #[] := by unfold prH; rw [if_neg h10]
          have HE1 := Lib.hid e1
          have HE2 := Lib.hid e2
          rw [e1, e2] at hidx
          clear e1 e2
          generalize prF k = F at *
          have Bw := Blk.new wr 137 #[.int .u16 pcode, .nilFunc, .func (.func F) #[] #[]]
          have hxa := hx.alloc (.cells #[.int .u16 pcode, .nilFunc, .func (.func F) #[] #[]] 137)
          have B1 := B0.alloc (.cells #[.int .u16 pcode, .nilFunc, .func (.func F) #[] #[]] 137)
          by_cases h : (pcode == cc) = true
          · have hkk := hf.out h
            obtain ⟨g1, g2, g3⟩ := HG.out k hkk
            rw [HE1.out] at g2
            rw [HE2.out] at g3
            rw [HPC.out] at g1
            subst g1 g2 g3
            clear hno' hf HF HN HI HE hx B0 hkk HE1 HE2 HG HPC
            go_wp2_with (first | (refine wpList_load_blk rfl 137 (.tmp 4) rfl _ _ _ _ rfl Bw Try.underlying137 rfl (by kernel_rfl) ?_) | (refine wpList_store_all rfl 137 (.tmp 2) (.tmp 17) rfl _ _ _ _ rfl rfl B1 rfl (by kernel_rfl) (by simp [Value.oneCell']) ?_; intro wz Bz hgz))
            exact bodyPost_ret (results_blk1 rfl _ _ _ _ _ _ rfl Bz Try.underlying137 rfl (by kernel_rfl)) rfl ⟨rfl, hxa.grown hgz (fun k e => by cases e; exact Nat.le_refl _)⟩
          · have h : (pcode == cc) = false := by simpa using h
            replace hno' := hno' h
            clear hf Bw hx B0
            go_wp2
            go_roundw
            case rel => exact ⟨k + 1, by omega, by go_num, hno', hxa, B1⟩
            case measure => simp [intOf]; omega
      · obtain rfl : k = 14 := by omega
        exact absurd (HN.out hno) (by omega)
end Go.Proofs.Ytjlhfmedaandeaa
