import Derived.Test.YtkejcfbhikpibaaChk2
import Derived.Test.YtkejcfbhikpibaaData
/- vm: what a code does of two numbers, and what it compares. -/
namespace Go.Proofs.Ytkejcfbhikpibaa
open Go.RowKit Go.ChangeShapes Go.WideShapes
set_option linter.unusedVariables false
set_option linter.unusedSimpArgs false

/-- The numbers' operations, by their place among the pairs. -/
def doE : Nat → Int → Int → Int
  | 0, a, b => IntKind.u32.wrap (a + b)
  | 1, a, b => IntKind.u32.wrap (a - b)
  | 2, a, b => IntKind.u32.wrap (a * b)
  | 3, a, b => a / max b 1
  | 4, a, b => bits .or .u32 a b
  | 5, a, b => bits .and .u32 a b
  | 6, a, b => IntKind.u32.wrap (a * 2 ^ (b % 32).toNat)
  | 7, a, b => a / 2 ^ (b % 32).toNat
  | 8, a, b => bits .xor .u32 a b
  | _, a, _ => IntKind.u32.wrap (-a)
def hoE : Nat → Int → Int → Bool
  | 0, a, b => a == b
  | 1, a, b => decide (b < a)
  | 2, a, b => decide (b ≤ a)
  | _, a, b => bits .and .u32 a b != 0

theorem pr1 (a b : Int) (ha : U32 a) (hb : U32 b) (W : World) : Calls Try.prog 98 #[.int .u32 a, .int .u32 b] W fun e w' => e = .returned (.int .u32 (doE 0 a b)) ∧ W = w' := by
  obtain ⟨a0, a1⟩ := ha
  obtain ⟨b0, b1⟩ := hb
  unfold doE
  go_enter Try.func98, Try.ntmps98
  go_wp2
  go_ret
  exact ⟨rfl, rfl⟩
theorem pr2 (a b : Int) (ha : U32 a) (hb : U32 b) (W : World) : Calls Try.prog 99 #[.int .u32 a, .int .u32 b] W fun e w' => e = .returned (.int .u32 (doE 1 a b)) ∧ W = w' := by
  obtain ⟨a0, a1⟩ := ha
  obtain ⟨b0, b1⟩ := hb
  unfold doE
  go_enter Try.func99, Try.ntmps99
  go_wp2
  go_ret
  exact ⟨rfl, rfl⟩
theorem pr3 (a b : Int) (ha : U32 a) (hb : U32 b) (W : World) : Calls Try.prog 100 #[.int .u32 a, .int .u32 b] W fun e w' => e = .returned (.int .u32 (doE 2 a b)) ∧ W = w' := by
  obtain ⟨a0, a1⟩ := ha
  obtain ⟨b0, b1⟩ := hb
  unfold doE
  go_enter Try.func100, Try.ntmps100
  go_wp2
  go_ret
  exact ⟨rfl, rfl⟩
theorem pr4 (a b : Int) (ha : U32 a) (hb : U32 b) (W : World) : Calls Try.prog 101 #[.int .u32 a, .int .u32 b] W fun e w' => e = .returned (.int .u32 (doE 3 a b)) ∧ W = w' := by
  obtain ⟨a0, a1⟩ := ha
  obtain ⟨b0, b1⟩ := hb
  unfold doE
  have hm : ¬ max b 1 = 0 := by omega
  have hd : IntKind.u32.wrap (a / max b 1) = a / max b 1 := by
    have h1 : 0 ≤ a / max b 1 := Int.ediv_nonneg a0 (by omega)
    have h2 : a / max b 1 ≤ a := Int.ediv_le_self _ a0
    exact IntWalk.u32_in _ (by omega)
  go_enter Try.func101, Try.ntmps101
  go_wp2
  go_ret
  exact ⟨rfl, rfl⟩
theorem pr5 (a b : Int) (ha : U32 a) (hb : U32 b) (W : World) : Calls Try.prog 102 #[.int .u32 a, .int .u32 b] W fun e w' => e = .returned (.int .u32 (doE 4 a b)) ∧ W = w' := by
  obtain ⟨a0, a1⟩ := ha
  obtain ⟨b0, b1⟩ := hb
  unfold doE
  go_enter Try.func102, Try.ntmps102
  go_wp2
  go_ret
  exact ⟨rfl, rfl⟩
theorem pr6 (a b : Int) (ha : U32 a) (hb : U32 b) (W : World) : Calls Try.prog 103 #[.int .u32 a, .int .u32 b] W fun e w' => e = .returned (.int .u32 (doE 5 a b)) ∧ W = w' := by
  obtain ⟨a0, a1⟩ := ha
  obtain ⟨b0, b1⟩ := hb
  unfold doE
  go_enter Try.func103, Try.ntmps103
  go_wp2
  go_ret
  exact ⟨rfl, rfl⟩
theorem pr7 (a b : Int) (ha : U32 a) (hb : U32 b) (W : World) : Calls Try.prog 104 #[.int .u32 a, .int .u32 b] W fun e w' => e = .returned (.int .u32 (doE 6 a b)) ∧ W = w' := by
  obtain ⟨a0, a1⟩ := ha
  obtain ⟨b0, b1⟩ := hb
  unfold doE
  have h1 : 0 ≤ b % 32 := by omega
  have h2 : b % 32 < 32 := by omega
  go_enter Try.func104, Try.ntmps104
  go_wp2
  go_ret
  exact ⟨rfl, rfl⟩
theorem pr8 (a b : Int) (ha : U32 a) (hb : U32 b) (W : World) : Calls Try.prog 105 #[.int .u32 a, .int .u32 b] W fun e w' => e = .returned (.int .u32 (doE 7 a b)) ∧ W = w' := by
  obtain ⟨a0, a1⟩ := ha
  obtain ⟨b0, b1⟩ := hb
  unfold doE
  have h1 : 0 ≤ b % 32 := by omega
  have h2 : b % 32 < 32 := by omega
  go_enter Try.func105, Try.ntmps105
  go_wp2
  go_ret
  exact ⟨rfl, rfl⟩
theorem pr9 (a b : Int) (ha : U32 a) (hb : U32 b) (W : World) : Calls Try.prog 106 #[.int .u32 a, .int .u32 b] W fun e w' => e = .returned (.int .u32 (doE 8 a b)) ∧ W = w' := by
  obtain ⟨a0, a1⟩ := ha
  obtain ⟨b0, b1⟩ := hb
  unfold doE
  go_enter Try.func106, Try.ntmps106
  go_wp2
  go_ret
  exact ⟨rfl, rfl⟩
theorem pr10 (a b : Int) (ha : U32 a) (hb : U32 b) (W : World) : Calls Try.prog 107 #[.int .u32 a, .int .u32 b] W fun e w' => e = .returned (.int .u32 (doE 9 a b)) ∧ W = w' := by
  obtain ⟨a0, a1⟩ := ha
  obtain ⟨b0, b1⟩ := hb
  unfold doE
  go_enter Try.func107, Try.ntmps107
  go_wp2
  go_ret
  exact ⟨rfl, rfl⟩
theorem pr11 (a b : Int) (ha : U32 a) (hb : U32 b) (W : World) : Calls Try.prog 108 #[.int .u32 a, .int .u32 b] W fun e w' => e = .returned (.bool (hoE 0 a b)) ∧ W = w' := by
  obtain ⟨a0, a1⟩ := ha
  obtain ⟨b0, b1⟩ := hb
  unfold hoE
  go_enter Try.func108, Try.ntmps108
  go_wp2
  go_ret
  exact ⟨rfl, rfl⟩
theorem pr12 (a b : Int) (ha : U32 a) (hb : U32 b) (W : World) : Calls Try.prog 109 #[.int .u32 a, .int .u32 b] W fun e w' => e = .returned (.bool (hoE 1 a b)) ∧ W = w' := by
  obtain ⟨a0, a1⟩ := ha
  obtain ⟨b0, b1⟩ := hb
  unfold hoE
  go_enter Try.func109, Try.ntmps109
  go_wp2
  go_ret
  exact ⟨rfl, rfl⟩
theorem pr13 (a b : Int) (ha : U32 a) (hb : U32 b) (W : World) : Calls Try.prog 110 #[.int .u32 a, .int .u32 b] W fun e w' => e = .returned (.bool (hoE 2 a b)) ∧ W = w' := by
  obtain ⟨a0, a1⟩ := ha
  obtain ⟨b0, b1⟩ := hb
  unfold hoE
  go_enter Try.func110, Try.ntmps110
  go_wp2
  go_ret
  exact ⟨rfl, rfl⟩
theorem pr14 (a b : Int) (ha : U32 a) (hb : U32 b) (W : World) : Calls Try.prog 111 #[.int .u32 a, .int .u32 b] W fun e w' => e = .returned (.bool (hoE 3 a b)) ∧ W = w' := by
  obtain ⟨a0, a1⟩ := ha
  obtain ⟨b0, b1⟩ := hb
  unfold hoE
  go_enter Try.func111, Try.ntmps111
  go_wp2
  go_ret
  exact ⟨rfl, rfl⟩
def prC : List Int := [4, 20, 36, 52, 68, 84, 100, 116, 164, 132, 21, 37, 53, 69]
def prF : Nat → Nat
  | 0 => 98
  | 1 => 99
  | 2 => 100
  | 3 => 101
  | 4 => 102
  | 5 => 103
  | 6 => 104
  | 7 => 105
  | 8 => 106
  | 9 => 107
  | 10 => 108
  | 11 => 109
  | 12 => 110
  | _ => 111
def prA : Array Value := #[.int .u16 4, .func (.func 98) #[] #[], .nilFunc, .int .u16 20, .func (.func 99) #[] #[], .nilFunc, .int .u16 36, .func (.func 100) #[] #[], .nilFunc, .int .u16 52, .func (.func 101) #[] #[], .nilFunc, .int .u16 68, .func (.func 102) #[] #[], .nilFunc, .int .u16 84, .func (.func 103) #[] #[], .nilFunc, .int .u16 100, .func (.func 104) #[] #[], .nilFunc, .int .u16 116, .func (.func 105) #[] #[], .nilFunc, .int .u16 164, .func (.func 106) #[] #[], .nilFunc, .int .u16 132, .func (.func 107) #[] #[], .nilFunc, .int .u16 21, .nilFunc, .func (.func 108) #[] #[], .int .u16 37, .nilFunc, .func (.func 109) #[] #[], .int .u16 53, .nilFunc, .func (.func 110) #[] #[], .int .u16 69, .nilFunc, .func (.func 111) #[] #[]]
/-- A pair, by its place. -/
def prP (k : Nat) : Value := .agg (if k < 10 then #[.int .u16 (prC.getD k 0), .func (.func (prF k)) #[] #[], .nilFunc] else #[.int .u16 (prC.getD k 0), .nilFunc, .func (.func (prF k)) #[] #[]])
theorem pr_index : ∀ (k : Nat) (hk : k < 14) (W : World), (Instr.index 140 (.agg prA) (.int .i64 k)).run Try.prog W = .ok (prP k) W
  | 0, _, _ => by kernel_rfl
  | 1, _, _ => by kernel_rfl
  | 2, _, _ => by kernel_rfl
  | 3, _, _ => by kernel_rfl
  | 4, _, _ => by kernel_rfl
  | 5, _, _ => by kernel_rfl
  | 6, _, _ => by kernel_rfl
  | 7, _, _ => by kernel_rfl
  | 8, _, _ => by kernel_rfl
  | 9, _, _ => by kernel_rfl
  | 10, _, _ => by kernel_rfl
  | 11, _, _ => by kernel_rfl
  | 12, _, _ => by kernel_rfl
  | 13, _, _ => by kernel_rfl
  | n + 14, h, _ => absurd h (by omega)
set_option maxHeartbeats 2000000 in
set_option maxRecDepth 100000 in
theorem pairs_any (W : World) : Calls Try.prog 94 #[] W fun e w' => e = .returned (.agg prA) ∧ Ext W w' := by
  have hall : ∀ v ∈ prA.toList, v.oneCell' = true := by
    have : (prA.toList.all fun v => v.oneCell') = true := by kernel_rfl
    exact List.all_eq_true.1 this
  go_enter Try.func94, Try.ntmps94
  have hal : ∀ cs : Array Value, Blk (W.alloc (.cells cs 140)) W.heap.size 140 cs := fun cs => Blk.new W _ cs
  go_wp2_with (first | (refine wpList_build_lit rfl 140 _ rfl prA (by kernel_rfl) ?_) | (refine wpList_store_all rfl 140 (.tmp 0) (.tmp 15) rfl W.heap.size 140 _ prA rfl rfl (hal _) (by kernel_rfl) (by kernel_rfl) hall ?_; intro wz Bz hgz))

  exact bodyPost_ret (results_blk1 rfl _ _ _ _ _ _ rfl Bz Try.underlying140 rfl (by kernel_rfl)) rfl ⟨rfl, ((Ext.refl W).alloc _).grown hgz (fun k e => by cases e; exact Nat.le_refl _)⟩
end Go.Proofs.Ytkejcfbhikpibaa
