import Derived.Test.YtlicndonhmcmmaaBase
import Derived.Test.YtlicndonhmcmmaaProg
import Derived.Handy
namespace Go.Proofs.Ytlicndonhmcmmaa
open Go.RowKit
set_option linter.unusedVariables false

/-- The number of bytes, the least first. -/
def leN : List Int → Int
  | [] => 0
  | b :: r => b + 256 * leN r
/-- The n bytes of a number, the least first. -/
def leB : Nat → Int → List Int
  | 0, _ => []
  | n + 1, x => x % 256 :: leB n (x / 256)
def Byt (bs : List Int) : Prop := ∀ x ∈ bs, 0 ≤ x ∧ x < 256
/-- The number of n bytes at a place. -/
def getB (bs : List Int) (at_ n : Nat) : Int := leN ((bs.drop at_).take n)
def leC (n : Nat) (x : Int) : Array Value := (nums .u8 (leB n x)).toArray

theorem leB_length (n : Nat) : ∀ x, (leB n x).length = n := by
  induction n with
  | zero => intro x; rfl
  | succ n ih => intro x; simp [leB, ih]
theorem leB_byt (n : Nat) : ∀ x, Byt (leB n x) := by
  induction n with
  | zero => intro x y hy; simp [leB] at hy
  | succ n ih =>
    intro x y hy
    simp only [leB, List.mem_cons] at hy
    rcases hy with rfl | hy
    · omega
    · exact ih _ y hy
theorem byt_at {bs : List Int} (h : Byt bs) {k : Nat} (hk : k < bs.length) : 0 ≤ bs[k] ∧ bs[k] < 256 := h _ (List.getElem_mem hk)
theorem Byt.drop {bs : List Int} (h : Byt bs) (k : Nat) : Byt (bs.drop k) := fun x hx => h x (List.mem_of_mem_drop hx)
theorem Byt.take {bs : List Int} (h : Byt bs) (k : Nat) : Byt (bs.take k) := fun x hx => h x (List.mem_of_mem_take hx)
theorem Byt.append {a b : List Int} (h : Byt a) (k : Byt b) : Byt (a ++ b) := fun x hx => by
  rcases List.mem_append.1 hx with hx | hx
  · exact h x hx
  · exact k x hx
theorem seg_succ {bs : List Int} {a N : Nat} (h : a < bs.length) : (bs.drop a).take (N + 1) = bs[a] :: (bs.drop (a + 1)).take N := by
  rw [List.drop_eq_getElem_cons h]; rfl
theorem leN_bd : ∀ (bs : List Int), Byt bs → 0 ≤ leN bs ∧ leN bs < 256 ^ bs.length
  | [], _ => by simp [leN]
  | b :: r, h => by
    have h1 := h b (by simp)
    have h2 := leN_bd r (fun x hx => h x (by simp [hx]))
    simp only [leN, List.length_cons, Int.pow_succ]
    omega
theorem leN_leB : ∀ (n : Nat) (x : Int), 0 ≤ x → x < 256 ^ n → leN (leB n x) = x
  | 0, x, h0, h1 => by simp at h1; simp [leB, leN]; omega
  | n + 1, x, h0, h1 => by
    rw [Int.pow_succ] at h1
    simp only [leB, leN]
    rw [leN_leB n (x / 256) (by omega) (by omega)]
    omega
theorem leB_leN : ∀ (bs : List Int), Byt bs → leB bs.length (leN bs) = bs
  | [], _ => rfl
  | b :: r, h => by
    have h1 := h b (by simp)
    have ih := leB_leN r (fun x hx => h x (by simp [hx]))
    simp only [List.length_cons, leB, leN]
    rw [show (b + 256 * leN r) % 256 = b from by omega, show (b + 256 * leN r) / 256 = leN r from by omega, ih]
theorem leB_mod : ∀ (n : Nat) (x : Int), leB n (x % 256 ^ n) = leB n x
  | 0, _ => rfl
  | n + 1, x => by
    simp only [leB]
    have hp : (0 : Int) < 256 ^ n := by
      have : (0 : Int) < 256 := by decide
      exact Int.pow_pos this
    have e0 : x / (256 * 256 ^ n) = x / 256 / 256 ^ n := (Int.ediv_ediv_of_nonneg (by decide)).symm
    have e1 : x % 256 ^ (n + 1) % 256 = x % 256 := by
      rw [Int.pow_succ, Int.mul_comm]
      exact Int.emod_emod_of_dvd x (Int.dvd_mul_right 256 _)
    have e2 : x % 256 ^ (n + 1) / 256 = x / 256 % 256 ^ n := by
      rw [Int.pow_succ, Int.mul_comm, Int.emod_def, Int.emod_def, e0, Int.mul_assoc]
      omega
    rw [e1, e2, leB_mod n]

theorem or_comm_ (k : IntKind) (x y : Int) : bits .or k x y = bits .or k y x := by simp only [bits]; rw [BitVec.or_comm]
theorem wraps_u16' (n : Int) (h₀ : 0 ≤ n) (h₁ : n < 2 ^ 16) : IntKind.u16.wrap n = n := IntWalk.u16_in n (by omega)
theorem wraps_u32' (n : Int) (h₀ : 0 ≤ n) (h₁ : n < 2 ^ 32) : IntKind.u32.wrap n = n := IntWalk.u32_in n (by omega)
theorem wraps_u64' (n : Int) (h₀ : 0 ≤ n) (h₁ : n < 2 ^ 64) : IntKind.u64.wrap n = n := IntWalk.u64_in n (by omega)

theorem u16_or_0 (y : Int) (h0 : 0 ≤ y) (h1 : y < 256) : bits .or .u16 0 y = y := by
  have := bits_join .u16 16 (by decide) wraps_u16' 8 0 y (by omega) (by omega) (by omega) h0 (by omega) (by omega)
  omega
theorem u16_or_8 (x y : Int) (hx : 0 ≤ x ∧ x < 256) (hy : 0 ≤ y ∧ y < 256) : bits .or .u16 x (y * 256) = x + y * 256 := by
  rw [or_comm_, bits_join .u16 16 (by decide) wraps_u16' 8 (y * 256) x (by omega) (by omega) (by omega) hx.1 (by omega) (by omega)]
  omega
theorem u32_or_0 (y : Int) (h0 : 0 ≤ y) (h1 : y < 256) : bits .or .u32 0 y = y := by
  have := bits_join .u32 32 (by decide) wraps_u32' 8 0 y (by omega) (by omega) (by omega) h0 (by omega) (by omega)
  omega
theorem u32_or_8 (x y : Int) (hx : 0 ≤ x ∧ x < 256) (hy : 0 ≤ y ∧ y < 256) : bits .or .u32 x (y * 256) = x + y * 256 := by
  rw [or_comm_, bits_join .u32 32 (by decide) wraps_u32' 8 (y * 256) x (by omega) (by omega) (by omega) hx.1 (by omega) (by omega)]
  omega
theorem u32_or_16 (x y : Int) (hx : 0 ≤ x ∧ x < 65536) (hy : 0 ≤ y ∧ y < 256) : bits .or .u32 x (y * 65536) = x + y * 65536 := by
  rw [or_comm_, bits_join .u32 32 (by decide) wraps_u32' 16 (y * 65536) x (by omega) (by omega) (by omega) hx.1 (by omega) (by omega)]
  omega
theorem u32_or_24 (x y : Int) (hx : 0 ≤ x ∧ x < 16777216) (hy : 0 ≤ y ∧ y < 256) : bits .or .u32 x (y * 16777216) = x + y * 16777216 := by
  rw [or_comm_, bits_join .u32 32 (by decide) wraps_u32' 24 (y * 16777216) x (by omega) (by omega) (by omega) hx.1 (by omega) (by omega)]
  omega
theorem u64_or_0 (y : Int) (h0 : 0 ≤ y) (h1 : y < 256) : bits .or .u64 0 y = y := by
  have := bits_join .u64 64 (by decide) wraps_u64' 8 0 y (by omega) (by omega) (by omega) h0 (by omega) (by omega)
  omega
theorem u64_or_8 (x y : Int) (hx : 0 ≤ x ∧ x < 256) (hy : 0 ≤ y ∧ y < 256) : bits .or .u64 x (y * 256) = x + y * 256 := by
  rw [or_comm_, bits_join .u64 64 (by decide) wraps_u64' 8 (y * 256) x (by omega) (by omega) (by omega) hx.1 (by omega) (by omega)]
  omega
theorem u64_or_16 (x y : Int) (hx : 0 ≤ x ∧ x < 65536) (hy : 0 ≤ y ∧ y < 256) : bits .or .u64 x (y * 65536) = x + y * 65536 := by
  rw [or_comm_, bits_join .u64 64 (by decide) wraps_u64' 16 (y * 65536) x (by omega) (by omega) (by omega) hx.1 (by omega) (by omega)]
  omega
theorem u64_or_24 (x y : Int) (hx : 0 ≤ x ∧ x < 16777216) (hy : 0 ≤ y ∧ y < 256) : bits .or .u64 x (y * 16777216) = x + y * 16777216 := by
  rw [or_comm_, bits_join .u64 64 (by decide) wraps_u64' 24 (y * 16777216) x (by omega) (by omega) (by omega) hx.1 (by omega) (by omega)]
  omega
theorem u64_or_32 (x y : Int) (hx : 0 ≤ x ∧ x < 4294967296) (hy : 0 ≤ y ∧ y < 256) : bits .or .u64 x (y * 4294967296) = x + y * 4294967296 := by
  rw [or_comm_, bits_join .u64 64 (by decide) wraps_u64' 32 (y * 4294967296) x (by omega) (by omega) (by omega) hx.1 (by omega) (by omega)]
  omega
theorem u64_or_40 (x y : Int) (hx : 0 ≤ x ∧ x < 1099511627776) (hy : 0 ≤ y ∧ y < 256) : bits .or .u64 x (y * 1099511627776) = x + y * 1099511627776 := by
  rw [or_comm_, bits_join .u64 64 (by decide) wraps_u64' 40 (y * 1099511627776) x (by omega) (by omega) (by omega) hx.1 (by omega) (by omega)]
  omega
theorem u64_or_48 (x y : Int) (hx : 0 ≤ x ∧ x < 281474976710656) (hy : 0 ≤ y ∧ y < 256) : bits .or .u64 x (y * 281474976710656) = x + y * 281474976710656 := by
  rw [or_comm_, bits_join .u64 64 (by decide) wraps_u64' 48 (y * 281474976710656) x (by omega) (by omega) (by omega) hx.1 (by omega) (by omega)]
  omega
theorem u64_or_56 (x y : Int) (hx : 0 ≤ x ∧ x < 72057594037927936) (hy : 0 ≤ y ∧ y < 256) : bits .or .u64 x (y * 72057594037927936) = x + y * 72057594037927936 := by
  rw [or_comm_, bits_join .u64 64 (by decide) wraps_u64' 56 (y * 72057594037927936) x (by omega) (by omega) (by omega) hx.1 (by omega) (by omega)]
  omega

theorem u64q (x : Int) (h0 : 0 ≤ x) (h1 : x < 18446744073709551616) : IntKind.u64.wrap (x.tdiv 256) = x / 256 := IntWalk.u64_quo x 256 ⟨h0, by omega, by omega⟩
theorem tm256 (x : Int) (h0 : 0 ≤ x) : x.tmod 256 = x % 256 := IntWalk.rem_in x 256 h0
theorem u64w (x : Int) (h0 : 0 ≤ x) (h1 : x < 18446744073709551616) : IntKind.u64.wrap x = x := IntWalk.u64_in x ⟨h0, by omega⟩
def Lt64 (x : Int) : Prop := x < 18446744073709551616

theorem refPut2 (x : Int) (w : World) (h0 : 0 ≤ x) (h1 : Lt64 x) :
    Calls Try.prog 25 #[.int .u64 x, .int .i64 2] w fun e w' => e = .returned (.slice (some ⟨w.heap.size, 0, none⟩) 2 2) ∧ w' = w.alloc (.cells (leC 2 x) 5) := by
  have hmk : ∀ w, (Instr.makeSlice 23 (.int .i64 2) (.int .i64 2)).run Try.prog w = .ok (.slice (some ⟨w.heap.size, 0, none⟩) 2 2) (w.alloc (.cells #[Value.int .u8 0, Value.int .u8 0] 5)) := fun _ => by kernel_rfl
  go_enter Try.func25, Try.ntmps25
  go_wp2
  go_rounds 3
  go_ret
  refine ⟨rfl, ?_⟩
  unfold Lt64 at h1
  congr 2
  simp only [leC, leB, nums, List.map_cons, List.map_nil]
  simp (disch := omega) only [u64q, tm256]
  simp
theorem refPut4 (x : Int) (w : World) (h0 : 0 ≤ x) (h1 : Lt64 x) :
    Calls Try.prog 25 #[.int .u64 x, .int .i64 4] w fun e w' => e = .returned (.slice (some ⟨w.heap.size, 0, none⟩) 4 4) ∧ w' = w.alloc (.cells (leC 4 x) 5) := by
  have hmk : ∀ w, (Instr.makeSlice 23 (.int .i64 4) (.int .i64 4)).run Try.prog w = .ok (.slice (some ⟨w.heap.size, 0, none⟩) 4 4) (w.alloc (.cells #[Value.int .u8 0, Value.int .u8 0, Value.int .u8 0, Value.int .u8 0] 5)) := fun _ => by kernel_rfl
  go_enter Try.func25, Try.ntmps25
  go_wp2
  go_rounds 5
  go_ret
  refine ⟨rfl, ?_⟩
  unfold Lt64 at h1
  congr 2
  simp only [leC, leB, nums, List.map_cons, List.map_nil]
  simp (disch := omega) only [u64q, tm256]
  simp
theorem refPut8 (x : Int) (w : World) (h0 : 0 ≤ x) (h1 : Lt64 x) :
    Calls Try.prog 25 #[.int .u64 x, .int .i64 8] w fun e w' => e = .returned (.slice (some ⟨w.heap.size, 0, none⟩) 8 8) ∧ w' = w.alloc (.cells (leC 8 x) 5) := by
  have hmk : ∀ w, (Instr.makeSlice 23 (.int .i64 8) (.int .i64 8)).run Try.prog w = .ok (.slice (some ⟨w.heap.size, 0, none⟩) 8 8) (w.alloc (.cells #[Value.int .u8 0, Value.int .u8 0, Value.int .u8 0, Value.int .u8 0, Value.int .u8 0, Value.int .u8 0, Value.int .u8 0, Value.int .u8 0] 5)) := fun _ => by kernel_rfl
  go_enter Try.func25, Try.ntmps25
  go_wp2
  go_rounds 9
  go_ret
  refine ⟨rfl, ?_⟩
  unfold Lt64 at h1
  congr 2
  simp only [leC, leB, nums, List.map_cons, List.map_nil]
  simp (disch := omega) only [u64q, tm256]
  simp
theorem put16 (x : Int) (w : World) (h0 : 0 ≤ x) (h1 : x < 256 ^ 2) :
    Calls Try.prog 21 #[.int .u16 x] w fun e w' => e = .returned (.slice (some ⟨w.heap.size, 0, none⟩) 2 2) ∧ w' = w.alloc (.cells (leC 2 x) 5) := by
  have hmk : ∀ w, (Instr.makeSlice 23 (.int .i64 2) (.int .i64 2)).run Try.prog w = .ok (.slice (some ⟨w.heap.size, 0, none⟩) 2 2) (w.alloc (.cells #[Value.int .u8 0, Value.int .u8 0] 5)) := fun _ => by kernel_rfl
  have h2 := Lib.hid h1
  clear h1
  go_enter Try.func21, Try.ntmps21
  go_wp2_with (go_at_call 67; go_in)
  go_rounds 3
  go_ret
  refine ⟨rfl, ?_⟩
  have h1 := h2.out
  congr 2

theorem put32 (x : Int) (w : World) (h0 : 0 ≤ x) (h1 : x < 256 ^ 4) :
    Calls Try.prog 22 #[.int .u32 x] w fun e w' => e = .returned (.slice (some ⟨w.heap.size, 0, none⟩) 4 4) ∧ w' = w.alloc (.cells (leC 4 x) 5) := by
  have hmk : ∀ w, (Instr.makeSlice 23 (.int .i64 4) (.int .i64 4)).run Try.prog w = .ok (.slice (some ⟨w.heap.size, 0, none⟩) 4 4) (w.alloc (.cells #[Value.int .u8 0, Value.int .u8 0, Value.int .u8 0, Value.int .u8 0] 5)) := fun _ => by kernel_rfl
  have h2 := Lib.hid h1
  clear h1
  go_enter Try.func22, Try.ntmps22
  go_wp2_with (go_at_call 68; go_in)
  go_rounds 5
  go_ret
  refine ⟨rfl, ?_⟩
  have h1 := h2.out
  congr 2
  simp only [leC, leB, nums, List.map_cons, List.map_nil]
  simp only [List.cons.injEq, Value.int.injEq, true_and, and_true, Array.mk.injEq]
  repeat' (first | (refine ⟨?_, ?_⟩) | omega)
theorem put64 (x : Int) (w : World) (h0 : 0 ≤ x) (h1 : x < 256 ^ 8) :
    Calls Try.prog 23 #[.int .u64 x] w fun e w' => e = .returned (.slice (some ⟨w.heap.size, 0, none⟩) 8 8) ∧ w' = w.alloc (.cells (leC 8 x) 5) := by
  have hmk : ∀ w, (Instr.makeSlice 23 (.int .i64 8) (.int .i64 8)).run Try.prog w = .ok (.slice (some ⟨w.heap.size, 0, none⟩) 8 8) (w.alloc (.cells #[Value.int .u8 0, Value.int .u8 0, Value.int .u8 0, Value.int .u8 0, Value.int .u8 0, Value.int .u8 0, Value.int .u8 0, Value.int .u8 0] 5)) := fun _ => by kernel_rfl
  have h2 := Lib.hid h1
  clear h1
  go_enter Try.func23, Try.ntmps23
  go_wp2_with (go_at_call 69; go_in)
  go_rounds 9
  go_ret
  refine ⟨rfl, ?_⟩
  have h1 := h2.out
  congr 2
  simp only [leC, leB, nums, List.map_cons, List.map_nil]
  simp only [List.cons.injEq, Value.int.injEq, true_and, and_true, Array.mk.injEq]
  repeat' (first | (refine ⟨?_, ?_⟩) | omega)
theorem get16_cells (x0 x1 : Int) (w : World) (b o n c at_ : Nat) (h : at_ + 2 ≤ n) (hn : n ≤ 1000000)
    (g0 : 0 ≤ x0 ∧ x0 < 256) (g1 : 0 ≤ x1 ∧ x1 < 256)
    (c0 : w.cell? ⟨b, o + at_, none⟩ = some (.int .u8 x0)) (c1 : w.cell? ⟨b, o + (at_ + 1), none⟩ = some (.int .u8 x1)) :
    Calls Try.prog 28 #[.slice (some ⟨b, o, none⟩) n c, .int .i64 at_] w fun e w' => e = .returned (.tuple #[.int .u16 (leN [x0, x1]), .bool true]) ∧ w = w' := by
  have d1 : decide ((at_ : Int) < 0) = false := by simp
  have d2 : decide ((n : Int) - 2 < (at_ : Int)) = false := by simp; omega
  go_enter Try.func28, Try.ntmps28
  go_wp2_with (go_at_call 70; go_in)
  go_rounds 3
  go_ret2
  refine ⟨?_, rfl⟩
  simp (disch := omega) only [u16_or_0, u16_or_8]
  simp only [leN, Array.getD_eq_getD_getElem?, List.getElem?_toArray, List.getElem?_cons_succ, List.getElem?_cons_zero, Option.getD_some]
  have e : ∀ a b : Int, a = b → Ending.returned (.tuple #[Value.int .u16 a, .bool true]) = .returned (.tuple #[Value.int .u16 b, .bool true]) := fun a b h => by rw [h]
  exact e _ _ (by omega)
theorem get16_ok (A : Option Addr) (n c at_ : Nat) (bs : List Int) (w : World) (hn : bs.length = n) (hb : n ≤ 1000000) (hB : Byt bs) (hM : InM w A (nums .u8 bs)) (h : at_ + 2 ≤ n) :
    Calls Try.prog 28 #[.slice A n c, .int .i64 at_] w fun e w' => e = .returned (.tuple #[.int .u16 (getB bs at_ 2), .bool true]) ∧ w = w' := by
  obtain ⟨b, o, rfl, _, k0⟩ := hM.num (k := at_) (by omega)
  have hc : ∀ i (hi : at_ + i < bs.length), w.cell? ⟨b, o + (at_ + i), none⟩ = some (.int .u8 bs[at_ + i]) := fun i hi => hM.cell (nums_at hi)
  have e : getB bs at_ 2 = leN [bs[at_], bs[at_ + 1]] := by
    unfold getB
    rw [seg_succ (by omega), seg_succ (by omega), List.take_zero]
  rw [e]
  exact get16_cells _ _ w b o n c at_ h hb (byt_at hB _) (byt_at hB _) k0 (hc 1 (by omega))
theorem get16_no (A : Option Addr) (n c : Nat) (a : Int) (w : World) (hb : n ≤ 1000000) (h : a < 0 ∨ (n : Int) - 2 < a) :
    Calls Try.prog 28 #[.slice A n c, .int .i64 a] w fun e w' => e = .returned (.tuple #[.int .u16 0, .bool false]) ∧ w = w' := by
  by_cases h0 : a < 0
  · go_enter Try.func28, Try.ntmps28
    go_wp2_with (go_at_call 70; go_in)
    go_ret2
    exact ⟨rfl, rfl⟩
  · have d1 : decide (a < 0) = false := by simp; omega
    have d2 : decide ((n : Int) - 2 < a) = true := by simp; omega
    clear h
    go_enter Try.func28, Try.ntmps28
    go_wp2_with (go_at_call 70; go_in)
    go_ret2
    exact ⟨rfl, rfl⟩
theorem get32_cells (x0 x1 x2 x3 : Int) (w : World) (b o n c at_ : Nat) (h : at_ + 4 ≤ n) (hn : n ≤ 1000000)
    (g0 : 0 ≤ x0 ∧ x0 < 256) (g1 : 0 ≤ x1 ∧ x1 < 256) (g2 : 0 ≤ x2 ∧ x2 < 256) (g3 : 0 ≤ x3 ∧ x3 < 256)
    (c0 : w.cell? ⟨b, o + at_, none⟩ = some (.int .u8 x0)) (c1 : w.cell? ⟨b, o + (at_ + 1), none⟩ = some (.int .u8 x1)) (c2 : w.cell? ⟨b, o + (at_ + 2), none⟩ = some (.int .u8 x2)) (c3 : w.cell? ⟨b, o + (at_ + 3), none⟩ = some (.int .u8 x3)) :
    Calls Try.prog 29 #[.slice (some ⟨b, o, none⟩) n c, .int .i64 at_] w fun e w' => e = .returned (.tuple #[.int .u32 (leN [x0, x1, x2, x3]), .bool true]) ∧ w = w' := by
  have d1 : decide ((at_ : Int) < 0) = false := by simp
  have d2 : decide ((n : Int) - 4 < (at_ : Int)) = false := by simp; omega
  go_enter Try.func29, Try.ntmps29
  go_wp2_with (go_at_call 71; go_in)
  go_rounds 5
  go_ret2
  refine ⟨?_, rfl⟩
  simp (disch := omega) only [u32_or_0, u32_or_8, u32_or_16, u32_or_24]
  simp only [leN, Array.getD_eq_getD_getElem?, List.getElem?_toArray, List.getElem?_cons_succ, List.getElem?_cons_zero, Option.getD_some]
  have e : ∀ a b : Int, a = b → Ending.returned (.tuple #[Value.int .u32 a, .bool true]) = .returned (.tuple #[Value.int .u32 b, .bool true]) := fun a b h => by rw [h]
  exact e _ _ (by omega)
theorem get32_ok (A : Option Addr) (n c at_ : Nat) (bs : List Int) (w : World) (hn : bs.length = n) (hb : n ≤ 1000000) (hB : Byt bs) (hM : InM w A (nums .u8 bs)) (h : at_ + 4 ≤ n) :
    Calls Try.prog 29 #[.slice A n c, .int .i64 at_] w fun e w' => e = .returned (.tuple #[.int .u32 (getB bs at_ 4), .bool true]) ∧ w = w' := by
  obtain ⟨b, o, rfl, _, k0⟩ := hM.num (k := at_) (by omega)
  have hc : ∀ i (hi : at_ + i < bs.length), w.cell? ⟨b, o + (at_ + i), none⟩ = some (.int .u8 bs[at_ + i]) := fun i hi => hM.cell (nums_at hi)
  have e : getB bs at_ 4 = leN [bs[at_], bs[at_ + 1], bs[at_ + 2], bs[at_ + 3]] := by
    unfold getB
    rw [seg_succ (by omega), seg_succ (by omega), seg_succ (by omega), seg_succ (by omega), List.take_zero]
  rw [e]
  exact get32_cells _ _ _ _ w b o n c at_ h hb (byt_at hB _) (byt_at hB _) (byt_at hB _) (byt_at hB _) k0 (hc 1 (by omega)) (hc 2 (by omega)) (hc 3 (by omega))
theorem get32_no (A : Option Addr) (n c : Nat) (a : Int) (w : World) (hb : n ≤ 1000000) (h : a < 0 ∨ (n : Int) - 4 < a) :
    Calls Try.prog 29 #[.slice A n c, .int .i64 a] w fun e w' => e = .returned (.tuple #[.int .u32 0, .bool false]) ∧ w = w' := by
  by_cases h0 : a < 0
  · go_enter Try.func29, Try.ntmps29
    go_wp2_with (go_at_call 71; go_in)
    go_ret2
    exact ⟨rfl, rfl⟩
  · have d1 : decide (a < 0) = false := by simp; omega
    have d2 : decide ((n : Int) - 4 < a) = true := by simp; omega
    clear h
    go_enter Try.func29, Try.ntmps29
    go_wp2_with (go_at_call 71; go_in)
    go_ret2
    exact ⟨rfl, rfl⟩
theorem get64_cells (x0 x1 x2 x3 x4 x5 x6 x7 : Int) (w : World) (b o n c at_ : Nat) (h : at_ + 8 ≤ n) (hn : n ≤ 1000000)
    (g0 : 0 ≤ x0 ∧ x0 < 256) (g1 : 0 ≤ x1 ∧ x1 < 256) (g2 : 0 ≤ x2 ∧ x2 < 256) (g3 : 0 ≤ x3 ∧ x3 < 256) (g4 : 0 ≤ x4 ∧ x4 < 256) (g5 : 0 ≤ x5 ∧ x5 < 256) (g6 : 0 ≤ x6 ∧ x6 < 256) (g7 : 0 ≤ x7 ∧ x7 < 256)
    (c0 : w.cell? ⟨b, o + at_, none⟩ = some (.int .u8 x0)) (c1 : w.cell? ⟨b, o + (at_ + 1), none⟩ = some (.int .u8 x1)) (c2 : w.cell? ⟨b, o + (at_ + 2), none⟩ = some (.int .u8 x2)) (c3 : w.cell? ⟨b, o + (at_ + 3), none⟩ = some (.int .u8 x3)) (c4 : w.cell? ⟨b, o + (at_ + 4), none⟩ = some (.int .u8 x4)) (c5 : w.cell? ⟨b, o + (at_ + 5), none⟩ = some (.int .u8 x5)) (c6 : w.cell? ⟨b, o + (at_ + 6), none⟩ = some (.int .u8 x6)) (c7 : w.cell? ⟨b, o + (at_ + 7), none⟩ = some (.int .u8 x7)) :
    Calls Try.prog 30 #[.slice (some ⟨b, o, none⟩) n c, .int .i64 at_] w fun e w' => e = .returned (.tuple #[.int .u64 (leN [x0, x1, x2, x3, x4, x5, x6, x7]), .bool true]) ∧ w = w' := by
  have d1 : decide ((at_ : Int) < 0) = false := by simp
  have d2 : decide ((n : Int) - 8 < (at_ : Int)) = false := by simp; omega
  go_enter Try.func30, Try.ntmps30
  go_wp2_with (go_at_call 72; go_in)
  go_rounds 9
  go_ret2
  refine ⟨?_, rfl⟩
  simp (disch := omega) only [u64_or_0, u64_or_8, u64_or_16, u64_or_24, u64_or_32, u64_or_40, u64_or_48, u64_or_56]
  simp only [leN, Array.getD_eq_getD_getElem?, List.getElem?_toArray, List.getElem?_cons_succ, List.getElem?_cons_zero, Option.getD_some]
  have e : ∀ a b : Int, a = b → Ending.returned (.tuple #[Value.int .u64 a, .bool true]) = .returned (.tuple #[Value.int .u64 b, .bool true]) := fun a b h => by rw [h]
  exact e _ _ (by omega)
theorem get64_ok (A : Option Addr) (n c at_ : Nat) (bs : List Int) (w : World) (hn : bs.length = n) (hb : n ≤ 1000000) (hB : Byt bs) (hM : InM w A (nums .u8 bs)) (h : at_ + 8 ≤ n) :
    Calls Try.prog 30 #[.slice A n c, .int .i64 at_] w fun e w' => e = .returned (.tuple #[.int .u64 (getB bs at_ 8), .bool true]) ∧ w = w' := by
  obtain ⟨b, o, rfl, _, k0⟩ := hM.num (k := at_) (by omega)
  have hc : ∀ i (hi : at_ + i < bs.length), w.cell? ⟨b, o + (at_ + i), none⟩ = some (.int .u8 bs[at_ + i]) := fun i hi => hM.cell (nums_at hi)
  have e : getB bs at_ 8 = leN [bs[at_], bs[at_ + 1], bs[at_ + 2], bs[at_ + 3], bs[at_ + 4], bs[at_ + 5], bs[at_ + 6], bs[at_ + 7]] := by
    unfold getB
    rw [seg_succ (by omega), seg_succ (by omega), seg_succ (by omega), seg_succ (by omega), seg_succ (by omega), seg_succ (by omega), seg_succ (by omega), seg_succ (by omega), List.take_zero]
  rw [e]
  exact get64_cells _ _ _ _ _ _ _ _ w b o n c at_ h hb (byt_at hB _) (byt_at hB _) (byt_at hB _) (byt_at hB _) (byt_at hB _) (byt_at hB _) (byt_at hB _) (byt_at hB _) k0 (hc 1 (by omega)) (hc 2 (by omega)) (hc 3 (by omega)) (hc 4 (by omega)) (hc 5 (by omega)) (hc 6 (by omega)) (hc 7 (by omega))
theorem get64_no (A : Option Addr) (n c : Nat) (a : Int) (w : World) (hb : n ≤ 1000000) (h : a < 0 ∨ (n : Int) - 8 < a) :
    Calls Try.prog 30 #[.slice A n c, .int .i64 a] w fun e w' => e = .returned (.tuple #[.int .u64 0, .bool false]) ∧ w = w' := by
  by_cases h0 : a < 0
  · go_enter Try.func30, Try.ntmps30
    go_wp2_with (go_at_call 72; go_in)
    go_ret2
    exact ⟨rfl, rfl⟩
  · have d1 : decide (a < 0) = false := by simp; omega
    have d2 : decide ((n : Int) - 8 < a) = true := by simp; omega
    clear h
    go_enter Try.func30, Try.ntmps30
    go_wp2_with (go_at_call 72; go_in)
    go_ret2
    exact ⟨rfl, rfl⟩
end Go.Proofs.Ytlicndonhmcmmaa
