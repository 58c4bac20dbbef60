import Derived.Test.YtkejcfbhikpibaaCells11
import Derived.Laws.Bits64b
/- math/bits.Mul by one; slices.Repeat of one mask. -/
namespace Go.Proofs.Ytkejcfbhikpibaa
open Go.RowKit Go.ChangeShapes Go.WideShapes
set_option linter.unusedVariables false
set_option linter.unusedSimpArgs false

theorem low_u64 (n : Nat) (hn : n ≤ 100000) : bits .and .u64 (n : Int) 4294967295 = n := by
  have h := bits_and_u64_nat n 4294967295 (by omega) (by omega)
  rw [show ((4294967295 : Nat) : Int) = 4294967295 from rfl] at h
  rw [h]
  rw [show (4294967295 : Nat) = 2 ^ 32 - 1 from rfl, Nat.and_two_pow_sub_one_eq_mod, Nat.mod_eq_of_lt (by omega)]
set_option maxRecDepth 100000 in
theorem mul64_one (n : Nat) (hn : n ≤ 100000) (w : World) :
    Calls Try.prog 76 #[.int .u64 1, .int .u64 n] w fun e w' => e = .returned (.tuple #[.int .u64 0, .int .u64 n]) ∧ w = w' := by
  have l1 := low_u64 n hn
  have l2 : bits .and .u64 1 4294967295 = 1 := by decide
  have l3 : bits .and .u64 0 4294967295 = 0 := by decide
  have d1 : (n : Int) / 4294967296 = 0 := by omega
  have w1 : IntKind.u64.wrap (1 * (n : Int)) = n := by rw [Int.one_mul]; exact IntWalk.u64_in _ (by omega)
  have w2 : IntKind.u64.wrap ((n : Int)) = n := IntWalk.u64_in _ (by omega)
  go_enter Try.func76, Try.ntmps76
  go_wp2
  go_ret2
  exact ⟨rfl, rfl⟩
set_option maxRecDepth 100000 in
theorem mul_one' (n : Nat) (hn : n ≤ 100000) (w : World) :
    Calls Try.prog 62 #[.int .u64 1, .int .u64 n] w fun e w' => e = .returned (.tuple #[.int .u64 0, .int .u64 n]) ∧ w = w' := by
  have H := Lib.hid (mul64_one n hn w)
  have w2 : IntKind.u64.wrap ((n : Int)) = n := IntWalk.u64_in _ (by omega)
  go_enter Try.func62, Try.ntmps62
  go_wp2_with fail
  refine (H.out).mono ?_
  rintro e w1 ⟨rfl, rfl⟩
  go_wp2
  go_ret2
  exact ⟨rfl, rfl⟩
end Go.Proofs.Ytkejcfbhikpibaa
