import Derived.Test.YtkejcfbhikpibaaCells19
/- The document's Sure. -/
namespace Go.Proofs.Ytkejcfbhikpibaa
open Go.RowKit Go.ChangeShapes Go.WideShapes
set_option linter.unusedVariables false
set_option linter.unusedSimpArgs false

theorem rstart_zero : rstart 0 = [] := rfl
theorem pow16_wrap (m : Nat) (hm : m < 16) : IntKind.u16.wrap ((2 : Int) ^ m) = ((2 ^ m : Nat) : Int) := by
  have hp : 2 ^ m < 65536 := Nat.lt_of_lt_of_le (Nat.pow_lt_pow_right (by omega) hm) (by decide)
  have e : ((2 : Int) ^ m) = ((2 ^ m : Nat) : Int) := by simp
  rw [e]
  generalize 2 ^ m = x at *
  exact IntWalk.u16_in _ (by omega)
end Go.Proofs.Ytkejcfbhikpibaa
