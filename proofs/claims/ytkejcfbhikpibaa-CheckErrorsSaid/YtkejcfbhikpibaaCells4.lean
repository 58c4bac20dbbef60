import Derived.Test.YtkejcfbhikpibaaCells3
import Derived.Test.YtkejcfbhikpibaaInsnB
/- The document's Next. -/
namespace Go.Proofs.Ytkejcfbhikpibaa
open Go.RowKit Go.ChangeShapes Go.WideShapes
set_option linter.unusedVariables false
set_option linter.unusedSimpArgs false

theorem one_field2 (c q : Int) (s : ByteArray) (W : World) : (Instr.field 66 (.agg #[.int .u16 c, .string s, .int .u8 q]) 2).run Try.prog W = .ok (.int .u8 q) W := by kernel_rfl
theorem wayL_one {i : Ins} {a z size : Int} (h : wayRaw i a = [z]) : wayL i a size = if z < size then [z] else [] := by
  unfold wayL
  rw [h]
  by_cases hz : z < size <;> simp [hz]
theorem wayL_two {i : Ins} {a x y size : Int} (h : wayRaw i a = [x, y]) (hxy : x < y) : wayL i a size = if y < size then [x, y] else if x < size then [x] else [] := by
  unfold wayL
  rw [h]
  by_cases hy : y < size
  · simp [hy, show x < size by omega]
  · by_cases hx : x < size <;> simp [hx, hy]

end Go.Proofs.Ytkejcfbhikpibaa
