import Derived.Test.YtkejcfbhikpibaaPrg
import Derived.Test.YtkejcfbhikpibaaInsnB
namespace Go.Proofs.Ytkejcfbhikpibaa
open Go.RowKit Go.ChangeShapes Go.WideShapes
set_option linter.unusedVariables false
set_option linter.unusedSimpArgs false

theorem withX_const (a : Int) (b : Bool) (h : takesX a = b) (W : World) : Calls Try.prog 93 #[.int .u16 a] W fun e w' => e = .returned (.bool b) ∧ Ext W w' := by
  have := withX_any a W
  rwa [h] at this

end Go.Proofs.Ytkejcfbhikpibaa
