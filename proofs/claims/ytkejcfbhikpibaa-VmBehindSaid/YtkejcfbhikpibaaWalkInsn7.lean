import Derived.Test.YtkejcfbhikpibaaAwake2
import Derived.Test.YtkejcfbhikpibaaPrg
namespace Go.Proofs.Ytkejcfbhikpibaa
open Go.RowKit Go.ChangeShapes Go.WideShapes
set_option linter.unusedVariables false
set_option linter.unusedSimpArgs false

/-- A slice of no element with room for c, just made, is the call's own. -/
theorem own_made {w : World} {t : TypeId} {z : Array Value} {size c base : Nat} (hb : base ≤ w.heap.size) (hc : c ≤ 1000000) : (w.alloc (.cells (madeCells z (c * size)) t)).ownsRow base t size (.slice (some ⟨w.heap.size, 0, none⟩) 0 c) 0 [] :=
  ⟨by simp, .inr ⟨_, c, madeCells z (c * size), rfl, hb, heap_alloc_new w _, Nat.zero_le _, by unfold maxLen; omega, size_madeCells _ _, by simp⟩⟩

end Go.Proofs.Ytkejcfbhikpibaa
