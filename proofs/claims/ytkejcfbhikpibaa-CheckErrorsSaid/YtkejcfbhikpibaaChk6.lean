import Derived.Test.YtkejcfbhikpibaaChk5
import Derived.Test.YtkejcfbhikpibaaCells4
/- check.Check; the document's At. -/
namespace Go.Proofs.Ytkejcfbhikpibaa
open Go.RowKit Go.ChangeShapes Go.WideShapes
set_option linter.unusedVariables false
set_option linter.unusedSimpArgs false

set_option maxRecDepth 100000 in
theorem checkCheck (A : Option Addr) (n c : Nat) (ps : List Ins) (w : World) (hp : ps.length = n) (hok : ∀ i ∈ ps, i.ok) (hb : n ≤ 100000) (hM : InM w A (pc ps)) :
    Calls Try.prog 24 #[.slice A n c] w fun e w' => e = .returned (.int .i64 (atE ps).2) ∧ Ext w w' := by
  have H := Lib.hid (checkAt A n c ps w hp hok hb hM)
  clear hp hok hM
  go_enter Try.func24, Try.ntmps24
  go_wp2_with fail
  refine (H.out).mono ?_
  rintro e w1 ⟨rfl, hx⟩
  go_wp2
  go_ret
  exact ⟨rfl, hx⟩
end Go.Proofs.Ytkejcfbhikpibaa
