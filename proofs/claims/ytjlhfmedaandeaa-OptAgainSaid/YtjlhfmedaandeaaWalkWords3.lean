import Derived.Test.YtjlhfmedaandeaaWords
namespace Go.Proofs.Ytjlhfmedaandeaa
open Go.RowKit Go.ChangeShapes Go.WideShapes
set_option linter.unusedVariables false

theorem gv_shift (us bs : List Int) (k : Nat) (a : Int) (h : 0 ≤ a) : gv (us ++ bs) ((us.length : Int) + a) k = gv bs a k ∧ gb (us ++ bs).length ((us.length : Int) + a) k = gb bs.length a k := by
  have e : gb (us ++ bs).length ((us.length : Int) + a) k = gb bs.length a k := by
    unfold gb
    rw [List.length_append, decide_eq_decide]
    omega
  refine ⟨?_, e⟩
  unfold gv
  rw [e]
  by_cases h2 : gb bs.length a k = true
  · rw [if_pos h2, if_pos h2]
    unfold getB
    rw [show ((us.length : Int) + a).toNat = us.length + a.toNat from by omega, List.drop_append, List.drop_eq_nil_of_le (by omega), List.nil_append, Nat.add_sub_cancel_left]
  · rw [if_neg h2, if_neg h2]
theorem gv_front (us bs : List Int) (k : Nat) (a : Int) (h : gb us.length a k = true) : gv (us ++ bs) a k = gv us a k ∧ gb (us ++ bs).length a k = true := by
  have h1 : 0 ≤ a ∧ a ≤ (us.length : Int) - k := by simpa [gb] using h
  have e : gb (us ++ bs).length a k = true := gb_yes (by rw [List.length_append]; omega)
  refine ⟨?_, e⟩
  unfold gv
  rw [if_pos e, if_pos h]
  unfold getB
  rw [List.drop_append_of_le_length (by omega), List.take_append_of_le_length (by rw [List.length_drop]; omega)]

end Go.Proofs.Ytjlhfmedaandeaa
