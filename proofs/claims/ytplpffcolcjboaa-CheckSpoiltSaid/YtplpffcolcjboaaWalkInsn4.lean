import Derived.Test.YtplpffcolcjboaaPrg
namespace Go.Proofs.Ytplpffcolcjboaa
open Go.RowKit Go.ChangeShapes Go.WideShapes
set_option linter.unusedVariables false
set_option linter.unusedSimpArgs false

theorem rep4 : ∀ n : Nat, (madeCells #[Value.int .u16 0, .int .u8 0, .int .u8 0, .int .u32 0] (n * 4)).toList = pc (List.replicate n zeroI) := fun n => by
  apply List.ext_getElem?
  intro j
  by_cases hj : j < n * 4
  · have hq : j / 4 < (List.replicate n zeroI).length := by rw [List.length_replicate]; omega
    have := pc_at (List.replicate n zeroI) (j / 4) (j % 4) hq (by omega)
    rw [show j / 4 * 4 + j % 4 = j from by omega] at this
    rw [this, List.getElem_replicate]
    have h4 : j % 4 < 4 := by omega
    simp only [madeCells, Array.toList_map, List.getElem?_map, Array.toList_range, List.getElem?_range hj, Option.map_some]
    have e : (#[Value.int .u16 0, .int .u8 0, .int .u8 0, .int .u32 0] : Array Value).size = 4 := rfl
    rw [e]
    generalize j % 4 = r at *
    match r, h4 with
    | 0, _ => rfl
    | 1, _ => rfl
    | 2, _ => rfl
    | 3, _ => rfl
  · rw [List.getElem?_eq_none, List.getElem?_eq_none]
    · rw [pc_length, List.length_replicate]; omega
    · rw [Array.length_toList, size_madeCells]; omega
end Go.Proofs.Ytplpffcolcjboaa
