import Derived.Test.YtkejcfbhikpibaaVm13
import Derived.Test.YtkejcfbhikpibaaVm11
/- vm: what is put behind a program that tells an answer changes nothing. -/
namespace Go.Proofs.Ytkejcfbhikpibaa
open Go.RowKit
set_option linter.unusedVariables false
set_option linter.unusedSimpArgs false

theorem runE_more (d : Dat) (ps qs : List Ins) : ∀ (f at_ : Nat) (s : Vm) (beh : Int) (tr : List Nat) (f2 : Nat), ps.length + 1 ≤ f + at_ → ps.length + qs.length + 1 ≤ f2 + at_ → beh ≠ 0 → (runE d ps (f + 1) at_ s beh tr).err = 0 →
    runE d (ps ++ qs) (f2 + 1) at_ s beh tr = runE d ps (f + 1) at_ s beh tr := by
  intro f
  induction f with
  | zero =>
    intro at_ s beh tr f2 h1 h2 hb he
    cases ho : s.over with
    | true => rw [run_over ho, run_over ho]
    | false =>
      rw [run_end ho (by omega)] at he
      exact absurd he hb
  | succ f ih =>
    intro at_ s beh tr f2 h1 h2 hb he
    cases ho : s.over with
    | true => rw [run_over ho, run_over ho]
    | false =>
      by_cases hlt : at_ < ps.length
      · have hg : (ps ++ qs)[at_]'(by rw [List.length_append]; omega) = ps[at_] := List.getElem_append_left hlt
        by_cases hs : (stepE d ps[at_] s).2.2 = 0
        · rw [run_step ho hlt hs] at he ⊢
          obtain ⟨f2, rfl⟩ : ∃ k, f2 = k + 1 := ⟨f2 - 1, by omega⟩
          rw [run_step ho (by rw [List.length_append]; omega) (by rw [hg]; exact hs), hg]
          exact ih _ _ _ _ _ (by omega) (by omega) (beh_ne _) he
        · rw [run_err ho hlt hs] at he
          exact absurd he hs
      · rw [run_end ho hlt] at he
        exact absurd he hb
theorem run_more (d : Dat) (ps qs : List Ins) (h : (runR d ps).err = 0) : runR d (ps ++ qs) = runR d ps := by
  unfold runR at *
  exact runE_more d ps qs (ps.length + 1) 0 vm0 46 [] _ (by omega) (by rw [List.length_append]; omega) (by decide) h
end Go.Proofs.Ytkejcfbhikpibaa
