import Derived.Test.YtkejcfbhikpibaaVm10
/- vm: plain laws of a run. -/
namespace Go.Proofs.Ytkejcfbhikpibaa
open Go.RowKit
set_option linter.unusedVariables false
set_option linter.unusedSimpArgs false

structure Good (n : Nat) (R : Res) : Prop where
  up : R.tr.Pairwise (· < ·)
  lt : ∀ x ∈ R.tr, x < n
  zero : R.tr.head? = some 0 ∨ R.tr = []
  len : R.tr.length ≤ n
  le : R.steps ≤ R.tr.length
  ge : R.tr.length ≤ R.steps + 1
  bad : R.err ≠ 0 → R.ans = 0
  fine : R.err = 0 → R.tr.length = R.steps
theorem beh_ne (c : Int) : behE c ≠ 0 := by unfold behE; split <;> decide
theorem runE_good (d : Dat) (ps : List Ins) : ∀ (f at_ : Nat) (s : Vm) (beh : Int) (tr : List Nat), beh ≠ 0 → tr.Pairwise (· < ·) → (∀ x ∈ tr, x < at_ ∧ x < ps.length) → (tr.head? = some 0 ∨ (tr = [] ∧ at_ = 0)) → tr.length ≤ at_ → tr.length ≤ ps.length →
    Good ps.length (runE d ps f at_ s beh tr)
  | 0, at_, s, beh, tr, hb, h1, h2, h3, h4, h5 => ⟨h1, fun x hx => (h2 x hx).2, h3.imp id (·.1), h5, Nat.le_refl _, Nat.le_succ _, fun h => rfl, fun _ => rfl⟩
  | f + 1, at_, s, beh, tr, hb, h1, h2, h3, h4, h5 => by
    have up : at_ < ps.length → (tr ++ [at_]).Pairwise (· < ·) ∧ (∀ x ∈ tr ++ [at_], x < at_ + 1 ∧ x < ps.length) ∧ (tr ++ [at_]).head? = some 0 := fun h => by
      refine ⟨List.pairwise_append.2 ⟨h1, List.pairwise_singleton _ _, fun x hx y hy => ?_⟩, fun x hx => ?_, ?_⟩
      · rw [List.mem_singleton.1 hy]; exact (h2 x hx).1
      · rcases List.mem_append.1 hx with k | k
        · have := h2 x k; omega
        · rw [List.mem_singleton.1 k]; omega
      · rcases h3 with k | ⟨rfl, rfl⟩
        · rw [List.head?_append, k]; rfl
        · rfl
    unfold runE
    split
    · exact ⟨h1, fun x hx => (h2 x hx).2, h3.imp id (·.1), h5, Nat.le_refl _, Nat.le_succ _, fun h => absurd rfl h, fun _ => rfl⟩
    split
    · rename_i hlt
      obtain ⟨u1, u2, u3⟩ := up hlt
      split
      · refine runE_good d ps f _ _ _ _ (beh_ne _) u1 (fun x hx => ?_) (.inl u3) ?_ ?_
        · have := u2 x hx; omega
        · simp; omega
        · simp; omega
      · rename_i he
        exact ⟨u1, fun x hx => (u2 x hx).2, .inl u3, by simp; omega, by simp, by simp, fun _ => rfl, fun h => absurd h he⟩
    · exact ⟨h1, fun x hx => (h2 x hx).2, h3.imp id (·.1), h5, Nat.le_refl _, Nat.le_succ _, fun h => rfl, fun h => absurd h hb⟩
theorem run_good (d : Dat) (ps : List Ins) : Good ps.length (runR d ps) :=
  runE_good d ps _ _ _ _ _ (by decide) List.Pairwise.nil (fun x hx => by cases hx) (.inr ⟨rfl, rfl⟩) (Nat.le_refl _) (Nat.zero_le _)
end Go.Proofs.Ytkejcfbhikpibaa
