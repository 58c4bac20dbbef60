import Derived.Test.YtjlhfmedaandeaaChkC
import Derived.Test.YtjlhfmedaandeaaVmC
/- A program that is taken tells an answer: plain law. -/
namespace Go.Proofs.Ytjlhfmedaandeaa
open Go.RowKit
set_option linter.unusedVariables false
set_option linter.unusedSimpArgs false

theorem one_zero (i : Ins) (l : Int) (h : oneE i l = 0) : wr1 i = false ∧ wr2 i = false ∧ wr3 i = false ∧ wr4 i = false ∧ wr5 i = false ∧ wr6 i (max l 0) = false := by
  unfold oneE at h
  cases h1 : wr1 i
  · cases h2 : wr2 i
    · cases h3 : wr3 i
      · cases h4 : wr4 i
        · cases h5 : wr5 i
          · cases h6 : wr6 i (max l 0)
            · exact ⟨rfl, rfl, rfl, rfl, rfl, rfl⟩
            · simp [h1, h2, h3, h4, h5, h6] at h
          · simp [h1, h2, h3, h4, h5] at h
        · simp [h1, h2, h3, h4] at h
      · simp [h1, h2, h3] at h
    · simp [h1, h2] at h
  · simp [h1] at h
theorem step_fine (i : Ins) (hi : i.ok) (l : Int) (hl : 0 ≤ l) (h : oneE i l = 0) (d : Dat) (s : Vm) :
    (stepE d i s).2.2 = 0 ∧ (clsOf i.code = 5 → (stepE d i s).1.over = true) ∧ ((stepE d i s).2.1 = 0 ∨ (clsOf i.code = 4 ∧ (stepE d i s).2.1 < l)) := by
  obtain ⟨w1, w2, w3, w4, w5, w6⟩ := one_zero i l h
  rw [show max l 0 = l by omega] at w6
  have hk : 0 ≤ i.k := hi.2.2.2.1
  have c0 : clsOf i.code ≠ 0 := fun e => by
    rcases class_of i.code with ⟨_, k⟩ | ⟨e', he, _, k2, k⟩
    · unfold wr1 at w1; rw [k] at w1; cases w1
    · have := (ent_class e' he).2.2.2.2.2.2
      omega
  unfold stepE
  rcases class_any i.code with c | c | c | c | c | c | c
  · exact absurd c c0
  · simp only [c, if_true]
    refine ⟨?_, fun e => by omega, by simp⟩
    unfold loadE
    unfold wr2 at w2
    unfold wr3 at w3
    (repeat' split) <;> first | rfl | skip
    · rename_i h32 hw
      exfalso
      apply hw
      unfold wordErr
      rw [if_pos]
      unfold wordOk
      simp [h32] at w2 ⊢
      omega
    · rename_i h96 hw
      exfalso
      simp [h96] at w3
      omega
    · rename_i h97 hw
      exfalso
      simp [h97] at w3
      omega
  · have hk16 : i.k < 16 := by
      unfold wr3 at w3
      simp [c] at w3
      omega
    simp [c, hk16]
  · simp only [c]
    refine ⟨?_, fun e => by omega, by simp⟩
    show (numberE i s).2 = 0
    unfold numberE
    unfold wr4 at w4
    unfold wr5 at w5
    have nox : i.code = 52 ∨ i.code = 100 ∨ i.code = 116 → secondE i s = i.k := fun h => by
      unfold secondE
      rw [if_neg]
      rcases h with h | h | h <;> rw [h] <;> decide +kernel
    (repeat' split) <;> first | rfl | skip
    · rename_i h52
      exfalso
      rw [nox (.inl h52.1)] at h52
      simp [h52.1, h52.2] at w4
    · rename_i h5
      exfalso
      rw [nox (.inr h5.1)] at h5
      rcases h5 with ⟨h5 | h5, h6⟩
      · simp [h5] at w5; omega
      · simp [h5] at w5; omega
  · have hj : jumpE i s < l := by
      unfold jumpE
      unfold wr6 at w6
      split
      · rename_i h5
        simp [h5] at w6
        exact w6
      · rename_i h5
        simp [h5, c] at w6
        split <;> omega
    simp [c, hj]
  · simp [c]
  · simp [c]
theorem runE_halts (d : Dat) (ps : List Ins) (hok : ∀ i ∈ ps, i.ok) (ht : Taken ps) : ∀ (f at_ : Nat) (s : Vm) (beh : Int) (tr : List Nat), ps.length + 1 ≤ f + at_ → (s.over = true ∨ at_ < ps.length) → (runE d ps (f + 1) at_ s beh tr).err = 0 := by
  intro f
  induction f with
  | zero =>
    intro at_ s beh tr h1 h2
    rcases h2 with h | h
    · rw [run_over h]
    · omega
  | succ f ih =>
    intro at_ s beh tr h1 h2
    cases ho : s.over with
    | true => rw [run_over ho]
    | false =>
      have hlt : at_ < ps.length := by
        rcases h2 with h | h
        · rw [ho] at h; cases h
        · exact h
      have he := ht.ok at_ hlt
      unfold errAt at he
      have hg : ps.getD at_ zeroI = ps[at_] := by rw [List.getD_eq_getElem?_getD, List.getElem?_eq_getElem hlt]; rfl
      rw [hg] at he
      obtain ⟨f1, f2, f3⟩ := step_fine ps[at_] (hok _ (List.getElem_mem hlt)) _ (by omega) he d s
      rw [run_step ho hlt f1]
      refine ih _ _ _ _ (by omega) ?_
      by_cases h5 : clsOf (ps[at_]).code = 5
      · exact .inl (f2 h5)
      · right
        have hs := (step_skip d ps[at_] (hok _ (List.getElem_mem hlt)) s).1
        rcases f3 with h | ⟨_, h⟩
        · rw [h]
          have : at_ ≠ ps.length - 1 := fun e => by
            have := ht.last
            rw [← e, hg] at this
            exact h5 this
          simp
          omega
        · omega
theorem run_halts (d : Dat) (ps : List Ins) (hok : ∀ i ∈ ps, i.ok) (h : (atE ps).2 = 0) : (runR d ps).err = 0 ∧ 1 ≤ (runR d ps).steps ∧ (runR d ps).steps ≤ ps.length := by
  have ht := taken_of ps h
  have he : (runR d ps).err = 0 := runE_halts d ps hok ht (ps.length + 1) 0 vm0 46 [] (by omega) (.inr ht.l1)
  have hg := run_good d ps
  refine ⟨he, ?_, Nat.le_trans hg.le hg.len⟩
  have h2 := ht.ok 0 ht.l1
  unfold errAt at h2
  have hgd : ps.getD 0 zeroI = ps[0]'ht.l1 := by rw [List.getD_eq_getElem?_getD, List.getElem?_eq_getElem ht.l1]; rfl
  rw [hgd] at h2
  obtain ⟨f1, _, _⟩ := step_fine (ps[0]'ht.l1) (hok _ (List.getElem_mem ht.l1)) _ (by have := ht.l1; omega) h2 d vm0
  have hm : 0 ∈ (runR d ps).tr := by
    unfold runR
    rw [run_step (f := ps.length + 1) rfl ht.l1 f1]
    exact runE_sub0 d ps _ _ _ _ _ 0 (by simp)
  have : 0 < (runR d ps).tr.length := List.length_pos_of_mem hm
  have := hg.fine he
  omega
where
  runE_sub0 (d : Dat) (ps : List Ins) : ∀ (f at_ : Nat) (s : Vm) (beh : Int) (tr : List Nat), ∀ x ∈ tr, x ∈ (runE d ps f at_ s beh tr).tr
  | 0, _, _, _, _, _, h => h
  | f + 1, at_, s, beh, tr, x, h => by
    unfold runE
    split
    · exact h
    split
    · split
      · exact runE_sub0 d ps f _ _ _ _ x (List.mem_append_left _ h)
      · exact List.mem_append_left _ h
    · exact h
end Go.Proofs.Ytjlhfmedaandeaa
