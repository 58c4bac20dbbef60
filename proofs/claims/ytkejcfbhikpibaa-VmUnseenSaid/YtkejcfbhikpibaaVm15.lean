import Derived.Test.YtkejcfbhikpibaaVm13
import Derived.Test.YtkejcfbhikpibaaVm11
/- vm: a run sees only what is done, and only the data that is loaded. -/
namespace Go.Proofs.Ytkejcfbhikpibaa
open Go.RowKit
set_option linter.unusedVariables false
set_option linter.unusedSimpArgs false

theorem runE_sub (d : Dat) (ps : List Ins) : ∀ (f at_ : Nat) (s : Vm) (beh : Int) (tr : List Nat), ∀ x ∈ tr, x ∈ (runE d ps f at_ s beh tr).tr
  | 0, _, _, _, _, _, h => h
  | f + 1, at_, s, beh, tr, x, h => by
    unfold runE
    split
    · exact h
    split
    · split
      · exact runE_sub d ps f _ _ _ _ x (List.mem_append_left _ h)
      · exact List.mem_append_left _ h
    · exact h
theorem runE_same (d d' : Dat) (ps qs : List Ins) (hl : qs.length = ps.length) : ∀ (f at_ : Nat) (s : Vm) (beh : Int) (tr : List Nat),
    (∀ k ∈ (runE d ps f at_ s beh tr).tr, qs.getD k zeroI = ps.getD k zeroI ∧ ∀ s, stepE d' (ps.getD k zeroI) s = stepE d (ps.getD k zeroI) s) → runE d' qs f at_ s beh tr = runE d ps f at_ s beh tr
  | 0, _, _, _, _, _ => rfl
  | f + 1, at_, s, beh, tr, h => by
    conv => lhs; unfold runE
    conv => rhs; unfold runE
    cases ho : s.over with
    | true => simp only [if_true]
    | false =>
      simp only [Bool.false_eq_true, if_false, hl]
      by_cases hlt : at_ < ps.length
      · rw [if_pos hlt, if_pos hlt]
        have hat : at_ ∈ (runE d ps (f + 1) at_ s beh tr).tr := by
          unfold runE
          rw [if_neg (by rw [ho]; decide), if_pos hlt]
          split
          · exact runE_sub d ps f _ _ _ _ at_ (by simp)
          · simp
        obtain ⟨h1, h2⟩ := h at_ hat
        rw [h1, h2 s]
        split
        · rename_i he
          refine runE_same d d' ps qs hl f _ _ _ _ fun k hk => h k ?_
          unfold runE
          rw [if_neg (by rw [ho]; decide), if_pos hlt, if_pos he]
          exact hk
        · rfl
      · rw [if_neg hlt, if_neg hlt]
theorem run_same (d d' : Dat) (ps qs : List Ins) (hl : qs.length = ps.length) (h : ∀ k ∈ (runR d ps).tr, qs.getD k zeroI = ps.getD k zeroI ∧ ∀ s, stepE d' (ps.getD k zeroI) s = stepE d (ps.getD k zeroI) s) : runR d' qs = runR d ps := by
  unfold runR at *
  rw [hl]
  exact runE_same d d' ps qs hl _ _ _ _ _ h
def setArg (d : Dat) (a : Nat) (v : Int) : Dat :=
  match a with
  | 0 => { d with a0 := v }
  | 1 => { d with a1 := v }
  | 2 => { d with a2 := v }
  | 3 => { d with a3 := v }
  | 4 => { d with a4 := v }
  | _ => { d with a5 := v }
theorem word_arg (d : Dat) (a : Nat) (v : Int) (ha : a < 6) (k : Int) (hk : 0 ≤ k) (h : k / 8 ≠ 2 + (a : Int)) : (setArg d a v).word k = d.word k := by
  unfold Dat.word
  split
  · rename_i hw
    have h64 : k < 64 := by unfold wordOk at hw; simp at hw; omega
    obtain ⟨j, hj⟩ : ∃ j : Nat, k / 4 = j := ⟨(k / 4).toNat, by omega⟩
    have hj16 : j < 16 := by omega
    have hne : j / 2 ≠ 2 + a := by omega
    rw [hj, Int.toNat_natCast]
    clear hj hw h64 h hk
    match a, ha with
    | 0, _ => match j, hj16 with
      | 0, _ | 1, _ | 2, _ | 3, _ | 6, _ | 7, _ | 8, _ | 9, _ | 10, _ | 11, _ | 12, _ | 13, _ | 14, _ | 15, _ => rfl
      | 4, _ | 5, _ => exact absurd rfl hne
      | n + 16, h => exact absurd h (by omega)
    | 1, _ => match j, hj16 with
      | 0, _ | 1, _ | 2, _ | 3, _ | 4, _ | 5, _ | 8, _ | 9, _ | 10, _ | 11, _ | 12, _ | 13, _ | 14, _ | 15, _ => rfl
      | 6, _ | 7, _ => exact absurd rfl hne
      | n + 16, h => exact absurd h (by omega)
    | 2, _ => match j, hj16 with
      | 0, _ | 1, _ | 2, _ | 3, _ | 4, _ | 5, _ | 6, _ | 7, _ | 10, _ | 11, _ | 12, _ | 13, _ | 14, _ | 15, _ => rfl
      | 8, _ | 9, _ => exact absurd rfl hne
      | n + 16, h => exact absurd h (by omega)
    | 3, _ => match j, hj16 with
      | 0, _ | 1, _ | 2, _ | 3, _ | 4, _ | 5, _ | 6, _ | 7, _ | 8, _ | 9, _ | 12, _ | 13, _ | 14, _ | 15, _ => rfl
      | 10, _ | 11, _ => exact absurd rfl hne
      | n + 16, h => exact absurd h (by omega)
    | 4, _ => match j, hj16 with
      | 0, _ | 1, _ | 2, _ | 3, _ | 4, _ | 5, _ | 6, _ | 7, _ | 8, _ | 9, _ | 10, _ | 11, _ | 14, _ | 15, _ => rfl
      | 12, _ | 13, _ => exact absurd rfl hne
      | n + 16, h => exact absurd h (by omega)
    | 5, _ => match j, hj16 with
      | 0, _ | 1, _ | 2, _ | 3, _ | 4, _ | 5, _ | 6, _ | 7, _ | 8, _ | 9, _ | 10, _ | 11, _ | 12, _ | 13, _ => rfl
      | 14, _ | 15, _ => exact absurd rfl hne
      | n + 16, h => exact absurd h (by omega)
    | n + 6, h => exact absurd h (by omega)
  · rfl
theorem step_dat (d d' : Dat) (i : Ins) (h : i.code = 32 → d'.word i.k = d.word i.k) (s : Vm) : stepE d' i s = stepE d i s := by
  have e : loadE d' i s = loadE d i s := by
    unfold loadE
    by_cases hc : i.code = 32
    · rw [if_pos hc, if_pos hc, h hc]
    · rw [if_neg hc, if_neg hc]
  unfold stepE
  rw [e]
theorem setArg_ok (d : Dat) (hd : d.ok) (a : Nat) (v : Int) (hv : U64 v) : (setArg d a v).ok := by
  unfold setArg
  split
  · exact ⟨hd.nr, hd.arch, hd.ip, hv, hd.a1, hd.a2, hd.a3, hd.a4, hd.a5⟩
  · exact ⟨hd.nr, hd.arch, hd.ip, hd.a0, hv, hd.a2, hd.a3, hd.a4, hd.a5⟩
  · exact ⟨hd.nr, hd.arch, hd.ip, hd.a0, hd.a1, hv, hd.a3, hd.a4, hd.a5⟩
  · exact ⟨hd.nr, hd.arch, hd.ip, hd.a0, hd.a1, hd.a2, hv, hd.a4, hd.a5⟩
  · exact ⟨hd.nr, hd.arch, hd.ip, hd.a0, hd.a1, hd.a2, hd.a3, hv, hd.a5⟩
  · exact ⟨hd.nr, hd.arch, hd.ip, hd.a0, hd.a1, hd.a2, hd.a3, hd.a4, hv⟩
end Go.Proofs.Ytkejcfbhikpibaa
