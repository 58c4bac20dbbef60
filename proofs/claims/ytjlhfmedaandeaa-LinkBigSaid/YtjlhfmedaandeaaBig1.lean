import Derived.Test.YtjlhfmedaandeaaLinked2
/- LinkBig: the plain law. -/
namespace Go.Proofs.Ytjlhfmedaandeaa
open Go.RowKit
set_option linter.unusedVariables false
set_option linter.unusedSimpArgs false

/-- The law's row. -/
def bigRow (n : Nat) (far : Bool) : List Sy := (if far then ⟨21, 0, 1, (n : Int) - 1⟩ else ⟨32, 0, 0, 0⟩) :: (List.replicate (n - 2) ⟨32, 0, 0, 0⟩ ++ [⟨6, 0, 0, 0⟩])
theorem bigRow_len (n : Nat) (far : Bool) (hn : 4090 ≤ n) : (bigRow n far).length = n := by simp [bigRow]; omega
theorem bigRow_at (n : Nat) (far : Bool) (hn : 4090 ≤ n) (i : Nat) (hi : i < n) : (bigRow n far).getD i zeroS = if i = 0 then (if far then ⟨21, 0, 1, (n : Int) - 1⟩ else ⟨32, 0, 0, 0⟩) else if i = n - 1 then ⟨6, 0, 0, 0⟩ else ⟨32, 0, 0, 0⟩ := by
  unfold bigRow
  rcases i with _ | i
  · rfl
  · rw [List.getD_cons_succ, if_neg (by omega), List.getD_eq_getElem?_getD]
    by_cases h : i < n - 2
    · rw [List.getElem?_append_left (by simpa using h), List.getElem?_replicate, if_pos h, if_neg (by omega)]
      rfl
    · rw [List.getElem?_append_right (by simpa using h), List.length_replicate, show i - (n - 2) = 0 by omega, if_pos (by omega)]
      rfl
theorem bigRow_may (n : Nat) (far : Bool) (hn : 4090 ≤ n) (hn2 : n ≤ 4100) : mayL (bigRow n far) = true := by
  have hl := bigRow_len n far hn
  refine mayL_yes _ (by omega) (by omega) ?_ fun k hk => ?_
  · rw [hl, bigRow_at n far hn (n - 1) (by omega), if_neg (by omega), if_pos rfl]
  · rw [hl] at hk ⊢
    rw [bigRow_at n far hn k hk]
    by_cases h0 : k = 0
    · rw [if_pos h0]
      subst h0
      cases far
      · rfl
      · simp only [if_true]
        unfold mayS thereS asksC
        have e1 : decide ((0 : Int) < (n : Int) - 1) = true := by simp; omega
        have e2 : decide ((n : Int) - 1 < n) = true := by simp; omega
        have e3 : decide ((1 : Int) < n) = true := by simp; omega
        simp [e1, e2, e3]
    · rw [if_neg h0]
      split <;> rfl
theorem bigRow_ok (n : Nat) (far : Bool) (hn : 4090 ≤ n) (hn2 : n ≤ 4100) : ∀ i ∈ bigRow n far, i.ok := fun i hi => by
  have z32 : (⟨32, 0, 0, 0⟩ : Sy).ok := ⟨by decide, by decide, by unfold I64; decide, by unfold I64; decide⟩
  unfold bigRow at hi
  rcases List.mem_cons.1 hi with h | h
  · rw [h]
    cases far
    · exact z32
    · exact ⟨(by decide : (0 : Int) ≤ 21 ∧ (21 : Int) < 65536), (by decide : (0 : Int) ≤ 0 ∧ (0 : Int) < 4294967296), (by unfold I64; decide : I64 1), (by unfold I64; omega : I64 ((n : Int) - 1))⟩
  · rcases List.mem_append.1 h with h | h
    · rw [List.eq_of_mem_replicate h]; exact z32
    · rw [List.mem_singleton.1 h]
      exact ⟨by decide, by decide, by unfold I64; decide, by unfold I64; decide⟩
theorem one_plain (nb : Nat) (pl : List Int) (s : Sy) (h5 : s.code ≠ 5) (ha : asksC s.code = false) : (oneL nb pl s).1.length = 1 ∧ (oneL nb pl s).2 = 0 := by
  unfold oneL
  rw [if_neg h5, if_pos ha]
  exact ⟨rfl, rfl⟩
theorem big_upto (n : Nat) (far : Bool) (hn : 4090 ≤ n) : ∀ k, 1 ≤ k → k ≤ n - 1 → (lst (bigRow n far) ((List.range n).reverse.take k)).bk.length = k ∧ (lst (bigRow n far) ((List.range n).reverse.take k)).pl.getD (n - 1) 0 = 1 := by
  intro k
  induction k with
  | zero => intro h; omega
  | succ k ih =>
    intro _ h2
    have hk : k < (List.range n).reverse.length := by simp; omega
    have hix : (List.range n).reverse[k] = n - 1 - k := by rw [List.getElem_reverse, List.getElem_range]; simp
    rw [List.take_succ_eq_append_getElem hk, lst_snoc, hix]
    have hb := lst_bd (bigRow n far) ((List.range n).reverse.take k)
    have hat := bigRow_at n far hn (n - 1 - k) (by omega)
    rw [if_neg (by omega)] at hat
    have hone := one_plain (lst (bigRow n far) ((List.range n).reverse.take k)).bk.length (lst (bigRow n far) ((List.range n).reverse.take k)).pl ((bigRow n far).getD (n - 1 - k) zeroS)
      (by rw [hat]; split <;> decide) (by rw [hat]; split <;> decide)
    have hpl := hb.h2
    rw [bigRow_len n far hn] at hpl
    unfold lstep
    dsimp only
    rw [List.length_append, List.length_reverse, hone.1]
    by_cases h0 : k = 0
    · subst h0
      have e0 : (List.range n).reverse.take 0 = [] := rfl
      have hb0 := hb.h1
      rw [e0] at hb0 hpl ⊢
      have hz : (lst (bigRow n far) []).bk.length = 0 := by simpa using hb0
      refine ⟨by omega, ?_⟩
      rw [List.getD_eq_getElem?_getD, Nat.sub_zero, List.getElem?_set_self (by omega), hz]
      rfl
    · obtain ⟨i1, i2⟩ := ih (by omega) (by omega)
      refine ⟨by omega, ?_⟩
      rw [List.getD_eq_getElem?_getD, List.getElem?_set_ne (by omega), ← List.getD_eq_getElem?_getD]
      exact i2
theorem big_len (n : Nat) (far : Bool) (hn : 4090 ≤ n) (hn2 : n ≤ 4100) : (lall (bigRow n far)).bk.length = if far then n + 2 else n := by
  unfold lall
  rw [bigRow_len n far hn]
  have hk : n - 1 < (List.range n).reverse.length := by simp; omega
  have hfull : (List.range n).reverse = (List.range n).reverse.take (n - 1) ++ [0] := by
    have h := List.take_succ_eq_append_getElem hk
    rw [List.getElem_reverse, List.getElem_range] at h
    rw [List.take_of_length_le (by simp; omega)] at h
    simpa using h
  obtain ⟨i1, i2⟩ := big_upto n far hn (n - 1) (by omega) (Nat.le_refl _)
  rw [hfull, lst_snoc]
  unfold lstep
  dsimp only
  rw [List.length_append, List.length_reverse, i1, bigRow_at n far hn 0 (by omega), if_pos rfl]
  cases far with
  | false =>
    have h1 := (one_plain (n - 1) (lst (bigRow n false) ((List.range n).reverse.take (n - 1))).pl ⟨32, 0, 0, 0⟩ (by decide) (by decide)).1
    simp only [Bool.false_eq_true, if_false]
    rw [h1]
    omega
  | true =>
    simp only [if_true]
    generalize (lst (bigRow n true) ((List.range n).reverse.take (n - 1))).pl = pl at *
    have hd : dist (n - 1) pl ((n : Int) - 1) = ((n - 1 : Nat) : Int) - 1 := by
      unfold dist
      rw [show ((n : Int) - 1).toNat = n - 1 by omega, i2]
    have h3 : (oneL (n - 1) pl ⟨21, 0, 1, (n : Int) - 1⟩).1.length = 3 := by
      unfold oneL
      rw [if_neg (by show ¬ ((21 : Int) = 5); decide), if_neg (by show ¬ (asksC 21 = false); decide)]
      dsimp only
      rw [hd, if_neg (by omega)]
      rfl
    rw [h3]
    omega
end Go.Proofs.Ytjlhfmedaandeaa
