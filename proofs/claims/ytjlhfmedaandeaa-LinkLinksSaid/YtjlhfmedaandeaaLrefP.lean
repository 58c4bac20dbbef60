import Derived.Test.YtjlhfmedaandeaaLref2
/- The document's sizes, each by itself: plain law. -/
namespace Go.Proofs.Ytjlhfmedaandeaa
open Go.RowKit
set_option linter.unusedVariables false
set_option linter.unusedSimpArgs false

theorem szOf_set (ps : List Sy) (sz : List Int) (j : Nat) (v : Int) (i : Nat) (h : j ≤ i) : szOf ps (sz.set j v) i = szOf ps sz i := by
  unfold szOf
  simp only [dsum_set sz j v (i + 1) (by omega)]
theorem szUp_one (ps : List Sy) : ∀ k, k ≤ ps.length → ∀ i, ps.length - k ≤ i → i < ps.length → (szUp ps ((List.range ps.length).reverse.take k)).getD i 0 = szOf ps (szUp ps ((List.range ps.length).reverse.take k)) i
  | 0, _, i, h1, h2 => by omega
  | k + 1, hk, i, h1, h2 => by
    have ih := szUp_one ps k (by omega)
    have hl := (szUp_bd ps ((List.range ps.length).reverse.take k)).2
    have hs := back_step ps.length (ps.length - (k + 1)) (by omega)
    rw [show ps.length - (ps.length - (k + 1)) = k + 1 by omega, show ps.length - (ps.length - (k + 1) + 1) = k by omega] at hs
    rw [hs, szUp_snoc]
    unfold szStep
    rw [szOf_set _ _ _ _ _ (by omega)]
    by_cases e : ps.length - (k + 1) = i
    · rw [← e, List.getD_eq_getElem?_getD, List.getElem?_set_self (by rw [hl]; omega)]
      rfl
    · rw [List.getD_eq_getElem?_getD, List.getElem?_set_ne e, ← List.getD_eq_getElem?_getD, ih i (by omega) h2]
theorem szUp_all (ps : List Sy) (i : Nat) (h : i < ps.length) : (szUp ps (List.range ps.length).reverse).getD i 0 = szOf ps (szUp ps (List.range ps.length).reverse) i := by
  have := szUp_one ps ps.length (Nat.le_refl _) i (by omega) h
  rw [List.take_of_length_le (by simp)] at this
  exact this
end Go.Proofs.Ytjlhfmedaandeaa
