import Derived.Test.YtjlhfmedaandeaaRunP
import Derived.Test.YtjlhfmedaandeaaOptP1
/- The padded row of LinkPadded: plain law. -/
namespace Go.Proofs.Ytjlhfmedaandeaa
open Go.RowKit
set_option linter.unusedVariables false
set_option linter.unusedSimpArgs false

def PadS (n j : Nat) (s : Sy) : Prop := s = ⟨32, 4, 0, 0⟩ ∨ ∃ K : Int, (0 ≤ K ∧ K < 4294967296) ∧ s = ⟨69, K, (j : Int) + 3, (n : Int) + 2⟩
structure Pad (n i : Nat) (k : Int) (L : List Sy) : Prop where
  len : L.length = i + 2
  h0 : L.getD 0 zeroS = ⟨32, 0, 0, 0⟩
  h1 : L.getD 1 zeroS = ⟨21, k, 2, (n : Int) + 3⟩
  mid : ∀ j, j < i → PadS n j (L.getD (j + 2) zeroS)
theorem getD_snoc (L : List Sy) (M : List Sy) (j : Nat) : (L ++ M).getD j zeroS = if j < L.length then L.getD j zeroS else M.getD (j - L.length) zeroS := by
  simp only [List.getD_eq_getElem?_getD]
  by_cases h : j < L.length
  · rw [List.getElem?_append_left h, if_pos h]
  · rw [List.getElem?_append_right (by omega), if_neg h]
theorem pad_zero (n : Nat) (k : Int) : Pad n 0 k [⟨32, 0, 0, 0⟩, ⟨21, k, 2, (n : Int) + 3⟩] := ⟨rfl, rfl, rfl, fun j h => by omega⟩
theorem pad_snoc {n i : Nat} {k : Int} {L : List Sy} {s : Sy} (h : Pad n i k L) (hs : PadS n i s) : Pad n (i + 1) k (L ++ [s]) := by
  refine ⟨by rw [List.length_append, h.len]; rfl, ?_, ?_, fun j hj => ?_⟩
  · rw [getD_snoc, if_pos (by rw [h.len]; omega)]; exact h.h0
  · rw [getD_snoc, if_pos (by rw [h.len]; omega)]; exact h.h1
  · rw [getD_snoc]
    by_cases e : j < i
    · rw [if_pos (by rw [h.len]; omega)]; exact h.mid j e
    · obtain rfl : j = i := by omega
      rw [if_neg (by rw [h.len]; omega), h.len, Nat.sub_self]
      exact hs
def padF (L : List Sy) : List Sy := L ++ [⟨6, 2147418112, 0, 0⟩, ⟨6, 2147483648, 0, 0⟩]
section
variable {n : Nat} {k : Int} {L : List Sy} (h : Pad n n k L)
include h
theorem padF_len : (padF L).length = n + 4 := by unfold padF; rw [List.length_append, h.len]; rfl
theorem padF_0 : (padF L).getD 0 zeroS = ⟨32, 0, 0, 0⟩ := by unfold padF; rw [getD_snoc, if_pos (by rw [h.len]; omega)]; exact h.h0
theorem padF_1 : (padF L).getD 1 zeroS = ⟨21, k, 2, (n : Int) + 3⟩ := by unfold padF; rw [getD_snoc, if_pos (by rw [h.len]; omega)]; exact h.h1
theorem padF_m (j : Nat) (hj : j < n) : PadS n j ((padF L).getD (j + 2) zeroS) := by unfold padF; rw [getD_snoc, if_pos (by rw [h.len]; omega)]; exact h.mid j hj
theorem padF_a : (padF L).getD (n + 2) zeroS = ⟨6, 2147418112, 0, 0⟩ := by unfold padF; rw [getD_snoc, if_neg (by rw [h.len]; omega), h.len, Nat.sub_self]; rfl
theorem padF_k : (padF L).getD (n + 3) zeroS = ⟨6, 2147483648, 0, 0⟩ := by unfold padF; rw [getD_snoc, if_neg (by rw [h.len]; omega), h.len, show n + 3 - (n + 2) = 1 by omega]; rfl
theorem padF_any (j : Nat) (hj : j < n + 4) : Kind ((padF L).getD j zeroS) j (n + 4 : Nat) := by
  by_cases e0 : j = 0
  · subst e0; rw [padF_0 h]; exact .ld rfl rfl rfl ⟨by decide, by decide⟩
  by_cases e1 : j = 1
  · subst e1; rw [padF_1 h]; exact .as (.inl rfl) ⟨by dsimp only; omega, by dsimp only; omega⟩ ⟨by dsimp only; omega, by dsimp only; omega⟩
  by_cases e2 : j = n + 2
  · rw [e2, padF_a h]; exact .re rfl rfl rfl
  by_cases e3 : j = n + 3
  · rw [e3, padF_k h]; exact .re rfl rfl rfl
  obtain ⟨i, rfl⟩ : ∃ i, j = i + 2 := ⟨j - 2, by omega⟩
  rcases padF_m h i (by omega) with e | ⟨K, hK, e⟩
  · rw [e]; exact .ld rfl rfl rfl ⟨by decide, by decide⟩
  · rw [e]; exact .as (.inr (.inr (.inr rfl))) ⟨by dsimp only; omega, by dsimp only; omega⟩ ⟨by dsimp only; omega, by dsimp only; omega⟩
theorem padF_may (hn : n ≤ 1200) : MayL (padF L) := by
  have hl := padF_len h
  refine ⟨by omega, by omega, ?_, fun i hi => ?_⟩
  · rw [hl, show n + 4 - 1 = n + 3 by omega, padF_k h]
  · rw [hl] at hi ⊢
    exact mayS_of (padF_any h i hi)
theorem padF_ok (hn : n ≤ 1200) (hk : 0 ≤ k ∧ k < 4294967296) : ∀ i ∈ padF L, i.ok := fun s hs => by
  obtain ⟨j, hj, rfl⟩ := List.getElem_of_mem hs
  have hl := padF_len h
  have e : (padF L)[j] = (padF L).getD j zeroS := by simp [List.getD_eq_getElem?_getD, hj]
  rw [e]
  unfold Sy.ok I64
  by_cases e0 : j = 0
  · subst e0; rw [padF_0 h]; decide
  by_cases e1 : j = 1
  · subst e1; rw [padF_1 h]; dsimp only; omega
  by_cases e2 : j = n + 2
  · rw [e2, padF_a h]; decide
  by_cases e3 : j = n + 3
  · rw [e3, padF_k h]; decide
  obtain ⟨i, rfl⟩ : ∃ i, j = i + 2 := ⟨j - 2, by omega⟩
  rcases padF_m h i (by omega) with e | ⟨K, hK, e⟩
  · rw [e]; decide
  · rw [e]; dsimp only; omega
theorem padF_from (hn : n ≤ 1200) (ld : Int → Int) : ∀ m j (a : Int), n - j ≤ m → j ≤ n → (runAt ld (padF L) (j + 2) a).1 = 2147418112
  | m, j, a, h1, h2 => by
    have hY := padF_may h hn
    have hl := padF_len h
    by_cases e : j = n
    · subst e
      rw [runAt_ret hY ld _ a (by omega) (by rw [padF_a h]), padF_a h]
    · cases m with
      | zero => omega
      | succ m =>
        rcases padF_m h j (by omega) with q | ⟨K, hK, q⟩
        · rw [runAt_next hY ld _ a (by omega) (by rw [q]; show (32 : Int) ≠ 6; decide), q]
          show (runAt ld (padF L) (j + 1 + 2) _).1 = _
          exact padF_from hn ld m (j + 1) _ (by omega) (by omega)
        · rw [runAt_next hY ld _ a (by omega) (by rw [q]; show (69 : Int) ≠ 6; decide), q, nxt_as (by dsimp only; omega)]
          cases holdS ⟨69, K, (j : Int) + 3, (n : Int) + 2⟩ a
          · rw [if_neg (by decide)]
            show (runAt ld (padF L) ((n : Int) + 2).toNat a).1 = _
            rw [show ((n : Int) + 2).toNat = n + 2 by omega]
            exact padF_from hn ld m n a (by omega) (by omega)
          · rw [if_pos rfl]
            show (runAt ld (padF L) ((j : Int) + 3).toNat a).1 = _
            rw [show ((j : Int) + 3).toNat = j + 1 + 2 by omega]
            exact padF_from hn ld m (j + 1) a (by omega) (by omega)
theorem padF_run (hn : n ≤ 1200) (ld : Int → Int) : (runS ld (padF L)).1 = if ld 0 = k then 2147418112 else 2147483648 := by
  have hY := padF_may h hn
  have hl := padF_len h
  unfold runS
  rw [runAt_next hY ld 0 0 (by omega) (by rw [padF_0 h]; show (32 : Int) ≠ 6; decide), padF_0 h]
  show (runAt ld (padF L) 1 (ld 0)).1 = _
  rw [runAt_next hY ld 1 _ (by omega) (by rw [padF_1 h]; show (21 : Int) ≠ 6; decide), padF_1 h, nxt_as (by dsimp only; omega)]
  have hh : holdS ⟨21, k, 2, (n : Int) + 3⟩ (ld 0) = (ld 0 == k) := rfl
  rw [hh]
  by_cases e : ld 0 = k
  · rw [if_pos e, if_pos (by simpa using e)]
    exact padF_from h hn ld n 0 _ (by omega) (by omega)
  · rw [if_neg e, if_neg (by simpa using e)]
    show (runAt ld (padF L) ((n : Int) + 3).toNat (ld 0)).1 = _
    rw [show ((n : Int) + 3).toNat = n + 3 by omega, runAt_ret hY ld _ _ (by omega) (by rw [padF_k h]), padF_k h]
end
end Go.Proofs.Ytjlhfmedaandeaa
