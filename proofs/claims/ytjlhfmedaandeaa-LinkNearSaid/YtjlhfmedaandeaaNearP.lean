import Derived.Test.YtjlhfmedaandeaaLinkC
/- A row of at most 257 instructions has no far one: plain law. -/
namespace Go.Proofs.Ytjlhfmedaandeaa
open Go.RowKit
set_option linter.unusedVariables false
set_option linter.unusedSimpArgs false

theorem dsum_ones {sz : List Int} (lo : Nat) : ∀ k, (∀ j, lo ≤ j → j < lo + k → sz.getD j 0 = 1) → dsum sz lo k = k
  | 0, _ => rfl
  | k + 1, h => by
    show dsum sz lo k + sz.getD (lo + k) 0 = _
    rw [dsum_ones lo k fun j a b => h j a (by omega), h (lo + k) (by omega) (by omega)]
    omega
theorem near_sizes {ps : List Sy} (hm : MayL ps) (hn : ps.length ≤ 257) : ∀ m i, ps.length - i ≤ m → i < ps.length → (szUp ps (List.range ps.length).reverse).getD i 0 = 1
  | 0, i, h, hi => by omega
  | m + 1, i, h, hi => by
    have ih := fun j a b => near_sizes hm hn m j a b
    have ha := szUp_all ps i hi
    have hK := kind_of (hm.one i hi)
    rw [ha]
    generalize szUp ps (List.range ps.length).reverse = sz at *
    unfold szOf
    cases hA : asksC (ps.getD i zeroS).code
    · rfl
    · have hq := asks_code.1 hA
      generalize ps.getD i zeroS = s at *
      rcases hK with ⟨q, _, _, _⟩ | ⟨q, _, _⟩ | ⟨q, _, _⟩ | ⟨q, _, _, _⟩ | ⟨q, q1, q2⟩
      · omega
      · omega
      · omega
      · omega
      · rw [dsum_ones (i + 1) (s.th.toNat - (i + 1)) fun j a b => ih j (by omega) (by omega), dsum_ones (i + 1) (s.el.toNat - (i + 1)) fun j a b => ih j (by omega) (by omega)]
        have e : (decide (255 < ((s.th.toNat - (i + 1) : Nat) : Int)) || decide (255 < ((s.el.toNat - (i + 1) : Nat) : Int))) = false := by simp; omega
        rw [e]
        rfl
/-- What an instruction of a near row becomes. -/
def nearI (k : Nat) (s : Sy) : Ins := if s.code = 5 then ⟨5, 0, 0, s.th - (k + 1)⟩ else if asksC s.code = true then ⟨s.code, s.th - (k + 1), s.el - (k + 1), s.k⟩ else ⟨s.code, 0, 0, s.k⟩
theorem near_all {ps : List Sy} (hm : MayL ps) (hn : ps.length ≤ 257) : (lall ps).bk.length = ps.length ∧ (lall ps).far = 0 ∧ ∀ k, k < ps.length → (lall ps).bk.reverse.getD k zeroI = nearI k (ps.getD k zeroS) := by
  obtain ⟨h1, h2, hz⟩ := link_all hm
  have hs := fun i hi => near_sizes hm hn _ i (Nat.le_refl _) hi
  have hl := len_same ps hm
  have hlr : (lall ps).bk.reverse.length = (lall ps).bk.length := List.length_reverse
  generalize szUp ps (List.range ps.length).reverse = sz at *
  rw [dsum_ones 0 ps.length fun j _ b => hs j (by omega)] at hl
  have hp : ∀ k, k ≤ ps.length → posN ps sz k = k := by
    intro k hk
    have a := dsum_pos hz 0 k (by omega)
    rw [dsum_ones 0 k fun j _ b => hs j (by omega), pos_zero, Nat.zero_add] at a
    omega
  refine ⟨by omega, by omega, fun k hk => ?_⟩
  have hg := prog_get ps sz k 0 hk (insR_pos ps sz k)
  rw [h1]
  rw [hp k (by omega), Nat.add_zero] at hg
  rw [hg]
  have hK := kind_of (hm.one k hk)
  unfold insR nearI
  rw [hs k hk]
  by_cases h5 : (ps.getD k zeroS).code = 5
  · rw [if_pos h5, if_pos h5]
    have b : (k : Int) < (ps.getD k zeroS).th ∧ (ps.getD k zeroS).th < ps.length := by
      rcases hK with ⟨q, _, _, _⟩ | ⟨q, _, _⟩ | ⟨q, _, _⟩ | ⟨q, _, _, q1⟩ | ⟨q, q1, q2⟩
      · omega
      · omega
      · omega
      · exact q1
      · omega
    rw [dsum_to hz (show k < (ps.getD k zeroS).th.toNat by omega) (by omega), hp _ (by omega), hp _ (by omega)]
    show (⟨5, 0, 0, _⟩ : Ins) = ⟨5, 0, 0, _⟩
    congr 1
    omega
  · rw [if_neg h5, if_neg h5]
    cases hA : asksC (ps.getD k zeroS).code
    · rw [if_pos rfl, if_neg (by decide)]
      rfl
    · rw [if_neg (by decide), if_pos rfl, if_pos rfl]
      have hq := asks_code.1 hA
      have b : ((k : Int) < (ps.getD k zeroS).th ∧ (ps.getD k zeroS).th < ps.length) ∧ ((k : Int) < (ps.getD k zeroS).el ∧ (ps.getD k zeroS).el < ps.length) := by
        rcases hK with ⟨q, _, _, _⟩ | ⟨q, _, _⟩ | ⟨q, _, _⟩ | ⟨q, _, _, q1⟩ | ⟨q, q1, q2⟩
        · omega
        · omega
        · omega
        · omega
        · exact ⟨q1, q2⟩
      rw [dsum_to hz (show k < (ps.getD k zeroS).th.toNat by omega) (by omega), dsum_to hz (show k < (ps.getD k zeroS).el.toNat by omega) (by omega), hp _ (by omega), hp _ (by omega), hp _ (by omega)]
      show (⟨_, _, _, _⟩ : Ins) = ⟨_, _, _, _⟩
      congr 1 <;> omega
end Go.Proofs.Ytjlhfmedaandeaa
