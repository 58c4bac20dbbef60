import Derived.Test.YtjlhfmedaandeaaLinkP1
/- The linker's program is the document's: plain law. -/
namespace Go.Proofs.Ytjlhfmedaandeaa
open Go.RowKit
set_option linter.unusedVariables false
set_option linter.unusedSimpArgs false

/-- What the document makes of an instruction. -/
def insR (ps : List Sy) (sz : List Int) (i : Nat) : List Ins :=
  if (ps.getD i zeroS).code = 5 then [⟨5, 0, 0, dsum sz (i + 1) ((ps.getD i zeroS).th.toNat - (i + 1))⟩]
  else if asksC (ps.getD i zeroS).code = false then [⟨(ps.getD i zeroS).code, 0, 0, (ps.getD i zeroS).k⟩]
  else if sz.getD i 0 = 1 then [⟨(ps.getD i zeroS).code, dsum sz (i + 1) ((ps.getD i zeroS).th.toNat - (i + 1)), dsum sz (i + 1) ((ps.getD i zeroS).el.toNat - (i + 1)), (ps.getD i zeroS).k⟩]
  else [⟨(ps.getD i zeroS).code, 0, 1, (ps.getD i zeroS).k⟩, ⟨5, 0, 0, dsum sz (i + 1) ((ps.getD i zeroS).th.toNat - (i + 1)) + 1⟩, ⟨5, 0, 0, dsum sz (i + 1) ((ps.getD i zeroS).el.toNat - (i + 1))⟩]
theorem insR_set (ps : List Sy) (sz : List Int) (j i : Nat) (v : Int) (h : j < i) : insR ps (sz.set j v) i = insR ps sz i := by
  unfold insR
  simp only [dsum_set sz j v (i + 1) (by omega)]
  have e : (sz.set j v).getD i 0 = sz.getD i 0 := by rw [List.getD_eq_getElem?_getD, List.getElem?_set_ne (by omega), ← List.getD_eq_getElem?_getD]
  rw [e]
theorem told_ins {n k : Nat} {st : LSt} {sz : List Int} (h : Told n k st sz) (ps : List Sy) (i : Nat) (hi : i + 1 = n - k) (hk : k < n) (hK : Kind (ps.getD i zeroS) i n) : (oneL st.bk.length st.pl (ps.getD i zeroS)).1 = insR ps (szStep ps sz i) i := by
  have hget : (szStep ps sz i).getD i 0 = szOf ps sz i := by
    unfold szStep
    rw [List.getD_eq_getElem?_getD, List.getElem?_set_self (by rw [h.l2]; omega)]
    rfl
  have hds : ∀ q, dsum (szStep ps sz i) (i + 1) q = dsum sz (i + 1) q := fun q => dsum_set sz i _ (i + 1) (by omega) q
  unfold insR oneL
  rw [hget]
  simp only [hds]
  unfold szOf
  generalize ps.getD i zeroS = s at *
  rcases hK with ⟨q, _, _, _⟩ | ⟨q, _, _⟩ | ⟨q, _, _⟩ | ⟨q, _, _, q1⟩ | ⟨q, q1, q2⟩
  · rw [q]; rfl
  · rw [q]; rfl
  · rw [q]; rfl
  · obtain ⟨t, ht⟩ : ∃ t : Nat, s.th = t := ⟨s.th.toNat, by omega⟩
    rw [ht, told_dist h i hi hk t (by omega) (by omega), Int.toNat_natCast, if_pos q, if_pos q]
  · obtain ⟨t, ht⟩ : ∃ t : Nat, s.th = t := ⟨s.th.toNat, by omega⟩
    obtain ⟨u, hu⟩ : ∃ u : Nat, s.el = u := ⟨s.el.toNat, by omega⟩
    have hA : asksC s.code = true := by rcases q with q | q | q | q <;> rw [q] <;> rfl
    have h5 : s.code ≠ 5 := by omega
    rw [ht, hu, told_dist h i hi hk t (by omega) (by omega), told_dist h i hi hk u (by omega) (by omega), Int.toNat_natCast, Int.toNat_natCast, hA, if_neg h5, if_neg h5, Bool.true_and]
    have tf : ¬ (true = false) := by decide
    simp only [if_neg tf]
    generalize dsum sz (i + 1) (t - (i + 1)) = d1
    generalize dsum sz (i + 1) (u - (i + 1)) = d2
    by_cases near : max d1 d2 ≤ 255
    · have e : (decide (255 < d1) || decide (255 < d2)) = false := by simp; omega
      rw [if_pos near, e]
      rfl
    · have e : (decide (255 < d1) || decide (255 < d2)) = true := by simp; omega
      rw [if_neg near, e]
      rfl
/-- The program's instructions from a place on. -/
def fromR (ps : List Sy) (sz : List Int) (lo : Nat) : Nat → List Ins
  | 0 => []
  | k + 1 => insR ps sz lo ++ fromR ps sz (lo + 1) k
theorem fromR_set (ps : List Sy) (sz : List Int) (j : Nat) (v : Int) : ∀ (k lo : Nat), j < lo → fromR ps (sz.set j v) lo k = fromR ps sz lo k
  | 0, _, _ => rfl
  | k + 1, lo, h => by
    unfold fromR
    rw [insR_set ps sz j lo v h, fromR_set ps sz j v k (lo + 1) (by omega)]
theorem told_prog (ps : List Sy) (hm : MayL ps) : ∀ k, k ≤ ps.length → (lst ps ((List.range ps.length).reverse.take k)).bk.reverse = fromR ps (szUp ps ((List.range ps.length).reverse.take k)) (ps.length - k) k
  | 0, _ => by simp [lst, fromR]
  | k + 1, hk => by
    have ih := told_prog ps hm k (by omega)
    have hT := told_upto ps hm k (by omega)
    have hs := back_step ps.length (ps.length - (k + 1)) (by omega)
    rw [show ps.length - (ps.length - (k + 1)) = k + 1 by omega, show ps.length - (ps.length - (k + 1) + 1) = k by omega] at hs
    rw [hs, lst_snoc, szUp_snoc]
    have ho := told_ins hT ps (ps.length - (k + 1)) (by omega) (by omega) (kind_of (hm.one _ (by omega)))
    unfold lstep
    dsimp only
    rw [List.reverse_append, List.reverse_reverse, ih, ho]
    show _ = insR ps (szStep ps (szUp ps (List.take k (List.range ps.length).reverse)) (ps.length - (k + 1))) (ps.length - (k + 1)) ++ fromR ps (szStep ps (szUp ps (List.take k (List.range ps.length).reverse)) (ps.length - (k + 1))) (ps.length - (k + 1) + 1) k
    rw [show ps.length - (k + 1) + 1 = ps.length - k by omega]
    congr 1
    unfold szStep
    rw [fromR_set ps _ _ _ k _ (by omega)]
theorem prog_same (ps : List Sy) (hm : MayL ps) : (lall ps).bk.reverse = fromR ps (szUp ps (List.range ps.length).reverse) 0 ps.length := by
  have h := told_prog ps hm ps.length (Nat.le_refl _)
  rw [List.take_of_length_le (by simp), Nat.sub_self] at h
  exact h
theorem len_same (ps : List Sy) (hm : MayL ps) : ((lall ps).bk.length : Int) = dsum (szUp ps (List.range ps.length).reverse) 0 ps.length := by
  have h := (told_upto ps hm ps.length (Nat.le_refl _)).hb
  rw [List.take_of_length_le (by simp), Nat.sub_self] at h
  exact h
end Go.Proofs.Ytjlhfmedaandeaa
