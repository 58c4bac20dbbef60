import Derived.Test.YtjlhfmedaandeaaLinked2
import Derived.Test.YtjlhfmedaandeaaLref2
/- The linker's places are the document's sizes: plain law. -/
namespace Go.Proofs.Ytjlhfmedaandeaa
open Go.RowKit
set_option linter.unusedVariables false
set_option linter.unusedSimpArgs false

theorem dsum_split (sz : List Int) (lo a : Nat) : ∀ b, dsum sz lo (a + b) = dsum sz lo a + dsum sz (lo + a) b
  | 0 => by simp [dsum]
  | b + 1 => by
    show dsum sz lo (a + b) + sz.getD (lo + (a + b)) 0 = dsum sz lo a + (dsum sz (lo + a) b + sz.getD (lo + a + b) 0)
    rw [dsum_split sz lo a b, Nat.add_assoc lo a b, Int.add_assoc]
theorem dsum_front (sz : List Int) (lo k : Nat) : dsum sz lo (k + 1) = sz.getD lo 0 + dsum sz (lo + 1) k := by
  rw [Nat.add_comm k 1, dsum_split]
  simp [dsum]
/-- The linker's state, told by the document's sizes. -/
structure Told (n k : Nat) (st : LSt) (sz : List Int) : Prop where
  hb : (st.bk.length : Int) = dsum sz (n - k) k
  hp : ∀ t, n - k ≤ t → t < n → st.pl.getD t 0 = dsum sz t (n - t)
  l1 : st.pl.length = n
  l2 : sz.length = n
theorem told_dist {n k : Nat} {st : LSt} {sz : List Int} (h : Told n k st sz) (i : Nat) (hi : i + 1 = n - k) (hk : k < n) (t : Nat) (h1 : i < t) (h2 : t < n) : dist st.bk.length st.pl t = dsum sz (i + 1) (t - (i + 1)) := by
  unfold dist
  rw [Int.toNat_natCast, h.hb, h.hp t (by omega) h2, ← hi]
  have := dsum_split sz (i + 1) (t - (i + 1)) (n - t)
  rw [show t - (i + 1) + (n - t) = k by omega, show i + 1 + (t - (i + 1)) = t by omega] at this
  omega
theorem told_one {n k : Nat} {st : LSt} {sz : List Int} (h : Told n k st sz) (ps : List Sy) (i : Nat) (hi : i + 1 = n - k) (hk : k < n) (hK : Kind (ps.getD i zeroS) i n) :
    ((oneL st.bk.length st.pl (ps.getD i zeroS)).1.length : Int) = szOf ps sz i ∧ (oneL st.bk.length st.pl (ps.getD i zeroS)).2 = if szOf ps sz i = 3 then 1 else 0 := by
  unfold szOf oneL
  generalize ps.getD i zeroS = s at *
  rcases hK with ⟨q, _, _, _⟩ | ⟨q, _, _⟩ | ⟨q, _, _⟩ | ⟨q, _, _, _⟩ | ⟨q, q1, q2⟩
  · rw [q]; exact ⟨rfl, rfl⟩
  · rw [q]; exact ⟨rfl, rfl⟩
  · rw [q]; exact ⟨rfl, rfl⟩
  · rw [q]; exact ⟨rfl, rfl⟩
  · obtain ⟨t, ht⟩ : ∃ t : Nat, s.th = t := ⟨s.th.toNat, by omega⟩
    obtain ⟨u, hu⟩ : ∃ u : Nat, s.el = u := ⟨s.el.toNat, by omega⟩
    have hA : asksC s.code = true := by rcases q with q | q | q | q <;> rw [q] <;> rfl
    have h5 : s.code ≠ 5 := by omega
    rw [ht, hu, told_dist h i hi hk t (by omega) (by omega), told_dist h i hi hk u (by omega) (by omega), Int.toNat_natCast, Int.toNat_natCast, hA, if_neg h5, if_neg (by decide), Bool.true_and]
    generalize dsum sz (i + 1) (t - (i + 1)) = d1
    generalize dsum sz (i + 1) (u - (i + 1)) = d2
    by_cases near : max d1 d2 ≤ 255
    · have e : (decide (255 < d1) || decide (255 < d2)) = false := by simp; omega
      rw [if_pos near, e]
      exact ⟨rfl, rfl⟩
    · have e : (decide (255 < d1) || decide (255 < d2)) = true := by simp; omega
      rw [if_neg near, e]
      exact ⟨rfl, rfl⟩
theorem told_step {n k : Nat} {st : LSt} {sz : List Int} (h : Told n k st sz) (ps : List Sy) (i : Nat) (hi : i + 1 = n - k) (hk : k < n) (hK : Kind (ps.getD i zeroS) i n) : Told n (k + 1) (lstep ps st i) (szStep ps sz i) := by
  have ho := (told_one h ps i hi hk hK).1
  unfold lstep szStep
  generalize oneL st.bk.length st.pl (ps.getD i zeroS) = o at *
  generalize szOf ps sz i = z at *
  have hget : (sz.set i z).getD i 0 = z := by rw [List.getD_eq_getElem?_getD, List.getElem?_set_self (by rw [h.l2]; omega)]; rfl
  have hnew : (((st.bk ++ o.1.reverse).length : Nat) : Int) = dsum (sz.set i z) i (k + 1) := by
    rw [dsum_front, hget, dsum_set sz i z (i + 1) (by omega), List.length_append, List.length_reverse, hi, ← h.hb]
    omega
  refine ⟨?_, fun t h1 h2 => ?_, ?_, by rw [List.length_set]; exact h.l2⟩
  · dsimp only
    rw [show n - (k + 1) = i by omega]
    exact hnew
  · dsimp only
    by_cases e : i = t
    · subst e
      rw [List.getD_eq_getElem?_getD, List.getElem?_set_self (by rw [h.l1]; omega), show n - i = k + 1 by omega, ← hnew]
      rfl
    · rw [List.getD_eq_getElem?_getD, List.getElem?_set_ne e, ← List.getD_eq_getElem?_getD, h.hp t (by omega) h2, dsum_set sz i z t (by omega)]
  · dsimp only
    rw [List.length_set]
    exact h.l1
theorem told_upto (ps : List Sy) (hm : MayL ps) : ∀ k, k ≤ ps.length → Told ps.length k (lst ps ((List.range ps.length).reverse.take k)) (szUp ps ((List.range ps.length).reverse.take k))
  | 0, _ => ⟨by simp [lst, dsum], fun t h1 h2 => by omega, by simp [lst], by simp [szUp]⟩
  | k + 1, hk => by
    have ih := told_upto ps hm k (by omega)
    have hs := back_step ps.length (ps.length - (k + 1)) (by omega)
    rw [show ps.length - (ps.length - (k + 1)) = k + 1 by omega, show ps.length - (ps.length - (k + 1) + 1) = k by omega] at hs
    rw [hs, lst_snoc, szUp_snoc]
    exact told_step ih ps _ (by omega) (by omega) (kind_of (hm.one _ (by omega)))
def ind (sz : List Int) : List Int := sz.map fun x => if x = 3 then 1 else 0
theorem ind_set (sz : List Int) (i : Nat) (z : Int) : ind (sz.set i z) = (ind sz).set i (if z = 3 then 1 else 0) := by simp [ind, List.map_set]
theorem told_far (ps : List Sy) (hm : MayL ps) : ∀ k, k ≤ ps.length → (lst ps ((List.range ps.length).reverse.take k)).far = dsum (ind (szUp ps ((List.range ps.length).reverse.take k))) (ps.length - k) k
  | 0, _ => by simp [lst, dsum]
  | k + 1, hk => by
    have ih := told_far ps hm k (by omega)
    have hT := told_upto ps hm k (by omega)
    have hs := back_step ps.length (ps.length - (k + 1)) (by omega)
    rw [show ps.length - (ps.length - (k + 1)) = k + 1 by omega, show ps.length - (ps.length - (k + 1) + 1) = k by omega] at hs
    rw [hs, lst_snoc, szUp_snoc]
    have ho := (told_one hT ps (ps.length - (k + 1)) (by omega) (by omega) (kind_of (hm.one _ (by omega)))).2
    unfold lstep szStep
    dsimp only
    rw [ho, ih, ind_set, dsum_front, dsum_set _ _ _ _ (by omega), List.getD_eq_getElem?_getD, List.getElem?_set_self (by unfold ind; rw [List.length_map, hT.l2]; omega), show ps.length - (k + 1) + 1 = ps.length - k by omega]
    simp only [Option.getD_some]
    omega
theorem far_same (ps : List Sy) (hm : MayL ps) : (lall ps).far = dsum (ind (szUp ps (List.range ps.length).reverse)) 0 ps.length := by
  have h := told_far ps hm ps.length (Nat.le_refl _)
  rw [List.take_of_length_le (by simp), Nat.sub_self] at h
  exact h
end Go.Proofs.Ytjlhfmedaandeaa
