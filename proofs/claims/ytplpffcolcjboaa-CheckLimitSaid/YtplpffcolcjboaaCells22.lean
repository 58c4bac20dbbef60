import Derived.Test.YtplpffcolcjboaaCells21
/- A row of instructions tax: what is reached, what is sure. -/
namespace Go.Proofs.Ytplpffcolcjboaa
open Go.RowKit
set_option linter.unusedVariables false
set_option linter.unusedSimpArgs false

def taxI : Ins := ⟨7, 0, 0, 0⟩
theorem tax_ok : taxI.ok := ⟨by decide, by decide, by decide, by decide⟩
def taxs (k n : Nat) : List Ins := List.replicate k taxI ++ List.replicate (n - k) zeroI
theorem taxs_len (k n : Nat) (h : k ≤ n) : (taxs k n).length = n := by simp [taxs]; omega
theorem taxs_zero (n : Nat) : taxs 0 n = List.replicate n zeroI := by simp [taxs]
theorem taxs_all (n : Nat) : taxs n n = List.replicate n taxI := by simp [taxs]
theorem taxs_set (k n : Nat) (h : k < n) : ((pc (taxs k n)).toArray.setIfInBounds (k * 4) (.int .u16 7)) = (pc (taxs (k + 1) n)).toArray := by
  apply Array.toList_inj.1
  rw [Array.toList_setIfInBounds]
  have e1 : taxs k n = List.replicate k taxI ++ (zeroI :: List.replicate (n - (k + 1)) zeroI) := by
    unfold taxs
    rw [show n - k = (n - (k + 1)) + 1 by omega, List.replicate_succ]
  have e2 : taxs (k + 1) n = List.replicate k taxI ++ (taxI :: List.replicate (n - (k + 1)) zeroI) := by
    unfold taxs
    rw [List.replicate_succ', List.append_assoc]
    rfl
  rw [e1, e2]
  simp only [List.toList_toArray]
  rw [pc_append, pc_append, List.set_append_right _ _ (by rw [pc_length, List.length_replicate]; omega), pc_length, List.length_replicate, pc_cons, pc_cons]
  rw [show k * 4 - 4 * k = 0 by omega]
  rfl
theorem tax_next (n j : Nat) (hn : n ≤ 4096) (hj : j < n) : nextL (List.replicate n taxI) (j : Int) = if j + 1 < n then [((j + 1 : Nat) : Int)] else [] := by
  unfold nextL
  rw [if_neg (by simp; omega), List.length_replicate, Int.toNat_natCast]
  have e : (List.replicate n taxI).getD j zeroI = taxI := by rw [List.getD_eq_getElem?_getD]; simp [hj]
  rw [e]
  have e2 : wayRaw taxI (j : Int) = [(j : Int) + 1] := by
    have h : clsOf taxI.code = 6 := by kernel_rfl
    unfold wayRaw
    rw [h]
    rfl
  unfold wayL
  rw [e2]
  simp only [List.takeWhile_cons, List.takeWhile_nil]
  by_cases h : j + 1 < n
  · have : ((j : Int) + 1 < n) := by omega
    simp [h, this]
  · have : ¬ ((j : Int) + 1 < n) := by omega
    simp [h, this]
theorem tax_reach (n : Nat) (hn : n ≤ 4096) : ∀ j, j < n → (rupto (List.replicate n taxI) j).getD j false = true
  | 0, h => by simp [rupto, rstart, List.getD_eq_getElem?_getD, h]
  | j + 1, h => by
    have ih := tax_reach n hn j (by omega)
    rw [rupto_succ]
    unfold rstep
    rw [ih, if_pos rfl, tax_next n j hn (by omega), if_pos h]
    simp only [setAll, List.foldl_cons, List.foldl_nil, Int.toNat_natCast]
    rw [getD_set, if_pos ⟨rfl, by rw [rupto_length, List.length_replicate]; exact h⟩]
theorem tax_un (n : Nat) (hn : n ≤ 4096) (c : Nat) : ∀ j, j < n → (uupto (List.replicate n taxI) c j).getD j false = true
  | 0, h => by simp [uupto, rstart, List.getD_eq_getElem?_getD, h]
  | j + 1, h => by
    have ih := tax_un n hn c j (by omega)
    rw [uupto_succ]
    unfold ustep
    have e : (List.replicate n taxI).getD j zeroI = taxI := by rw [List.getD_eq_getElem?_getD]; simp [show j < n by omega]
    rw [ih, if_pos rfl, e, if_neg (by unfold skipC taxI; simp), tax_next n j hn (by omega), if_pos h]
    simp only [setAll, List.foldl_cons, List.foldl_nil, Int.toNat_natCast]
    rw [getD_set, if_pos ⟨rfl, by rw [uupto_length, List.length_replicate]; exact h⟩]
theorem taxs_ok (n : Nat) : ∀ i ∈ List.replicate n taxI, i.ok := fun i hi => by
  obtain rfl := List.eq_of_mem_replicate hi
  exact tax_ok
theorem tax_reachT (n : Nat) (hn : n ≤ 4096) (h0 : 0 < n) : (reachT (List.replicate n taxI)).length = n ∧ (reachT (List.replicate n taxI))[n - 1]? = some true := by
  have e : (List.replicate n taxI).length = n := List.length_replicate
  have hl : (reachT (List.replicate n taxI)).length = n := by
    rw [reach_same _ (taxs_ok n)]
    unfold reachL
    rw [if_neg (by rw [e]; omega), rupto_length, e]
  refine ⟨hl, ?_⟩
  have h := reach_get (List.replicate n taxI) (taxs_ok n) (by rw [e]; omega) (n - 1) (by rw [e]; omega)
  rw [tax_reach n hn (n - 1) (by omega), ← reach_same _ (taxs_ok n), List.getD_eq_getElem?_getD] at h
  rw [List.getElem?_eq_getElem (by omega)] at h ⊢
  simpa using h
theorem tax_sureT (n : Nat) (hn : n ≤ 4096) (j : Nat) (hj : j < n) : (sureT (List.replicate n taxI)).length = n ∧ (sureT (List.replicate n taxI))[j]? = some 0 := by
  have e : (List.replicate n taxI).length = n := List.length_replicate
  have hl : (sureT (List.replicate n taxI)).length = n := by
    unfold sureT
    rw [if_neg (by rw [e]; omega), masksOf_len, e]
  refine ⟨hl, ?_⟩
  obtain ⟨x, h1, h2, h3⟩ := sureT_bit (List.replicate n taxI) (taxs_ok n) (by rw [e]; omega) j (by rw [e]; omega)
  have hx : x = 0 := eq_of_bits x 0 h2 (by omega) (fun c hc => by rw [h3 c hc, tax_un n hn c j hj]; simp)
  rw [hx, List.getD_eq_getElem?_getD] at h1
  rw [List.getElem?_eq_getElem (by omega)] at h1 ⊢
  simpa using h1
end Go.Proofs.Ytplpffcolcjboaa
