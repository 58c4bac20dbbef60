import Derived.Test.YtplpffcolcjboaaCells21
/- One instruction more ahead of all others, that writes a cell: the plain law. -/
namespace Go.Proofs.Ytplpffcolcjboaa
open Go.RowKit
set_option linter.unusedVariables false
set_option linter.unusedSimpArgs false

theorem wayRaw_next (i : Ins) (a : Int) : wayRaw i (a + 1) = (wayRaw i a).map (· + 1) := by
  unfold wayRaw
  split
  · rfl
  split
  · split
    · simp; omega
    · split
      · simp; omega
      · simp; omega
  · simp
theorem takeWhile_next (n : Int) : ∀ L : List Int, (L.map (· + 1)).takeWhile (fun x => decide (x < n + 1)) = (L.takeWhile fun x => decide (x < n)).map (· + 1)
  | [] => rfl
  | x :: L => by
    simp only [List.map_cons, List.takeWhile_cons]
    by_cases h : x < n
    · have h2 : x + 1 < n + 1 := by omega
      simp [h, h2, takeWhile_next n L]
    · have h2 : ¬ (x + 1 < n + 1) := by omega
      simp [h, h2]
theorem next_next (i : Ins) (ps : List Ins) (k : Nat) (hn : ps.length + 1 ≤ 4096) (hk : k < ps.length) : nextL (i :: ps) ((k + 1 : Nat) : Int) = (nextL ps (k : Int)).map (· + 1) := by
  unfold nextL
  rw [if_neg (by simp; omega), if_neg (by omega)]
  rw [Int.toNat_natCast, Int.toNat_natCast, List.getD_cons_succ]
  unfold wayL
  have e1 : (((k + 1 : Nat) : Int)) = (k : Int) + 1 := by omega
  have e2 : (((i :: ps).length : Nat) : Int) = (ps.length : Int) + 1 := by simp
  rw [e1, e2, wayRaw_next]
  exact takeWhile_next _ _
theorem setAll_cons (b : Bool) : ∀ (ns : List Int) (l : List Bool), (∀ x ∈ ns, 0 ≤ x) → setAll (b :: l) (ns.map (· + 1)) = b :: setAll l ns
  | [], l, _ => rfl
  | n :: ns, l, h => by
    have h0 := h n (by simp)
    have ih := setAll_cons b ns (l.set n.toNat true) (fun x hx => h x (by simp [hx]))
    simp only [setAll, List.map_cons, List.foldl_cons] at ih ⊢
    rw [show (n + 1).toNat = n.toNat + 1 by omega, List.set_cons_succ]
    exact ih
def stI (cell : Nat) : Ins := ⟨2, 0, 0, cell⟩
theorem st_next (cell : Nat) (ps : List Ins) (hn : ps.length + 1 ≤ 4096) : nextL (stI cell :: ps) ((0 : Nat) : Int) = if 0 < ps.length then [1] else [] := by
  unfold nextL
  rw [if_neg (by simp; omega)]
  have e2 : wayRaw (stI cell) (((0 : Nat) : Int)) = [1] := by
    have h : clsOf (stI cell).code = 2 := by show clsOf 2 = 2; kernel_rfl
    unfold wayRaw
    rw [h]
    rfl
  show wayL ((stI cell :: ps).getD (((0 : Nat) : Int)).toNat zeroI) _ _ = _
  unfold wayL
  rw [show (stI cell :: ps).getD (((0 : Nat) : Int)).toNat zeroI = stI cell from rfl, e2]
  simp only [List.takeWhile_cons, List.takeWhile_nil, List.length_cons]
  by_cases h : 0 < ps.length
  · have : ((1 : Int) < ((ps.length + 1 : Nat) : Int)) := by omega
    simp only [this, decide_true, if_true, h]
  · have : ¬ ((1 : Int) < ((ps.length + 1 : Nat) : Int)) := by omega
    simp only [this, decide_false, Bool.false_eq_true, if_false, h]
theorem more_un (cell c : Nat) (ps : List Ins) (hok : ∀ i ∈ ps, i.ok) (hn : ps.length + 1 ≤ 4096) : ∀ k, k ≤ ps.length →
    uupto (stI cell :: ps) c (k + 1) = if cell = c then true :: List.replicate ps.length false else true :: uupto ps c k
  | 0, _ => by
    have e0 : uupto (stI cell :: ps) c 0 = true :: List.replicate ps.length false := by simp [uupto, rstart, List.replicate_succ]
    rw [uupto_succ, e0]
    unfold ustep
    have e1 : (stI cell :: ps).getD 0 zeroI = stI cell := rfl
    rw [e1, show (true :: List.replicate ps.length false).getD 0 false = true from rfl, if_pos rfl]
    have e2 : skipC (stI cell) c = decide (cell = c) := by
      unfold skipC stI
      by_cases h : cell = c
      · subst h; simp
      · have : ¬ ((cell : Int) = (c : Int)) := by omega
        simp [h, this]
    rw [e2]
    by_cases h : cell = c
    · simp only [h, decide_true, if_true]
    · simp only [h, decide_false, Bool.false_eq_true, if_false]
      rw [st_next cell ps hn]
      have e3 : uupto ps c 0 = rstart ps.length := rfl
      rw [e3]
      unfold rstart
      by_cases hl : 0 < ps.length
      · rw [if_pos hl]
        simp [setAll]
      · rw [if_neg hl]
        have : ps.length = 0 := by omega
        rw [this]
        rfl
  | k + 1, hk => by
    have ih := more_un cell c ps hok hn k (by omega)
    rw [uupto_succ, ih]
    by_cases h : cell = c
    · simp only [h, if_true]
      unfold ustep
      have : (true :: List.replicate ps.length false).getD (k + 1) false = false := by
        rw [List.getD_cons_succ, List.getD_eq_getElem?_getD]
        simp [show k < ps.length by omega]
      rw [this]
      simp
    · simp only [h, if_false]
      rw [uupto_succ]
      unfold ustep
      rw [List.getD_cons_succ, List.getD_cons_succ, next_next _ ps k hn (by omega), setAll_cons true _ _ (fun x hx => by have := nextL_bd ps hok k x hx; omega)]
      split
      · split <;> rfl
      · rfl
theorem sure_more (cell : Nat) (hc : cell < 16) (ps : List Ins) (hok : ∀ i ∈ ps, i.ok) (hn : ps.length + 1 ≤ 4096) (j : Nat) (hj : j < ps.length) :
    (sureT (stI cell :: ps)).getD (j + 1) 0 = bits .or .u16 ((sureT ps).getD j 0) ((2 ^ cell : Nat) : Int) := by
  have hok2 : ∀ i ∈ stI cell :: ps, i.ok := fun i hi => by
    rcases List.mem_cons.1 hi with rfl | h
    · exact ⟨(by decide : (0 : Int) ≤ 2 ∧ (2 : Int) < 256 ^ 2), (by decide : (0 : Int) ≤ 0 ∧ (0 : Int) < 256), (by decide : (0 : Int) ≤ 0 ∧ (0 : Int) < 256), by show (0 : Int) ≤ (cell : Int) ∧ (cell : Int) < 256 ^ 4; omega⟩
    · exact hok i h
  obtain ⟨x, h1, h2, h3⟩ := sureT_bit ps hok (by omega) j hj
  obtain ⟨y, g1, g2, g3⟩ := sureT_bit (stI cell :: ps) hok2 (by simp; omega) (j + 1) (by simpa using hj)
  have hp : 2 ^ cell < 65536 := Nat.lt_of_lt_of_le (Nat.pow_lt_pow_right (by omega) hc) (by decide)
  rw [h1, g1, or16 x (2 ^ cell) h2 hp]
  rw [eq_of_bits y (x ||| 2 ^ cell) g2 (Nat.or_lt_two_pow (n := 16) (by omega) (by omega)) (fun c hcc => ?_)]
  rw [g3 c hcc, more_un cell c ps hok hn j (by omega), Nat.testBit_or, h3 c hcc, Nat.testBit_two_pow]
  by_cases h : cell = c
  · subst h
    simp only [if_true, List.getD_cons_succ, decide_true, Bool.or_true]
    rw [List.getD_eq_getElem?_getD]
    simp [hj]
  · simp [h]
theorem sureT_len (ps : List Ins) (hn : ps.length ≤ 4096) : (sureT ps).length = ps.length := by
  unfold sureT
  rw [if_neg (by omega), masksOf_len]
end Go.Proofs.Ytplpffcolcjboaa
