import Derived.Test.YtkejcfbhikpibaaCells20
/- The document's Unsure; that it is what cells.Unsure computes. -/
namespace Go.Proofs.Ytkejcfbhikpibaa
open Go.RowKit Go.ChangeShapes Go.WideShapes
set_option linter.unusedVariables false
set_option linter.unusedSimpArgs false

def rdb (i : Ins) : Bool := (i.code == 96 || i.code == 97) && decide (i.k < 16)
/-- Does a place read a cell that isn't sure? (its mask, whether it is reached) -/
def badR (i : Ins) (r : Bool) (m : Int) : Bool := r && rdb i && (m / 2 ^ i.k.toNat % 2 == 0)
def unU (ps : List Ins) (k : Nat) : List Int := (List.range k).filterMap fun j => if badR (ps.getD j zeroI) ((reachL ps).getD j false) ((sureL ps).getD j 0) then some (j : Int) else none
def unsureL (ps : List Ins) : List Int := unU ps (sureL ps).length
theorem unU_succ (ps : List Ins) (k : Nat) : unU ps (k + 1) = unU ps k ++ (if badR (ps.getD k zeroI) ((reachL ps).getD k false) ((sureL ps).getD k 0) then [(k : Int)] else []) := by
  unfold unU
  rw [List.range_succ, List.filterMap_append]
  congr 1
  rw [List.filterMap_cons, List.filterMap_nil]
  cases badR (ps.getD k zeroI) ((reachL ps).getD k false) ((sureL ps).getD k 0) <;> rfl
theorem unU_len (ps : List Ins) (k : Nat) : (unU ps k).length ≤ k := Nat.le_trans (List.length_filterMap_le _ _) (by simp)

theorem andNot_bit (a b c : Nat) (hc : c < 16) : ((BitVec.ofInt 16 (a : Int)) &&& ~~~ (BitVec.ofInt 16 (b : Int))).toNat.testBit c = (a.testBit c && !b.testBit c) := by
  have e : ∀ x : Nat, (BitVec.ofInt 16 (x : Int)).getLsbD c = x.testBit c := fun x => by
    rw [BitVec.ofInt_natCast, BitVec.getLsbD_ofNat]
    simp [hc]
  have h : ∀ v : BitVec 16, v.toNat.testBit c = v.getLsbD c := fun v => rfl
  rw [h, BitVec.getLsbD_and, BitVec.getLsbD_not, e, e]
  simp [hc]
theorem andNot_pow (k m : Nat) (hk : k < 16) (hm : m < 65536) : (bits .andNot .u16 ((2 ^ k : Nat) : Int) (m : Int) != 0) = !m.testBit k := by
  have hb : bits .andNot .u16 ((2 ^ k : Nat) : Int) (m : Int) = ((((BitVec.ofInt 16 ((2 ^ k : Nat) : Int)) &&& ~~~ (BitVec.ofInt 16 (m : Int))).toNat : Nat) : Int) := by
    have hl := ((BitVec.ofInt 16 ((2 ^ k : Nat) : Int)) &&& ~~~ (BitVec.ofInt 16 (m : Int))).isLt
    show IntKind.u16.wrap ((((BitVec.ofInt 16 ((2 ^ k : Nat) : Int)) &&& ~~~ (BitVec.ofInt 16 (m : Int))).toNat : Nat) : Int) = _
    exact IntWalk.u16_in _ (by omega)
  rw [hb]
  have hbit := fun c hc => andNot_bit (2 ^ k) m c hc
  generalize ((BitVec.ofInt 16 ((2 ^ k : Nat) : Int)) &&& ~~~ (BitVec.ofInt 16 (m : Int))) = v at *
  cases ht : m.testBit k with
  | true =>
    have : v.toNat = 0 := eq_of_bits _ _ (by have := v.isLt; omega) (by omega) (fun c hc => by
      rw [hbit c hc, Nat.testBit_two_pow, Nat.zero_testBit]
      by_cases e : k = c
      · subst e; simp [ht]
      · simp [e])
    rw [this]
    rfl
  | false =>
    have h1 := hbit k hk
    rw [Nat.testBit_two_pow, ht] at h1
    have : v.toNat ≠ 0 := fun e => by rw [e] at h1; simp at h1
    have h2 : ((v.toNat : Nat) : Int) ≠ 0 := by omega
    simpa using h2
theorem bad_same (i : Ins) (hi : i.ok) (m : Nat) (hm : m < 65536) : badM i m = (rdb i && ((m : Int) / 2 ^ i.k.toNat % 2 == 0)) := by
  have k0 : 0 ≤ i.k := hi.2.2.2.1
  obtain ⟨k, hk⟩ : ∃ k : Nat, i.k = k := ⟨i.k.toNat, by omega⟩
  unfold badM rdM rdb
  rw [hk]
  cases (i.code == 96 || i.code == 97) with
  | false =>
    simp only [Bool.false_and, Bool.false_eq_true, if_false]
    have h : bits .andNot .u16 0 (m : Int) = 0 := by
      have := fun c hc => andNot_bit 0 m c hc
      show IntKind.u16.wrap (((BitVec.ofInt 16 ((0 : Nat) : Int)) &&& ~~~ (BitVec.ofInt 16 (m : Int))).toNat : Int) = 0
      have e : ((BitVec.ofInt 16 ((0 : Nat) : Int)) &&& ~~~ (BitVec.ofInt 16 (m : Int))).toNat = 0 := eq_of_bits _ _ (by have := ((BitVec.ofInt 16 ((0 : Nat) : Int)) &&& ~~~ (BitVec.ofInt 16 (m : Int))).isLt; omega) (by omega) (fun c hc => by rw [this c hc]; simp)
      rw [e]
      rfl
    rw [h]
    rfl
  | true =>
    by_cases h : k < 16
    · have hk' : ((k : Int) < 16) := by omega
      simp only [hk', decide_true, Bool.and_self, if_true, Int.toNat_natCast, Bool.true_and]
      have := andNot_pow k m h hm
      rw [show ((2 : Int) ^ k) = ((2 ^ k : Nat) : Int) by simp, this, Nat.testBit_eq_decide_div_mod_eq]
      have e : ((m : Int) / ((2 ^ k : Nat) : Int) % 2) = ((m / 2 ^ k % 2 : Nat) : Int) := by simp
      rw [e]
      have h2 : m / 2 ^ k % 2 < 2 := Nat.mod_lt _ (by omega)
      generalize m / 2 ^ k % 2 = r at *
      have : r = 0 ∨ r = 1 := by omega
      rcases this with rfl | rfl <;> rfl
    · have hk' : ¬ ((k : Int) < 16) := by omega
      simp only [hk', decide_false, Bool.and_false, Bool.false_eq_true, if_false, Bool.false_and]
      have h : bits .andNot .u16 0 (m : Int) = 0 := by
        have := fun c hc => andNot_bit 0 m c hc
        show IntKind.u16.wrap (((BitVec.ofInt 16 ((0 : Nat) : Int)) &&& ~~~ (BitVec.ofInt 16 (m : Int))).toNat : Int) = 0
        have e : ((BitVec.ofInt 16 ((0 : Nat) : Int)) &&& ~~~ (BitVec.ofInt 16 (m : Int))).toNat = 0 := eq_of_bits _ _ (by have := ((BitVec.ofInt 16 ((0 : Nat) : Int)) &&& ~~~ (BitVec.ofInt 16 (m : Int))).isLt; omega) (by omega) (fun c hc => by rw [this c hc]; simp)
        rw [e]
        rfl
      rw [h]
      rfl
theorem reach_get (ps : List Ins) (hok : ∀ i ∈ ps, i.ok) (hn : ¬ 4096 < ps.length) (j : Nat) (hj : j < ps.length) : (reachL ps).getD j false = (rupto ps j).getD j false := by
  unfold reachL
  rw [if_neg hn, show ps.length = j + (ps.length - j) by omega, rupto_stable ps hok j]
theorem unsure_upto (ps : List Ins) (hok : ∀ i ∈ ps, i.ok) (hn : ¬ 4096 < ps.length) : ∀ k, k ≤ ps.length → unsureOf ps (visits ps k) = unU ps k
  | 0, _ => rfl
  | k + 1, hk => by
    have hkl : k < ps.length := by omega
    have hget : ps.getD k zeroI = ps[k] := by rw [List.getD_eq_getElem?_getD, List.getElem?_eq_getElem hkl]; rfl
    have hik := hok _ (List.getElem_mem hkl)
    rw [visits_succ, unU_succ, wupto_snd, reach_get ps hok hn k hkl]
    cases hr : (rupto ps k).getD k false with
    | false =>
      simp only [Bool.false_eq_true, if_false, List.append_nil, badR, Bool.false_and]
      exact unsure_upto ps hok hn k (by omega)
    | true =>
      simp only [if_true]
      rw [unsureOf_snoc, unsure_upto ps hok hn k (by omega)]
      congr 1
      dsimp only
      obtain ⟨x, h1, h2, _⟩ := (sure_bit ps hok 0 (by omega) k (by omega)).yes k (by rw [(wupto_len ps k).2]; omega) (by rw [wupto_snd]; exact hr)
      have h3 : (sureL ps).getD k 0 = x := by
        rw [← sure_same ps hok]
        unfold sureT
        rw [if_neg hn, masks_get ps _ k hkl, if_pos ⟨hkl, hr⟩, h1]
      rw [h1, h3, hget, bad_same _ hik x h2]
      simp [badR]
theorem unsure_same (ps : List Ins) (hok : ∀ i ∈ ps, i.ok) : unsureT ps = unsureL ps := by
  unfold unsureT unsureL
  by_cases hn : 4096 < ps.length
  · rw [if_pos hn]
    have : sureL ps = [] := by unfold sureL; rw [if_pos hn]
    rw [this]
    rfl
  · rw [if_neg hn]
    have : (sureL ps).length = ps.length := by unfold sureL; rw [if_neg hn, cellsUpto_length]
    rw [this]
    exact unsure_upto ps hok hn _ (Nat.le_refl _)

theorem bools_cell' {l : List Bool} {k : Nat} (hk : k < l.length) : (l.map Value.bool)[k]? = some (.bool l[k]) := by simp [hk]
end Go.Proofs.Ytkejcfbhikpibaa
