import Derived.Test.YtkejcfbhikpibaaPath1
/- What a run wrote: steps, in the forms that the walks meet. -/
namespace Go.Proofs.Ytkejcfbhikpibaa
open Go.RowKit
set_option linter.unusedVariables false
set_option linter.unusedSimpArgs false

theorem ints_get (l : List Nat) (k : Nat) (h : k < (ints l).length) : (ints l)[k]'h = ((l.getD k 0 : Nat) : Int) := by
  have h2 : k < l.length := by rw [ints_length] at h; exact h
  rw [List.getD_eq_getElem?_getD, List.getElem?_eq_getElem h2]
  simp [ints]
theorem wrN_yes (co jt jf : Int) (kn : Nat) (h : (co == 2 || co == 3) = true) (hk : kn < 16) : wrN ⟨co, jt, jf, kn⟩ = 2 ^ kn := by
  have hk' : ((kn : Int) < 16) := by omega
  unfold wrN
  dsimp only
  rw [h]
  simp [hk']
theorem wrN_no (co jt jf : Int) (kn : Nat) (h : ((co == 2 || co == 3) && decide ((kn : Int) < 16)) = false) : wrN ⟨co, jt, jf, kn⟩ = 0 := by
  unfold wrN
  dsimp only
  rw [h]
  rfl
theorem wrote_yes (ps : List Ins) (hok : ∀ i ∈ ps, i.ok) (tr : List Nat) (k : Nat) (co jt jf : Int) (kn : Nat) (hI : ps.getD (tr.getD k 0) zeroI = ⟨co, jt, jf, kn⟩) (h : (co == 2 || co == 3) = true) (hk : kn < 16) :
    bits .or .u16 (wrote ps tr k) ((2 ^ kn : Nat) : Int) = wrote ps tr (k + 1) := by
  have hp : 2 ^ kn < 65536 := Nat.lt_of_lt_of_le (Nat.pow_lt_pow_right (by omega) hk) (by decide)
  rw [wrote_succ, hI, wrN_yes co jt jf kn h hk]
  exact or16 _ _ (wrote_lt ps hok tr k) hp
theorem wrote_not (ps : List Ins) (tr : List Nat) (k : Nat) (co jt jf : Int) (kn : Nat) (hI : ps.getD (tr.getD k 0) zeroI = ⟨co, jt, jf, kn⟩) (h : ((co == 2 || co == 3) && decide ((kn : Int) < 16)) = false) : wrote ps tr (k + 1) = wrote ps tr k := by
  rw [wrote_succ, hI, wrN_no co jt jf kn h, Nat.or_zero]
theorem or32 (a b : Nat) (ha : a < 65536) (hb : b < 65536) : bits .or .u32 (a : Int) (b : Int) = ((a ||| b : Nat) : Int) := by
  have h1 : (BitVec.ofInt 32 (a : Int)).toNat = a := by rw [BitVec.ofInt_natCast, BitVec.toNat_ofNat]; exact Nat.mod_eq_of_lt (by omega)
  have h2 : (BitVec.ofInt 32 (b : Int)).toNat = b := by rw [BitVec.ofInt_natCast, BitVec.toNat_ofNat]; exact Nat.mod_eq_of_lt (by omega)
  have h3 : a ||| b < 65536 := Nat.or_lt_two_pow (n := 16) ha hb
  show IntKind.u32.wrap ((BitVec.ofInt 32 (a : Int) ||| BitVec.ofInt 32 (b : Int)).toNat : Int) = _
  rw [BitVec.toNat_or, h1, h2]
  exact IntWalk.u32_in _ (by omega)
theorem wrote_yes32 (ps : List Ins) (hok : ∀ i ∈ ps, i.ok) (tr : List Nat) (k : Nat) (co jt jf : Int) (kn : Nat) (hI : ps.getD (tr.getD k 0) zeroI = ⟨co, jt, jf, kn⟩) (h : (co == 2 || co == 3) = true) (hk : kn < 16) :
    bits .or .u32 (wrote ps tr k) ((2 ^ kn : Nat) : Int) = wrote ps tr (k + 1) := by
  have hp : 2 ^ kn < 65536 := Nat.lt_of_lt_of_le (Nat.pow_lt_pow_right (by omega) hk) (by decide)
  rw [wrote_succ, hI, wrN_yes co jt jf kn h hk]
  exact or32 _ _ (wrote_lt ps hok tr k) hp
theorem pow32_wrap (m : Nat) (hm : m < 16) : IntKind.u32.wrap ((2 : Int) ^ m) = ((2 ^ m : Nat) : Int) := by
  have hp : 2 ^ m < 65536 := Nat.lt_of_lt_of_le (Nat.pow_lt_pow_right (by omega) hm) (by decide)
  have e : ((2 : Int) ^ m) = ((2 ^ m : Nat) : Int) := by simp
  rw [e]
  generalize 2 ^ m = x at *
  exact IntWalk.u32_in _ (by omega)
theorem bit_form (m k : Nat) : ((m : Int) / 2 ^ k % 2 == 0) = !m.testBit k := by
  rw [show ((2 : Int) ^ k) = ((2 ^ k : Nat) : Int) by simp, Nat.testBit_eq_decide_div_mod_eq]
  have e : ((m : Int) / ((2 ^ k : Nat) : Int) % 2) = ((m / 2 ^ k % 2 : Nat) : Int) := by simp
  rw [e]
  have h2 : m / 2 ^ k % 2 < 2 := Nat.mod_lt _ (by omega)
  generalize m / 2 ^ k % 2 = r at *
  rcases (by omega : r = 0 ∨ r = 1) with rfl | rfl <;> rfl
theorem unset_yes (ps : List Ins) (tr : List Nat) (k : Nat) (co jt jf : Int) (kn : Nat) (hI : ps.getD (tr.getD k 0) zeroI = ⟨co, jt, jf, kn⟩) (h : (co == 96 || co == 97) = true) (hk : kn < 16) :
    unsetN ps tr (k + 1) = (unsetN ps tr k || ((wrote ps tr k : Int) / 2 ^ kn % 2 == 0)) := by
  have hk' : ((kn : Int) < 16) := by omega
  rw [unsetN_succ, bit_form]
  unfold unsetAt rdb
  rw [hI]
  dsimp only
  rw [h]
  simp [hk']
theorem unset_no (ps : List Ins) (tr : List Nat) (k : Nat) (co jt jf : Int) (kn : Nat) (hI : ps.getD (tr.getD k 0) zeroI = ⟨co, jt, jf, kn⟩) (h : ((co == 96 || co == 97) && decide ((kn : Int) < 16)) = false) :
    unsetN ps tr (k + 1) = unsetN ps tr k := by
  rw [unsetN_succ]
  unfold unsetAt rdb
  rw [hI]
  dsimp only
  rw [h]
  simp
end Go.Proofs.Ytkejcfbhikpibaa
