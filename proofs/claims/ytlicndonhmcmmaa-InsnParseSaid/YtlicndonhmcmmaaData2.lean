import Derived.Test.YtlicndonhmcmmaaData
namespace Go.Proofs.Ytlicndonhmcmmaa
open Go.RowKit Go.ChangeShapes Go.WideShapes
set_option linter.unusedVariables false

/-- place, Low, High. -/
def plc (a k : Int) : Int := if 0 ≤ a ∧ a ≤ 5 then 16 + 8 * a + k else 0
def plb (a : Int) : Bool := decide (0 ≤ a ∧ a ≤ 5)
theorem place_yes (a k : Int) (w : World) (h0 : 0 ≤ a) (h5 : a ≤ 5) (k0 : 0 ≤ k) (k4 : k ≤ 4) :
    Calls Try.prog 73 #[.int .i64 a, .int .i64 k] w fun e w' => e = .returned (.tuple #[.int .u32 (16 + 8 * a + k), .bool true]) ∧ w = w' := by
  have d1 : decide (a < 0) = false := by simp; omega
  have d2 : decide (5 < a) = false := by simp; omega
  go_enter Try.func73, Try.ntmps73
  go_wp2
  go_ret2
  exact ⟨rfl, rfl⟩
theorem place_no (a k : Int) (w : World) (h : a < 0 ∨ 5 < a) :
    Calls Try.prog 73 #[.int .i64 a, .int .i64 k] w fun e w' => e = .returned (.tuple #[.int .u32 0, .bool false]) ∧ w = w' := by
  by_cases h0 : a < 0
  · have d1 : decide (a < 0) = true := by simp; omega
    clear h
    go_enter Try.func73, Try.ntmps73
    go_wp2
    go_ret2
    exact ⟨rfl, rfl⟩
  · have d1 : decide (a < 0) = false := by simp; omega
    have d2 : decide (5 < a) = true := by simp; omega
    clear h
    go_enter Try.func73, Try.ntmps73
    go_wp2
    go_ret2
    exact ⟨rfl, rfl⟩
theorem low_any (a : Int) (w : World) : Calls Try.prog 33 #[.int .i64 a] w fun e w' => e = .returned (.tuple #[.int .u32 (plc a 0), .bool (plb a)]) ∧ w = w' := by
  by_cases h : 0 ≤ a ∧ a ≤ 5
  · rw [show plb a = true from by unfold plb; simpa using h, show plc a 0 = 16 + 8 * a from by unfold plc; rw [if_pos h, Int.add_zero]]
    go_enter Try.func33, Try.ntmps33
    go_wp2_with (go_at_call 73; refine (place_yes a 0 w h.1 h.2 (by omega) (by omega)).mono ?_; rintro e w' ⟨rfl, rfl⟩)
    go_ret2
    exact ⟨rfl, rfl⟩
  · rw [show plb a = false from by unfold plb; simpa using h, show plc a 0 = 0 from by unfold plc; rw [if_neg h]]
    go_enter Try.func33, Try.ntmps33
    go_wp2_with (go_at_call 73; refine (place_no a 0 w (by omega)).mono ?_; rintro e w' ⟨rfl, rfl⟩)
    go_ret2
    exact ⟨rfl, rfl⟩
theorem high_any (a : Int) (w : World) : Calls Try.prog 34 #[.int .i64 a] w fun e w' => e = .returned (.tuple #[.int .u32 (plc a 4), .bool (plb a)]) ∧ w = w' := by
  by_cases h : 0 ≤ a ∧ a ≤ 5
  · rw [show plb a = true from by unfold plb; simpa using h, show plc a 4 = 16 + 8 * a + 4 from by unfold plc; rw [if_pos h]]
    go_enter Try.func34, Try.ntmps34
    go_wp2_with (go_at_call 73; refine (place_yes a 4 w h.1 h.2 (by omega) (by omega)).mono ?_; rintro e w' ⟨rfl, rfl⟩)
    go_ret2
    exact ⟨rfl, rfl⟩
  · rw [show plb a = false from by unfold plb; simpa using h, show plc a 4 = 0 from by unfold plc; rw [if_neg h]]
    go_enter Try.func34, Try.ntmps34
    go_wp2_with (go_at_call 73; refine (place_no a 4 w (by omega)).mono ?_; rintro e w' ⟨rfl, rfl⟩)
    go_ret2
    exact ⟨rfl, rfl⟩

/-- Word. -/
def wordOk (at_ : Int) : Bool := decide (at_ % 4 = 0 ∧ at_ < 64)
def Dat.word (d : Dat) (at_ : Int) : Int := if wordOk at_ = true then d.words.getD (at_ / 4).toNat 0 else 0
def wordErr (at_ : Int) : Int := if wordOk at_ = true then 0 else 41
theorem tbl_index (d : Dat) (k : Nat) (hk : k < 16) (W : World) : (Instr.index 107 (tblV d) (.int .u32 k)).run Try.prog W = .ok (.int .u32 (d.words.getD k 0)) W := by
  obtain rfl | rfl | rfl | rfl | rfl | rfl | rfl | rfl | rfl | rfl | rfl | rfl | rfl | rfl | rfl | rfl : k = 0 ∨ k = 1 ∨ k = 2 ∨ k = 3 ∨ k = 4 ∨ k = 5 ∨ k = 6 ∨ k = 7 ∨ k = 8 ∨ k = 9 ∨ k = 10 ∨ k = 11 ∨ k = 12 ∨ k = 13 ∨ k = 14 ∨ k = 15 := by omega
  all_goals kernel_rfl
theorem word_any (d : Dat) (hd : d.ok) (at_ : Int) (w : World) (h0 : 0 ≤ at_) (h1 : at_ < 4294967296) :
    Calls Try.prog 35 #[d.val, .int .u32 at_] w fun e w' => e = .returned (.tuple #[.int .u32 (d.word at_), .int .i64 (wordErr at_)]) ∧ Ext w w' := by
  by_cases h4 : at_ % 4 = 0
  · have d1 : (at_ % 4 != 0) = false := by simp; exact h4
    by_cases h64 : at_ < 64
    · have hw : wordOk at_ = true := by unfold wordOk; simp; omega
      rw [show d.word at_ = d.words.getD (at_ / 4).toNat 0 from by unfold Dat.word; rw [if_pos hw], show wordErr at_ = 0 from by unfold wordErr; rw [if_pos hw]]
      have d2 : decide (64 ≤ at_) = false := by simp; omega
      have hidx := tbl_index d (at_ / 4).toNat (by omega)
      rw [show ((at_ / 4).toNat : Int) = at_ / 4 from by omega] at hidx
      have hq := IntWalk.u32_quo at_ 4 (by omega)
      have HT := fun W : World => table_any d hd W
      have HC := Lib.hid HT; clear HT
      generalize tblV d = T at *
      clear h4 hw h64
      obtain ⟨nr, arch, ip, a0, a1, a2, a3, a4, a5⟩ := d
      go_enter Try.func35, Try.ntmps35
      go_wp2_with (go_at_call 74; refine (HC.out _).mono ?_; rintro e w2 ⟨rfl, hx2⟩)
      go_ret2
      exact ⟨rfl, hx2.one⟩
    · have hw : wordOk at_ = false := by unfold wordOk; simp; omega
      rw [show d.word at_ = 0 from by unfold Dat.word; rw [if_neg (by rw [hw]; simp)], show wordErr at_ = 41 from by unfold wordErr; rw [if_neg (by rw [hw]; simp)]]
      have d2 : decide (64 ≤ at_) = true := by simp; omega
      clear h4 hw
      obtain ⟨nr, arch, ip, a0, a1, a2, a3, a4, a5⟩ := d
      go_enter Try.func35, Try.ntmps35
      go_wp2
      go_ret2
      exact ⟨rfl, (Ext.refl w).alloc _⟩
  · have d1 : (at_ % 4 != 0) = true := by simp; exact h4
    have hw : wordOk at_ = false := by unfold wordOk; simp; omega
    rw [show d.word at_ = 0 from by unfold Dat.word; rw [if_neg (by rw [hw]; simp)], show wordErr at_ = 41 from by unfold wordErr; rw [if_neg (by rw [hw]; simp)]]
    clear h4 hw
    obtain ⟨nr, arch, ip, a0, a1, a2, a3, a4, a5⟩ := d
    go_enter Try.func35, Try.ntmps35
    go_wp2
    go_ret2
    exact ⟨rfl, (Ext.refl w).alloc _⟩
end Go.Proofs.Ytlicndonhmcmmaa
