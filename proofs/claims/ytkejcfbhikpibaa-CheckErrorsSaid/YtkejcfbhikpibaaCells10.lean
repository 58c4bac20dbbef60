import Derived.Test.YtkejcfbhikpibaaCells9
/- The small functions of cells: writes, reads, room, come and the visits. -/
namespace Go.Proofs.Ytkejcfbhikpibaa
open Go.RowKit Go.ChangeShapes Go.WideShapes
set_option linter.unusedVariables false
set_option linter.unusedSimpArgs false

/-- The cell that an instruction writes, as a mask. -/
def wrM (i : Ins) : Int := if clsOf i.code == 2 && decide (i.k < 16) then 2 ^ i.k.toNat else 0
def rdM (i : Ins) : Int := if (i.code == 96 || i.code == 97) && decide (i.k < 16) then 2 ^ i.k.toNat else 0

set_option maxHeartbeats 4000000 in
set_option maxRecDepth 100000 in
theorem writesI (i : Ins) (hi : i.ok) (w : World) :
    Calls Try.prog 61 #[i.val] w fun e w' => e = .returned (.int .u16 (wrM i)) ∧ Ext w w' := by
  have HK := Lib.hid (fun W => of_any i.code W)
  obtain ⟨co, jt, jf, k⟩ := i
  have hr : wrM ⟨co, jt, jf, k⟩ = wrM ⟨co, jt, jf, k⟩ := rfl
  conv at hr => rhs; unfold wrM clsOf; dsimp only
  simp only [Ins.val, Ins.cells] at HK ⊢
  generalize (byE co).1.cls = q at *
  have k0 : 0 ≤ k := hi.2.2.2.1
  rw [hr]
  have B := Blk.new w 32 #[.int .u16 co, .int .u8 jt, .int .u8 jf, .int .u32 k]
  have p0 := B.cell 0
  have hx := (Ext.refl w).alloc (.cells #[.int .u16 co, .int .u8 jt, .int .u8 jf, .int .u32 k] 32)
  clear hr hi
  by_cases hq : q = 2
  · subst hq
    by_cases hk : k < 16
    · have hd : decide ((16 : Int) ≤ k) = false := by simp; omega
      simp only [beq_self_eq_true, hk, decide_true, Bool.and_self, if_true]
      have hk16 : k = 0 ∨ k = 1 ∨ k = 2 ∨ k = 3 ∨ k = 4 ∨ k = 5 ∨ k = 6 ∨ k = 7 ∨ k = 8 ∨ k = 9 ∨ k = 10 ∨ k = 11 ∨ k = 12 ∨ k = 13 ∨ k = 14 ∨ k = 15 := by omega
      clear hk k0 hd
      rcases hk16 with rfl | rfl | rfl | rfl | rfl | rfl | rfl | rfl | rfl | rfl | rfl | rfl | rfl | rfl | rfl | rfl
      all_goals
        go_enter Try.func61, Try.ntmps61
        go_wp2_with fail
        refine (HK.out _).mono ?_
        rintro e w1 ⟨rfl, hx'⟩
        have p3 := (B.ext hx').cell 3
        replace hx := hx.trans hx'
        clear B p0 hx' HK
        go_wp2
        go_ret
        exact ⟨rfl, hx⟩
    · have hd : (16 : Int) ≤ k := by omega
      simp only [hk, decide_false, Bool.and_false, Bool.false_eq_true, if_false]
      clear hk
      go_enter Try.func61, Try.ntmps61
      go_wp2_with fail
      refine (HK.out _).mono ?_
      rintro e w1 ⟨rfl, hx'⟩
      have p3 := (B.ext hx').cell 3
      replace hx := hx.trans hx'
      clear B p0 hx' HK
      go_wp2
      go_ret
      exact ⟨rfl, hx⟩
  · have hq' : (q == 2) = false := by simpa using hq
    simp only [hq', Bool.false_and, Bool.false_eq_true, if_false]
    have hq2 : (q != 2) = true := by simp [bne, hq']
    go_enter Try.func61, Try.ntmps61
    go_wp2_with fail
    refine (HK.out _).mono ?_
    rintro e w1 ⟨rfl, hx'⟩
    replace hx := hx.trans hx'
    clear B p0 hx' HK
    go_wp2
    go_ret
    exact ⟨rfl, hx⟩

set_option maxHeartbeats 4000000 in
set_option maxRecDepth 100000 in
theorem readsI (i : Ins) (hi : i.ok) (w : World) :
    Calls Try.prog 59 #[i.val] w fun e w' => e = .returned (.int .u16 (rdM i)) ∧ Ext w w' := by
  obtain ⟨co, jt, jf, k⟩ := i
  have hr : rdM ⟨co, jt, jf, k⟩ = rdM ⟨co, jt, jf, k⟩ := rfl
  conv at hr => rhs; unfold rdM; dsimp only
  simp only [Ins.val, Ins.cells]
  have k0 : 0 ≤ k := hi.2.2.2.1
  rw [hr]
  have B := Blk.new w 32 #[.int .u16 co, .int .u8 jt, .int .u8 jf, .int .u32 k]
  have p0 := B.cell 0
  have p3 := B.cell 3
  have hx := (Ext.refl w).alloc (.cells #[.int .u16 co, .int .u8 jt, .int .u8 jf, .int .u32 k] 32)
  clear hr hi B
  by_cases hc : co = 96 ∨ co = 97
  · have hcb : (co == 96 || co == 97) = true := by simpa using hc
    rw [hcb]
    clear hcb
    by_cases hk : k < 16
    · simp only [hk, decide_true, Bool.and_self, if_true]
      have hk16 : k = 0 ∨ k = 1 ∨ k = 2 ∨ k = 3 ∨ k = 4 ∨ k = 5 ∨ k = 6 ∨ k = 7 ∨ k = 8 ∨ k = 9 ∨ k = 10 ∨ k = 11 ∨ k = 12 ∨ k = 13 ∨ k = 14 ∨ k = 15 := by omega
      clear hk k0
      rcases hc with rfl | rfl
      all_goals rcases hk16 with rfl | rfl | rfl | rfl | rfl | rfl | rfl | rfl | rfl | rfl | rfl | rfl | rfl | rfl | rfl | rfl
      all_goals
        go_enter Try.func59, Try.ntmps59
        go_wp2
        go_ret
        exact ⟨rfl, hx⟩
    · have hd : (16 : Int) ≤ k := by omega
      simp only [hk, decide_false, Bool.and_false, Bool.false_eq_true, if_false]
      clear hk
      rcases hc with rfl | rfl
      all_goals
        go_enter Try.func59, Try.ntmps59
        go_wp2
        go_ret
        exact ⟨rfl, hx⟩
  · have h1 : (co != 96) = true := by simp; omega
    have h2 : (co != 97) = true := by simp; omega
    have hcb : (co == 96 || co == 97) = false := by simp; omega
    rw [hcb]
    simp only [Bool.false_and, Bool.false_eq_true, if_false]
    go_enter Try.func59, Try.ntmps59
    go_wp2
    go_ret
    exact ⟨rfl, hx⟩

theorem roomI (A : Option Addr) (n c : Nat) (w : World) :
    Calls Try.prog 40 #[.slice A n c] w fun e w' => e = .returned (.int .i64 ((if 4096 < n then 0 else n : Nat) : Int)) ∧ w = w' := by
  by_cases h : 4096 < n
  · have d : (4096 : Int) < n := by omega
    rw [if_pos h]
    go_enter Try.func40, Try.ntmps40
    go_wp2
    go_ret
    exact ⟨rfl, rfl⟩
  · have d : ¬ (4096 : Int) < n := by omega
    rw [if_neg h]
    go_enter Try.func40, Try.ntmps40
    go_wp2
    go_ret
    exact ⟨rfl, rfl⟩
end Go.Proofs.Ytkejcfbhikpibaa
