import Derived.Test.YtkejcfbhikpibaaVm2
/- vm: fail, cell, second; the pair of a code. -/
namespace Go.Proofs.Ytkejcfbhikpibaa
open Go.RowKit Go.ChangeShapes Go.WideShapes
set_option linter.unusedVariables false
set_option linter.unusedSimpArgs false

/-- An error that is raised. -/
def pan (e : Int) : List PanicEntry := [{ v := .iface 38 (.int .i64 e), recovered := false }]
theorem fail_any (x : Int) (W : World) : Calls Try.prog 49 #[.int .i64 x] W fun e w' => e = .panicked (pan x) ∧ W = w' := by
  unfold pan
  go_enter Try.func49, Try.ntmps49
  go_wp2
  exact ⟨rfl, rfl, rfl⟩
theorem cell_no (g : Nat) (k : Int) (h : 16 ≤ k) (W : World) : Calls Try.prog 68 #[.pointer (some ⟨g, 0, none⟩), .int .u32 k] W fun e w' => e = .panicked (pan 43) ∧ W = w' := by
  go_enter Try.func68, Try.ntmps68
  go_wp2_with fail
  refine (fail_any 43 _).mono ?_
  rintro e w1 ⟨rfl, rfl⟩
  exact ⟨rfl, rfl, rfl⟩
theorem cell_yes (g : Nat) (k : Nat) (h : k < 16) (W : World) : Calls Try.prog 68 #[.pointer (some ⟨g, 0, none⟩), .int .u32 k] W fun e w' => e = .returned (.pointer (some ⟨g, 2 + k, none⟩)) ∧ W = w' := by
  have h1 : ¬ (16 : Int) ≤ k := by omega
  have h2 : (0 : Int) ≤ k := by omega
  have h3 : (k : Int) < 16 := by omega
  go_enter Try.func68, Try.ntmps68
  go_wp2
  go_ret
  exact ⟨rfl, rfl⟩
def secondE (i : Ins) (s : Vm) : Int := if takesX i.code then s.x else i.k
theorem second_any (i : Ins) (g : Nat) (d : Dat) (s : Vm) (W : World) (B : MB W g d s) : Calls Try.prog 80 #[.pointer (some ⟨g, 0, none⟩), i.val] W fun e w' => e = .returned (.int .u32 (secondE i s)) ∧ Ext W w' := by
  have HK := Lib.hid (fun W => withX_any i.code W)
  have hx := (Ext.refl W).alloc (.cells #[.int .u16 i.code, .int .u8 i.jt, .int .u8 i.jf, .int .u32 i.k] 32)
  have B0 := Blk.new W 32 #[.int .u16 i.code, .int .u8 i.jt, .int .u8 i.jf, .int .u32 i.k]
  have B1 := B.ext hx
  unfold secondE
  unfold Ins.val Ins.cells
  obtain ⟨co, jt, jf, k⟩ := i
  dsimp only at *
  generalize takesX co = b at *
  go_enter Try.func80, Try.ntmps80
  go_wp2_with fail
  refine (HK.out _).mono ?_
  rintro e w1 ⟨rfl, hx1⟩
  have q0 := (B0.ext hx1).cell 3
  have q1 := (B1.ext hx1).x
  replace hx := hx.trans hx1
  cases b
  · go_wp2
    go_ret
    exact ⟨rfl, hx⟩
  · go_wp2
    go_ret
    exact ⟨rfl, hx⟩
end Go.Proofs.Ytkejcfbhikpibaa
