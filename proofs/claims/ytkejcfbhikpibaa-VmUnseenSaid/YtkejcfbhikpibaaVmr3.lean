import Derived.Test.YtkejcfbhikpibaaVmr2
/- The document's machine: jump, do. -/
namespace Go.Proofs.Ytkejcfbhikpibaa
open Go.RowKit Go.ChangeShapes Go.WideShapes
set_option linter.unusedVariables false
set_option linter.unusedSimpArgs false

theorem rjump_5 (jt jf k : Int) (hk : U32 k) (g : Nat) (W : World) : Calls Try.prog 55 #[.pointer (some ⟨g, 0, none⟩), .agg #[.int .u16 5, .int .u8 jt, .int .u8 jf, .int .u32 k]] W fun e w' => e = .returned (.int .i64 k) ∧ Ext W w' := by
  have hx := (Ext.refl W).alloc (.cells #[.int .u16 5, .int .u8 jt, .int .u8 jf, .int .u32 k] 32)
  have s1 : IntKind.i64.wrap k = k := IntWalk.i64_in _ (by have := hk.1; have := hk.2; omega)
  clear hk
  go_enter Try.func55, Try.ntmps55
  go_wp2
  go_ret
  exact ⟨rfl, hx⟩
theorem rjump_21 (jt jf k : Int) (hj : 0 ≤ jt ∧ jt < 256) (hf : 0 ≤ jf ∧ jf < 256) (g : Nat) (s : Vm) (W : World) (B : RB W g s) : Calls Try.prog 55 #[.pointer (some ⟨g, 0, none⟩), .agg #[.int .u16 21, .int .u8 jt, .int .u8 jf, .int .u32 k]] W fun e w' => e = .returned (.int .i64 (if (s.a == k) then jt else jf)) ∧ Ext W w' := by
  have hx := (Ext.refl W).alloc (.cells #[.int .u16 21, .int .u8 jt, .int .u8 jf, .int .u32 k] 32)
  have B1 := B.ext hx
  have HWX := Lib.hid (fun W => refWithX_any 21 W)
  rw [show owx (byO 21).1 = false from by kernel_rfl] at HWX
  have HI := Lib.hid (Blk.new W 32 #[.int .u16 21, .int .u8 jt, .int .u8 jf, .int .u32 k])
  have HB := Lib.hid B1
  obtain ⟨j0, j1⟩ := hj
  obtain ⟨f0, f1⟩ := hf
  clear B B1
  rcases hT : ((s.a == k) : Bool) with _ | _
  all_goals
    go_enter Try.func55, Try.ntmps55
    go_wp2_with fail
    refine (HWX.out _).mono ?_
    rintro e w1 ⟨rfl, hx1⟩
    have q0 := (HI.out.ext hx1).cell 0
    have q1 := (HI.out.ext hx1).cell 1
    have q2 := (HI.out.ext hx1).cell 2
    have q3 := (HI.out.ext hx1).cell 3
    have y0 := (HB.out.ext hx1).a
    have y1 := (HB.out.ext hx1).x
    replace hx := hx.trans hx1
    clear HI HB HWX hx1
    go_wp2_with fail
    go_ret
    exact ⟨rfl, hx⟩
theorem rjump_29 (jt jf k : Int) (hj : 0 ≤ jt ∧ jt < 256) (hf : 0 ≤ jf ∧ jf < 256) (g : Nat) (s : Vm) (W : World) (B : RB W g s) : Calls Try.prog 55 #[.pointer (some ⟨g, 0, none⟩), .agg #[.int .u16 29, .int .u8 jt, .int .u8 jf, .int .u32 k]] W fun e w' => e = .returned (.int .i64 (if (s.a == s.x) then jt else jf)) ∧ Ext W w' := by
  have hx := (Ext.refl W).alloc (.cells #[.int .u16 29, .int .u8 jt, .int .u8 jf, .int .u32 k] 32)
  have B1 := B.ext hx
  have HWX := Lib.hid (fun W => refWithX_any 29 W)
  rw [show owx (byO 29).1 = true from by kernel_rfl] at HWX
  have HI := Lib.hid (Blk.new W 32 #[.int .u16 29, .int .u8 jt, .int .u8 jf, .int .u32 k])
  have HB := Lib.hid B1
  obtain ⟨j0, j1⟩ := hj
  obtain ⟨f0, f1⟩ := hf
  clear B B1
  rcases hT : ((s.a == s.x) : Bool) with _ | _
  all_goals
    go_enter Try.func55, Try.ntmps55
    go_wp2_with fail
    refine (HWX.out _).mono ?_
    rintro e w1 ⟨rfl, hx1⟩
    have q0 := (HI.out.ext hx1).cell 0
    have q1 := (HI.out.ext hx1).cell 1
    have q2 := (HI.out.ext hx1).cell 2
    have q3 := (HI.out.ext hx1).cell 3
    have y0 := (HB.out.ext hx1).a
    have y1 := (HB.out.ext hx1).x
    replace hx := hx.trans hx1
    clear HI HB HWX hx1
    go_wp2_with fail
    go_ret
    exact ⟨rfl, hx⟩
theorem rjump_37 (jt jf k : Int) (hj : 0 ≤ jt ∧ jt < 256) (hf : 0 ≤ jf ∧ jf < 256) (g : Nat) (s : Vm) (W : World) (B : RB W g s) : Calls Try.prog 55 #[.pointer (some ⟨g, 0, none⟩), .agg #[.int .u16 37, .int .u8 jt, .int .u8 jf, .int .u32 k]] W fun e w' => e = .returned (.int .i64 (if (decide (k < s.a)) then jt else jf)) ∧ Ext W w' := by
  have hx := (Ext.refl W).alloc (.cells #[.int .u16 37, .int .u8 jt, .int .u8 jf, .int .u32 k] 32)
  have B1 := B.ext hx
  have HWX := Lib.hid (fun W => refWithX_any 37 W)
  rw [show owx (byO 37).1 = false from by kernel_rfl] at HWX
  have HI := Lib.hid (Blk.new W 32 #[.int .u16 37, .int .u8 jt, .int .u8 jf, .int .u32 k])
  have HB := Lib.hid B1
  obtain ⟨j0, j1⟩ := hj
  obtain ⟨f0, f1⟩ := hf
  clear B B1
  rcases hT : ((decide (k < s.a)) : Bool) with _ | _
  all_goals
    go_enter Try.func55, Try.ntmps55
    go_wp2_with fail
    refine (HWX.out _).mono ?_
    rintro e w1 ⟨rfl, hx1⟩
    have q0 := (HI.out.ext hx1).cell 0
    have q1 := (HI.out.ext hx1).cell 1
    have q2 := (HI.out.ext hx1).cell 2
    have q3 := (HI.out.ext hx1).cell 3
    have y0 := (HB.out.ext hx1).a
    have y1 := (HB.out.ext hx1).x
    replace hx := hx.trans hx1
    clear HI HB HWX hx1
    go_wp2_with fail
    go_ret
    exact ⟨rfl, hx⟩
theorem rjump_45 (jt jf k : Int) (hj : 0 ≤ jt ∧ jt < 256) (hf : 0 ≤ jf ∧ jf < 256) (g : Nat) (s : Vm) (W : World) (B : RB W g s) : Calls Try.prog 55 #[.pointer (some ⟨g, 0, none⟩), .agg #[.int .u16 45, .int .u8 jt, .int .u8 jf, .int .u32 k]] W fun e w' => e = .returned (.int .i64 (if (decide (s.x < s.a)) then jt else jf)) ∧ Ext W w' := by
  have hx := (Ext.refl W).alloc (.cells #[.int .u16 45, .int .u8 jt, .int .u8 jf, .int .u32 k] 32)
  have B1 := B.ext hx
  have HWX := Lib.hid (fun W => refWithX_any 45 W)
  rw [show owx (byO 45).1 = true from by kernel_rfl] at HWX
  have HI := Lib.hid (Blk.new W 32 #[.int .u16 45, .int .u8 jt, .int .u8 jf, .int .u32 k])
  have HB := Lib.hid B1
  obtain ⟨j0, j1⟩ := hj
  obtain ⟨f0, f1⟩ := hf
  clear B B1
  rcases hT : ((decide (s.x < s.a)) : Bool) with _ | _
  all_goals
    go_enter Try.func55, Try.ntmps55
    go_wp2_with fail
    refine (HWX.out _).mono ?_
    rintro e w1 ⟨rfl, hx1⟩
    have q0 := (HI.out.ext hx1).cell 0
    have q1 := (HI.out.ext hx1).cell 1
    have q2 := (HI.out.ext hx1).cell 2
    have q3 := (HI.out.ext hx1).cell 3
    have y0 := (HB.out.ext hx1).a
    have y1 := (HB.out.ext hx1).x
    replace hx := hx.trans hx1
    clear HI HB HWX hx1
    go_wp2_with fail
    go_ret
    exact ⟨rfl, hx⟩
theorem rjump_53 (jt jf k : Int) (hj : 0 ≤ jt ∧ jt < 256) (hf : 0 ≤ jf ∧ jf < 256) (g : Nat) (s : Vm) (W : World) (B : RB W g s) : Calls Try.prog 55 #[.pointer (some ⟨g, 0, none⟩), .agg #[.int .u16 53, .int .u8 jt, .int .u8 jf, .int .u32 k]] W fun e w' => e = .returned (.int .i64 (if (decide (k ≤ s.a)) then jt else jf)) ∧ Ext W w' := by
  have hx := (Ext.refl W).alloc (.cells #[.int .u16 53, .int .u8 jt, .int .u8 jf, .int .u32 k] 32)
  have B1 := B.ext hx
  have HWX := Lib.hid (fun W => refWithX_any 53 W)
  rw [show owx (byO 53).1 = false from by kernel_rfl] at HWX
  have HI := Lib.hid (Blk.new W 32 #[.int .u16 53, .int .u8 jt, .int .u8 jf, .int .u32 k])
  have HB := Lib.hid B1
  obtain ⟨j0, j1⟩ := hj
  obtain ⟨f0, f1⟩ := hf
  clear B B1
  rcases hT : ((decide (k ≤ s.a)) : Bool) with _ | _
  all_goals
    go_enter Try.func55, Try.ntmps55
    go_wp2_with fail
    refine (HWX.out _).mono ?_
    rintro e w1 ⟨rfl, hx1⟩
    have q0 := (HI.out.ext hx1).cell 0
    have q1 := (HI.out.ext hx1).cell 1
    have q2 := (HI.out.ext hx1).cell 2
    have q3 := (HI.out.ext hx1).cell 3
    have y0 := (HB.out.ext hx1).a
    have y1 := (HB.out.ext hx1).x
    replace hx := hx.trans hx1
    clear HI HB HWX hx1
    go_wp2_with fail
    go_ret
    exact ⟨rfl, hx⟩
theorem rjump_61 (jt jf k : Int) (hj : 0 ≤ jt ∧ jt < 256) (hf : 0 ≤ jf ∧ jf < 256) (g : Nat) (s : Vm) (W : World) (B : RB W g s) : Calls Try.prog 55 #[.pointer (some ⟨g, 0, none⟩), .agg #[.int .u16 61, .int .u8 jt, .int .u8 jf, .int .u32 k]] W fun e w' => e = .returned (.int .i64 (if (decide (s.x ≤ s.a)) then jt else jf)) ∧ Ext W w' := by
  have hx := (Ext.refl W).alloc (.cells #[.int .u16 61, .int .u8 jt, .int .u8 jf, .int .u32 k] 32)
  have B1 := B.ext hx
  have HWX := Lib.hid (fun W => refWithX_any 61 W)
  rw [show owx (byO 61).1 = true from by kernel_rfl] at HWX
  have HI := Lib.hid (Blk.new W 32 #[.int .u16 61, .int .u8 jt, .int .u8 jf, .int .u32 k])
  have HB := Lib.hid B1
  obtain ⟨j0, j1⟩ := hj
  obtain ⟨f0, f1⟩ := hf
  clear B B1
  rcases hT : ((decide (s.x ≤ s.a)) : Bool) with _ | _
  all_goals
    go_enter Try.func55, Try.ntmps55
    go_wp2_with fail
    refine (HWX.out _).mono ?_
    rintro e w1 ⟨rfl, hx1⟩
    have q0 := (HI.out.ext hx1).cell 0
    have q1 := (HI.out.ext hx1).cell 1
    have q2 := (HI.out.ext hx1).cell 2
    have q3 := (HI.out.ext hx1).cell 3
    have y0 := (HB.out.ext hx1).a
    have y1 := (HB.out.ext hx1).x
    replace hx := hx.trans hx1
    clear HI HB HWX hx1
    go_wp2_with fail
    go_ret
    exact ⟨rfl, hx⟩
theorem rjump_69 (jt jf k : Int) (hj : 0 ≤ jt ∧ jt < 256) (hf : 0 ≤ jf ∧ jf < 256) (g : Nat) (s : Vm) (W : World) (B : RB W g s) : Calls Try.prog 55 #[.pointer (some ⟨g, 0, none⟩), .agg #[.int .u16 69, .int .u8 jt, .int .u8 jf, .int .u32 k]] W fun e w' => e = .returned (.int .i64 (if (decide (0 < bits .and .u32 s.a k)) then jt else jf)) ∧ Ext W w' := by
  have hx := (Ext.refl W).alloc (.cells #[.int .u16 69, .int .u8 jt, .int .u8 jf, .int .u32 k] 32)
  have B1 := B.ext hx
  have HWX := Lib.hid (fun W => refWithX_any 69 W)
  rw [show owx (byO 69).1 = false from by kernel_rfl] at HWX
  have HI := Lib.hid (Blk.new W 32 #[.int .u16 69, .int .u8 jt, .int .u8 jf, .int .u32 k])
  have HB := Lib.hid B1
  obtain ⟨j0, j1⟩ := hj
  obtain ⟨f0, f1⟩ := hf
  clear B B1
  rcases hT : ((decide (0 < bits .and .u32 s.a k)) : Bool) with _ | _
  all_goals
    go_enter Try.func55, Try.ntmps55
    go_wp2_with fail
    refine (HWX.out _).mono ?_
    rintro e w1 ⟨rfl, hx1⟩
    have q0 := (HI.out.ext hx1).cell 0
    have q1 := (HI.out.ext hx1).cell 1
    have q2 := (HI.out.ext hx1).cell 2
    have q3 := (HI.out.ext hx1).cell 3
    have y0 := (HB.out.ext hx1).a
    have y1 := (HB.out.ext hx1).x
    replace hx := hx.trans hx1
    clear HI HB HWX hx1
    go_wp2_with fail
    go_ret
    exact ⟨rfl, hx⟩
theorem rjump_77 (jt jf k : Int) (hj : 0 ≤ jt ∧ jt < 256) (hf : 0 ≤ jf ∧ jf < 256) (g : Nat) (s : Vm) (W : World) (B : RB W g s) : Calls Try.prog 55 #[.pointer (some ⟨g, 0, none⟩), .agg #[.int .u16 77, .int .u8 jt, .int .u8 jf, .int .u32 k]] W fun e w' => e = .returned (.int .i64 (if (decide (0 < bits .and .u32 s.a s.x)) then jt else jf)) ∧ Ext W w' := by
  have hx := (Ext.refl W).alloc (.cells #[.int .u16 77, .int .u8 jt, .int .u8 jf, .int .u32 k] 32)
  have B1 := B.ext hx
  have HWX := Lib.hid (fun W => refWithX_any 77 W)
  rw [show owx (byO 77).1 = true from by kernel_rfl] at HWX
  have HI := Lib.hid (Blk.new W 32 #[.int .u16 77, .int .u8 jt, .int .u8 jf, .int .u32 k])
  have HB := Lib.hid B1
  obtain ⟨j0, j1⟩ := hj
  obtain ⟨f0, f1⟩ := hf
  clear B B1
  rcases hT : ((decide (0 < bits .and .u32 s.a s.x)) : Bool) with _ | _
  all_goals
    go_enter Try.func55, Try.ntmps55
    go_wp2_with fail
    refine (HWX.out _).mono ?_
    rintro e w1 ⟨rfl, hx1⟩
    have q0 := (HI.out.ext hx1).cell 0
    have q1 := (HI.out.ext hx1).cell 1
    have q2 := (HI.out.ext hx1).cell 2
    have q3 := (HI.out.ext hx1).cell 3
    have y0 := (HB.out.ext hx1).a
    have y1 := (HB.out.ext hx1).x
    replace hx := hx.trans hx1
    clear HI HB HWX hx1
    go_wp2_with fail
    go_ret
    exact ⟨rfl, hx⟩
end Go.Proofs.Ytkejcfbhikpibaa
