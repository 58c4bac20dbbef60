import Derived.Test.YtkejcfbhikpibaaVm4
/- vm: load. -/
namespace Go.Proofs.Ytkejcfbhikpibaa
open Go.RowKit Go.ChangeShapes Go.WideShapes
set_option linter.unusedVariables false
set_option linter.unusedSimpArgs false

/-- How a function of the machine ends: it returns and the machine is s, or an error is raised. -/
def VmP (g : Nat) (d : Dat) (W : World) (v : Value) (r : Vm × Int) (e : Ending) (w' : World) : Prop :=
  Upd g W w' ∧ (if r.2 = 0 then e = .returned v ∧ MB w' g d r.1 else e = .panicked (pan r.2))
theorem VmP.yes {g : Nat} {d : Dat} {W : World} {v : Value} {s : Vm} {w' : World} (h : Upd g W w') (k : MB w' g d s) : VmP g d W v (s, 0) (.returned v) w' := ⟨h, by rw [if_pos rfl]; exact ⟨rfl, k⟩⟩
theorem VmP.no {g : Nat} {d : Dat} {W : World} {v : Value} {s : Vm} {w' : World} {x : Int} (hx : x ≠ 0) (h : Upd g W w') : VmP g d W v (s, x) (.panicked (pan x)) w' := ⟨h, by rw [if_neg hx]⟩
def loadE (d : Dat) (i : Ins) (s : Vm) : Vm × Int :=
  if i.code = 32 then (if wordErr i.k = 0 then ({ s with a := d.word i.k }, 0) else (s, 41))
  else if i.code = 128 then ({ s with a := 64 }, 0)
  else if i.code = 129 then ({ s with x := 64 }, 0)
  else if i.code = 0 then ({ s with a := i.k }, 0)
  else if i.code = 1 then ({ s with x := i.k }, 0)
  else if i.code = 96 then (if i.k < 16 then ({ s with a := s.cs.getD i.k.toNat 0 }, 0) else (s, 43))
  else if i.code = 97 then (if i.k < 16 then ({ s with x := s.cs.getD i.k.toNat 0 }, 0) else (s, 43))
  else (s, 0)

theorem MB.dats {W : World} {g : Nat} {d : Dat} {s : Vm} (h : MB W g d s) : W.cell? ⟨g, 18, none⟩ = some (.int .u32 d.nr) ∧ W.cell? ⟨g, 19, none⟩ = some (.int .u32 d.arch) ∧ W.cell? ⟨g, 20, none⟩ = some (.int .u64 d.ip) ∧ W.cell? ⟨g, 21, none⟩ = some (.int .u64 d.a0) ∧ W.cell? ⟨g, 22, none⟩ = some (.int .u64 d.a1) ∧ W.cell? ⟨g, 23, none⟩ = some (.int .u64 d.a2) ∧ W.cell? ⟨g, 24, none⟩ = some (.int .u64 d.a3) ∧ W.cell? ⟨g, 25, none⟩ = some (.int .u64 d.a4) ∧ W.cell? ⟨g, 26, none⟩ = some (.int .u64 d.a5) :=
  ⟨h.dat (j := 0) (by decide), h.dat (j := 1) (by decide), h.dat (j := 2) (by decide), h.dat (j := 3) (by decide), h.dat (j := 4) (by decide), h.dat (j := 5) (by decide), h.dat (j := 6) (by decide), h.dat (j := 7) (by decide), h.dat (j := 8) (by decide)⟩
theorem load_128 (jt jf k : Int) (g : Nat) (d : Dat) (s : Vm) (W : World) (B : MB W g d s) : Calls Try.prog 67 #[.pointer (some ⟨g, 0, none⟩), .agg #[.int .u16 128, .int .u8 jt, .int .u8 jf, .int .u32 k]] W fun e w' => e = .returned (.tuple #[]) ∧ Upd g W w' ∧ MB w' g d { s with a := 64 } := by
  have hx := (Ext.refl W).alloc (.cells #[.int .u16 128, .int .u8 jt, .int .u8 jf, .int .u32 k] 32)
  have B1 := B.ext hx
  have z := B1.fz 0
  have z1 := B1.a
  have hu := (Upd.of_ext (g := g) hx).set 0 (.int .u32 64)
  have B2 := B1.setA 64
  clear B B1 hx
  go_enter Try.func67, Try.ntmps67
  go_wp2
  go_end0
  exact ⟨rfl, hu, B2⟩
theorem load_129 (jt jf k : Int) (g : Nat) (d : Dat) (s : Vm) (W : World) (B : MB W g d s) : Calls Try.prog 67 #[.pointer (some ⟨g, 0, none⟩), .agg #[.int .u16 129, .int .u8 jt, .int .u8 jf, .int .u32 k]] W fun e w' => e = .returned (.tuple #[]) ∧ Upd g W w' ∧ MB w' g d { s with x := 64 } := by
  have hx := (Ext.refl W).alloc (.cells #[.int .u16 129, .int .u8 jt, .int .u8 jf, .int .u32 k] 32)
  have B1 := B.ext hx
  have z := B1.fz 1
  have z1 := B1.x
  have hu := (Upd.of_ext (g := g) hx).set 1 (.int .u32 64)
  have B2 := B1.setX 64
  clear B B1 hx
  go_enter Try.func67, Try.ntmps67
  go_wp2
  go_end0
  exact ⟨rfl, hu, B2⟩
theorem load_0 (jt jf k : Int) (g : Nat) (d : Dat) (s : Vm) (W : World) (B : MB W g d s) : Calls Try.prog 67 #[.pointer (some ⟨g, 0, none⟩), .agg #[.int .u16 0, .int .u8 jt, .int .u8 jf, .int .u32 k]] W fun e w' => e = .returned (.tuple #[]) ∧ Upd g W w' ∧ MB w' g d { s with a := k } := by
  have hx := (Ext.refl W).alloc (.cells #[.int .u16 0, .int .u8 jt, .int .u8 jf, .int .u32 k] 32)
  have B1 := B.ext hx
  have z := B1.fz 0
  have z1 := B1.a
  have hu := (Upd.of_ext (g := g) hx).set 0 (.int .u32 k)
  have B2 := B1.setA k
  clear B B1 hx
  go_enter Try.func67, Try.ntmps67
  go_wp2
  go_end0
  exact ⟨rfl, hu, B2⟩
theorem load_1 (jt jf k : Int) (g : Nat) (d : Dat) (s : Vm) (W : World) (B : MB W g d s) : Calls Try.prog 67 #[.pointer (some ⟨g, 0, none⟩), .agg #[.int .u16 1, .int .u8 jt, .int .u8 jf, .int .u32 k]] W fun e w' => e = .returned (.tuple #[]) ∧ Upd g W w' ∧ MB w' g d { s with x := k } := by
  have hx := (Ext.refl W).alloc (.cells #[.int .u16 1, .int .u8 jt, .int .u8 jf, .int .u32 k] 32)
  have B1 := B.ext hx
  have z := B1.fz 1
  have z1 := B1.x
  have hu := (Upd.of_ext (g := g) hx).set 1 (.int .u32 k)
  have B2 := B1.setX k
  clear B B1 hx
  go_enter Try.func67, Try.ntmps67
  go_wp2
  go_end0
  exact ⟨rfl, hu, B2⟩
theorem load_96_no (jt jf k : Int) (hk : 16 ≤ k) (g : Nat) (d : Dat) (s : Vm) (W : World) (B : MB W g d s) : Calls Try.prog 67 #[.pointer (some ⟨g, 0, none⟩), .agg #[.int .u16 96, .int .u8 jt, .int .u8 jf, .int .u32 k]] W fun e w' => e = .panicked (pan 43) ∧ Upd g W w' := by
  have hx := (Ext.refl W).alloc (.cells #[.int .u16 96, .int .u8 jt, .int .u8 jf, .int .u32 k] 32)
  clear B
  go_enter Try.func67, Try.ntmps67
  go_wp2_with fail
  refine (cell_no g k hk _).mono ?_
  rintro e w1 ⟨rfl, rfl⟩
  exact ⟨rfl, rfl, Upd.of_ext hx⟩
theorem load_96_yes (jt jf : Int) (k : Nat) (hk : k < 16) (g : Nat) (d : Dat) (s : Vm) (W : World) (B : MB W g d s) : Calls Try.prog 67 #[.pointer (some ⟨g, 0, none⟩), .agg #[.int .u16 96, .int .u8 jt, .int .u8 jf, .int .u32 k]] W fun e w' => e = .returned (.tuple #[]) ∧ Upd g W w' ∧ MB w' g d { s with a := s.cs.getD k 0 } := by
  have hx := (Ext.refl W).alloc (.cells #[.int .u16 96, .int .u8 jt, .int .u8 jf, .int .u32 k] 32)
  have B1 := B.ext hx
  have z := B1.fz 0
  have z1 := B1.a
  have q := B1.c hk
  have hu := (Upd.of_ext (g := g) hx).set 0 (.int .u32 (s.cs.getD k 0))
  have B2 := B1.setA (s.cs.getD k 0)
  clear B B1 hx
  generalize s.cs.getD k 0 = v at *
  go_enter Try.func67, Try.ntmps67
  go_wp2_with fail
  refine (cell_yes g k hk _).mono ?_
  rintro e w1 ⟨rfl, rfl⟩
  go_wp2
  go_end0
  exact ⟨rfl, hu, B2⟩
theorem load_97_no (jt jf k : Int) (hk : 16 ≤ k) (g : Nat) (d : Dat) (s : Vm) (W : World) (B : MB W g d s) : Calls Try.prog 67 #[.pointer (some ⟨g, 0, none⟩), .agg #[.int .u16 97, .int .u8 jt, .int .u8 jf, .int .u32 k]] W fun e w' => e = .panicked (pan 43) ∧ Upd g W w' := by
  have hx := (Ext.refl W).alloc (.cells #[.int .u16 97, .int .u8 jt, .int .u8 jf, .int .u32 k] 32)
  clear B
  go_enter Try.func67, Try.ntmps67
  go_wp2_with fail
  refine (cell_no g k hk _).mono ?_
  rintro e w1 ⟨rfl, rfl⟩
  exact ⟨rfl, rfl, Upd.of_ext hx⟩
theorem load_97_yes (jt jf : Int) (k : Nat) (hk : k < 16) (g : Nat) (d : Dat) (s : Vm) (W : World) (B : MB W g d s) : Calls Try.prog 67 #[.pointer (some ⟨g, 0, none⟩), .agg #[.int .u16 97, .int .u8 jt, .int .u8 jf, .int .u32 k]] W fun e w' => e = .returned (.tuple #[]) ∧ Upd g W w' ∧ MB w' g d { s with x := s.cs.getD k 0 } := by
  have hx := (Ext.refl W).alloc (.cells #[.int .u16 97, .int .u8 jt, .int .u8 jf, .int .u32 k] 32)
  have B1 := B.ext hx
  have z := B1.fz 1
  have z1 := B1.x
  have q := B1.c hk
  have hu := (Upd.of_ext (g := g) hx).set 1 (.int .u32 (s.cs.getD k 0))
  have B2 := B1.setX (s.cs.getD k 0)
  clear B B1 hx
  generalize s.cs.getD k 0 = v at *
  go_enter Try.func67, Try.ntmps67
  go_wp2_with fail
  refine (cell_yes g k hk _).mono ?_
  rintro e w1 ⟨rfl, rfl⟩
  go_wp2
  go_end0
  exact ⟨rfl, hu, B2⟩
set_option maxHeartbeats 1000000 in
theorem load_32 (jt jf k : Int) (hk : U32 k) (g : Nat) (d : Dat) (hd : d.ok) (s : Vm) (W : World) (B : MB W g d s) : Calls Try.prog 67 #[.pointer (some ⟨g, 0, none⟩), .agg #[.int .u16 32, .int .u8 jt, .int .u8 jf, .int .u32 k]] W fun e w' => VmP g d W (.tuple #[]) (if wordErr k = 0 then ({ s with a := d.word k }, 0) else (s, 41)) e w' := by
  have hx := (Ext.refl W).alloc (.cells #[.int .u16 32, .int .u8 jt, .int .u8 jf, .int .u32 k] 32)
  have HI := Lib.hid ((Blk.new W 32 #[.int .u16 32, .int .u8 jt, .int .u8 jf, .int .u32 k]))
  have HB := Lib.hid (B.ext hx)
  have HW := Lib.hid (fun W => word_any d hd k W hk.1 hk.2)
  have HS : wordErr k = 0 ∨ wordErr k = 41 := by unfold wordErr; split <;> simp
  clear B hk hd
  generalize wordErr k = we at *
  generalize d.word k = wv at *
  go_enter Try.func67, Try.ntmps67
  go_wp2_with fail
  generalize W.alloc (.cells #[.int .u16 32, .int .u8 jt, .int .u8 jf, .int .u32 k] 32) = W0 at *
  refine wp_region_mono rfl [.is ?va0, .is ?va1, .is ?va2, .is d.val, .is ?va4, .is ?va5, .is ?va6, .is ?va7, .is ?va8, .is ?va9, .is ?va10, .is ?va11] (by kernel_rfl) (by kernel_rfl) ?Aa ?hAa ⟨?oa0, ?oa1, ?oa2, ?oa3, ?oa4, ?oa5, ?oa6, ?oa7, ?oa8, ?oa9, ?oa10, ?oa11, trivial⟩ ?fina
  case hAa => (intro x; simp only [fillOps, Act.put, List.setIfInBounds_toArray, List.set_cons_zero, List.set_cons_succ, Nat.reduceAdd]; rfl)
  case oa0 =>
    intro x U hU
    simp only [depV, One, dstOf, readDst, asBool, VP.is, VP.any, VP.row, VP.ptr, VP.blk, VP.ex, VP.and, VP.of, List.getD_cons_zero, List.getD_cons_succ]
    go_wp2_with (fail)
    refine done_mk ?_ rfl (Ext.refl _)
    rfl
  case oa1 =>
    intro x U hU
    simp only [depV, One, dstOf, readDst, asBool, VP.is, VP.any, VP.row, VP.ptr, VP.blk, VP.ex, VP.and, VP.of, List.getD_cons_zero, List.getD_cons_succ]
    intro d0
    simp only [d0]
    go_wp2_with (fail)
    refine done_mk ?_ rfl (Ext.refl _)
    rfl
  case oa2 =>
    intro x U hU
    simp only [depV, One, dstOf, readDst, asBool, VP.is, VP.any, VP.row, VP.ptr, VP.blk, VP.ex, VP.and, VP.of, List.getD_cons_zero, List.getD_cons_succ]
    intro d1
    simp only [d1]
    go_wp2_with (fail)
    refine done_mk ?_ rfl (Ext.refl _)
    rfl
  case oa3 =>
    intro x U hU
    simp only [depV, One, dstOf, readDst, asBool, VP.is, VP.any, VP.row, VP.ptr, VP.blk, VP.ex, VP.and, VP.of, List.getD_cons_zero, List.getD_cons_succ]
    intro d2
    simp only [d2]
    obtain ⟨q0, q1, q2, q3, q4, q5, q6, q7, q8⟩ := (HB.out.ext hU).dats
    go_wp2_with (fail)
    refine done_mk ?_ rfl (Ext.refl _)
    rfl
  case oa4 =>
    intro x U hU
    simp only [depV, One, dstOf, readDst, asBool, VP.is, VP.any, VP.row, VP.ptr, VP.blk, VP.ex, VP.and, VP.of, List.getD_cons_zero, List.getD_cons_succ]
    go_wp2_with (fail)
    refine done_mk ?_ rfl (Ext.refl _)
    rfl
  case oa5 =>
    intro x U hU
    simp only [depV, One, dstOf, readDst, asBool, VP.is, VP.any, VP.row, VP.ptr, VP.blk, VP.ex, VP.and, VP.of, List.getD_cons_zero, List.getD_cons_succ]
    intro d4
    simp only [d4]
    have q3 := (HI.out.ext hU).cell 3
    go_wp2_with (fail)
    refine done_mk ?_ rfl (Ext.refl _)
    rfl
  case oa6 =>
    intro x U hU
    simp only [depV, One, dstOf, readDst, asBool, VP.is, VP.any, VP.row, VP.ptr, VP.blk, VP.ex, VP.and, VP.of, List.getD_cons_zero, List.getD_cons_succ]
    intro d3
    intro d5
    simp only [d3, d5]
    go_wp2_with ((refine (HW.out _).mono ?_; rintro e w1 ⟨rfl, hx1⟩))
    refine done_mk ?_ rfl (hx1)
    rfl
  case oa7 =>
    intro x U hU
    simp only [depV, One, dstOf, readDst, asBool, VP.is, VP.any, VP.row, VP.ptr, VP.blk, VP.ex, VP.and, VP.of, List.getD_cons_zero, List.getD_cons_succ]
    intro d6
    simp only [d6]
    go_wp2_with (fail)
    refine done_mk ?_ rfl (Ext.refl _)
    rfl
  case oa8 =>
    intro x U hU
    simp only [depV, One, dstOf, readDst, asBool, VP.is, VP.any, VP.row, VP.ptr, VP.blk, VP.ex, VP.and, VP.of, List.getD_cons_zero, List.getD_cons_succ]
    intro d7
    simp only [d7]
    go_wp2_with (fail)
    refine done_mk ?_ rfl (Ext.refl _)
    rfl
  case oa9 =>
    intro x U hU
    simp only [depV, One, dstOf, readDst, asBool, VP.is, VP.any, VP.row, VP.ptr, VP.blk, VP.ex, VP.and, VP.of, List.getD_cons_zero, List.getD_cons_succ]
    intro d7
    simp only [d7]
    go_wp2_with (fail)
    refine done_mk ?_ rfl (Ext.refl _)
    rfl
  case oa10 =>
    intro x U hU
    simp only [depV, One, dstOf, readDst, asBool, VP.is, VP.any, VP.row, VP.ptr, VP.blk, VP.ex, VP.and, VP.of, List.getD_cons_zero, List.getD_cons_succ]
    intro d8
    simp only [d8]
    go_wp2_with (fail)
    refine done_mk ?_ rfl (Ext.refl _)
    rfl
  case oa11 =>
    intro x U hU
    simp only [depV, One, dstOf, readDst, asBool, VP.is, VP.any, VP.row, VP.ptr, VP.blk, VP.ex, VP.and, VP.of, List.getD_cons_zero, List.getD_cons_succ]
    intro d9
    simp only [d9]
    go_wp2_with (fail)
    refine done_mk ?_ rfl (Ext.refl _)
    rfl
  case fina =>
    intro x U hU
    simp only [allV, depV, One, dstOf, readDst, asBool, VP.is, VP.any, VP.row, VP.ptr, VP.blk, VP.ex, VP.and, VP.of, List.getD_cons_zero, List.getD_cons_succ]
    intro d0
    intro d1
    intro d2
    intro d3
    intro d4
    intro d5
    intro d6
    intro d7
    intro d8
    intro d9
    intro d10
    intro d11
    simp only [d0, d1, d2, d3, d4, d5, d6, d7, d8, d9, d10, d11]
    clear d0 d1 d2 d3 d4 d5 d6 d7 d8 d9 d10 d11
    have B1 := HB.out.ext hU
    replace hx := hx.trans hU
    clear HB HI HW hU
    rcases HS with rfl | rfl
    · have z := B1.fz 0
      have z1 := B1.a
      have hu := (Upd.of_ext (g := g) hx).set 0 (.int .u32 wv)
      have B2 := B1.setA wv
      go_wp2_with fail
      go_end0
      exact VmP.yes hu B2
    · go_wp2_with fail
      refine (fail_any 41 _).mono ?_
      rintro e w1 ⟨rfl, rfl⟩
      exact ⟨rfl, VmP.no (by decide) (Upd.of_ext hx)⟩
end Go.Proofs.Ytkejcfbhikpibaa
