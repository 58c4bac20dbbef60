import Derived.Test.YtplpffcolcjboaaChk4
namespace Go.Proofs.Ytplpffcolcjboaa
open Go.RowKit Go.ChangeShapes Go.WideShapes
set_option linter.unusedVariables false
set_option linter.unusedSimpArgs false

set_option maxRecDepth 100000 in
theorem checkOne_walk (i : Ins) (hi : i.ok) (l : Int) (hl : (Lit.int .i64 l).wf = true) (W : World) :
    Calls Try.prog 3 #[i.val, .int .i64 l] W fun e w' => e = .returned (.bool true) ∧ Ext W w' := by
  have H1 := Lib.hid (fun W => checkOne i hi l W)
  have H2 := Lib.hid (fun W => refOne_any i hi l W)
  have hx := (Ext.refl W).alloc (.cells #[.int .u16 i.code, .int .u8 i.jt, .int .u8 i.jf, .int .u32 i.k] 25)
  have B := Blk.new W 25 #[.int .u16 i.code, .int .u8 i.jt, .int .u8 i.jf, .int .u32 i.k]
  generalize oneE i l = r at *
  clear hi hl
  obtain ⟨co, jt, jf, k⟩ := i
  simp only [Ins.val, Ins.cells] at *
  have s1 : (r == r) = true := by simp
  go_enter Try.func3, Try.ntmps3
  go_wp2_with fail
  generalize W.alloc (.cells #[.int .u16 co, .int .u8 jt, .int .u8 jf, .int .u32 k] 25) = W0 at *
  have HB := Lib.hid B
  clear B
  refine wp_region_mono rfl [.is (.agg #[.int .u16 co, .int .u8 jt, .int .u8 jf, .int .u32 k]), .is ?va1, .is ?va2, .is (.agg #[.int .u16 co, .int .u8 jt, .int .u8 jf, .int .u32 k]), .is ?va4, .is ?va5, .is ?va6, .is ?va7] (by kernel_rfl) (by kernel_rfl) ?Aa ?hAa ⟨?oa0, ?oa1, ?oa2, ?oa3, ?oa4, ?oa5, ?oa6, ?oa7, trivial⟩ ?fina
  case hAa => (intro x; simp only [fillOps, Act.put, List.setIfInBounds_toArray, List.set_cons_zero, List.set_cons_succ, Nat.reduceAdd]; rfl)
  case oa0 =>
    intro x U hU
    simp only [depV, One, dstOf, readDst, asBool, VP.is, VP.any, VP.row, VP.ptr, VP.blk, VP.ex, VP.and, VP.of, List.getD_cons_zero, List.getD_cons_succ]
    have q0 := (HB.out.ext hU).cell 0
    have q1 := (HB.out.ext hU).cell 1
    have q2 := (HB.out.ext hU).cell 2
    have q3 := (HB.out.ext hU).cell 3
    go_wp2_with (fail)
    refine done_mk ?_ rfl (Ext.refl _)
    rfl
  case oa1 =>
    intro x U hU
    simp only [depV, One, dstOf, readDst, asBool, VP.is, VP.any, VP.row, VP.ptr, VP.blk, VP.ex, VP.and, VP.of, List.getD_cons_zero, List.getD_cons_succ]
    go_wp2_with (fail)
    refine done_mk ?_ rfl (Ext.refl _)
    rfl
  case oa2 =>
    intro x U hU
    simp only [depV, One, dstOf, readDst, asBool, VP.is, VP.any, VP.row, VP.ptr, VP.blk, VP.ex, VP.and, VP.of, List.getD_cons_zero, List.getD_cons_succ]
    intro d0
    intro d1
    simp only [d0, d1]
    go_wp2_with ((refine (H1.out _).mono ?_; rintro e w1 ⟨rfl, hx1⟩))
    refine done_mk ?_ rfl (hx1)
    rfl
  case oa3 =>
    intro x U hU
    simp only [depV, One, dstOf, readDst, asBool, VP.is, VP.any, VP.row, VP.ptr, VP.blk, VP.ex, VP.and, VP.of, List.getD_cons_zero, List.getD_cons_succ]
    have q0 := (HB.out.ext hU).cell 0
    have q1 := (HB.out.ext hU).cell 1
    have q2 := (HB.out.ext hU).cell 2
    have q3 := (HB.out.ext hU).cell 3
    go_wp2_with (fail)
    refine done_mk ?_ rfl (Ext.refl _)
    rfl
  case oa4 =>
    intro x U hU
    simp only [depV, One, dstOf, readDst, asBool, VP.is, VP.any, VP.row, VP.ptr, VP.blk, VP.ex, VP.and, VP.of, List.getD_cons_zero, List.getD_cons_succ]
    go_wp2_with (fail)
    refine done_mk ?_ rfl (Ext.refl _)
    rfl
  case oa5 =>
    intro x U hU
    simp only [depV, One, dstOf, readDst, asBool, VP.is, VP.any, VP.row, VP.ptr, VP.blk, VP.ex, VP.and, VP.of, List.getD_cons_zero, List.getD_cons_succ]
    intro d3
    intro d4
    simp only [d3, d4]
    go_wp2_with ((refine (H2.out _).mono ?_; rintro e w1 ⟨rfl, hx1⟩))
    refine done_mk ?_ rfl (hx1)
    rfl
  case oa6 =>
    intro x U hU
    simp only [depV, One, dstOf, readDst, asBool, VP.is, VP.any, VP.row, VP.ptr, VP.blk, VP.ex, VP.and, VP.of, List.getD_cons_zero, List.getD_cons_succ]
    intro d2
    intro d5
    simp only [d2, d5]
    go_wp2_with (fail)
    refine done_mk ?_ rfl (Ext.refl _)
    rfl
  case oa7 =>
    intro x U hU
    simp only [depV, One, dstOf, readDst, asBool, VP.is, VP.any, VP.row, VP.ptr, VP.blk, VP.ex, VP.and, VP.of, List.getD_cons_zero, List.getD_cons_succ]
    intro d6
    simp only [d6]
    go_wp2_with (fail)
    refine done_mk ?_ rfl (Ext.refl _)
    rfl
  case fina =>
    intro x U hU
    simp only [allV, depV, One, dstOf, readDst, asBool, VP.is, VP.any, VP.row, VP.ptr, VP.blk, VP.ex, VP.and, VP.of, List.getD_cons_zero, List.getD_cons_succ]
    intro d0
    intro d1
    intro d2
    intro d3
    intro d4
    intro d5
    intro d6
    intro d7
    simp only [d0, d1, d2, d3, d4, d5, d6, d7]
    clear d0 d1 d2 d3 d4 d5 d6 d7
    go_wp2
    go_ret
    exact ⟨rfl, hx.trans hU⟩
end Go.Proofs.Ytplpffcolcjboaa
