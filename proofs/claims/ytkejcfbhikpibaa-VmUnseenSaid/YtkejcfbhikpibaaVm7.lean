import Derived.Test.YtkejcfbhikpibaaVm6
/- vm: jump. -/
namespace Go.Proofs.Ytkejcfbhikpibaa
open Go.RowKit Go.ChangeShapes Go.WideShapes
set_option linter.unusedVariables false
set_option linter.unusedSimpArgs false

theorem jump_ja (jt jf k : Int) (hk : U32 k) (g : Nat) (W : World) :
    Calls Try.prog 70 #[.pointer (some ⟨g, 0, none⟩), .agg #[.int .u16 5, .int .u8 jt, .int .u8 jf, .int .u32 k]] W fun e w' => e = .returned (.int .i64 k) ∧ Ext W w' := by
  have hx := (Ext.refl W).alloc (.cells #[.int .u16 5, .int .u8 jt, .int .u8 jf, .int .u32 k] 32)
  have s1 : IntKind.i64.wrap k = k := IntWalk.i64_in _ (by have := hk.1; have := hk.2; omega)
  clear hk
  go_enter Try.func70, Try.ntmps70
  go_wp2
  go_ret
  exact ⟨rfl, hx⟩
set_option maxHeartbeats 1000000 in
theorem jump_op (i : Ins) (hi : i.ok) (g : Nat) (d : Dat) (s : Vm) (ho : s.ok) (kk : Nat) (hk : kk < 4) (hby : byI i.code = 10 + kk) (hb : U32 (secondE i s)) (h1 : i.code ≠ 5) (W : World) (B : MB W g d s) :
    Calls Try.prog 70 #[.pointer (some ⟨g, 0, none⟩), i.val] W fun e w' => e = .returned (.int .i64 (if hoE kk s.a (secondE i s) then i.jt else i.jf)) ∧ Ext W w' := by
  have HS := Lib.hid (fun W B => second_any i g d s W B)
  have hx := (Ext.refl W).alloc (.cells #[.int .u16 i.code, .int .u8 i.jt, .int .u8 i.jf, .int .u32 i.k] 32)
  have HI := Lib.hid (Blk.new W 32 #[.int .u16 i.code, .int .u8 i.jt, .int .u8 i.jf, .int .u32 i.k])
  have HB := Lib.hid (B.ext hx)
  have HY := Lib.hid (fun W => by_vm i.code (10 + kk) (by omega) hby W)
  have HD := Lib.hid (fun W => pr_ho kk hk s.a (secondE i s) ho.a hb W)
  have HEV := Lib.hid (pr_enters (10 + kk) (by omega))
  have ed : prD (10 + kk) = .nilFunc := by unfold prD; rw [if_neg (by omega)]
  have eh : prH (10 + kk) = .func (.func (prF (10 + kk))) #[] #[] := by unfold prH; rw [if_neg (by omega)]
  rw [ed, eh] at HY
  have j0 := hi.2.1.1
  have j1 : i.jt < 256 := hi.2.1.2
  have f0 := hi.2.2.1.1
  have f1 : i.jf < 256 := hi.2.2.1.2
  have d1 : (i.code == 5) = false := by simpa using h1
  clear ed eh hby hb B ho h1
  have hidx := pair_ho (prC.getD (10 + kk) 0) .nilFunc (.func (.func (prF (10 + kk))) #[] #[])
  generalize prC.getD (10 + kk) 0 = pcode at *
  generalize prF (10 + kk) = F at *
  generalize hoE kk s.a (secondE i s) = hh at *
  generalize secondE i s = b at *
  unfold Ins.val Ins.cells at *
  obtain ⟨co, jt, jf, k⟩ := i
  dsimp only at *
  go_enter Try.func70, Try.ntmps70
  go_wp2_with fail
  generalize W.alloc (.cells #[.int .u16 co, .int .u8 jt, .int .u8 jf, .int .u32 k] 32) = W0 at *
  refine wp_region_mono rfl [.is ?va0, .is ?va1, .is (.agg #[.int .u16 pcode, .nilFunc, .func (.func F) #[] #[]]), .is ?va3, .is ?va4, .is ?va5, .is ?va6, .is ?va7, .is ?va8, .is (.agg #[.int .u16 co, .int .u8 jt, .int .u8 jf, .int .u32 k]), .is ?va10, .is (.bool hh), .is ?va12] (by kernel_rfl) (by kernel_rfl) ?Aa ?hAa ⟨?oa0, ?oa1, ?oa2, ?oa3, ?oa4, ?oa5, ?oa6, ?oa7, ?oa8, ?oa9, ?oa10, ?oa11, ?oa12, trivial⟩ ?fina
  case hAa => (intro x; simp only [fillOps, Act.put, List.setIfInBounds_toArray, List.set_cons_zero, List.set_cons_succ, Nat.reduceAdd]; rfl)
  case oa0 =>
    intro x U hU
    simp only [depV, One, dstOf, readDst, asBool, VP.is, VP.any, VP.row, VP.ptr, VP.blk, VP.ex, VP.and, VP.of, List.getD_cons_zero, List.getD_cons_succ]
    go_wp2_with (fail)
    refine done_mk ?_ rfl (Ext.refl _)
    rfl
  case oa1 =>
    intro x U hU
    simp only [depV, One, dstOf, readDst, asBool, VP.is, VP.any, VP.row, VP.ptr, VP.blk, VP.ex, VP.and, VP.of, List.getD_cons_zero, List.getD_cons_succ]
    intro d0
    simp only [d0]
    have q0 := (HI.out.ext hU).cell 0
    go_wp2_with (fail)
    refine done_mk ?_ rfl (Ext.refl _)
    rfl
  case oa2 =>
    intro x U hU
    simp only [depV, One, dstOf, readDst, asBool, VP.is, VP.any, VP.row, VP.ptr, VP.blk, VP.ex, VP.and, VP.of, List.getD_cons_zero, List.getD_cons_succ]
    intro d1
    simp only [d1]
    go_wp2_with (refine (HY.out _).mono ?_; rintro e w2 ⟨rfl, hx2⟩)
    refine done_mk ?_ rfl (hx2)
    rfl
  case oa3 =>
    intro x U hU
    simp only [depV, One, dstOf, readDst, asBool, VP.is, VP.any, VP.row, VP.ptr, VP.blk, VP.ex, VP.and, VP.of, List.getD_cons_zero, List.getD_cons_succ]
    intro d2
    simp only [d2]
    go_wp2_with (fail)
    refine done_mk ?_ rfl (Ext.refl _)
    rfl
  case oa4 =>
    intro x U hU
    simp only [depV, One, dstOf, readDst, asBool, VP.is, VP.any, VP.row, VP.ptr, VP.blk, VP.ex, VP.and, VP.of, List.getD_cons_zero, List.getD_cons_succ]
    go_wp2_with (fail)
    refine done_mk ?_ rfl (Ext.refl _)
    rfl
  case oa5 =>
    intro x U hU
    simp only [depV, One, dstOf, readDst, asBool, VP.is, VP.any, VP.row, VP.ptr, VP.blk, VP.ex, VP.and, VP.of, List.getD_cons_zero, List.getD_cons_succ]
    intro d4
    simp only [d4]
    go_wp2_with (fail)
    refine done_mk ?_ rfl (Ext.refl _)
    rfl
  case oa6 =>
    intro x U hU
    simp only [depV, One, dstOf, readDst, asBool, VP.is, VP.any, VP.row, VP.ptr, VP.blk, VP.ex, VP.and, VP.of, List.getD_cons_zero, List.getD_cons_succ]
    intro d5
    simp only [d5]
    go_wp2_with (fail)
    refine done_mk ?_ rfl (Ext.refl _)
    rfl
  case oa7 =>
    intro x U hU
    simp only [depV, One, dstOf, readDst, asBool, VP.is, VP.any, VP.row, VP.ptr, VP.blk, VP.ex, VP.and, VP.of, List.getD_cons_zero, List.getD_cons_succ]
    intro d6
    simp only [d6]
    have q0 := (HB.out.ext hU).a
    go_wp2_with (fail)
    refine done_mk ?_ rfl (Ext.refl _)
    rfl
  case oa8 =>
    intro x U hU
    simp only [depV, One, dstOf, readDst, asBool, VP.is, VP.any, VP.row, VP.ptr, VP.blk, VP.ex, VP.and, VP.of, List.getD_cons_zero, List.getD_cons_succ]
    go_wp2_with (fail)
    refine done_mk ?_ rfl (Ext.refl _)
    rfl
  case oa9 =>
    intro x U hU
    simp only [depV, One, dstOf, readDst, asBool, VP.is, VP.any, VP.row, VP.ptr, VP.blk, VP.ex, VP.and, VP.of, List.getD_cons_zero, List.getD_cons_succ]
    have q0 := (HI.out.ext hU).cell 0
    have q1 := (HI.out.ext hU).cell 1
    have q2 := (HI.out.ext hU).cell 2
    have q3 := (HI.out.ext hU).cell 3
    go_wp2_with (fail)
    refine done_mk ?_ rfl (Ext.refl _)
    rfl
  case oa10 =>
    intro x U hU
    simp only [depV, One, dstOf, readDst, asBool, VP.is, VP.any, VP.row, VP.ptr, VP.blk, VP.ex, VP.and, VP.of, List.getD_cons_zero, List.getD_cons_succ]
    intro d8
    intro d9
    simp only [d8, d9]
    have hb := HB.out.ext hU
    go_wp2_with (refine (HS.out _ hb).mono ?_; rintro e w2 ⟨rfl, hx2⟩)
    refine done_mk ?_ rfl (hx2)
    rfl
  case oa11 =>
    intro x U hU
    simp only [depV, One, dstOf, readDst, asBool, VP.is, VP.any, VP.row, VP.ptr, VP.blk, VP.ex, VP.and, VP.of, List.getD_cons_zero, List.getD_cons_succ]
    intro d3
    intro d7
    intro d10
    simp only [d3, d7, d10]
    have ev := HEV.out
    go_wp2_with ((refine (HD.out _).mono ?_; rintro e w2 ⟨rfl, rfl⟩))
    refine done_mk ?_ rfl (Ext.refl _)
    rfl
  case oa12 =>
    intro x U hU
    simp only [depV, One, dstOf, readDst, asBool, VP.is, VP.any, VP.row, VP.ptr, VP.blk, VP.ex, VP.and, VP.of, List.getD_cons_zero, List.getD_cons_succ]
    intro d11
    simp only [d11]
    go_wp2_with (fail)
    refine done_mk ?_ rfl (Ext.refl _)
    rfl
  case fina =>
    intro x U hU
    simp only [allV, depV, One, dstOf, readDst, asBool, VP.is, VP.any, VP.row, VP.ptr, VP.blk, VP.ex, VP.and, VP.of, List.getD_cons_zero, List.getD_cons_succ]
    intro d0
    intro d1
    intro d2
    intro d3
    intro d4
    intro d5
    intro d6
    intro d7
    intro d8
    intro d9
    intro d10
    intro d11
    intro d12
    simp only [d0, d1, d2, d3, d4, d5, d6, d7, d8, d9, d10, d11, d12]
    clear d0 d1 d2 d3 d4 d5 d6 d7 d8 d9 d10 d11 d12
    have q1 := (HI.out.ext hU).cell 1
    have q2 := (HI.out.ext hU).cell 2
    replace hx := hx.trans hU
    clear hU
    cases hh
    · go_wp2
      go_ret
      exact ⟨rfl, hx⟩
    · go_wp2
      go_ret
      exact ⟨rfl, hx⟩
end Go.Proofs.Ytkejcfbhikpibaa
