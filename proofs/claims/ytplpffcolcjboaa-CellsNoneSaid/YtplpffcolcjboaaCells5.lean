import Derived.Test.YtplpffcolcjboaaCells4
namespace Go.Proofs.Ytplpffcolcjboaa
open Go.RowKit Go.ChangeShapes Go.WideShapes
set_option linter.unusedVariables false
set_option linter.unusedSimpArgs false

set_option maxHeartbeats 4000000 in
set_option maxRecDepth 100000 in
theorem rn_lt
    (n c k b1 o1 : Nat) (w : World) (i0 : TypeInfo) (HI : Hid (Try.prog.info? 3 = some i0)) (HZ0 : Hid (i0.zero = some (.int .i64 0))) (HZ1 : Hid (i0.size = 1)) (HZ2 : Hid (i0.bytes = 8)) (co jt jf kk : Int)
    (c1 : Hid (∀ W', Ext w W' → W'.cell? ⟨b1, o1 + k * 4, none⟩ = some (.int .u16 co) ∧ W'.cell? ⟨b1, o1 + k * 4 + 1, none⟩ = some (.int .u8 jt) ∧ W'.cell? ⟨b1, o1 + k * 4 + 2, none⟩ = some (.int .u8 jf) ∧ W'.cell? ⟨b1, o1 + k * 4 + 3, none⟩ = some (.int .u32 kk)))
    (ec : Int) (en : ByteArray) (H1 : Hid (∀ W : World, Calls Try.prog 45 #[.int .u16 co] W fun e w' => e = .returned (.agg #[.int .u16 ec, .string en, .int .u8 4]) ∧ Ext W w'))
    (j0 : 0 ≤ jt) (j1 : jt < 256) (f0 : 0 ≤ jf) (f1 : jf < 256) (k0 : 0 ≤ kk) (k1 : kk < 4294967296) (b3 : (k : Int) < n) (b5 : n ≤ 4096)
    (h5 : (co == 5) = false) (hj : jt < jf) (xs : List Int) (hxs : xs = if (k : Int) + 1 + jf < n then [(k : Int) + 1 + jt, (k : Int) + 1 + jf] else if (k : Int) + 1 + jt < n then [(k : Int) + 1 + jt] else []) :
    Calls Try.prog 28 #[.slice (some ⟨b1, o1, none⟩) n c, .int .i64 k] w fun e w' => ∃ P c', e = .returned (.slice P xs.length c') ∧ w'.ownsRow w.heap.size 3 1 (.slice P xs.length c') xs.length (nums .i64 xs) ∧ Ext w w'
    := by
  subst hxs
  have b2 : (0 : Int) ≤ k := by omega
  have b4 : ¬ (4096 : Int) < n := by omega
  have hfld := fun W => one_field2 ec 4 en W
  obtain ⟨q0, q1, q2, q3⟩ := c1.out w (Ext.refl _)
  have s0 : IntKind.i64.wrap ((k : Int) + 1) = (k : Int) + 1 := IntWalk.i64_in _ (by omega)
  have t1 : IntKind.i64.wrap jt = jt := IntWalk.i64_in _ (by omega)
  have t2 : IntKind.i64.wrap jf = jf := IntWalk.i64_in _ (by omega)
  have t3 : IntKind.i64.wrap kk = kk := IntWalk.i64_in _ (by omega)
  have s1 : IntKind.i64.wrap ((k : Int) + 1 + jt) = (k : Int) + 1 + jt := IntWalk.i64_in _ (by omega)
  have s2 : IntKind.i64.wrap ((k : Int) + 1 + jf) = (k : Int) + 1 + jf := IntWalk.i64_in _ (by omega)
  have s3 : IntKind.i64.wrap ((k : Int) + 1 + kk) = (k : Int) + 1 + kk := IntWalk.i64_in _ (by omega)
  have hxy : (k : Int) + 1 + jt < (k : Int) + 1 + jf := by omega
  generalize hzx : (k : Int) + 1 + jt = xa at *
  generalize hzy : (k : Int) + 1 + jf = ya at *
  have x1 : (0 : Int) ≤ xa := by omega
  clear hj
  have hne : (ya != xa) = true := by simp; omega
  by_cases hy : ya < (n : Int)
  · rw [if_pos hy]
    have hx : xa < (n : Int) := by omega
    go_enter Try.func28, Try.ntmps28
    go_wp2_with fail
    refine (H1.out _).mono ?_
    rintro e w1 ⟨rfl, hx1⟩
    go_wp2_with fail
    refine wp_region_mono rfl [.is ?va0, .is ?va1, .is ?va2, .is ?va3, .is ?va4, .is ?va5, .is ?va6, .is ?va7, .is ?va8, .is ?va9, .is ?va10, .is ?va11, .is ?va12, .is ?va13, .is ?va14, .is ?va15, .is ?va16, .is ?va17, .is ?va18, .is ?va19] (by kernel_rfl) (by kernel_rfl) ?Aa ?hAa ⟨?oa0, ?oa1, ?oa2, ?oa3, ?oa4, ?oa5, ?oa6, ?oa7, ?oa8, ?oa9, ?oa10, ?oa11, ?oa12, ?oa13, ?oa14, ?oa15, ?oa16, ?oa17, ?oa18, ?oa19, trivial⟩ ?fina
    case hAa => (intro x; simp only [fillOps, Act.put, List.setIfInBounds_toArray, List.set_cons_zero, List.set_cons_succ, Nat.reduceAdd]; rfl)
    case oa0 =>
      intro x U hU
      simp only [depV, One, dstOf, readDst, asBool, VP.is, VP.any, VP.row, VP.ptr, VP.blk, VP.ex, VP.and, VP.of, List.getD_cons_zero, List.getD_cons_succ]
      go_wp2_with (fail)
      refine done_mk ?_ rfl (Ext.refl _)
      rfl
    case oa1 =>
      intro x U hU
      simp only [depV, One, dstOf, readDst, asBool, VP.is, VP.any, VP.row, VP.ptr, VP.blk, VP.ex, VP.and, VP.of, List.getD_cons_zero, List.getD_cons_succ]
      intro d0
      simp only [d0]
      go_wp2_with (fail)
      refine done_mk ?_ rfl (Ext.refl _)
      rfl
    case oa2 =>
      intro x U hU
      simp only [depV, One, dstOf, readDst, asBool, VP.is, VP.any, VP.row, VP.ptr, VP.blk, VP.ex, VP.and, VP.of, List.getD_cons_zero, List.getD_cons_succ]
      go_wp2_with (fail)
      refine done_mk ?_ rfl (Ext.refl _)
      rfl
    case oa3 =>
      intro x U hU
      simp only [depV, One, dstOf, readDst, asBool, VP.is, VP.any, VP.row, VP.ptr, VP.blk, VP.ex, VP.and, VP.of, List.getD_cons_zero, List.getD_cons_succ]
      go_wp2_with (fail)
      refine done_mk ?_ rfl (Ext.refl _)
      rfl
    case oa4 =>
      intro x U hU
      simp only [depV, One, dstOf, readDst, asBool, VP.is, VP.any, VP.row, VP.ptr, VP.blk, VP.ex, VP.and, VP.of, List.getD_cons_zero, List.getD_cons_succ]
      intro d2
      intro d3
      simp only [d2, d3]
      go_wp2_with (fail)
      refine done_mk ?_ rfl (Ext.refl _)
      rfl
    case oa5 =>
      intro x U hU
      simp only [depV, One, dstOf, readDst, asBool, VP.is, VP.any, VP.row, VP.ptr, VP.blk, VP.ex, VP.and, VP.of, List.getD_cons_zero, List.getD_cons_succ]
      intro d4
      simp only [d4]
      go_wp2_with (fail)
      refine done_mk ?_ rfl (Ext.refl _)
      rfl
    case oa6 =>
      intro x U hU
      simp only [depV, One, dstOf, readDst, asBool, VP.is, VP.any, VP.row, VP.ptr, VP.blk, VP.ex, VP.and, VP.of, List.getD_cons_zero, List.getD_cons_succ]
      intro d5
      simp only [d5]
      obtain ⟨q0, q1, q2, q3⟩ := c1.out _ (hx1.trans hU)
      go_wp2_with (fail)
      refine done_mk ?_ rfl (Ext.refl _)
      rfl
    case oa7 =>
      intro x U hU
      simp only [depV, One, dstOf, readDst, asBool, VP.is, VP.any, VP.row, VP.ptr, VP.blk, VP.ex, VP.and, VP.of, List.getD_cons_zero, List.getD_cons_succ]
      intro d6
      simp only [d6]
      go_wp2_with (fail)
      refine done_mk ?_ rfl (Ext.refl _)
      rfl
    case oa8 =>
      intro x U hU
      simp only [depV, One, dstOf, readDst, asBool, VP.is, VP.any, VP.row, VP.ptr, VP.blk, VP.ex, VP.and, VP.of, List.getD_cons_zero, List.getD_cons_succ]
      intro d1
      intro d7
      simp only [d1, d7]
      go_wp2_with (fail)
      refine done_mk ?_ rfl (Ext.refl _)
      rfl
    case oa9 =>
      intro x U hU
      simp only [depV, One, dstOf, readDst, asBool, VP.is, VP.any, VP.row, VP.ptr, VP.blk, VP.ex, VP.and, VP.of, List.getD_cons_zero, List.getD_cons_succ]
      go_wp2_with (fail)
      refine done_mk ?_ rfl (Ext.refl _)
      rfl
    case oa10 =>
      intro x U hU
      simp only [depV, One, dstOf, readDst, asBool, VP.is, VP.any, VP.row, VP.ptr, VP.blk, VP.ex, VP.and, VP.of, List.getD_cons_zero, List.getD_cons_succ]
      intro d9
      simp only [d9]
      go_wp2_with (fail)
      refine done_mk ?_ rfl (Ext.refl _)
      rfl
    case oa11 =>
      intro x U hU
      simp only [depV, One, dstOf, readDst, asBool, VP.is, VP.any, VP.row, VP.ptr, VP.blk, VP.ex, VP.and, VP.of, List.getD_cons_zero, List.getD_cons_succ]
      go_wp2_with (fail)
      refine done_mk ?_ rfl (Ext.refl _)
      rfl
    case oa12 =>
      intro x U hU
      simp only [depV, One, dstOf, readDst, asBool, VP.is, VP.any, VP.row, VP.ptr, VP.blk, VP.ex, VP.and, VP.of, List.getD_cons_zero, List.getD_cons_succ]
      go_wp2_with (fail)
      refine done_mk ?_ rfl (Ext.refl _)
      rfl
    case oa13 =>
      intro x U hU
      simp only [depV, One, dstOf, readDst, asBool, VP.is, VP.any, VP.row, VP.ptr, VP.blk, VP.ex, VP.and, VP.of, List.getD_cons_zero, List.getD_cons_succ]
      intro d11
      intro d12
      simp only [d11, d12]
      go_wp2_with (fail)
      refine done_mk ?_ rfl (Ext.refl _)
      rfl
    case oa14 =>
      intro x U hU
      simp only [depV, One, dstOf, readDst, asBool, VP.is, VP.any, VP.row, VP.ptr, VP.blk, VP.ex, VP.and, VP.of, List.getD_cons_zero, List.getD_cons_succ]
      intro d13
      simp only [d13]
      go_wp2_with (fail)
      refine done_mk ?_ rfl (Ext.refl _)
      rfl
    case oa15 =>
      intro x U hU
      simp only [depV, One, dstOf, readDst, asBool, VP.is, VP.any, VP.row, VP.ptr, VP.blk, VP.ex, VP.and, VP.of, List.getD_cons_zero, List.getD_cons_succ]
      intro d14
      simp only [d14]
      obtain ⟨q0, q1, q2, q3⟩ := c1.out _ (hx1.trans hU)
      go_wp2_with (fail)
      refine done_mk ?_ rfl (Ext.refl _)
      rfl
    case oa16 =>
      intro x U hU
      simp only [depV, One, dstOf, readDst, asBool, VP.is, VP.any, VP.row, VP.ptr, VP.blk, VP.ex, VP.and, VP.of, List.getD_cons_zero, List.getD_cons_succ]
      intro d15
      simp only [d15]
      go_wp2_with (fail)
      refine done_mk ?_ rfl (Ext.refl _)
      rfl
    case oa17 =>
      intro x U hU
      simp only [depV, One, dstOf, readDst, asBool, VP.is, VP.any, VP.row, VP.ptr, VP.blk, VP.ex, VP.and, VP.of, List.getD_cons_zero, List.getD_cons_succ]
      intro d10
      intro d16
      simp only [d10, d16]
      go_wp2_with (fail)
      refine done_mk ?_ rfl (Ext.refl _)
      rfl
    case oa18 =>
      intro x U hU
      simp only [depV, One, dstOf, readDst, asBool, VP.is, VP.any, VP.row, VP.ptr, VP.blk, VP.ex, VP.and, VP.of, List.getD_cons_zero, List.getD_cons_succ]
      intro d8
      simp only [d8]
      go_wp2_with (fail)
      refine done_mk ?_ rfl (Ext.refl _)
      rfl
    case oa19 =>
      intro x U hU
      simp only [depV, One, dstOf, readDst, asBool, VP.is, VP.any, VP.row, VP.ptr, VP.blk, VP.ex, VP.and, VP.of, List.getD_cons_zero, List.getD_cons_succ]
      intro d17
      simp only [d17]
      go_wp2_with (fail)
      refine done_mk ?_ rfl (Ext.refl _)
      rfl
    intro x U hU
    simp only [allV, depV, One, dstOf, readDst, asBool, VP.is, VP.any, VP.row, VP.ptr, VP.blk, VP.ex, VP.and, VP.of, List.getD_cons_zero, List.getD_cons_succ]
    intro d0
    intro d1
    intro d2
    intro d3
    intro d4
    intro d5
    intro d6
    intro d7
    intro d8
    intro d9
    intro d10
    intro d11
    intro d12
    intro d13
    intro d14
    intro d15
    intro d16
    intro d17
    intro d18
    intro d19
    simp only [d0, d1, d2, d3, d4, d5, d6, d7, d8, d9, d10, d11, d12, d13, d14, d15, d16, d17, d18, d19]
    clear d0 d1 d2 d3 d4 d5 d6 d7 d8 d9 d10 d11 d12 d13 d14 d15 d16 d17 d18 d19
    have hxc := hx1.trans hU
    obtain ⟨q0, q1, q2, q3⟩ := c1.out _ hxc
    generalize U = wc at *
    have hg : w.heap.size ≤ (wc.alloc (.cells #[.int .i64 xa] 3)).heap.size := (hxc.alloc _).size
    have hown : (wc.alloc (.cells #[.int .i64 xa] 3)).ownsRow w.heap.size 3 1 (.slice none 0 0) 0 [] := World.ownsRow_nil _ _ _ _
    go_wp2_with (first
      | (refine wpList_app rfl (.tmp 88) (.tmp 90) 35 rfl w.heap.size 3 i0 _ 1 8 Try.underlying35 HI.out HZ0.out HZ1.out HZ2.out rfl (by decide) none 0 0 [] rfl hown _ 1 1 [.int .i64 xa] rfl rfl (inM_new rfl) (by simp [Value.oneCell']) (by decide) (by decide) hg ?_; intro A1 c1 w2 ho1 hg1 hzz; clear hzz; have hx2 := (hxc.alloc (.cells #[.int .i64 xa] 3)).app hown (Nat.le_refl _) hg1; have hx3 := hx2.alloc (.cells #[.int .i64 ya] 3); have ho1' := ho1.alloc (.cells #[.int .i64 ya] 3))
      | (refine wpList_app rfl (.tmp 101) (.tmp 103) 35 rfl w.heap.size 3 i0 _ 1 8 Try.underlying35 HI.out HZ0.out HZ1.out HZ2.out rfl (by decide) A1 1 c1 _ rfl ho1' _ 1 1 [.int .i64 ya] rfl rfl (inM_new rfl) (by simp [Value.oneCell']) (by decide) (by decide) hx3.size ?_; intro A2 c2 w3 ho2 hg2 hzz; clear hzz; have hx4 := hx3.app ho1' (Nat.le_refl _) hg2))
    go_ret
    exact ⟨_, _, rfl, ho2, hx4⟩
  · rw [if_neg hy]
    by_cases hx : xa < (n : Int)
    · rw [if_pos hx]
      go_enter Try.func28, Try.ntmps28
      go_wp2_with fail
      refine (H1.out _).mono ?_
      rintro e w1 ⟨rfl, hx1⟩
      go_wp2_with fail
      refine wp_region_mono rfl [.is ?vaq2r0, .is ?vaq2r1, .is ?vaq2r2, .is ?vaq2r3, .is ?vaq2r4, .is ?vaq2r5, .is ?vaq2r6, .is ?vaq2r7, .is ?vaq2r8, .is ?vaq2r9, .is ?vaq2r10, .is ?vaq2r11, .is ?vaq2r12, .is ?vaq2r13, .is ?vaq2r14, .is ?vaq2r15, .is ?vaq2r16, .is ?vaq2r17, .is ?vaq2r18, .is ?vaq2r19] (by kernel_rfl) (by kernel_rfl) ?Aaq2r ?hAaq2r ⟨?oaq2r0, ?oaq2r1, ?oaq2r2, ?oaq2r3, ?oaq2r4, ?oaq2r5, ?oaq2r6, ?oaq2r7, ?oaq2r8, ?oaq2r9, ?oaq2r10, ?oaq2r11, ?oaq2r12, ?oaq2r13, ?oaq2r14, ?oaq2r15, ?oaq2r16, ?oaq2r17, ?oaq2r18, ?oaq2r19, trivial⟩ ?finaq2r
      case hAaq2r => (intro x; simp only [fillOps, Act.put, List.setIfInBounds_toArray, List.set_cons_zero, List.set_cons_succ, Nat.reduceAdd]; rfl)
      case oaq2r0 =>
        intro x U hU
        simp only [depV, One, dstOf, readDst, asBool, VP.is, VP.any, VP.row, VP.ptr, VP.blk, VP.ex, VP.and, VP.of, List.getD_cons_zero, List.getD_cons_succ]
        go_wp2_with (fail)
        refine done_mk ?_ rfl (Ext.refl _)
        rfl
      case oaq2r1 =>
        intro x U hU
        simp only [depV, One, dstOf, readDst, asBool, VP.is, VP.any, VP.row, VP.ptr, VP.blk, VP.ex, VP.and, VP.of, List.getD_cons_zero, List.getD_cons_succ]
        intro d0
        simp only [d0]
        go_wp2_with (fail)
        refine done_mk ?_ rfl (Ext.refl _)
        rfl
      case oaq2r2 =>
        intro x U hU
        simp only [depV, One, dstOf, readDst, asBool, VP.is, VP.any, VP.row, VP.ptr, VP.blk, VP.ex, VP.and, VP.of, List.getD_cons_zero, List.getD_cons_succ]
        go_wp2_with (fail)
        refine done_mk ?_ rfl (Ext.refl _)
        rfl
      case oaq2r3 =>
        intro x U hU
        simp only [depV, One, dstOf, readDst, asBool, VP.is, VP.any, VP.row, VP.ptr, VP.blk, VP.ex, VP.and, VP.of, List.getD_cons_zero, List.getD_cons_succ]
        go_wp2_with (fail)
        refine done_mk ?_ rfl (Ext.refl _)
        rfl
      case oaq2r4 =>
        intro x U hU
        simp only [depV, One, dstOf, readDst, asBool, VP.is, VP.any, VP.row, VP.ptr, VP.blk, VP.ex, VP.and, VP.of, List.getD_cons_zero, List.getD_cons_succ]
        intro d2
        intro d3
        simp only [d2, d3]
        go_wp2_with (fail)
        refine done_mk ?_ rfl (Ext.refl _)
        rfl
      case oaq2r5 =>
        intro x U hU
        simp only [depV, One, dstOf, readDst, asBool, VP.is, VP.any, VP.row, VP.ptr, VP.blk, VP.ex, VP.and, VP.of, List.getD_cons_zero, List.getD_cons_succ]
        intro d4
        simp only [d4]
        go_wp2_with (fail)
        refine done_mk ?_ rfl (Ext.refl _)
        rfl
      case oaq2r6 =>
        intro x U hU
        simp only [depV, One, dstOf, readDst, asBool, VP.is, VP.any, VP.row, VP.ptr, VP.blk, VP.ex, VP.and, VP.of, List.getD_cons_zero, List.getD_cons_succ]
        intro d5
        simp only [d5]
        obtain ⟨q0, q1, q2, q3⟩ := c1.out _ (hx1.trans hU)
        go_wp2_with (fail)
        refine done_mk ?_ rfl (Ext.refl _)
        rfl
      case oaq2r7 =>
        intro x U hU
        simp only [depV, One, dstOf, readDst, asBool, VP.is, VP.any, VP.row, VP.ptr, VP.blk, VP.ex, VP.and, VP.of, List.getD_cons_zero, List.getD_cons_succ]
        intro d6
        simp only [d6]
        go_wp2_with (fail)
        refine done_mk ?_ rfl (Ext.refl _)
        rfl
      case oaq2r8 =>
        intro x U hU
        simp only [depV, One, dstOf, readDst, asBool, VP.is, VP.any, VP.row, VP.ptr, VP.blk, VP.ex, VP.and, VP.of, List.getD_cons_zero, List.getD_cons_succ]
        intro d1
        intro d7
        simp only [d1, d7]
        go_wp2_with (fail)
        refine done_mk ?_ rfl (Ext.refl _)
        rfl
      case oaq2r9 =>
        intro x U hU
        simp only [depV, One, dstOf, readDst, asBool, VP.is, VP.any, VP.row, VP.ptr, VP.blk, VP.ex, VP.and, VP.of, List.getD_cons_zero, List.getD_cons_succ]
        go_wp2_with (fail)
        refine done_mk ?_ rfl (Ext.refl _)
        rfl
      case oaq2r10 =>
        intro x U hU
        simp only [depV, One, dstOf, readDst, asBool, VP.is, VP.any, VP.row, VP.ptr, VP.blk, VP.ex, VP.and, VP.of, List.getD_cons_zero, List.getD_cons_succ]
        intro d9
        simp only [d9]
        go_wp2_with (fail)
        refine done_mk ?_ rfl (Ext.refl _)
        rfl
      case oaq2r11 =>
        intro x U hU
        simp only [depV, One, dstOf, readDst, asBool, VP.is, VP.any, VP.row, VP.ptr, VP.blk, VP.ex, VP.and, VP.of, List.getD_cons_zero, List.getD_cons_succ]
        go_wp2_with (fail)
        refine done_mk ?_ rfl (Ext.refl _)
        rfl
      case oaq2r12 =>
        intro x U hU
        simp only [depV, One, dstOf, readDst, asBool, VP.is, VP.any, VP.row, VP.ptr, VP.blk, VP.ex, VP.and, VP.of, List.getD_cons_zero, List.getD_cons_succ]
        go_wp2_with (fail)
        refine done_mk ?_ rfl (Ext.refl _)
        rfl
      case oaq2r13 =>
        intro x U hU
        simp only [depV, One, dstOf, readDst, asBool, VP.is, VP.any, VP.row, VP.ptr, VP.blk, VP.ex, VP.and, VP.of, List.getD_cons_zero, List.getD_cons_succ]
        intro d11
        intro d12
        simp only [d11, d12]
        go_wp2_with (fail)
        refine done_mk ?_ rfl (Ext.refl _)
        rfl
      case oaq2r14 =>
        intro x U hU
        simp only [depV, One, dstOf, readDst, asBool, VP.is, VP.any, VP.row, VP.ptr, VP.blk, VP.ex, VP.and, VP.of, List.getD_cons_zero, List.getD_cons_succ]
        intro d13
        simp only [d13]
        go_wp2_with (fail)
        refine done_mk ?_ rfl (Ext.refl _)
        rfl
      case oaq2r15 =>
        intro x U hU
        simp only [depV, One, dstOf, readDst, asBool, VP.is, VP.any, VP.row, VP.ptr, VP.blk, VP.ex, VP.and, VP.of, List.getD_cons_zero, List.getD_cons_succ]
        intro d14
        simp only [d14]
        obtain ⟨q0, q1, q2, q3⟩ := c1.out _ (hx1.trans hU)
        go_wp2_with (fail)
        refine done_mk ?_ rfl (Ext.refl _)
        rfl
      case oaq2r16 =>
        intro x U hU
        simp only [depV, One, dstOf, readDst, asBool, VP.is, VP.any, VP.row, VP.ptr, VP.blk, VP.ex, VP.and, VP.of, List.getD_cons_zero, List.getD_cons_succ]
        intro d15
        simp only [d15]
        go_wp2_with (fail)
        refine done_mk ?_ rfl (Ext.refl _)
        rfl
      case oaq2r17 =>
        intro x U hU
        simp only [depV, One, dstOf, readDst, asBool, VP.is, VP.any, VP.row, VP.ptr, VP.blk, VP.ex, VP.and, VP.of, List.getD_cons_zero, List.getD_cons_succ]
        intro d10
        intro d16
        simp only [d10, d16]
        go_wp2_with (fail)
        refine done_mk ?_ rfl (Ext.refl _)
        rfl
      case oaq2r18 =>
        intro x U hU
        simp only [depV, One, dstOf, readDst, asBool, VP.is, VP.any, VP.row, VP.ptr, VP.blk, VP.ex, VP.and, VP.of, List.getD_cons_zero, List.getD_cons_succ]
        intro d8
        simp only [d8]
        go_wp2_with (fail)
        refine done_mk ?_ rfl (Ext.refl _)
        rfl
      case oaq2r19 =>
        intro x U hU
        simp only [depV, One, dstOf, readDst, asBool, VP.is, VP.any, VP.row, VP.ptr, VP.blk, VP.ex, VP.and, VP.of, List.getD_cons_zero, List.getD_cons_succ]
        intro d17
        simp only [d17]
        go_wp2_with (fail)
        refine done_mk ?_ rfl (Ext.refl _)
        rfl
      intro x U hU
      simp only [allV, depV, One, dstOf, readDst, asBool, VP.is, VP.any, VP.row, VP.ptr, VP.blk, VP.ex, VP.and, VP.of, List.getD_cons_zero, List.getD_cons_succ]
      intro d0
      intro d1
      intro d2
      intro d3
      intro d4
      intro d5
      intro d6
      intro d7
      intro d8
      intro d9
      intro d10
      intro d11
      intro d12
      intro d13
      intro d14
      intro d15
      intro d16
      intro d17
      intro d18
      intro d19
      simp only [d0, d1, d2, d3, d4, d5, d6, d7, d8, d9, d10, d11, d12, d13, d14, d15, d16, d17, d18, d19]
      clear d0 d1 d2 d3 d4 d5 d6 d7 d8 d9 d10 d11 d12 d13 d14 d15 d16 d17 d18 d19
      have hxc := hx1.trans hU
      obtain ⟨q0, q1, q2, q3⟩ := c1.out _ hxc
      generalize U = wc at *
      have hg : w.heap.size ≤ (wc.alloc (.cells #[.int .i64 xa] 3)).heap.size := (hxc.alloc _).size
      have hown : (wc.alloc (.cells #[.int .i64 xa] 3)).ownsRow w.heap.size 3 1 (.slice none 0 0) 0 [] := World.ownsRow_nil _ _ _ _
      go_wp2_with (refine wpList_app rfl (.tmp 88) (.tmp 90) 35 rfl w.heap.size 3 i0 _ 1 8 Try.underlying35 HI.out HZ0.out HZ1.out HZ2.out rfl (by decide) none 0 0 [] rfl hown _ 1 1 [.int .i64 xa] rfl rfl (inM_new rfl) (by simp [Value.oneCell']) (by decide) (by decide) hg ?_; intro A1 c1 w2 ho1 hg1 hzz; clear hzz; have hx2 := (hxc.alloc (.cells #[.int .i64 xa] 3)).app hown (Nat.le_refl _) hg1)
      go_ret
      exact ⟨_, _, rfl, ho1, hx2⟩
    · rw [if_neg hx]
      go_enter Try.func28, Try.ntmps28
      go_wp2_with fail
      refine (H1.out _).mono ?_
      rintro e w1 ⟨rfl, hx1⟩
      go_wp2_with fail
      refine wp_region_mono rfl [.is ?vaq3r0, .is ?vaq3r1, .is ?vaq3r2, .is ?vaq3r3, .is ?vaq3r4, .is ?vaq3r5, .is ?vaq3r6, .is ?vaq3r7, .is ?vaq3r8, .is ?vaq3r9, .is ?vaq3r10, .is ?vaq3r11, .is ?vaq3r12, .is ?vaq3r13, .is ?vaq3r14, .is ?vaq3r15, .is ?vaq3r16, .is ?vaq3r17, .is ?vaq3r18, .is ?vaq3r19] (by kernel_rfl) (by kernel_rfl) ?Aaq3r ?hAaq3r ⟨?oaq3r0, ?oaq3r1, ?oaq3r2, ?oaq3r3, ?oaq3r4, ?oaq3r5, ?oaq3r6, ?oaq3r7, ?oaq3r8, ?oaq3r9, ?oaq3r10, ?oaq3r11, ?oaq3r12, ?oaq3r13, ?oaq3r14, ?oaq3r15, ?oaq3r16, ?oaq3r17, ?oaq3r18, ?oaq3r19, trivial⟩ ?finaq3r
      case hAaq3r => (intro x; simp only [fillOps, Act.put, List.setIfInBounds_toArray, List.set_cons_zero, List.set_cons_succ, Nat.reduceAdd]; rfl)
      case oaq3r0 =>
        intro x U hU
        simp only [depV, One, dstOf, readDst, asBool, VP.is, VP.any, VP.row, VP.ptr, VP.blk, VP.ex, VP.and, VP.of, List.getD_cons_zero, List.getD_cons_succ]
        go_wp2_with (fail)
        refine done_mk ?_ rfl (Ext.refl _)
        rfl
      case oaq3r1 =>
        intro x U hU
        simp only [depV, One, dstOf, readDst, asBool, VP.is, VP.any, VP.row, VP.ptr, VP.blk, VP.ex, VP.and, VP.of, List.getD_cons_zero, List.getD_cons_succ]
        intro d0
        simp only [d0]
        go_wp2_with (fail)
        refine done_mk ?_ rfl (Ext.refl _)
        rfl
      case oaq3r2 =>
        intro x U hU
        simp only [depV, One, dstOf, readDst, asBool, VP.is, VP.any, VP.row, VP.ptr, VP.blk, VP.ex, VP.and, VP.of, List.getD_cons_zero, List.getD_cons_succ]
        go_wp2_with (fail)
        refine done_mk ?_ rfl (Ext.refl _)
        rfl
      case oaq3r3 =>
        intro x U hU
        simp only [depV, One, dstOf, readDst, asBool, VP.is, VP.any, VP.row, VP.ptr, VP.blk, VP.ex, VP.and, VP.of, List.getD_cons_zero, List.getD_cons_succ]
        go_wp2_with (fail)
        refine done_mk ?_ rfl (Ext.refl _)
        rfl
      case oaq3r4 =>
        intro x U hU
        simp only [depV, One, dstOf, readDst, asBool, VP.is, VP.any, VP.row, VP.ptr, VP.blk, VP.ex, VP.and, VP.of, List.getD_cons_zero, List.getD_cons_succ]
        intro d2
        intro d3
        simp only [d2, d3]
        go_wp2_with (fail)
        refine done_mk ?_ rfl (Ext.refl _)
        rfl
      case oaq3r5 =>
        intro x U hU
        simp only [depV, One, dstOf, readDst, asBool, VP.is, VP.any, VP.row, VP.ptr, VP.blk, VP.ex, VP.and, VP.of, List.getD_cons_zero, List.getD_cons_succ]
        intro d4
        simp only [d4]
        go_wp2_with (fail)
        refine done_mk ?_ rfl (Ext.refl _)
        rfl
      case oaq3r6 =>
        intro x U hU
        simp only [depV, One, dstOf, readDst, asBool, VP.is, VP.any, VP.row, VP.ptr, VP.blk, VP.ex, VP.and, VP.of, List.getD_cons_zero, List.getD_cons_succ]
        intro d5
        simp only [d5]
        obtain ⟨q0, q1, q2, q3⟩ := c1.out _ (hx1.trans hU)
        go_wp2_with (fail)
        refine done_mk ?_ rfl (Ext.refl _)
        rfl
      case oaq3r7 =>
        intro x U hU
        simp only [depV, One, dstOf, readDst, asBool, VP.is, VP.any, VP.row, VP.ptr, VP.blk, VP.ex, VP.and, VP.of, List.getD_cons_zero, List.getD_cons_succ]
        intro d6
        simp only [d6]
        go_wp2_with (fail)
        refine done_mk ?_ rfl (Ext.refl _)
        rfl
      case oaq3r8 =>
        intro x U hU
        simp only [depV, One, dstOf, readDst, asBool, VP.is, VP.any, VP.row, VP.ptr, VP.blk, VP.ex, VP.and, VP.of, List.getD_cons_zero, List.getD_cons_succ]
        intro d1
        intro d7
        simp only [d1, d7]
        go_wp2_with (fail)
        refine done_mk ?_ rfl (Ext.refl _)
        rfl
      case oaq3r9 =>
        intro x U hU
        simp only [depV, One, dstOf, readDst, asBool, VP.is, VP.any, VP.row, VP.ptr, VP.blk, VP.ex, VP.and, VP.of, List.getD_cons_zero, List.getD_cons_succ]
        go_wp2_with (fail)
        refine done_mk ?_ rfl (Ext.refl _)
        rfl
      case oaq3r10 =>
        intro x U hU
        simp only [depV, One, dstOf, readDst, asBool, VP.is, VP.any, VP.row, VP.ptr, VP.blk, VP.ex, VP.and, VP.of, List.getD_cons_zero, List.getD_cons_succ]
        intro d9
        simp only [d9]
        go_wp2_with (fail)
        refine done_mk ?_ rfl (Ext.refl _)
        rfl
      case oaq3r11 =>
        intro x U hU
        simp only [depV, One, dstOf, readDst, asBool, VP.is, VP.any, VP.row, VP.ptr, VP.blk, VP.ex, VP.and, VP.of, List.getD_cons_zero, List.getD_cons_succ]
        go_wp2_with (fail)
        refine done_mk ?_ rfl (Ext.refl _)
        rfl
      case oaq3r12 =>
        intro x U hU
        simp only [depV, One, dstOf, readDst, asBool, VP.is, VP.any, VP.row, VP.ptr, VP.blk, VP.ex, VP.and, VP.of, List.getD_cons_zero, List.getD_cons_succ]
        go_wp2_with (fail)
        refine done_mk ?_ rfl (Ext.refl _)
        rfl
      case oaq3r13 =>
        intro x U hU
        simp only [depV, One, dstOf, readDst, asBool, VP.is, VP.any, VP.row, VP.ptr, VP.blk, VP.ex, VP.and, VP.of, List.getD_cons_zero, List.getD_cons_succ]
        intro d11
        intro d12
        simp only [d11, d12]
        go_wp2_with (fail)
        refine done_mk ?_ rfl (Ext.refl _)
        rfl
      case oaq3r14 =>
        intro x U hU
        simp only [depV, One, dstOf, readDst, asBool, VP.is, VP.any, VP.row, VP.ptr, VP.blk, VP.ex, VP.and, VP.of, List.getD_cons_zero, List.getD_cons_succ]
        intro d13
        simp only [d13]
        go_wp2_with (fail)
        refine done_mk ?_ rfl (Ext.refl _)
        rfl
      case oaq3r15 =>
        intro x U hU
        simp only [depV, One, dstOf, readDst, asBool, VP.is, VP.any, VP.row, VP.ptr, VP.blk, VP.ex, VP.and, VP.of, List.getD_cons_zero, List.getD_cons_succ]
        intro d14
        simp only [d14]
        obtain ⟨q0, q1, q2, q3⟩ := c1.out _ (hx1.trans hU)
        go_wp2_with (fail)
        refine done_mk ?_ rfl (Ext.refl _)
        rfl
      case oaq3r16 =>
        intro x U hU
        simp only [depV, One, dstOf, readDst, asBool, VP.is, VP.any, VP.row, VP.ptr, VP.blk, VP.ex, VP.and, VP.of, List.getD_cons_zero, List.getD_cons_succ]
        intro d15
        simp only [d15]
        go_wp2_with (fail)
        refine done_mk ?_ rfl (Ext.refl _)
        rfl
      case oaq3r17 =>
        intro x U hU
        simp only [depV, One, dstOf, readDst, asBool, VP.is, VP.any, VP.row, VP.ptr, VP.blk, VP.ex, VP.and, VP.of, List.getD_cons_zero, List.getD_cons_succ]
        intro d10
        intro d16
        simp only [d10, d16]
        go_wp2_with (fail)
        refine done_mk ?_ rfl (Ext.refl _)
        rfl
      case oaq3r18 =>
        intro x U hU
        simp only [depV, One, dstOf, readDst, asBool, VP.is, VP.any, VP.row, VP.ptr, VP.blk, VP.ex, VP.and, VP.of, List.getD_cons_zero, List.getD_cons_succ]
        intro d8
        simp only [d8]
        go_wp2_with (fail)
        refine done_mk ?_ rfl (Ext.refl _)
        rfl
      case oaq3r19 =>
        intro x U hU
        simp only [depV, One, dstOf, readDst, asBool, VP.is, VP.any, VP.row, VP.ptr, VP.blk, VP.ex, VP.and, VP.of, List.getD_cons_zero, List.getD_cons_succ]
        intro d17
        simp only [d17]
        go_wp2_with (fail)
        refine done_mk ?_ rfl (Ext.refl _)
        rfl
      intro x U hU
      simp only [allV, depV, One, dstOf, readDst, asBool, VP.is, VP.any, VP.row, VP.ptr, VP.blk, VP.ex, VP.and, VP.of, List.getD_cons_zero, List.getD_cons_succ]
      intro d0
      intro d1
      intro d2
      intro d3
      intro d4
      intro d5
      intro d6
      intro d7
      intro d8
      intro d9
      intro d10
      intro d11
      intro d12
      intro d13
      intro d14
      intro d15
      intro d16
      intro d17
      intro d18
      intro d19
      simp only [d0, d1, d2, d3, d4, d5, d6, d7, d8, d9, d10, d11, d12, d13, d14, d15, d16, d17, d18, d19]
      clear d0 d1 d2 d3 d4 d5 d6 d7 d8 d9 d10 d11 d12 d13 d14 d15 d16 d17 d18 d19
      have hxc := hx1.trans hU
      obtain ⟨q0, q1, q2, q3⟩ := c1.out _ hxc
      generalize U = wc at *
      have hown : wc.ownsRow w.heap.size 3 1 (.slice none 0 0) 0 (nums .i64 []) := World.ownsRow_nil _ _ _ _
      go_wp2
      go_ret
      exact ⟨_, _, rfl, hown, hxc⟩
end Go.Proofs.Ytplpffcolcjboaa
