import Derived.Test.YtplpffcolcjboaaCells18
import Derived.Test.YtplpffcolcjboaaCells8
/- The law CellsWays, walked. -/
namespace Go.Proofs.Ytplpffcolcjboaa
open Go.RowKit Go.ChangeShapes Go.WideShapes
set_option linter.unusedVariables false
set_option linter.unusedSimpArgs false

theorem bools_cell {l : List Bool} {k : Nat} (hk : k < l.length) : (l.map Value.bool)[k]? = some (.bool l[k]) := by simp [hk]
set_option maxHeartbeats 2000000 in
set_option maxRecDepth 100000 in
theorem cellsWays_walk (A : Option Addr) (n c : Nat) (ps : List Ins) (hp : ps.length = n) (hm : n ≤ c ∧ c ≤ maxLen) (hok : ∀ i ∈ ps, i.ok) {W : World} (hM : InM W A (pc ps)) (a : Int) (ha : (Lit.int .i64 a).wf = true) (_ : World) :
    Calls Try.prog 4 #[.slice A n c, .int .i64 a] W fun e w' => e = .returned (.bool true) ∧ Ext W w' := by
  have hx := Ext.refl W
  by_cases big : 300 < n
  · have d1 : (300 : Int) < n := by omega
    clear hp hm hok hM
    go_enter Try.func4, Try.ntmps4
    go_wp2
    go_ret
    exact ⟨rfl, hx⟩
  have d1 : ¬ (300 : Int) < n := by omega
  have H1 := Lib.hid (refCopyI A n c ps W hp (by omega) hM)
  have H2 := Lib.hid (fun B c' W' h => reachedI B n c' ps W' hp hok h)
  have H3 := Lib.hid (fun W' h => refReached A n c ps W' hp (by omega) hok h)
  rw [reach_same ps hok] at H2
  have H4 := Lib.hid (fun B c' (x : Int) W' h => nextI B n c' ps x W' hp (by omega) hok h)
  have H5 := Lib.hid (fun (x : Int) W' h => refNextI A n c ps x W' hp (by omega) hok h)
  have H6 := Lib.hid (fun B C (x : Int) b1 c1 W' h k => same05 B C (nextL ps x).length b1 (nextL ps x).length c1 (nextL ps x) (nextL ps x) W' rfl rfl (by have := nextL_len ps x; omega) h k)
  simp only [decide_true] at H6
  have H7 := Lib.hid (fun B c' W' h k => refSameI_true B A n c' n c ps W' hp rfl (by omega) h k)
  have HM := Lib.hid hM
  have hrl : (reachL ps).length ≤ 300 := by unfold reachL; rw [if_neg (by omega), rupto_length]; omega
  clear hp hm hok hM big
  generalize reachL ps = rl at *
  have s1 : ((rl.length : Int) != rl.length) = false := by simp
  go_enter Try.func4, Try.ntmps4
  go_wp2_with fail
  refine (H1.out).mono ?_
  rintro e w1 ⟨B, c', rfl, ho, hx'⟩
  replace hx := Ext.trans (by first | exact hx | exact hx.alloc _ | exact (hx.alloc _).alloc _ | exact hx.drew) hx'
  clear hx'
  have hB1 := own_inM ho
  clear ho
  have HB := Lib.hid (fun W' (h : Ext w1 W') => hB1.ext h)
  have HA := Lib.hid (fun W' (h : Ext W W') => HM.out.ext h)
  clear hB1
  have hx1 := Ext.refl w1
  go_wp2_with fail
  refine (H2.out B c' _ (HB.out _ hx1)).mono ?_
  rintro e w2 ⟨P, rfl, hP, hx'⟩
  replace hx1 := hx1.trans hx'
  replace hx := hx.trans hx'
  clear hx'
  go_wp2_with fail
  refine (H3.out _ (HA.out _ hx)).mono ?_
  rintro e w3 ⟨Q, rfl, hQ, hx'⟩
  replace hx1 := hx1.trans hx'
  replace hx := hx.trans hx'
  replace hP := hP.ext hx'
  clear hx'
  go_wp2_with fail
  refine (H4.out B c' a _ (HB.out _ hx1)).mono ?_
  rintro e w4 ⟨R, r', rfl, ho, hx'⟩
  have hR := own_inM ho
  replace hx1 := hx1.trans hx'
  replace hx := hx.trans hx'
  replace hP := hP.ext hx'
  replace hQ := hQ.ext hx'
  clear hx' ho
  go_wp2_with fail
  refine (H5.out a _ (HA.out _ hx)).mono ?_
  rintro e w5 ⟨S, s', rfl, ho, hx'⟩
  have hS := own_inM ho
  replace hx1 := hx1.trans hx'
  replace hx := hx.trans hx'
  replace hP := hP.ext hx'
  replace hQ := hQ.ext hx'
  replace hR := hR.ext hx'
  clear hx' ho
  go_wp2_with fail
  refine (H6.out R S a _ _ _ hR hS).mono ?_
  rintro e w6 ⟨rfl, hx'⟩
  replace hx1 := hx1.trans hx'
  replace hx := hx.trans hx'
  replace hP := hP.ext hx'
  replace hQ := hQ.ext hx'
  clear hx' hR hS
  go_wp2_with fail
  refine (H7.out B c' _ (HB.out _ hx1) (HA.out _ hx)).mono ?_
  rintro e w7 ⟨rfl, hx'⟩
  replace hx1 := hx1.trans hx'
  replace hx := hx.trans hx'
  replace hP := hP.ext hx'
  replace hQ := hQ.ext hx'
  clear hx' H1 H2 H3 H7
  go_wp2_with fail
  go_loopw [8] (fun i wr => ∃ k : Nat, k ≤ rl.length ∧ i = .int .i64 k ∧ Ext w7 wr) (fun i _ => rl.length - (intOf i).toNat)
  case atStart => exact ⟨0, by omega, rfl, Ext.refl _⟩
  case round =>
    obtain ⟨k, hk, rfl, hy⟩ := hrel
    by_cases hlt : k < rl.length
    · have HP := Lib.hid (fun W' (h : Ext wr W') => (hP.ext (hy.trans h)).at_ (k := k) (by simpa using hlt))
      have k1 : (0 : Int) ≤ k := by omega
      have k2 : (k : Int) < rl.length := by omega
      obtain ⟨b1, o1, rfl, _, _⟩ := hP.at_ (k := k) (by simpa using hlt)
      obtain ⟨b2, o2, rfl, _, _⟩ := hQ.at_ (k := k) (by simpa using hlt)
      have CP := Lib.hid (fun W' (h : Ext wr W') => (hP.ext (hy.trans h)).cell (bools_cell hlt))
      have CQ := Lib.hid (fun W' (h : Ext wr W') => (hQ.ext (hy.trans h)).cell (bools_cell hlt))
      have HB2 := Lib.hid (fun W' (h : Ext wr W') => HB.out W' ((hx1.trans hy).trans h))
      have HA2 := Lib.hid (fun W' (h : Ext wr W') => HA.out W' ((hx.trans hy).trans h))
      have hne : (rl[k] != rl[k]) = false := by simp
      generalize rl[k] = b at *
      have HH4 := Lib.hid (fun W' h => H4.out B c' (k : Int) W' h)
      have HH5 := Lib.hid (fun W' h => H5.out (k : Int) W' h)
      have HH6 := Lib.hid (fun B C b1 c1 W' h k' => H6.out B C (k : Int) b1 c1 W' h k')
      generalize nextL ps (k : Int) = ns at *
      clear HP H4 H5 H6 HB HA hP hQ
      go_wp2_with fail
      refine wp_region_mono rfl [.is ?va0, .is ?va1, .is ?va2, .is (.bool b), .is ?va4, .is ?va5, .is ?va6, .is (.bool b), .is (.bool false), .is (.bool false), .is ?va10, .is ?va11, .row ns.length (nums .i64 ns), .is ?va13, .is ?va14, .row ns.length (nums .i64 ns), .is (.bool true), .is (.bool false), .is (.bool false)] (by kernel_rfl) (by kernel_rfl) ?Aa ?hAa ⟨?oa0, ?oa1, ?oa2, ?oa3, ?oa4, ?oa5, ?oa6, ?oa7, ?oa8, ?oa9, ?oa10, ?oa11, ?oa12, ?oa13, ?oa14, ?oa15, ?oa16, ?oa17, ?oa18, trivial⟩ ?fina
      case hAa => (intro x; simp only [fillOps, Act.put, List.setIfInBounds_toArray, List.set_cons_zero, List.set_cons_succ, Nat.reduceAdd]; rfl)
      case oa0 =>
        intro x U hU
        simp only [depV, One, dstOf, readDst, asBool, VP.is, VP.any, VP.row, VP.ptr, VP.blk, VP.ex, VP.and, VP.of, List.getD_cons_zero, List.getD_cons_succ]
        go_wp2_with (fail)
        refine done_mk ?_ rfl (Ext.refl _)
        rfl
      case oa1 =>
        intro x U hU
        simp only [depV, One, dstOf, readDst, asBool, VP.is, VP.any, VP.row, VP.ptr, VP.blk, VP.ex, VP.and, VP.of, List.getD_cons_zero, List.getD_cons_succ]
        go_wp2_with (fail)
        refine done_mk ?_ rfl (Ext.refl _)
        rfl
      case oa2 =>
        intro x U hU
        simp only [depV, One, dstOf, readDst, asBool, VP.is, VP.any, VP.row, VP.ptr, VP.blk, VP.ex, VP.and, VP.of, List.getD_cons_zero, List.getD_cons_succ]
        intro d0
        intro d1
        simp only [d0, d1]
        go_wp2_with (fail)
        refine done_mk ?_ rfl (Ext.refl _)
        rfl
      case oa3 =>
        intro x U hU
        simp only [depV, One, dstOf, readDst, asBool, VP.is, VP.any, VP.row, VP.ptr, VP.blk, VP.ex, VP.and, VP.of, List.getD_cons_zero, List.getD_cons_succ]
        intro d2
        simp only [d2]
        have h0 := CP.out U hU
        go_wp2_with (fail)
        refine done_mk ?_ rfl (Ext.refl _)
        rfl
      case oa4 =>
        intro x U hU
        simp only [depV, One, dstOf, readDst, asBool, VP.is, VP.any, VP.row, VP.ptr, VP.blk, VP.ex, VP.and, VP.of, List.getD_cons_zero, List.getD_cons_succ]
        go_wp2_with (fail)
        refine done_mk ?_ rfl (Ext.refl _)
        rfl
      case oa5 =>
        intro x U hU
        simp only [depV, One, dstOf, readDst, asBool, VP.is, VP.any, VP.row, VP.ptr, VP.blk, VP.ex, VP.and, VP.of, List.getD_cons_zero, List.getD_cons_succ]
        go_wp2_with (fail)
        refine done_mk ?_ rfl (Ext.refl _)
        rfl
      case oa6 =>
        intro x U hU
        simp only [depV, One, dstOf, readDst, asBool, VP.is, VP.any, VP.row, VP.ptr, VP.blk, VP.ex, VP.and, VP.of, List.getD_cons_zero, List.getD_cons_succ]
        intro d4
        intro d5
        simp only [d4, d5]
        go_wp2_with (fail)
        refine done_mk ?_ rfl (Ext.refl _)
        rfl
      case oa7 =>
        intro x U hU
        simp only [depV, One, dstOf, readDst, asBool, VP.is, VP.any, VP.row, VP.ptr, VP.blk, VP.ex, VP.and, VP.of, List.getD_cons_zero, List.getD_cons_succ]
        intro d6
        simp only [d6]
        have h0 := CQ.out U hU
        go_wp2_with (fail)
        refine done_mk ?_ rfl (Ext.refl _)
        rfl
      case oa8 =>
        intro x U hU
        simp only [depV, One, dstOf, readDst, asBool, VP.is, VP.any, VP.row, VP.ptr, VP.blk, VP.ex, VP.and, VP.of, List.getD_cons_zero, List.getD_cons_succ]
        intro d3
        intro d7
        simp only [d3, d7]
        go_wp2_with (fail)
        refine done_mk ?_ rfl (Ext.refl _)
        rfl
      case oa9 =>
        intro x U hU
        simp only [depV, One, dstOf, readDst, asBool, VP.is, VP.any, VP.row, VP.ptr, VP.blk, VP.ex, VP.and, VP.of, List.getD_cons_zero, List.getD_cons_succ]
        intro d8
        simp only [d8]
        go_wp2_with (fail)
        refine done_mk ?_ rfl (Ext.refl _)
        rfl
      case oa10 =>
        intro x U hU
        simp only [depV, One, dstOf, readDst, asBool, VP.is, VP.any, VP.row, VP.ptr, VP.blk, VP.ex, VP.and, VP.of, List.getD_cons_zero, List.getD_cons_succ]
        intro d9
        simp only [d9]
        refine gcase_run (by first | rfl | simp) ?_
        go_wp2_with (fail)
        refine done_mk ?_ rfl (Ext.refl _)
        rfl
      case oa11 =>
        intro x U hU
        simp only [depV, One, dstOf, readDst, asBool, VP.is, VP.any, VP.row, VP.ptr, VP.blk, VP.ex, VP.and, VP.of, List.getD_cons_zero, List.getD_cons_succ]
        intro d9
        simp only [d9]
        refine gcase_run (by first | rfl | simp) ?_
        go_wp2_with (fail)
        refine done_mk ?_ rfl (Ext.refl _)
        rfl
      case oa12 =>
        intro x U hU
        simp only [depV, One, dstOf, readDst, asBool, VP.is, VP.any, VP.row, VP.ptr, VP.blk, VP.ex, VP.and, VP.of, List.getD_cons_zero, List.getD_cons_succ]
        intro d10
        intro d11
        intro d9
        simp only [d10, d11, d9]
        refine gcase_run (by first | rfl | simp) ?_
        go_wp2_with ((refine (HH4.out _ (HB2.out _ hU)).mono ?_; rintro e w9 ⟨P9, c9, rfl, ho9, hx9⟩))
        refine done_mk ?_ rfl (hx9)
        exact ⟨P9, c9, rfl, own_inM ho9⟩
      case oa13 =>
        intro x U hU
        simp only [depV, One, dstOf, readDst, asBool, VP.is, VP.any, VP.row, VP.ptr, VP.blk, VP.ex, VP.and, VP.of, List.getD_cons_zero, List.getD_cons_succ]
        intro d9
        simp only [d9]
        refine gcase_run (by first | rfl | simp) ?_
        go_wp2_with (fail)
        refine done_mk ?_ rfl (Ext.refl _)
        rfl
      case oa14 =>
        intro x U hU
        simp only [depV, One, dstOf, readDst, asBool, VP.is, VP.any, VP.row, VP.ptr, VP.blk, VP.ex, VP.and, VP.of, List.getD_cons_zero, List.getD_cons_succ]
        intro d9
        simp only [d9]
        refine gcase_run (by first | rfl | simp) ?_
        go_wp2_with (fail)
        refine done_mk ?_ rfl (Ext.refl _)
        rfl
      case oa15 =>
        intro x U hU
        simp only [depV, One, dstOf, readDst, asBool, VP.is, VP.any, VP.row, VP.ptr, VP.blk, VP.ex, VP.and, VP.of, List.getD_cons_zero, List.getD_cons_succ]
        intro d13
        intro d14
        intro d9
        simp only [d13, d14, d9]
        refine gcase_run (by first | rfl | simp) ?_
        go_wp2_with ((refine (HH5.out _ (HA2.out _ hU)).mono ?_; rintro e w9 ⟨P9, c9, rfl, ho9, hx9⟩))
        refine done_mk ?_ rfl (hx9)
        exact ⟨P9, c9, rfl, own_inM ho9⟩
      case oa16 =>
        intro x U hU
        simp only [depV, One, dstOf, readDst, asBool, VP.is, VP.any, VP.row, VP.ptr, VP.blk, VP.ex, VP.and, VP.of, List.getD_cons_zero, List.getD_cons_succ]
        rintro ⟨A12, c12, d12, m12⟩
        rintro ⟨A15, c15, d15, m15⟩
        intro d9
        simp only [d12, d15, d9]
        refine gcase_run (by first | rfl | simp) ?_
        go_wp2_with ((refine (HH6.out _ _ _ _ _ m12 m15).mono ?_; rintro e w9 ⟨rfl, hx9⟩))
        refine done_mk ?_ rfl (hx9)
        rfl
      case oa17 =>
        intro x U hU
        simp only [depV, One, dstOf, readDst, asBool, VP.is, VP.any, VP.row, VP.ptr, VP.blk, VP.ex, VP.and, VP.of, List.getD_cons_zero, List.getD_cons_succ]
        intro d16
        intro d9
        simp only [d16, d9]
        refine gcase_run (by first | rfl | simp) ?_
        go_wp2_with (fail)
        refine done_mk ?_ rfl (Ext.refl _)
        rfl
      case oa18 =>
        intro x U hU
        simp only [depV, One, dstOf, readDst, asBool, VP.is, VP.any, VP.row, VP.ptr, VP.blk, VP.ex, VP.and, VP.of, List.getD_cons_zero, List.getD_cons_succ]
        intro d9
        intro d17
        simp only [d9, d17]
        go_wp2_with (fail)
        refine done_mk ?_ rfl (Ext.refl _)
        rfl
      case fina =>
        intro x U hU
        simp only [allV, depV, One, dstOf, readDst, asBool, VP.is, VP.any, VP.row, VP.ptr, VP.blk, VP.ex, VP.and, VP.of, List.getD_cons_zero, List.getD_cons_succ]
        intro d0
        intro d1
        intro d2
        intro d3
        intro d4
        intro d5
        intro d6
        intro d7
        intro d8
        intro d9
        intro d10
        intro d11
        rintro ⟨A12, c12, d12, m12⟩
        intro d13
        intro d14
        rintro ⟨A15, c15, d15, m15⟩
        intro d16
        intro d17
        intro d18
        simp only [d0, d1, d2, d3, d4, d5, d6, d7, d8, d9, d10, d11, d12, d13, d14, d15, d16, d17, d18]
        clear d0 d1 d2 d3 d4 d5 d6 d7 d8 d9 d10 d11 d12 d13 d14 d15 d16 d17 d18
        go_wp2
        go_roundw
        case rel => exact ⟨k + 1, by omega, by go_num, hy.trans hU⟩
        case measure => simp [intOf]; omega
    · obtain rfl : k = rl.length := by omega
      go_wp2
      go_ret
      exact ⟨rfl, hx.trans hy⟩
end Go.Proofs.Ytplpffcolcjboaa
