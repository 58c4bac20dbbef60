import Derived.Test.YtplpffcolcjboaaCells21
import Derived.Test.YtplpffcolcjboaaCells8
/- The law CellsSure, walked. -/
namespace Go.Proofs.Ytplpffcolcjboaa
open Go.RowKit Go.ChangeShapes Go.WideShapes
set_option linter.unusedVariables false
set_option linter.unusedSimpArgs false

set_option maxHeartbeats 2000000 in
set_option maxRecDepth 100000 in
theorem cellsSure_walk (A : Option Addr) (n c : Nat) (ps : List Ins) (hp : ps.length = n) (hm : n ≤ c ∧ c ≤ maxLen) (hok : ∀ i ∈ ps, i.ok) {W : World} (hM : InM W A (pc ps)) (_ : World) :
    Calls Try.prog 9 #[.slice A n c] W fun e w' => e = .returned (.bool true) ∧ Ext W w' := by
  have hx := Ext.refl W
  by_cases big : 300 < n
  · have d1 : (300 : Int) < n := by omega
    clear hp hm hok hM
    go_enter Try.func9, Try.ntmps9
    go_wp2
    go_ret
    exact ⟨rfl, hx⟩
  have d1 : ¬ (300 : Int) < n := by omega
  have H1 := Lib.hid (refCopyI A n c ps W hp (by omega) hM)
  have H2 := Lib.hid (fun B c' W' h => sureI B n c' ps W' hp hok h)
  have H3 := Lib.hid (fun W' h => refSure A n c ps W' hp (by omega) hok h)
  rw [sure_same ps hok] at H2
  have H4 := Lib.hid (fun B c' W' h => unsureI B n c' ps W' hp hok h)
  rw [unsure_same ps hok] at H4
  have H5 := Lib.hid (fun W' h => refUnsure A n c ps W' hp (by omega) hok h)
  have hsl : (sureL ps).length ≤ 300 := by unfold sureL; rw [if_neg (by omega), cellsUpto_length]; omega
  have hul : (unsureL ps).length ≤ 300 := Nat.le_trans (unU_len _ _) hsl
  have H6 := Lib.hid (fun B C b1 c1 W' h k => same05 B C (unsureL ps).length b1 (unsureL ps).length c1 (unsureL ps) (unsureL ps) W' rfl rfl (by omega) h k)
  simp only [decide_true] at H6
  have H7 := Lib.hid (fun B c' W' h k => refSameI_true B A n c' n c ps W' hp rfl (by omega) h k)
  have HM := Lib.hid hM
  clear hp hm hok hM big hul
  generalize sureL ps = sl at *
  generalize unsureL ps = ul at *
  have s1 : ((sl.length : Int) != sl.length) = false := by simp
  go_enter Try.func9, Try.ntmps9
  go_wp2_with fail
  refine (H1.out).mono ?_
  rintro e w1 ⟨B, c', rfl, ho, hx'⟩
  replace hx := Ext.trans (by first | exact hx | exact hx.alloc _ | exact (hx.alloc _).alloc _ | exact hx.drew) hx'
  clear hx'
  have hB1 := own_inM ho
  clear ho
  have HB := Lib.hid (fun W' (h : Ext w1 W') => hB1.ext h)
  have HA := Lib.hid (fun W' (h : Ext W W') => HM.out.ext h)
  clear hB1
  have hx1 := Ext.refl w1
  go_wp2_with fail
  refine (H2.out B c' _ (HB.out _ hx1)).mono ?_
  rintro e w2 ⟨P, rfl, hP, hx'⟩
  replace hx1 := hx1.trans hx'
  replace hx := hx.trans hx'
  clear hx'
  go_wp2_with fail
  refine (H3.out _ (HA.out _ hx)).mono ?_
  rintro e w3 ⟨Q, rfl, hQ, hx'⟩
  replace hx1 := hx1.trans hx'
  replace hx := hx.trans hx'
  replace hP := hP.ext hx'
  clear hx'
  go_wp2_with fail
  refine (H4.out B c' _ (HB.out _ hx1)).mono ?_
  rintro e w4 ⟨R, r', rfl, ho, hx'⟩
  have hR := own_inM ho
  replace hx1 := hx1.trans hx'
  replace hx := hx.trans hx'
  replace hP := hP.ext hx'
  replace hQ := hQ.ext hx'
  clear hx' ho
  go_wp2_with fail
  refine (H5.out _ (HA.out _ hx)).mono ?_
  rintro e w5 ⟨S, s', rfl, ho, hx'⟩
  have hS := own_inM ho
  replace hx1 := hx1.trans hx'
  replace hx := hx.trans hx'
  replace hP := hP.ext hx'
  replace hQ := hQ.ext hx'
  replace hR := hR.ext hx'
  clear hx' ho
  go_wp2_with fail
  refine (H6.out R S _ _ _ hR hS).mono ?_
  rintro e w6 ⟨rfl, hx'⟩
  replace hx1 := hx1.trans hx'
  replace hx := hx.trans hx'
  replace hP := hP.ext hx'
  replace hQ := hQ.ext hx'
  clear hx' hR hS
  go_wp2_with fail
  refine (H7.out B c' _ (HB.out _ hx1) (HA.out _ hx)).mono ?_
  rintro e w7 ⟨rfl, hx'⟩
  replace hx1 := hx1.trans hx'
  replace hx := hx.trans hx'
  replace hP := hP.ext hx'
  replace hQ := hQ.ext hx'
  clear hx' H1 H2 H3 H7 H4 H5 H6
  go_wp2_with fail
  go_loopw [6] (fun i wr => ∃ k : Nat, k ≤ sl.length ∧ i = .int .i64 k ∧ Ext w7 wr) (fun i _ => sl.length - (intOf i).toNat)
  case atStart => exact ⟨0, by omega, rfl, Ext.refl _⟩
  case round =>
    obtain ⟨k, hk, rfl, hy⟩ := hrel
    by_cases hlt : k < sl.length
    · have k1 : (0 : Int) ≤ k := by omega
      have k2 : (k : Int) < sl.length := by omega
      obtain ⟨b1, o1, rfl, _, _⟩ := hP.num hlt
      obtain ⟨b2, o2, rfl, _, _⟩ := hQ.num hlt
      have CP := Lib.hid (fun W' (h : Ext wr W') => (hP.ext (hy.trans h)).cell (nums_at hlt))
      have CQ := Lib.hid (fun W' (h : Ext wr W') => (hQ.ext (hy.trans h)).cell (nums_at hlt))
      have hne : (sl[k] != sl[k]) = false := by simp
      generalize sl[k] = b at *
      clear hP hQ
      go_wp2_with fail
      refine wp_region_mono rfl [.is ?va0, .is ?va1, .is ?va2, .is (.int .u16 b), .is ?va4, .is ?va5, .is ?va6, .is (.int .u16 b), .is (.bool false)] (by kernel_rfl) (by kernel_rfl) ?Aa ?hAa ⟨?oa0, ?oa1, ?oa2, ?oa3, ?oa4, ?oa5, ?oa6, ?oa7, ?oa8, trivial⟩ ?fina
      case hAa => (intro x; simp only [fillOps, Act.put, List.setIfInBounds_toArray, List.set_cons_zero, List.set_cons_succ, Nat.reduceAdd]; rfl)
      case oa0 =>
        intro x U hU
        simp only [depV, One, dstOf, readDst, asBool, VP.is, VP.any, VP.row, VP.ptr, VP.blk, VP.ex, VP.and, VP.of, List.getD_cons_zero, List.getD_cons_succ]
        go_wp2_with (fail)
        refine done_mk ?_ rfl (Ext.refl _)
        rfl
      case oa1 =>
        intro x U hU
        simp only [depV, One, dstOf, readDst, asBool, VP.is, VP.any, VP.row, VP.ptr, VP.blk, VP.ex, VP.and, VP.of, List.getD_cons_zero, List.getD_cons_succ]
        go_wp2_with (fail)
        refine done_mk ?_ rfl (Ext.refl _)
        rfl
      case oa2 =>
        intro x U hU
        simp only [depV, One, dstOf, readDst, asBool, VP.is, VP.any, VP.row, VP.ptr, VP.blk, VP.ex, VP.and, VP.of, List.getD_cons_zero, List.getD_cons_succ]
        intro d0
        intro d1
        simp only [d0, d1]
        go_wp2_with (fail)
        refine done_mk ?_ rfl (Ext.refl _)
        rfl
      case oa3 =>
        intro x U hU
        simp only [depV, One, dstOf, readDst, asBool, VP.is, VP.any, VP.row, VP.ptr, VP.blk, VP.ex, VP.and, VP.of, List.getD_cons_zero, List.getD_cons_succ]
        intro d2
        simp only [d2]
        have h0 := CP.out U hU
        go_wp2_with (fail)
        refine done_mk ?_ rfl (Ext.refl _)
        rfl
      case oa4 =>
        intro x U hU
        simp only [depV, One, dstOf, readDst, asBool, VP.is, VP.any, VP.row, VP.ptr, VP.blk, VP.ex, VP.and, VP.of, List.getD_cons_zero, List.getD_cons_succ]
        go_wp2_with (fail)
        refine done_mk ?_ rfl (Ext.refl _)
        rfl
      case oa5 =>
        intro x U hU
        simp only [depV, One, dstOf, readDst, asBool, VP.is, VP.any, VP.row, VP.ptr, VP.blk, VP.ex, VP.and, VP.of, List.getD_cons_zero, List.getD_cons_succ]
        go_wp2_with (fail)
        refine done_mk ?_ rfl (Ext.refl _)
        rfl
      case oa6 =>
        intro x U hU
        simp only [depV, One, dstOf, readDst, asBool, VP.is, VP.any, VP.row, VP.ptr, VP.blk, VP.ex, VP.and, VP.of, List.getD_cons_zero, List.getD_cons_succ]
        intro d4
        intro d5
        simp only [d4, d5]
        go_wp2_with (fail)
        refine done_mk ?_ rfl (Ext.refl _)
        rfl
      case oa7 =>
        intro x U hU
        simp only [depV, One, dstOf, readDst, asBool, VP.is, VP.any, VP.row, VP.ptr, VP.blk, VP.ex, VP.and, VP.of, List.getD_cons_zero, List.getD_cons_succ]
        intro d6
        simp only [d6]
        have h0 := CQ.out U hU
        go_wp2_with (fail)
        refine done_mk ?_ rfl (Ext.refl _)
        rfl
      case oa8 =>
        intro x U hU
        simp only [depV, One, dstOf, readDst, asBool, VP.is, VP.any, VP.row, VP.ptr, VP.blk, VP.ex, VP.and, VP.of, List.getD_cons_zero, List.getD_cons_succ]
        intro d3
        intro d7
        simp only [d3, d7]
        go_wp2_with (fail)
        refine done_mk ?_ rfl (Ext.refl _)
        rfl
      case fina =>
        intro x U hU
        simp only [allV, depV, One, dstOf, readDst, asBool, VP.is, VP.any, VP.row, VP.ptr, VP.blk, VP.ex, VP.and, VP.of, List.getD_cons_zero, List.getD_cons_succ]
        intro d0
        intro d1
        intro d2
        intro d3
        intro d4
        intro d5
        intro d6
        intro d7
        intro d8
        simp only [d0, d1, d2, d3, d4, d5, d6, d7, d8]
        clear d0 d1 d2 d3 d4 d5 d6 d7 d8
        go_wp2
        go_roundw
        case rel => exact ⟨k + 1, by omega, by go_num, hy.trans hU⟩
        case measure => simp [intOf]; omega
    · obtain rfl : k = sl.length := by omega
      go_wp2
      go_ret
      exact ⟨rfl, hx.trans hy⟩
end Go.Proofs.Ytplpffcolcjboaa
