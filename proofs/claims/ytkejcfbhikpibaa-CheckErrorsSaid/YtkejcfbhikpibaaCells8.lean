import Derived.Test.YtkejcfbhikpibaaCells4
/- Two lists of numbers: are they the same? The document's Reached. -/
namespace Go.Proofs.Ytkejcfbhikpibaa
open Go.RowKit Go.ChangeShapes Go.WideShapes
set_option linter.unusedVariables false
set_option linter.unusedSimpArgs false

set_option maxRecDepth 100000 in
theorem same05 (A B : Option Addr) (n c m d : Nat) (xs ys : List Int) (w : World) (hp : xs.length = n) (hq : ys.length = m) (hb : n ≤ 1000000 ∧ m ≤ 1000000) (hM : InM w A (nums .i64 xs)) (hN : InM w B (nums .i64 ys)) :
    Calls Try.prog 39 #[.slice A n c, .slice B m d] w fun e w' => e = .returned (.bool (decide (xs = ys))) ∧ Ext w w' := by
  by_cases hnm : n = m
  · subst hnm
    have hR := Lib.hid hp
    have hS := Lib.hid hq
    have hT := Lib.hid (fun h : (∀ j (_ : j < n) (hp : j < xs.length) (hq : j < ys.length), xs[j] = ys[j]) => same_of_at (by omega) (fun j h1 h2 => h j (by omega) h1 h2))
    clear hp hq
    have d1 : ((n : Int) != n) = false := by simp
    go_enter Try.func39, Try.ntmps39
    go_wp2
    go_loopw [5] (fun i wr => ∃ k : Nat, k ≤ n ∧ i = .int .i64 k ∧ Ext w wr ∧ ∀ j (_ : j < k) (hp : j < xs.length) (hq : j < ys.length), xs[j] = ys[j]) (fun i _ => n - (intOf i).toNat)
    case atStart => exact ⟨0, by omega, rfl, Ext.refl _, fun j h => absurd h (by omega)⟩
    case round =>
      obtain ⟨k, hk, rfl, hx, hs⟩ := hrel
      by_cases hlt : k < n
      · have hkp : k < xs.length := by rw [hR.out]; exact hlt
        have hkq : k < ys.length := by rw [hS.out]; exact hlt
        obtain ⟨b1, o1, rfl, _, _⟩ := hM.num hkp
        obtain ⟨b2, o2, rfl, _, _⟩ := hN.num hkq
        have c1 := Lib.hid (fun (W : World) (h : Ext w W) => (hM.ext h).cell (nums_at hkp))
        have c2 := Lib.hid (fun (W : World) (h : Ext w W) => (hN.ext h).cell (nums_at hkq))
        have HS := Lib.hid (show xs[k] = ys[k] → ∀ j (_ : j < k + 1) (hp : j < xs.length) (hq : j < ys.length), xs[j] = ys[j] from fun e j hj h1 h2 => by
          rcases Nat.lt_succ_iff_lt_or_eq.1 hj with h | rfl
          · exact hs j h h1 h2
          · exact e)
        have HN := Lib.hid (show xs[k] ≠ ys[k] → decide (xs = ys) = false from fun h => by
          rw [decide_eq_false_iff_not]
          intro e
          subst e
          exact h rfl)
        clear hs
        generalize xs[k] = P at *
        generalize ys[k] = Q at *
        have b3 : (0 : Int) ≤ k := by omega
        have b4 : (k : Int) < n := by omega
        go_wp2_with fail
        refine wp_region_mono rfl [.is ?va0, .is ?va1, .is ?va2, .is (.int .i64 P), .is ?va4, .is ?va5, .is ?va6, .is (.int .i64 Q), .is (.bool (P != Q))] (by kernel_rfl) (by kernel_rfl) ?Aa ?hAa ⟨?oa0, ?oa1, ?oa2, ?oa3, ?oa4, ?oa5, ?oa6, ?oa7, ?oa8, trivial⟩ ?fina
        case hAa => (intro x; simp only [fillOps, Act.put, List.setIfInBounds_toArray, List.set_cons_zero, List.set_cons_succ, Nat.reduceAdd]; rfl)
        case oa0 =>
          intro x U hU
          simp only [depV, One, dstOf, readDst, asBool, VP.is, VP.any, VP.row, VP.ptr, VP.blk, VP.ex, VP.and, VP.of, List.getD_cons_zero, List.getD_cons_succ]
          go_wp2_with (fail)
          refine done_mk ?_ rfl (Ext.refl _)
          rfl
        case oa1 =>
          intro x U hU
          simp only [depV, One, dstOf, readDst, asBool, VP.is, VP.any, VP.row, VP.ptr, VP.blk, VP.ex, VP.and, VP.of, List.getD_cons_zero, List.getD_cons_succ]
          go_wp2_with (fail)
          refine done_mk ?_ rfl (Ext.refl _)
          rfl
        case oa2 =>
          intro x U hU
          simp only [depV, One, dstOf, readDst, asBool, VP.is, VP.any, VP.row, VP.ptr, VP.blk, VP.ex, VP.and, VP.of, List.getD_cons_zero, List.getD_cons_succ]
          intro d0
          intro d1
          simp only [d0, d1]
          go_wp2_with (fail)
          refine done_mk ?_ rfl (Ext.refl _)
          rfl
        case oa3 =>
          intro x U hU
          simp only [depV, One, dstOf, readDst, asBool, VP.is, VP.any, VP.row, VP.ptr, VP.blk, VP.ex, VP.and, VP.of, List.getD_cons_zero, List.getD_cons_succ]
          intro d2
          simp only [d2]
          have h0 := c1.out U (hx.trans hU)
          go_wp2_with (fail)
          refine done_mk ?_ rfl (Ext.refl _)
          rfl
        case oa4 =>
          intro x U hU
          simp only [depV, One, dstOf, readDst, asBool, VP.is, VP.any, VP.row, VP.ptr, VP.blk, VP.ex, VP.and, VP.of, List.getD_cons_zero, List.getD_cons_succ]
          go_wp2_with (fail)
          refine done_mk ?_ rfl (Ext.refl _)
          rfl
        case oa5 =>
          intro x U hU
          simp only [depV, One, dstOf, readDst, asBool, VP.is, VP.any, VP.row, VP.ptr, VP.blk, VP.ex, VP.and, VP.of, List.getD_cons_zero, List.getD_cons_succ]
          go_wp2_with (fail)
          refine done_mk ?_ rfl (Ext.refl _)
          rfl
        case oa6 =>
          intro x U hU
          simp only [depV, One, dstOf, readDst, asBool, VP.is, VP.any, VP.row, VP.ptr, VP.blk, VP.ex, VP.and, VP.of, List.getD_cons_zero, List.getD_cons_succ]
          intro d4
          intro d5
          simp only [d4, d5]
          go_wp2_with (fail)
          refine done_mk ?_ rfl (Ext.refl _)
          rfl
        case oa7 =>
          intro x U hU
          simp only [depV, One, dstOf, readDst, asBool, VP.is, VP.any, VP.row, VP.ptr, VP.blk, VP.ex, VP.and, VP.of, List.getD_cons_zero, List.getD_cons_succ]
          intro d6
          simp only [d6]
          have h0 := c2.out U (hx.trans hU)
          go_wp2_with (fail)
          refine done_mk ?_ rfl (Ext.refl _)
          rfl
        case oa8 =>
          intro x U hU
          simp only [depV, One, dstOf, readDst, asBool, VP.is, VP.any, VP.row, VP.ptr, VP.blk, VP.ex, VP.and, VP.of, List.getD_cons_zero, List.getD_cons_succ]
          intro d3
          intro d7
          simp only [d3, d7]
          go_wp2_with (fail)
          refine done_mk ?_ rfl (Ext.refl _)
          rfl
        case fina =>
          intro x U hU
          simp only [allV, depV, One, dstOf, readDst, asBool, VP.is, VP.any, VP.row, VP.ptr, VP.blk, VP.ex, VP.and, VP.of, List.getD_cons_zero, List.getD_cons_succ]
          intro d0
          intro d1
          intro d2
          intro d3
          intro d4
          intro d5
          intro d6
          intro d7
          intro d8
          simp only [d0, d1, d2, d3, d4, d5, d6, d7, d8]
          clear d0 d1 d2 d3 d4 d5 d6 d7 d8
          by_cases e : P = Q
          · have hs' := HS.out e
            have e2 : (P != Q) = false := by simpa using e
            rw [e2]
            go_wp2
            go_roundw
            case rel => exact ⟨k + 1, by omega, by go_num, hx.trans hU, hs'⟩
            case measure => simp [intOf]; omega
          · have e2 : (P != Q) = true := by simpa using e
            rw [e2]
            go_wp2
            go_ret
            exact ⟨ret_bool (HN.out e).symm, hx.trans hU⟩
      · obtain rfl : k = n := by omega
        go_wp2
        go_ret
        exact ⟨ret_bool (by rw [hT.out hs]; simp), hx⟩
  · have d1 : ((n : Int) != m) = true := by simp; omega
    have e : decide (xs = ys) = false := by
      rw [decide_eq_false_iff_not]
      intro e
      subst e
      omega
    go_enter Try.func39, Try.ntmps39
    go_wp2
    go_ret
    exact ⟨ret_bool e.symm, Ext.refl _⟩
end Go.Proofs.Ytkejcfbhikpibaa
