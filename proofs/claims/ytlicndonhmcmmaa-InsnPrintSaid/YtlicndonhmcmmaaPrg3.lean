import Derived.Test.YtlicndonhmcmmaaPrg2
namespace Go.Proofs.Ytlicndonhmcmmaa
open Go.RowKit Go.ChangeShapes Go.WideShapes
set_option linter.unusedVariables false
set_option linter.unusedSimpArgs false

set_option maxRecDepth 100000 in
theorem equalI (A B : Option Addr) (n c m d : Nat) (ps qs : List Ins) (w : World) (hp : ps.length = n) (hq : qs.length = m) (hb : n ≤ 1000000 ∧ m ≤ 1000000) (hM : InM w A (pc ps)) (hN : InM w B (pc qs)) :
    Calls Try.prog 83 #[.slice A n c, .slice B m d] w fun e w' => e = .returned (.bool (decide (ps = qs))) ∧ Ext w w' := by
  by_cases hnm : n = m
  · subst hnm
    have hR := Lib.hid hp
    have hS := Lib.hid hq
    have hT := Lib.hid (fun h : (∀ j (_ : j < n) (hp : j < ps.length) (hq : j < qs.length), ps[j] = qs[j]) => same_of_at (by omega) (fun j h1 h2 => h j (by omega) h1 h2))
    clear hp hq
    have d1 : ((n : Int) != n) = false := by simp
    go_enter Try.func83, Try.ntmps83
    go_wp2
    go_loopw [5, 13, 15] (fun _ i _ wr => ∃ k : Nat, k ≤ n ∧ i = .int .i64 k ∧ Ext w wr ∧ ∀ j (_ : j < k) (hp : j < ps.length) (hq : j < qs.length), ps[j] = qs[j]) (fun _ i _ _ => n - (intOf i).toNat)
    case atStart => exact ⟨0, by omega, rfl, Ext.refl _, fun j h => absurd h (by omega)⟩
    case round =>
      obtain ⟨k, hk, rfl, hx, hs⟩ := hrel
      by_cases hlt : k < n
      · have hkp : k < ps.length := by rw [hR.out]; exact hlt
        have hkq : k < qs.length := by rw [hS.out]; exact hlt
        obtain ⟨b1, o1, rfl, _⟩ := prog_some hM (by omega)
        obtain ⟨b2, o2, rfl, _⟩ := prog_some hN (by omega)
        have c1 := Lib.hid (fun (W : World) (h : Ext w W) => prog_cells (hM.ext h) hkp)
        have c2 := Lib.hid (fun (W : World) (h : Ext w W) => prog_cells (hN.ext h) hkq)
        have hne := Lib.hid (fun W => ins_neq ps[k] qs[k] W)
        have hs' : ps[k] = qs[k] → ∀ j (_ : j < k + 1) (hp : j < ps.length) (hq : j < qs.length), ps[j] = qs[j] := fun e j hj h1 h2 => by
          rcases Nat.lt_succ_iff_lt_or_eq.1 hj with h | rfl
          · exact hs j h h1 h2
          · exact e
        have hno : ps[k] ≠ qs[k] → decide (ps = qs) = false := fun h => by
          rw [decide_eq_false_iff_not]
          intro e
          subst e
          exact h rfl
        have HS := Lib.hid hs'
        have HN := Lib.hid hno
        clear hs hs' hno
        generalize ps[k] = P at *
        generalize qs[k] = Q at *
        have b3 : (0 : Int) ≤ k := by omega
        have b4 : (k : Int) < n := by omega
        go_wp2_with fail
        refine wp_region_mono rfl [.is ?va0, .is ?va1, .is ?va2, .is P.val, .is ?va4, .is ?va5, .is ?va6, .is Q.val, .is (.bool (!decide (P = Q)))] (by kernel_rfl) (by kernel_rfl) ?Aa ?hAa ⟨?oa0, ?oa1, ?oa2, ?oa3, ?oa4, ?oa5, ?oa6, ?oa7, ?oa8, trivial⟩ ?fina
        case hAa => (intro x; simp only [fillOps, Act.put, List.setIfInBounds_toArray, List.set_cons_zero, List.set_cons_succ, Nat.reduceAdd]; rfl)
        case oa0 =>
          intro x U hU
          simp only [depV, One, dstOf, readDst, asBool, VP.is, VP.any, VP.row, VP.ptr, VP.blk, VP.ex, VP.and, VP.of, List.getD_cons_zero, List.getD_cons_succ]
          go_wp2_with (fail)
          refine done_mk ?_ rfl (Ext.refl _)
          rfl
        case oa1 =>
          intro x U hU
          simp only [depV, One, dstOf, readDst, asBool, VP.is, VP.any, VP.row, VP.ptr, VP.blk, VP.ex, VP.and, VP.of, List.getD_cons_zero, List.getD_cons_succ]
          go_wp2_with (fail)
          refine done_mk ?_ rfl (Ext.refl _)
          rfl
        case oa2 =>
          intro x U hU
          simp only [depV, One, dstOf, readDst, asBool, VP.is, VP.any, VP.row, VP.ptr, VP.blk, VP.ex, VP.and, VP.of, List.getD_cons_zero, List.getD_cons_succ]
          intro d0
          intro d1
          simp only [d0, d1]
          go_wp2_with (fail)
          refine done_mk ?_ rfl (Ext.refl _)
          rfl
        case oa3 =>
          intro x U hU
          simp only [depV, One, dstOf, readDst, asBool, VP.is, VP.any, VP.row, VP.ptr, VP.blk, VP.ex, VP.and, VP.of, List.getD_cons_zero, List.getD_cons_succ]
          intro d2
          simp only [d2]
          obtain ⟨h0, h1, h2, h3⟩ := c1.out U (hx.trans hU)
          go_wp2_with (fail)
          refine done_mk ?_ rfl (Ext.refl _)
          rfl
        case oa4 =>
          intro x U hU
          simp only [depV, One, dstOf, readDst, asBool, VP.is, VP.any, VP.row, VP.ptr, VP.blk, VP.ex, VP.and, VP.of, List.getD_cons_zero, List.getD_cons_succ]
          go_wp2_with (fail)
          refine done_mk ?_ rfl (Ext.refl _)
          rfl
        case oa5 =>
          intro x U hU
          simp only [depV, One, dstOf, readDst, asBool, VP.is, VP.any, VP.row, VP.ptr, VP.blk, VP.ex, VP.and, VP.of, List.getD_cons_zero, List.getD_cons_succ]
          go_wp2_with (fail)
          refine done_mk ?_ rfl (Ext.refl _)
          rfl
        case oa6 =>
          intro x U hU
          simp only [depV, One, dstOf, readDst, asBool, VP.is, VP.any, VP.row, VP.ptr, VP.blk, VP.ex, VP.and, VP.of, List.getD_cons_zero, List.getD_cons_succ]
          intro d4
          intro d5
          simp only [d4, d5]
          go_wp2_with (fail)
          refine done_mk ?_ rfl (Ext.refl _)
          rfl
        case oa7 =>
          intro x U hU
          simp only [depV, One, dstOf, readDst, asBool, VP.is, VP.any, VP.row, VP.ptr, VP.blk, VP.ex, VP.and, VP.of, List.getD_cons_zero, List.getD_cons_succ]
          intro d6
          simp only [d6]
          obtain ⟨h0, h1, h2, h3⟩ := c2.out U (hx.trans hU)
          go_wp2_with (fail)
          refine done_mk ?_ rfl (Ext.refl _)
          rfl
        case oa8 =>
          intro x U hU
          simp only [depV, One, dstOf, readDst, asBool, VP.is, VP.any, VP.row, VP.ptr, VP.blk, VP.ex, VP.and, VP.of, List.getD_cons_zero, List.getD_cons_succ]
          intro d3
          intro d7
          simp only [d3, d7]
          have hne := hne.out U
          have hg := fun a b => ins_guard_neq P Q a b U
          go_wp2_with (fail)
          refine done_mk ?_ rfl (Ext.refl _)
          rfl
        case fina =>
          intro x U hU
          simp only [allV, depV, One, dstOf, readDst, asBool, VP.is, VP.any, VP.row, VP.ptr, VP.blk, VP.ex, VP.and, VP.of, List.getD_cons_zero, List.getD_cons_succ]
          intro d0
          intro d1
          intro d2
          intro d3
          intro d4
          intro d5
          intro d6
          intro d7
          intro d8
          simp only [d0, d1, d2, d3, d4, d5, d6, d7, d8]
          clear d0 d1 d2 d3 d4 d5 d6 d7 d8
          by_cases e : P = Q
          · have hs' := HS.out e
            have e2 : decide (P = Q) = true := by simpa using e
            rw [e2]
            go_wp2
            go_roundw
            case rel => exact ⟨k + 1, by omega, by go_num, hx.trans hU, hs'⟩
            case measure => simp [intOf]; omega
          · have e2 : decide (P = Q) = false := by simpa using e
            rw [e2]
            go_wp2
            go_ret
            exact ⟨ret_bool (HN.out e).symm, hx.trans hU⟩
      · obtain rfl : k = n := by omega
        go_wp2
        go_ret
        exact ⟨ret_bool (by rw [hT.out hs]; simp), hx⟩
  · have d1 : ((n : Int) != m) = true := by simp; omega
    have e : decide (ps = qs) = false := by
      rw [decide_eq_false_iff_not]
      intro e
      subst e
      omega
    go_enter Try.func83, Try.ntmps83
    go_wp2
    go_ret
    exact ⟨ret_bool e.symm, Ext.refl _⟩
theorem sameI (A B : Option Addr) (n c m d : Nat) (ps qs : List Ins) (w : World) (hp : ps.length = n) (hq : qs.length = m) (hb : n ≤ 1000000 ∧ m ≤ 1000000) (hM : InM w A (pc ps)) (hN : InM w B (pc qs)) :
    Calls Try.prog 66 #[.slice A n c, .slice B m d] w fun e w' => e = .returned (.bool (decide (ps = qs))) ∧ Ext w w' := by
  have H := Lib.hid (equalI A B n c m d ps qs w hp hq hb hM hN)
  go_enter Try.func66, Try.ntmps66
  go_wp2_with fail
  refine (H.out).mono ?_
  rintro e w1 ⟨rfl, hx1⟩
  go_wp2
  go_ret
  exact ⟨rfl, hx1⟩
end Go.Proofs.Ytlicndonhmcmmaa
