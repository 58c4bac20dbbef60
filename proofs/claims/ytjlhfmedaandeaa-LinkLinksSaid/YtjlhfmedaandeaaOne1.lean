import Derived.Test.YtjlhfmedaandeaaPut1
import Derived.Test.YtjlhfmedaandeaaAliveW
/- link.linker.distance, one. -/
namespace Go.Proofs.Ytjlhfmedaandeaa
open Go.RowKit Go.ChangeShapes Go.WideShapes
set_option linter.unusedVariables false
set_option linter.unusedSimpArgs false

set_option maxHeartbeats 1000000 in
set_option maxRecDepth 100000 in
theorem distI (gk gp n nb vc : Nat) (vA : Option Addr) (far : Int) (pl : List Int) (hpl : pl.length = n) (t : Nat) (ht : t < n) (hn : n ≤ 200000) (hb : nb ≤ 500000) (hp : ∀ x ∈ pl, 0 ≤ x ∧ x ≤ nb) (W : World)
    (hk : Blk W gk 69 #[.slice vA nb vc, .slice (some ⟨gp, 0, none⟩) n n, .int .i64 far]) (hq : Blk W gp 3 (nums .i64 pl).toArray) :
    Calls Try.prog 82 #[.pointer (some ⟨gk, 0, none⟩), .int .i64 t] W fun e w' => e = .returned (.int .i64 ((nb : Int) - pl.getD t 0)) ∧ Ext W w' := by
  have htp : t < pl.length := by omega
  have hq2 := (hq.cell t).trans (show ((nums .i64 pl).toArray)[t]? = some (.int .i64 (pl.getD t 0)) from by
    rw [List.getElem?_toArray, nums_at htp, List.getD_eq_getElem?_getD, List.getElem?_eq_getElem htp]; rfl)
  have hm := hp _ (List.getElem_mem htp)
  have he : pl[t] = pl.getD t 0 := by rw [List.getD_eq_getElem?_getD, List.getElem?_eq_getElem htp]; rfl
  rw [he] at hm
  have t0 : (0 : Int) ≤ t := by omega
  have t1 : (t : Int) < n := by omega
  generalize pl.getD t 0 = p at *
  have w1 : IntKind.i64.wrap ((nb : Int) - p) = nb - p := IntWalk.i64_in _ (by omega)
  have HK := Lib.hid hk
  have HQ := Lib.hid hq2
  clear hk hq hq2 hp he hm htp hpl
  go_enter Try.func82, Try.ntmps82
  go_wp2_with fail
  refine wp_region_mono rfl [.is ?va0, .is ?va1, .is ?va2, .is (.slice vA nb vc), .is ?va4, .is ?va5, .is ?va6, .is ?va7, .is (.slice (some ⟨gp, 0, none⟩) n n), .is ?va9, .is ?va10, .is (.int .i64 p), .is (.int .i64 ((nb : Int) - p)), .is (.int .i64 ((nb : Int) - p))] (by kernel_rfl) (by kernel_rfl) ?Aa ?hAa ⟨?oa0, ?oa1, ?oa2, ?oa3, ?oa4, ?oa5, ?oa6, ?oa7, ?oa8, ?oa9, ?oa10, ?oa11, ?oa12, ?oa13, trivial⟩ ?fina
  case hAa => (intro x; simp only [fillOps, Act.put, List.setIfInBounds_toArray, List.set_cons_zero, List.set_cons_succ, Nat.reduceAdd]; rfl)
  case oa0 =>
    intro x U hU
    simp only [depV, One, dstOf, readDst, asBool, VP.is, VP.any, VP.row, VP.ptr, VP.blk, VP.ex, VP.and, VP.of, List.getD_cons_zero, List.getD_cons_succ]
    go_wp2_with (fail)
    refine done_mk ?_ rfl (Ext.refl _)
    rfl
  case oa1 =>
    intro x U hU
    simp only [depV, One, dstOf, readDst, asBool, VP.is, VP.any, VP.row, VP.ptr, VP.blk, VP.ex, VP.and, VP.of, List.getD_cons_zero, List.getD_cons_succ]
    intro d0
    simp only [d0]
    go_wp2_with (fail)
    refine done_mk ?_ rfl (Ext.refl _)
    rfl
  case oa2 =>
    intro x U hU
    simp only [depV, One, dstOf, readDst, asBool, VP.is, VP.any, VP.row, VP.ptr, VP.blk, VP.ex, VP.and, VP.of, List.getD_cons_zero, List.getD_cons_succ]
    intro d1
    simp only [d1]
    go_wp2_with (fail)
    refine done_mk ?_ rfl (Ext.refl _)
    rfl
  case oa3 =>
    intro x U hU
    simp only [depV, One, dstOf, readDst, asBool, VP.is, VP.any, VP.row, VP.ptr, VP.blk, VP.ex, VP.and, VP.of, List.getD_cons_zero, List.getD_cons_succ]
    intro d2
    simp only [d2]
    have c0 := (HK.out.ext hU).cell 0
    go_wp2_with (fail)
    refine done_mk ?_ rfl (Ext.refl _)
    rfl
  case oa4 =>
    intro x U hU
    simp only [depV, One, dstOf, readDst, asBool, VP.is, VP.any, VP.row, VP.ptr, VP.blk, VP.ex, VP.and, VP.of, List.getD_cons_zero, List.getD_cons_succ]
    intro d3
    simp only [d3]
    go_wp2_with (fail)
    refine done_mk ?_ rfl (Ext.refl _)
    rfl
  case oa5 =>
    intro x U hU
    simp only [depV, One, dstOf, readDst, asBool, VP.is, VP.any, VP.row, VP.ptr, VP.blk, VP.ex, VP.and, VP.of, List.getD_cons_zero, List.getD_cons_succ]
    go_wp2_with (fail)
    refine done_mk ?_ rfl (Ext.refl _)
    rfl
  case oa6 =>
    intro x U hU
    simp only [depV, One, dstOf, readDst, asBool, VP.is, VP.any, VP.row, VP.ptr, VP.blk, VP.ex, VP.and, VP.of, List.getD_cons_zero, List.getD_cons_succ]
    intro d5
    simp only [d5]
    go_wp2_with (fail)
    refine done_mk ?_ rfl (Ext.refl _)
    rfl
  case oa7 =>
    intro x U hU
    simp only [depV, One, dstOf, readDst, asBool, VP.is, VP.any, VP.row, VP.ptr, VP.blk, VP.ex, VP.and, VP.of, List.getD_cons_zero, List.getD_cons_succ]
    intro d6
    simp only [d6]
    go_wp2_with (fail)
    refine done_mk ?_ rfl (Ext.refl _)
    rfl
  case oa8 =>
    intro x U hU
    simp only [depV, One, dstOf, readDst, asBool, VP.is, VP.any, VP.row, VP.ptr, VP.blk, VP.ex, VP.and, VP.of, List.getD_cons_zero, List.getD_cons_succ]
    intro d7
    simp only [d7]
    have c0 := (HK.out.ext hU).cell 1
    go_wp2_with (fail)
    refine done_mk ?_ rfl (Ext.refl _)
    rfl
  case oa9 =>
    intro x U hU
    simp only [depV, One, dstOf, readDst, asBool, VP.is, VP.any, VP.row, VP.ptr, VP.blk, VP.ex, VP.and, VP.of, List.getD_cons_zero, List.getD_cons_succ]
    go_wp2_with (fail)
    refine done_mk ?_ rfl (Ext.refl _)
    rfl
  case oa10 =>
    intro x U hU
    simp only [depV, One, dstOf, readDst, asBool, VP.is, VP.any, VP.row, VP.ptr, VP.blk, VP.ex, VP.and, VP.of, List.getD_cons_zero, List.getD_cons_succ]
    intro d8
    intro d9
    simp only [d8, d9]
    go_wp2_with (fail)
    refine done_mk ?_ rfl (Ext.refl _)
    rfl
  case oa11 =>
    intro x U hU
    simp only [depV, One, dstOf, readDst, asBool, VP.is, VP.any, VP.row, VP.ptr, VP.blk, VP.ex, VP.and, VP.of, List.getD_cons_zero, List.getD_cons_succ]
    intro d10
    simp only [d10]
    have c0 := hU.cell HQ.out
    go_wp2_with (fail)
    refine done_mk ?_ rfl (Ext.refl _)
    rfl
  case oa12 =>
    intro x U hU
    simp only [depV, One, dstOf, readDst, asBool, VP.is, VP.any, VP.row, VP.ptr, VP.blk, VP.ex, VP.and, VP.of, List.getD_cons_zero, List.getD_cons_succ]
    intro d4
    intro d11
    simp only [d4, d11]
    go_wp2_with (fail)
    refine done_mk ?_ rfl (Ext.refl _)
    rfl
  case oa13 =>
    intro x U hU
    simp only [depV, One, dstOf, readDst, asBool, VP.is, VP.any, VP.row, VP.ptr, VP.blk, VP.ex, VP.and, VP.of, List.getD_cons_zero, List.getD_cons_succ]
    intro d12
    simp only [d12]
    go_wp2_with (fail)
    refine done_mk ?_ rfl (Ext.refl _)
    rfl
  case fina =>
    intro x U hU
    simp only [allV, depV, One, dstOf, readDst, asBool, VP.is, VP.any, VP.row, VP.ptr, VP.blk, VP.ex, VP.and, VP.of, List.getD_cons_zero, List.getD_cons_succ]
    intro d0
    intro d1
    intro d2
    intro d3
    intro d4
    intro d5
    intro d6
    intro d7
    intro d8
    intro d9
    intro d10
    intro d11
    intro d12
    intro d13
    simp only [d0, d1, d2, d3, d4, d5, d6, d7, d8, d9, d10, d11, d12, d13]
    clear d0 d1 d2 d3 d4 d5 d6 d7 d8 d9 d10 d11 d12 d13
    go_wp2
    go_ret
    exact ⟨rfl, hU⟩
/-- What an instruction becomes, and how many are far. -/
def dist (nb : Nat) (pl : List Int) (t : Int) : Int := (nb : Int) - pl.getD t.toNat 0
def oneL (nb : Nat) (pl : List Int) (s : Sy) : List Ins × Int :=
  if s.code = 5 then ([⟨5, 0, 0, dist nb pl s.th⟩], 0)
  else if asksC s.code = false then ([⟨s.code, 0, 0, s.k⟩], 0)
  else if max (dist nb pl s.th) (dist nb pl s.el) ≤ 255 then ([⟨s.code, dist nb pl s.th, dist nb pl s.el, s.k⟩], 0)
  else ([⟨s.code, 0, 1, s.k⟩, ⟨5, 0, 0, dist nb pl s.th + 1⟩, ⟨5, 0, 0, dist nb pl s.el⟩], 1)
end Go.Proofs.Ytjlhfmedaandeaa
