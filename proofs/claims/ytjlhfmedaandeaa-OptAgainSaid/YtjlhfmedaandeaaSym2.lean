import Derived.Test.YtjlhfmedaandeaaCodA
import Derived.Test.YtjlhfmedaandeaaPrg
/- Rows of symbolic instructions: equality; vestibuleref25.Same, Copy. (XPrg, XPrg2, XPrg4 turned by a text.) -/
namespace Go.Proofs.Ytjlhfmedaandeaa
open Go.RowKit Go.ChangeShapes Go.WideShapes
set_option linter.unusedVariables false
set_option linter.unusedSimpArgs false

theorem sym_eq (x y : Sy) : (decide (x = y)) = (x.code == y.code && (x.k == y.k && (x.th == y.th && x.el == y.el))) := by
  obtain ⟨a, b, c, d⟩ := x
  obtain ⟨e, f, g, h⟩ := y
  rw [Bool.eq_iff_iff]
  simp [Sy.mk.injEq]
theorem sym_equal (n : Nat) (x y : Sy) (W : World) : (Op.equalIn (n + 3) 32 x.val y.val).run Try.prog W = .ok (decide (x = y)) W := by
  have h16 : ∀ (x y : Int) (W : World), (Op.equalIn (n + 2) 29 (.int .u16 x) (.int .u16 y)).run Try.prog W = .ok (x == y) W := fun x y W => run_equalIn_int W (n + 1) _ .u16 .u16 x y Try.underlying29
  have h64 : ∀ (x y : Int) (W : World), (Op.equalIn (n + 2) 3 (.int .i64 x) (.int .i64 y)).run Try.prog W = .ok (x == y) W := fun x y W => run_equalIn_int W (n + 1) _ .i64 .i64 x y Try.underlying3
  have h32 : ∀ (x y : Int) (W : World), (Op.equalIn (n + 2) 30 (.int .u32 x) (.int .u32 y)).run Try.prog W = .ok (x == y) W := fun x y W => run_equalIn_int W (n + 1) _ .u32 .u32 x y Try.underlying30
  have i16 : ∀ W, (isAgg 29).run Try.prog W = .ok false W := fun _ => by kernel_rfl
  have i64 : ∀ W, (isAgg 3).run Try.prog W = .ok false W := fun _ => by kernel_rfl
  have i32 : ∀ W, (isAgg 30).run Try.prog W = .ok false W := fun _ => by kernel_rfl
  rw [sym_eq]
  obtain ⟨a, b, c, d⟩ := x
  obtain ⟨e, f, g, h⟩ := y
  have hf : (Try.prog.fieldsOf 32).toList.map (fun f => (f.name, f.type, f.offset)) = [("Code", 29, 0), ("K", 30, 1), ("Then", 3, 2), ("Else", 3, 3)] := by kernel_rfl
  simp only [Sy.val, Sy.cells]
  rw [run_equalIn_struct W (n + 2) 32 _ _ (by kernel_rfl) (by kernel_rfl)]
  generalize (Try.prog.fieldsOf 32).toList = L at hf
  obtain ⟨f0, f1, f2, f3, rfl⟩ : ∃ f0 f1 f2 f3, L = [f0, f1, f2, f3] := by
    have hl : L.length = 4 := by simpa using congrArg List.length hf
    clear hf
    match L, hl with
    | [a, b, c, d], _ => exact ⟨a, b, c, d, rfl⟩
  simp only [List.map_cons, List.map_nil, List.cons.injEq, Prod.mk.injEq, and_true] at hf
  obtain ⟨⟨n0, t0, o0⟩, ⟨n1, t1, o1⟩, ⟨n2, t2, o2⟩, n3, t3, o3⟩ := hf
  simp [Op.eqFields, part, *]
  repeat' split
  all_goals simp_all
theorem sym_eql (x y : Sy) (W : World) : (binOp .eql 32 x.val y.val).run Try.prog W = .ok (.bool (decide (x = y))) W := by
  have := sym_equal 9997 x y W
  rw [Sy.val, Sy.val] at this ⊢
  rw [run_eql_struct, this]
  rfl
theorem sym_neq (x y : Sy) (W : World) : (binOp .neq 32 x.val y.val).run Try.prog W = .ok (.bool (!decide (x = y))) W := by
  have := sym_equal 9997 x y W
  rw [Sy.val, Sy.val] at this ⊢
  rw [run_neq_struct, this]
  rfl
theorem sym_guard_neq (x y : Sy) (a b : Operand) (W : World) : (eqGuard .neq 32 a b x.val y.val).run Try.prog W = .ok () W := by kernel_rfl
theorem sym_guard_eql (x y : Sy) (a b : Operand) (W : World) : (eqGuard .eql 32 a b x.val y.val).run Try.prog W = .ok () W := by kernel_rfl
set_option maxRecDepth 100000 in
theorem refSameS (A B : Option Addr) (n c m d : Nat) (ps qs : List Sy) (w : World) (hp : ps.length = n) (hq : qs.length = m) (hb : n ≤ 1000000 ∧ m ≤ 1000000) (hM : InM w A (sc ps)) (hN : InM w B (sc qs)) :
    Calls Try.prog 20 #[.slice A n c, .slice B m d] w fun e w' => e = .returned (.bool (decide (ps = qs))) ∧ Ext w w' := by
  by_cases hnm : n = m
  · subst hnm
    have hR := Lib.hid hp
    have hS := Lib.hid hq
    have hT := Lib.hid (fun h : (∀ j (_ : j < n) (hp : j < ps.length) (hq : j < qs.length), ps[j] = qs[j]) => same_of_at (by omega) (fun j h1 h2 => h j (by omega) h1 h2))
    clear hp hq
    have d1 : ((n : Int) != n) = false := by simp
    go_enter Try.func20, Try.ntmps20
    go_wp2
    go_loopw [5] (fun i wr => ∃ k : Nat, k ≤ n ∧ i = .int .i64 k ∧ Ext w wr ∧ ∀ j (_ : j < k) (hp : j < ps.length) (hq : j < qs.length), ps[j] = qs[j]) (fun i _ => n - (intOf i).toNat)
    case atStart => exact ⟨0, by omega, rfl, Ext.refl _, fun j h => absurd h (by omega)⟩
    case round =>
      obtain ⟨k, hk, rfl, hx, hs⟩ := hrel
      by_cases hlt : k < n
      · have hkp : k < ps.length := by rw [hR.out]; exact hlt
        have hkq : k < qs.length := by rw [hS.out]; exact hlt
        obtain ⟨b1, o1, rfl, _⟩ := sym_some hM (by omega)
        obtain ⟨b2, o2, rfl, _⟩ := sym_some hN (by omega)
        have c1 := Lib.hid (fun (W : World) (h : Ext w W) => sym_cells (hM.ext h) hkp)
        have c2 := Lib.hid (fun (W : World) (h : Ext w W) => sym_cells (hN.ext h) hkq)
        have hne := Lib.hid (fun W => sym_neq ps[k] qs[k] W)
        have hs' : ps[k] = qs[k] → ∀ j (_ : j < k + 1) (hp : j < ps.length) (hq : j < qs.length), ps[j] = qs[j] := fun e j hj h1 h2 => by
          rcases Nat.lt_succ_iff_lt_or_eq.1 hj with h | rfl
          · exact hs j h h1 h2
          · exact e
        have hno : ps[k] ≠ qs[k] → decide (ps = qs) = false := fun h => by
          rw [decide_eq_false_iff_not]
          intro e
          subst e
          exact h rfl
        have HS := Lib.hid hs'
        have HN := Lib.hid hno
        clear hs hs' hno
        generalize ps[k] = P at *
        generalize qs[k] = Q at *
        have b3 : (0 : Int) ≤ k := by omega
        have b4 : (k : Int) < n := by omega
        go_wp2_with fail
        refine wp_region_mono rfl [.is ?va0, .is ?va1, .is ?va2, .is P.val, .is ?va4, .is ?va5, .is ?va6, .is Q.val, .is (.bool (!decide (P = Q)))] (by kernel_rfl) (by kernel_rfl) ?Aa ?hAa ⟨?oa0, ?oa1, ?oa2, ?oa3, ?oa4, ?oa5, ?oa6, ?oa7, ?oa8, trivial⟩ ?fina
        case hAa => (intro x; simp only [fillOps, Act.put, List.setIfInBounds_toArray, List.set_cons_zero, List.set_cons_succ, Nat.reduceAdd]; rfl)
        case oa0 =>
          intro x U hU
          simp only [depV, One, dstOf, readDst, asBool, VP.is, VP.any, VP.row, VP.ptr, VP.blk, VP.ex, VP.and, VP.of, List.getD_cons_zero, List.getD_cons_succ]
          go_wp2_with (fail)
          refine done_mk ?_ rfl (Ext.refl _)
          rfl
        case oa1 =>
          intro x U hU
          simp only [depV, One, dstOf, readDst, asBool, VP.is, VP.any, VP.row, VP.ptr, VP.blk, VP.ex, VP.and, VP.of, List.getD_cons_zero, List.getD_cons_succ]
          go_wp2_with (fail)
          refine done_mk ?_ rfl (Ext.refl _)
          rfl
        case oa2 =>
          intro x U hU
          simp only [depV, One, dstOf, readDst, asBool, VP.is, VP.any, VP.row, VP.ptr, VP.blk, VP.ex, VP.and, VP.of, List.getD_cons_zero, List.getD_cons_succ]
          intro d0
          intro d1
          simp only [d0, d1]
          go_wp2_with (fail)
          refine done_mk ?_ rfl (Ext.refl _)
          rfl
        case oa3 =>
          intro x U hU
          simp only [depV, One, dstOf, readDst, asBool, VP.is, VP.any, VP.row, VP.ptr, VP.blk, VP.ex, VP.and, VP.of, List.getD_cons_zero, List.getD_cons_succ]
          intro d2
          simp only [d2]
          obtain ⟨h0, h1, h2, h3⟩ := c1.out U (hx.trans hU)
          go_wp2_with (fail)
          refine done_mk ?_ rfl (Ext.refl _)
          rfl
        case oa4 =>
          intro x U hU
          simp only [depV, One, dstOf, readDst, asBool, VP.is, VP.any, VP.row, VP.ptr, VP.blk, VP.ex, VP.and, VP.of, List.getD_cons_zero, List.getD_cons_succ]
          go_wp2_with (fail)
          refine done_mk ?_ rfl (Ext.refl _)
          rfl
        case oa5 =>
          intro x U hU
          simp only [depV, One, dstOf, readDst, asBool, VP.is, VP.any, VP.row, VP.ptr, VP.blk, VP.ex, VP.and, VP.of, List.getD_cons_zero, List.getD_cons_succ]
          go_wp2_with (fail)
          refine done_mk ?_ rfl (Ext.refl _)
          rfl
        case oa6 =>
          intro x U hU
          simp only [depV, One, dstOf, readDst, asBool, VP.is, VP.any, VP.row, VP.ptr, VP.blk, VP.ex, VP.and, VP.of, List.getD_cons_zero, List.getD_cons_succ]
          intro d4
          intro d5
          simp only [d4, d5]
          go_wp2_with (fail)
          refine done_mk ?_ rfl (Ext.refl _)
          rfl
        case oa7 =>
          intro x U hU
          simp only [depV, One, dstOf, readDst, asBool, VP.is, VP.any, VP.row, VP.ptr, VP.blk, VP.ex, VP.and, VP.of, List.getD_cons_zero, List.getD_cons_succ]
          intro d6
          simp only [d6]
          obtain ⟨h0, h1, h2, h3⟩ := c2.out U (hx.trans hU)
          go_wp2_with (fail)
          refine done_mk ?_ rfl (Ext.refl _)
          rfl
        case oa8 =>
          intro x U hU
          simp only [depV, One, dstOf, readDst, asBool, VP.is, VP.any, VP.row, VP.ptr, VP.blk, VP.ex, VP.and, VP.of, List.getD_cons_zero, List.getD_cons_succ]
          intro d3
          intro d7
          simp only [d3, d7]
          have hne := hne.out U
          have hg := fun a b => sym_guard_neq P Q a b U
          go_wp2_with (fail)
          refine done_mk ?_ rfl (Ext.refl _)
          rfl
        case fina =>
          intro x U hU
          simp only [allV, depV, One, dstOf, readDst, asBool, VP.is, VP.any, VP.row, VP.ptr, VP.blk, VP.ex, VP.and, VP.of, List.getD_cons_zero, List.getD_cons_succ]
          intro d0
          intro d1
          intro d2
          intro d3
          intro d4
          intro d5
          intro d6
          intro d7
          intro d8
          simp only [d0, d1, d2, d3, d4, d5, d6, d7, d8]
          clear d0 d1 d2 d3 d4 d5 d6 d7 d8
          by_cases e : P = Q
          · have hs' := HS.out e
            have e2 : decide (P = Q) = true := by simpa using e
            rw [e2]
            go_wp2
            go_roundw
            case rel => exact ⟨k + 1, by omega, by go_num, hx.trans hU, hs'⟩
            case measure => simp [intOf]; omega
          · have e2 : decide (P = Q) = false := by simpa using e
            rw [e2]
            go_wp2
            go_ret
            exact ⟨ret_bool (HN.out e).symm, hx.trans hU⟩
      · obtain rfl : k = n := by omega
        go_wp2
        go_ret
        exact ⟨ret_bool (by rw [hT.out hs]; simp), hx⟩
  · have d1 : ((n : Int) != m) = true := by simp; omega
    have e : decide (ps = qs) = false := by
      rw [decide_eq_false_iff_not]
      intro e
      subst e
      omega
    go_enter Try.func20, Try.ntmps20
    go_wp2
    go_ret
    exact ⟨ret_bool e.symm, Ext.refl _⟩
set_option maxRecDepth 100000 in
theorem refCopyS (A : Option Addr) (n c : Nat) (ps : List Sy) (w : World) (hp : ps.length = n) (hb : n ≤ 1000000) (hM : InM w A (sc ps)) :
    Calls Try.prog 17 #[.slice A n c] w fun e w' => ∃ B c', e = .returned (.slice B n c') ∧ w'.ownsRow w.heap.size 32 4 (.slice B n c') n (sc ps) ∧ Ext w w' := by
  obtain ⟨i0, hi, hz0, hz1, hz2⟩ := info_parts info_sym
  have hown : w.ownsRow w.heap.size 32 4 (.slice none 0 0) 0 [] := World.ownsRow_nil _ _ _ _
  have hl : (sc ps).length = n * 4 := by rw [sc_length]; omega
  have h1 := sc_one ps
  have HI := Lib.hid hi; have HZ0 := Lib.hid hz0; have HZ1 := Lib.hid hz1; have HZ2 := Lib.hid hz2; have HL := Lib.hid hl
  clear hi hz0 hz1 hz2 hp hl
  go_enter Try.func17, Try.ntmps17
  go_wp2_with (refine wpList_app rfl (.tmp 4) (.tmp 5) 22 rfl w.heap.size 32 i0 _ 4 24 Try.underlying22 HI.out HZ0.out HZ1.out HZ2.out rfl (by decide) none 0 0 [] rfl hown A n c (sc ps) rfl HL.out hM h1 (by omega) (by decide) (Nat.le_refl _) ?_; intro A' c' w' hown' hgrow _)
  go_ret
  exact ⟨A', c', rfl, by simpa using hown', (Ext.refl w).app hown (Nat.le_refl _) hgrow⟩
end Go.Proofs.Ytjlhfmedaandeaa
