import Derived.Test.YtkejcfbhikpibaaPrg
import Derived.Lib.SliceRun
/- slices.Compact of at most two numbers. -/
namespace Go.Proofs.Ytkejcfbhikpibaa
open Go.RowKit Go.ChangeShapes Go.WideShapes
set_option linter.unusedVariables false
set_option linter.unusedSimpArgs false

theorem grown_trans {a b c : World} {row : Option Nat} (h : a.grownBy b row) (k : b.grownBy c row) : a.grownBy c row :=
  ⟨k.os.trans h.os, k.tape.trans h.tape, k.output.trans h.output, Nat.le_trans h.size k.size, fun i hi hr => (k.block i (Nat.lt_of_lt_of_le hi h.size) hr).trans (h.block i hi hr)⟩
theorem grown_set (w : World) (g i : Nat) (u : Value) : w.grownBy (w.setCell ⟨g, i, none⟩ u) (some g) :=
  ⟨rfl, rfl, rfl, by simp, fun k _ hk => heap_setCell_other w ⟨g, i, none⟩ k u (fun e => hk (by simp [e]))⟩
theorem clear_one (g c : Nat) (u : Value) (w : World) (ty : TypeId) (h1 : w.cell? ⟨g, 1, none⟩ = some u) (hf : w.frozen? ⟨g, 1, none⟩ = false) :
    (Builtin.clear_ #[41] ty #[.slice (some ⟨g, 1, none⟩) 1 c]).run Try.prog w = .ok (.tuple #[]) (w.setCell ⟨g, 1, none⟩ (.int .i64 0)) := by
  have hc : ∀ j, j < 1 → (w.cell? ⟨g, 1 + j, none⟩).isSome = true := fun j hj => by
    have : j = 0 := by omega
    subst this
    simp [h1]
  have hf' : ∀ j, j < 1 → w.frozen? ⟨g, 1 + j, none⟩ = false := fun j hj => by
    have : j = 0 := by omega
    subst this
    simpa using hf
  have := Lib.run_clear_slice (P := Try.prog) w 41 3 ty (.int .i64 0) Try.underlying41 (fun _ => by kernel_rfl) rfl rfl g 1 1 c (by decide) hc hf'
  rw [this]
  simp [World.setCells]
theorem wpList_clear1 {w : World} {ops : Array Oper} {rest : List Oper} {o : Oper} {a : Act} {Q : Exit → Act → World → Prop} (hgd : o.guard = none) (x : Operand)
    (ho : o.op = .call { callee := .builtin .clear, args := #[x], argTypes := #[41] }) (g c : Nat) (u : Value) (hx : a.eval x = .slice (some ⟨g, 1, none⟩) 1 c) (h1 : w.cell? ⟨g, 1, none⟩ = some u) (hf : w.frozen? ⟨g, 1, none⟩ = false)
    (h : wpList Try.prog ops Q rest (a.put o.dst (.tuple #[])) (w.setCell ⟨g, 1, none⟩ (.int .i64 0))) : wpList Try.prog ops Q (o :: rest) a w := by
  refine wpList_plain hgd fun K hK => ?_
  unfold Oper.wp execOp
  have hr := clear_one g c u w o.type h1 hf
  simp only [ho, resolve, invoke, builtin, Sem.run_bind, Sem.run_pure, Result.andThen_ok, List.map_toArray, List.map_cons, List.map_nil, hx, hr]
  exact hK _ _ h
theorem compact_short (A : Option Addr) (n c : Nat) (h : n < 2) (w : World) : Calls Try.prog 65 #[.slice A n c] w fun e w' => e = .returned (.slice A n c) ∧ w = w' := by
  have h2 : (n : Int) < 2 := by omega
  go_enter Try.func65, Try.ntmps65
  go_wp2
  go_ret
  exact ⟨rfl, rfl⟩
set_option maxRecDepth 100000 in
theorem compact_apart (g c : Nat) (x y : Int) (hc : 2 ≤ c ∧ c ≤ 1000000) (hne : x ≠ y) (w : World) (h0 : w.cell? ⟨g, 0, none⟩ = some (.int .i64 x)) (h1 : w.cell? ⟨g, 1, none⟩ = some (.int .i64 y)) :
    Calls Try.prog 65 #[.slice (some ⟨g, 0, none⟩) 2 c] w fun e w' => e = .returned (.slice (some ⟨g, 0, none⟩) 2 c) ∧ Ext w w' := by
  have d1 : (y == x) = false := by simpa using Ne.symm hne
  have hd : ∀ {w w' : World} {p : Addr} {u : Value}, Ext w w' → w.cell? p = some u → w'.cell? p = some u := fun e h => e.cell h
  have H0 := Lib.hid (fun (W : World) (e : Ext w W) => e.cell h0)
  have H1 := Lib.hid (fun (W : World) (e : Ext w W) => e.cell h1)
  clear hne hd h0 h1
  go_enter Try.func65, Try.ntmps65
  go_wp2
  go_loopw [3] (fun i wr => Ext w wr ∧ (i = .int .i64 1 ∨ i = .int .i64 2)) (fun i _ => 2 - (intOf i).toNat)
  case atStart => exact ⟨Ext.refl _, .inl rfl⟩
  case round =>
    obtain ⟨hx, rfl | rfl⟩ := hrel
    · go_wp2_with fail
      refine wp_region_mono rfl [.is ?va0, .is ?va1, .is ?va2, .is ?va3, .is ?va4, .is ?va5, .is ?va6, .is ?va7, .is ?va8, .is ?va9] (by kernel_rfl) (by kernel_rfl) ?Aa ?hAa ⟨?oa0, ?oa1, ?oa2, ?oa3, ?oa4, ?oa5, ?oa6, ?oa7, ?oa8, ?oa9, trivial⟩ ?fina
      case hAa => (intro x; simp only [fillOps, Act.put, List.setIfInBounds_toArray, List.set_cons_zero, List.set_cons_succ, Nat.reduceAdd]; rfl)
      case oa0 =>
        intro x U hU
        simp only [depV, One, dstOf, readDst, asBool, VP.is, VP.any, VP.row, VP.ptr, VP.blk, VP.ex, VP.and, VP.of, List.getD_cons_zero, List.getD_cons_succ]
        go_wp2_with (fail)
        refine done_mk ?_ rfl (Ext.refl _)
        rfl
      case oa1 =>
        intro x U hU
        simp only [depV, One, dstOf, readDst, asBool, VP.is, VP.any, VP.row, VP.ptr, VP.blk, VP.ex, VP.and, VP.of, List.getD_cons_zero, List.getD_cons_succ]
        go_wp2_with (fail)
        refine done_mk ?_ rfl (Ext.refl _)
        rfl
      case oa2 =>
        intro x U hU
        simp only [depV, One, dstOf, readDst, asBool, VP.is, VP.any, VP.row, VP.ptr, VP.blk, VP.ex, VP.and, VP.of, List.getD_cons_zero, List.getD_cons_succ]
        intro d0
        intro d1
        simp only [d0, d1]
        go_wp2_with (fail)
        refine done_mk ?_ rfl (Ext.refl _)
        rfl
      case oa3 =>
        intro x U hU
        simp only [depV, One, dstOf, readDst, asBool, VP.is, VP.any, VP.row, VP.ptr, VP.blk, VP.ex, VP.and, VP.of, List.getD_cons_zero, List.getD_cons_succ]
        intro d2
        simp only [d2]
        have q1 := H1.out U (hx.trans hU)
        go_wp2_with (fail)
        refine done_mk ?_ rfl (Ext.refl _)
        rfl
      case oa4 =>
        intro x U hU
        simp only [depV, One, dstOf, readDst, asBool, VP.is, VP.any, VP.row, VP.ptr, VP.blk, VP.ex, VP.and, VP.of, List.getD_cons_zero, List.getD_cons_succ]
        go_wp2_with (fail)
        refine done_mk ?_ rfl (Ext.refl _)
        rfl
      case oa5 =>
        intro x U hU
        simp only [depV, One, dstOf, readDst, asBool, VP.is, VP.any, VP.row, VP.ptr, VP.blk, VP.ex, VP.and, VP.of, List.getD_cons_zero, List.getD_cons_succ]
        go_wp2_with (fail)
        refine done_mk ?_ rfl (Ext.refl _)
        rfl
      case oa6 =>
        intro x U hU
        simp only [depV, One, dstOf, readDst, asBool, VP.is, VP.any, VP.row, VP.ptr, VP.blk, VP.ex, VP.and, VP.of, List.getD_cons_zero, List.getD_cons_succ]
        intro d5
        simp only [d5]
        go_wp2_with (fail)
        refine done_mk ?_ rfl (Ext.refl _)
        rfl
      case oa7 =>
        intro x U hU
        simp only [depV, One, dstOf, readDst, asBool, VP.is, VP.any, VP.row, VP.ptr, VP.blk, VP.ex, VP.and, VP.of, List.getD_cons_zero, List.getD_cons_succ]
        intro d4
        intro d6
        simp only [d4, d6]
        go_wp2_with (fail)
        refine done_mk ?_ rfl (Ext.refl _)
        rfl
      case oa8 =>
        intro x U hU
        simp only [depV, One, dstOf, readDst, asBool, VP.is, VP.any, VP.row, VP.ptr, VP.blk, VP.ex, VP.and, VP.of, List.getD_cons_zero, List.getD_cons_succ]
        intro d7
        simp only [d7]
        have q0 := H0.out U (hx.trans hU)
        go_wp2_with (fail)
        refine done_mk ?_ rfl (Ext.refl _)
        rfl
      case oa9 =>
        intro x U hU
        simp only [depV, One, dstOf, readDst, asBool, VP.is, VP.any, VP.row, VP.ptr, VP.blk, VP.ex, VP.and, VP.of, List.getD_cons_zero, List.getD_cons_succ]
        intro d3
        intro d8
        simp only [d3, d8]
        go_wp2_with (fail)
        refine done_mk ?_ rfl (Ext.refl _)
        rfl
      case fina =>
        intro x U hU
        simp only [allV, depV, One, dstOf, readDst, asBool, VP.is, VP.any, VP.row, VP.ptr, VP.blk, VP.ex, VP.and, VP.of, List.getD_cons_zero, List.getD_cons_succ]
        intro d0
        intro d1
        intro d2
        intro d3
        intro d4
        intro d5
        intro d6
        intro d7
        intro d8
        intro d9
        simp only [d0, d1, d2, d3, d4, d5, d6, d7, d8, d9]
        clear d0 d1 d2 d3 d4 d5 d6 d7 d8 d9
        go_wp2
        go_roundw
        case rel => exact ⟨hx.trans hU, .inr rfl⟩
        case measure => simp [intOf]
    · go_wp2
      go_ret
      exact ⟨rfl, hx⟩
set_option maxRecDepth 100000 in
theorem compact_same (g c : Nat) (x : Int) (hc : 2 ≤ c ∧ c ≤ 1000000) (cs : Array Value) (w : World) (hb : Blk w g 3 cs) (h0 : cs[0]? = some (.int .i64 x)) (h1 : cs[1]? = some (.int .i64 x)) :
    Calls Try.prog 65 #[.slice (some ⟨g, 0, none⟩) 2 c] w fun e w' => e = .returned (.slice (some ⟨g, 0, none⟩) 1 c) ∧ Blk w' g 3 (cs.setIfInBounds 1 (.int .i64 0)) ∧ w.grownBy w' (some g) := by
  have d1 : (x == x) = true := by simp
  have H0 := Lib.hid (fun (W : World) (e : Ext w W) => ((hb.ext e).cell 0).trans h0)
  have H1 := Lib.hid (fun (W : World) (e : Ext w W) => ((hb.ext e).cell 1).trans h1)
  have HF := Lib.hid (fun (W : World) (e : Ext w W) => ((hb.ext e).frozen 1))
  have HB := Lib.hid hb
  clear h0 h1 hb
  go_enter Try.func65, Try.ntmps65
  go_wp2
  go_loopw [3] (fun i wr => Ext w wr ∧ i = .int .i64 1) (fun i _ => 2 - (intOf i).toNat)
  case atStart => exact ⟨Ext.refl _, rfl⟩
  case round =>
    obtain ⟨hx, rfl⟩ := hrel
    go_wp2_with fail
    refine wp_region_mono rfl [.is ?vaq2r0, .is ?vaq2r1, .is ?vaq2r2, .is ?vaq2r3, .is ?vaq2r4, .is ?vaq2r5, .is ?vaq2r6, .is ?vaq2r7, .is ?vaq2r8, .is ?vaq2r9] (by kernel_rfl) (by kernel_rfl) ?Aaq2r ?hAaq2r ⟨?oaq2r0, ?oaq2r1, ?oaq2r2, ?oaq2r3, ?oaq2r4, ?oaq2r5, ?oaq2r6, ?oaq2r7, ?oaq2r8, ?oaq2r9, trivial⟩ ?finaq2r
    case hAaq2r => (intro x; simp only [fillOps, Act.put, List.setIfInBounds_toArray, List.set_cons_zero, List.set_cons_succ, Nat.reduceAdd]; rfl)
    case oaq2r0 =>
      intro x U hU
      simp only [depV, One, dstOf, readDst, asBool, VP.is, VP.any, VP.row, VP.ptr, VP.blk, VP.ex, VP.and, VP.of, List.getD_cons_zero, List.getD_cons_succ]
      go_wp2_with (fail)
      refine done_mk ?_ rfl (Ext.refl _)
      rfl
    case oaq2r1 =>
      intro x U hU
      simp only [depV, One, dstOf, readDst, asBool, VP.is, VP.any, VP.row, VP.ptr, VP.blk, VP.ex, VP.and, VP.of, List.getD_cons_zero, List.getD_cons_succ]
      go_wp2_with (fail)
      refine done_mk ?_ rfl (Ext.refl _)
      rfl
    case oaq2r2 =>
      intro x U hU
      simp only [depV, One, dstOf, readDst, asBool, VP.is, VP.any, VP.row, VP.ptr, VP.blk, VP.ex, VP.and, VP.of, List.getD_cons_zero, List.getD_cons_succ]
      intro d0
      intro d1
      simp only [d0, d1]
      go_wp2_with (fail)
      refine done_mk ?_ rfl (Ext.refl _)
      rfl
    case oaq2r3 =>
      intro x U hU
      simp only [depV, One, dstOf, readDst, asBool, VP.is, VP.any, VP.row, VP.ptr, VP.blk, VP.ex, VP.and, VP.of, List.getD_cons_zero, List.getD_cons_succ]
      intro d2
      simp only [d2]
      have q1 := H1.out U (hx.trans hU)
      go_wp2_with (fail)
      refine done_mk ?_ rfl (Ext.refl _)
      rfl
    case oaq2r4 =>
      intro x U hU
      simp only [depV, One, dstOf, readDst, asBool, VP.is, VP.any, VP.row, VP.ptr, VP.blk, VP.ex, VP.and, VP.of, List.getD_cons_zero, List.getD_cons_succ]
      go_wp2_with (fail)
      refine done_mk ?_ rfl (Ext.refl _)
      rfl
    case oaq2r5 =>
      intro x U hU
      simp only [depV, One, dstOf, readDst, asBool, VP.is, VP.any, VP.row, VP.ptr, VP.blk, VP.ex, VP.and, VP.of, List.getD_cons_zero, List.getD_cons_succ]
      go_wp2_with (fail)
      refine done_mk ?_ rfl (Ext.refl _)
      rfl
    case oaq2r6 =>
      intro x U hU
      simp only [depV, One, dstOf, readDst, asBool, VP.is, VP.any, VP.row, VP.ptr, VP.blk, VP.ex, VP.and, VP.of, List.getD_cons_zero, List.getD_cons_succ]
      intro d5
      simp only [d5]
      go_wp2_with (fail)
      refine done_mk ?_ rfl (Ext.refl _)
      rfl
    case oaq2r7 =>
      intro x U hU
      simp only [depV, One, dstOf, readDst, asBool, VP.is, VP.any, VP.row, VP.ptr, VP.blk, VP.ex, VP.and, VP.of, List.getD_cons_zero, List.getD_cons_succ]
      intro d4
      intro d6
      simp only [d4, d6]
      go_wp2_with (fail)
      refine done_mk ?_ rfl (Ext.refl _)
      rfl
    case oaq2r8 =>
      intro x U hU
      simp only [depV, One, dstOf, readDst, asBool, VP.is, VP.any, VP.row, VP.ptr, VP.blk, VP.ex, VP.and, VP.of, List.getD_cons_zero, List.getD_cons_succ]
      intro d7
      simp only [d7]
      have q0 := H0.out U (hx.trans hU)
      go_wp2_with (fail)
      refine done_mk ?_ rfl (Ext.refl _)
      rfl
    case oaq2r9 =>
      intro x U hU
      simp only [depV, One, dstOf, readDst, asBool, VP.is, VP.any, VP.row, VP.ptr, VP.blk, VP.ex, VP.and, VP.of, List.getD_cons_zero, List.getD_cons_succ]
      intro d3
      intro d8
      simp only [d3, d8]
      go_wp2_with (fail)
      refine done_mk ?_ rfl (Ext.refl _)
      rfl
    case finaq2r =>
      intro x U hU
      simp only [allV, depV, One, dstOf, readDst, asBool, VP.is, VP.any, VP.row, VP.ptr, VP.blk, VP.ex, VP.and, VP.of, List.getD_cons_zero, List.getD_cons_succ]
      intro d0
      intro d1
      intro d2
      intro d3
      intro d4
      intro d5
      intro d6
      intro d7
      intro d8
      intro d9
      simp only [d0, d1, d2, d3, d4, d5, d6, d7, d8, d9]
      clear d0 d1 d2 d3 d4 d5 d6 d7 d8 d9
      have q1 := H1.out U (hx.trans hU)
      have qf := HF.out U (hx.trans hU)
      go_wp2
      go_loop [3, 5] (fun k i => k = .int .i64 1 ∧ i = .int .i64 1) (fun _ _ => 0)
      case atStart => exact ⟨rfl, rfl⟩
      case round =>
        obtain ⟨rfl, rfl⟩ := hrel
        go_wp2_with (refine wpList_clear1 rfl (.tmp 56) rfl g (c - 1) _ rfl q1 qf ?_)
        go_ret
        exact ⟨rfl, Blk.set_ (HB.out.ext (hx.trans hU)) 1 _, grown_trans (grown_of_ext (hx.trans hU) _) (grown_set U g 1 _)⟩
end Go.Proofs.Ytkejcfbhikpibaa
