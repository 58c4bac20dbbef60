import Derived.Test.YtplpffcolcjboaaCells23
import Derived.Test.YtplpffcolcjboaaAwake5
import Derived.Test.YtplpffcolcjboaaWalkInsn7
/- The law CellsMore, walked. -/
namespace Go.Proofs.Ytplpffcolcjboaa
open Go.RowKit Go.ChangeShapes Go.WideShapes
set_option linter.unusedVariables false
set_option linter.unusedSimpArgs false

set_option maxHeartbeats 4000000 in
set_option maxRecDepth 100000 in
theorem cellsMore_walk (A : Option Addr) (n c : Nat) (ps : List Ins) (hp : ps.length = n) (hm : n ≤ c ∧ c ≤ maxLen) (hok : ∀ i ∈ ps, i.ok) {W : World} (hM : InM W A (pc ps)) (a : Int) (ha : (Lit.int .u32 a).wf = true) (_ : World) :
    Calls Try.prog 11 #[.slice A n c, .int .u32 a] W fun e w' => e = .returned (.bool true) ∧ Ext W w' := by
  have HA := Lib.hid (fun W => awake05 W)
  have a0 : 0 ≤ a := by have := ha; simp [Lit.wf, IntKind.min, IntKind.max, IntKind.signed, IntKind.bits] at this; omega
  have hx := Ext.refl W
  by_cases big : 300 < n
  · have d1 : (300 : Int) < n := by omega
    clear hp hm hok hM ha
    go_enter Try.func11, Try.ntmps11
    go_wp2_with fail
    refine (HA.out _).mono ?_
    rintro e w1 ⟨rfl, hx'⟩
    replace hx := Ext.trans (by first | exact hx | exact hx.alloc _ | exact (hx.alloc _).alloc _ | exact hx.drew) hx'
    clear hx'
    go_wp2
    go_ret
    exact ⟨rfl, hx⟩
  by_cases big2 : 15 < a
  · have d1 : ¬ (300 : Int) < n := by omega
    clear hp hm hok hM ha
    go_enter Try.func11, Try.ntmps11
    go_wp2_with fail
    refine (HA.out _).mono ?_
    rintro e w1 ⟨rfl, hx'⟩
    replace hx := Ext.trans (by first | exact hx | exact hx.alloc _ | exact (hx.alloc _).alloc _ | exact hx.drew) hx'
    clear hx'
    go_wp2
    go_ret
    exact ⟨rfl, hx⟩
  obtain ⟨cl, rfl⟩ : ∃ cl : Nat, a = (cl : Int) := ⟨a.toNat, by omega⟩
  have hcl : cl < 16 := by omega
  have d1 : ¬ (300 : Int) < n := by omega
  have d2 : ¬ (15 : Int) < cl := by omega
  have d3 : (0 : Int) ≤ cl := by omega
  have d4 : (cl : Int) ≤ 15 := by omega
  have okq : ∀ i ∈ stI cl :: ps, i.ok := fun i hi => by
    rcases List.mem_cons.1 hi with rfl | h
    · exact ⟨(by decide : (0 : Int) ≤ 2 ∧ (2 : Int) < 256 ^ 2), (by decide : (0 : Int) ≤ 0 ∧ (0 : Int) < 256), (by decide : (0 : Int) ≤ 0 ∧ (0 : Int) < 256), by show (0 : Int) ≤ (cl : Int) ∧ (cl : Int) < 256 ^ 4; omega⟩
    · exact hok i h
  obtain ⟨i0, hi, hz0, hz1, hz2⟩ := info_parts info_ins
  have hmk : ∀ w : World, (Instr.makeSlice 30 (.int .i64 0) (.int .i64 ((n : Int) + 1))).run Try.prog w = .ok (.slice (some ⟨w.heap.size, 0, none⟩) 0 (n + 1)) (w.alloc (.cells (madeCells #[.int .u16 0, .int .u8 0, .int .u8 0, .int .u32 0] ((n + 1) * 4)) 25)) := fun w => by
    have := make_run 30 25 i0 _ Try.underlying30 hi hz0 .i64 .i64 0 (n + 1) (by omega) (by omega) (by omega) w
    rw [hz1] at this
    exact this
  have HI := Lib.hid hi; have HZ0 := Lib.hid hz0; have HZ1 := Lib.hid hz1; have HZ2 := Lib.hid hz2
  have L1 := Lib.hid (show (pc ps).length = n * 4 by rw [pc_length]; omega)
  have O1 := Lib.hid (pc_one ps)
  have HP := Lib.hid (show pc (stI cl :: ps) = [.int .u16 2, .int .u8 0, .int .u8 0, .int .u32 cl] ++ pc ps from rfl)
  have S1 := Lib.hid (fun W' h => sureI A n c ps W' hp hok h)
  have S2 := Lib.hid (fun B d W' h => sureI B (1 + n) d (stI cl :: ps) W' (by simp [hp]; omega) okq h)
  have l1 : (sureT ps).length = n := by rw [sureT_len ps (by omega), hp]
  have l2 : (sureT (stI cl :: ps)).length = 1 + n := by rw [sureT_len _ (by simp; omega)]; simp [hp]; omega
  rw [l1] at S1
  rw [l2] at S2
  have HSM := Lib.hid (fun j (h : j < n) => sure_more cl hcl ps hok (by omega) j (by omega))
  have hpw := pow16_wrap cl hcl
  have HM := Lib.hid hM
  generalize sureT ps = sl at *
  generalize sureT (stI cl :: ps) = tl at *
  generalize ((2 ^ cl : Nat) : Int) = pw at *
  clear hi hz0 hz1 hz2 hp hm hok hM okq big big2 ha
  have s1 : ((n : Int) != n) = false := by simp
  have s2 : ((1 + (n : Int)) != 1 + n) = false := by simp
  have HL := Lib.hid (And.intro l1 l2)
  clear l1 l2
  go_enter Try.func11, Try.ntmps11
  go_wp2_with fail
  refine (HA.out _).mono ?_
  rintro e w1 ⟨rfl, hx'⟩
  replace hx := Ext.trans (by first | exact hx | exact hx.alloc _ | exact (hx.alloc _).alloc _ | exact hx.drew) hx'
  clear hx'
  have ho0 := own_made (w := w1) (t := 25) (z := #[.int .u16 0, .int .u8 0, .int .u8 0, .int .u32 0]) (size := 4) (c := n + 1) hx.size (by omega)
  have hx2 := hx.alloc (.cells (madeCells #[.int .u16 0, .int .u8 0, .int .u8 0, .int .u32 0] ((n + 1) * 4)) 25)
  have ho0' := ho0.alloc (.cells #[.int .u16 2, .int .u8 0, .int .u8 0, .int .u32 cl] 25)
  have hx3 := hx2.alloc (.cells #[.int .u16 2, .int .u8 0, .int .u8 0, .int .u32 cl] 25)
  clear ho0
  go_wp2_with (first
    | (refine wpList_app rfl (.tmp 22) (.tmp 25) 30 rfl W.heap.size 25 i0 _ 4 8 Try.underlying30 HI.out HZ0.out HZ1.out HZ2.out rfl (by decide) _ 0 (n + 1) [] rfl ho0' _ 1 1 [.int .u16 2, .int .u8 0, .int .u8 0, .int .u32 cl] rfl rfl (InM.ofBlk (Blk.new_ (by simp)) rfl) (by simp [Value.oneCell']) (by omega) (by decide) hx3.size ?_; intro A1 c1 w2 ho1 hg1 hzz; clear hzz; rw [Nat.zero_add, List.nil_append] at ho1; have hx4 := hx3.app ho0' (Nat.le_refl _) hg1)
    | (refine wpList_app rfl (.tmp 27) (.tmp 28) 30 rfl W.heap.size 25 i0 _ 4 8 Try.underlying30 HI.out HZ0.out HZ1.out HZ2.out rfl (by decide) A1 1 c1 _ rfl ho1 A n c (pc ps) rfl L1.out (HM.out.ext hx4) O1.out (by omega) (by decide) hx4.size ?_; intro A2 c2 w3 ho2 hg2 hzz; clear hzz; have hx5 := hx4.app ho1 (Nat.le_refl _) hg2))
  rw [← HP.out] at ho2
  clear ho0' ho1 hx2 hx3 hx4 hg1 hg2 HI HZ0 HZ1 HZ2 hx
  refine (S1.out _ (HM.out.ext hx5)).mono ?_
  rintro e w4 ⟨P1, rfl, hP1, hx'⟩
  have hQ := own_inM (own_ext ho2 hx')
  replace hx5 := hx5.trans hx'
  clear hx' ho2
  go_wp2_with fail
  refine (S2.out _ _ _ hQ).mono ?_
  rintro e w5 ⟨P2, rfl, hP2, hx'⟩
  replace hP1 := hP1.ext hx'
  replace hx5 := hx5.trans hx'
  clear hx' hQ
  go_wp2_with fail
  go_loopw [8] (fun i wr => ∃ k : Nat, k ≤ n ∧ i = .int .i64 k ∧ Ext w5 wr) (fun i _ => n - (intOf i).toNat)
  case atStart => exact ⟨0, by omega, rfl, Ext.refl _⟩
  case round =>
    obtain ⟨k, hk, rfl, hy⟩ := hrel
    by_cases hlt : k < n
    · have k1 : (0 : Int) ≤ k := by omega
      have k2 : (k : Int) < n := by omega
      have k3 : (k : Int) + 1 < 1 + n := by omega
      have hl1 : k < sl.length := by rw [HL.out.1]; exact hlt
      have hl2 : k + 1 < tl.length := by rw [HL.out.2]; omega
      obtain ⟨b1, o1, rfl, _, _⟩ := hP1.num hl1
      obtain ⟨b2, o2, rfl, _, _⟩ := hP2.num hl2
      have hsm := HSM.out k hlt
      rw [List.getD_eq_getElem?_getD, List.getElem?_eq_getElem hl2, List.getD_eq_getElem?_getD, List.getElem?_eq_getElem hl1] at hsm
      simp only [Option.getD_some] at hsm
      have CP := Lib.hid (fun W' (h : Ext wr W') => (hP1.ext (hy.trans h)).cell (nums_at hl1))
      have CQ := Lib.hid (fun W' (h : Ext wr W') => (hP2.ext (hy.trans h)).cell (nums_at hl2))
      rw [hsm] at CQ
      clear hsm
      generalize sl[k] = s at *
      generalize hor : bits .or .u16 s pw = z at *
      have hne : (z != z) = false := by simp
      clear hP1 hP2
      go_wp2_with fail
      refine wp_region_mono rfl [.is ?va0, .is ?va1, .is ?va2, .is ?va3, .is (.int .u16 z), .is ?va5, .is ?va6, .is ?va7, .is (.int .u16 s), .is ?va9, .is (.int .u16 pw), .is (.int .u16 z), .is (.bool false)] (by kernel_rfl) (by kernel_rfl) ?Aa ?hAa ⟨?oa0, ?oa1, ?oa2, ?oa3, ?oa4, ?oa5, ?oa6, ?oa7, ?oa8, ?oa9, ?oa10, ?oa11, ?oa12, trivial⟩ ?fina
      case hAa => (intro x; simp only [fillOps, Act.put, List.setIfInBounds_toArray, List.set_cons_zero, List.set_cons_succ, Nat.reduceAdd]; rfl)
      case oa0 =>
        intro x U hU
        simp only [depV, One, dstOf, readDst, asBool, VP.is, VP.any, VP.row, VP.ptr, VP.blk, VP.ex, VP.and, VP.of, List.getD_cons_zero, List.getD_cons_succ]
        go_wp2_with (fail)
        refine done_mk ?_ rfl (Ext.refl _)
        rfl
      case oa1 =>
        intro x U hU
        simp only [depV, One, dstOf, readDst, asBool, VP.is, VP.any, VP.row, VP.ptr, VP.blk, VP.ex, VP.and, VP.of, List.getD_cons_zero, List.getD_cons_succ]
        go_wp2_with (fail)
        refine done_mk ?_ rfl (Ext.refl _)
        rfl
      case oa2 =>
        intro x U hU
        simp only [depV, One, dstOf, readDst, asBool, VP.is, VP.any, VP.row, VP.ptr, VP.blk, VP.ex, VP.and, VP.of, List.getD_cons_zero, List.getD_cons_succ]
        intro d1
        simp only [d1]
        go_wp2_with (fail)
        refine done_mk ?_ rfl (Ext.refl _)
        rfl
      case oa3 =>
        intro x U hU
        simp only [depV, One, dstOf, readDst, asBool, VP.is, VP.any, VP.row, VP.ptr, VP.blk, VP.ex, VP.and, VP.of, List.getD_cons_zero, List.getD_cons_succ]
        intro d0
        intro d2
        simp only [d0, d2]
        go_wp2_with (fail)
        refine done_mk ?_ rfl (Ext.refl _)
        rfl
      case oa4 =>
        intro x U hU
        simp only [depV, One, dstOf, readDst, asBool, VP.is, VP.any, VP.row, VP.ptr, VP.blk, VP.ex, VP.and, VP.of, List.getD_cons_zero, List.getD_cons_succ]
        intro d3
        simp only [d3]
        have h0 := CQ.out U hU
        go_wp2_with (fail)
        refine done_mk ?_ rfl (Ext.refl _)
        rfl
      case oa5 =>
        intro x U hU
        simp only [depV, One, dstOf, readDst, asBool, VP.is, VP.any, VP.row, VP.ptr, VP.blk, VP.ex, VP.and, VP.of, List.getD_cons_zero, List.getD_cons_succ]
        go_wp2_with (fail)
        refine done_mk ?_ rfl (Ext.refl _)
        rfl
      case oa6 =>
        intro x U hU
        simp only [depV, One, dstOf, readDst, asBool, VP.is, VP.any, VP.row, VP.ptr, VP.blk, VP.ex, VP.and, VP.of, List.getD_cons_zero, List.getD_cons_succ]
        go_wp2_with (fail)
        refine done_mk ?_ rfl (Ext.refl _)
        rfl
      case oa7 =>
        intro x U hU
        simp only [depV, One, dstOf, readDst, asBool, VP.is, VP.any, VP.row, VP.ptr, VP.blk, VP.ex, VP.and, VP.of, List.getD_cons_zero, List.getD_cons_succ]
        intro d5
        intro d6
        simp only [d5, d6]
        go_wp2_with (fail)
        refine done_mk ?_ rfl (Ext.refl _)
        rfl
      case oa8 =>
        intro x U hU
        simp only [depV, One, dstOf, readDst, asBool, VP.is, VP.any, VP.row, VP.ptr, VP.blk, VP.ex, VP.and, VP.of, List.getD_cons_zero, List.getD_cons_succ]
        intro d7
        simp only [d7]
        have h0 := CP.out U hU
        go_wp2_with (fail)
        refine done_mk ?_ rfl (Ext.refl _)
        rfl
      case oa9 =>
        intro x U hU
        simp only [depV, One, dstOf, readDst, asBool, VP.is, VP.any, VP.row, VP.ptr, VP.blk, VP.ex, VP.and, VP.of, List.getD_cons_zero, List.getD_cons_succ]
        go_wp2_with (fail)
        refine done_mk ?_ rfl (Ext.refl _)
        rfl
      case oa10 =>
        intro x U hU
        simp only [depV, One, dstOf, readDst, asBool, VP.is, VP.any, VP.row, VP.ptr, VP.blk, VP.ex, VP.and, VP.of, List.getD_cons_zero, List.getD_cons_succ]
        intro d9
        simp only [d9]
        go_wp2_with (fail)
        refine done_mk ?_ rfl (Ext.refl _)
        rfl
      case oa11 =>
        intro x U hU
        simp only [depV, One, dstOf, readDst, asBool, VP.is, VP.any, VP.row, VP.ptr, VP.blk, VP.ex, VP.and, VP.of, List.getD_cons_zero, List.getD_cons_succ]
        intro d8
        intro d10
        simp only [d8, d10]
        go_wp2_with (fail)
        refine done_mk ?_ rfl (Ext.refl _)
        rfl
      case oa12 =>
        intro x U hU
        simp only [depV, One, dstOf, readDst, asBool, VP.is, VP.any, VP.row, VP.ptr, VP.blk, VP.ex, VP.and, VP.of, List.getD_cons_zero, List.getD_cons_succ]
        intro d4
        intro d11
        simp only [d4, d11]
        go_wp2_with (fail)
        refine done_mk ?_ rfl (Ext.refl _)
        rfl
      case fina =>
        intro x U hU
        simp only [allV, depV, One, dstOf, readDst, asBool, VP.is, VP.any, VP.row, VP.ptr, VP.blk, VP.ex, VP.and, VP.of, List.getD_cons_zero, List.getD_cons_succ]
        intro d0
        intro d1
        intro d2
        intro d3
        intro d4
        intro d5
        intro d6
        intro d7
        intro d8
        intro d9
        intro d10
        intro d11
        intro d12
        simp only [d0, d1, d2, d3, d4, d5, d6, d7, d8, d9, d10, d11, d12]
        clear d0 d1 d2 d3 d4 d5 d6 d7 d8 d9 d10 d11 d12
        go_wp2
        go_roundw
        case rel => exact ⟨k + 1, by omega, by go_num, hy.trans hU⟩
        case measure => simp [intOf]; omega
    · obtain rfl : k = n := by omega
      go_wp2
      go_ret
      exact ⟨rfl, hx5.trans hy⟩
end Go.Proofs.Ytplpffcolcjboaa
