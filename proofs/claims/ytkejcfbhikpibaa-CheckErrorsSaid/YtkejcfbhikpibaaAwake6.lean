import Derived.Test.YtkejcfbhikpibaaChk6
import Derived.Test.YtkejcfbhikpibaaAwake5
/- The examples of chapter 06 hold. -/
namespace Go.Proofs.Ytkejcfbhikpibaa
open Go.RowKit Go.ChangeShapes Go.WideShapes
set_option linter.unusedVariables false
set_option linter.unusedSimpArgs false

set_option maxRecDepth 100000 in
theorem is06 (A : Option Addr) (n c : Nat) (ps : List Ins) (x y : Int) (w : World) (hp : ps.length = n) (hok : ∀ i ∈ ps, i.ok) (hb : n ≤ 100000) (hM : InM w A (pc ps)) (h : atE ps = (x, y)) :
    Calls Try.prog 36 #[.int .i64 x, .int .i64 y, .slice A n c] w fun e w' => e = .returned (.bool true) ∧ Ext w w' := by
  have H1 := Lib.hid (checkAt A n c ps w hp hok hb hM)
  have H2 := Lib.hid (fun W h => checkCheck A n c ps W hp hok hb h)
  rw [h] at H1 H2
  dsimp only at H1 H2
  have HM := Lib.hid hM
  have s1 : (x == x) = true := by simp
  have s2 : (y == y) = true := by simp
  clear hp hok hM h
  go_enter Try.func36, Try.ntmps36
  go_wp2_with fail
  refine (H1.out).mono ?_
  rintro e w1 ⟨rfl, hx⟩
  go_wp2_with fail
  refine (H2.out _ (HM.out.ext hx)).mono ?_
  rintro e w2 ⟨rfl, hx2⟩
  go_wp2
  go_ret
  exact ⟨rfl, hx.trans hx2⟩
set_option maxRecDepth 100000 in
theorem in06 (co k : Int) (w : World) : Calls Try.prog 35 #[.int .u16 co, .int .u32 k] w fun e w' => e = .returned (.agg #[.int .u16 co, .int .u8 0, .int .u8 0, .int .u32 k]) ∧ Ext w w' := by
  have hx := (Ext.refl w).alloc (.cells #[.int .u16 co, .int .u8 0, .int .u8 0, .int .u32 k] 32)
  go_enter Try.func35, Try.ntmps35
  go_wp2
  exact bodyPost_ret (results_blk1 rfl _ _ w.heap.size 32 _ _ rfl (Blk.new_ rfl) Try.underlying32 rfl (by kernel_rfl)) rfl ⟨rfl, hx⟩
def exC0 : List Ins := [⟨6, 0, 0, 0⟩]
theorem exC0_ok : ∀ i ∈ exC0, i.ok := ok_all (by kernel_rfl)
theorem exC0_at : atE exC0 = (0, 0) := by kernel_rfl
def exC1 : List Ins := []
theorem exC1_ok : ∀ i ∈ exC1, i.ok := ok_all (by kernel_rfl)
theorem exC1_at : atE exC1 = (0, 60) := by kernel_rfl
def exC2 : List Ins := [⟨0, 0, 0, 1⟩]
theorem exC2_ok : ∀ i ∈ exC2, i.ok := ok_all (by kernel_rfl)
theorem exC2_at : atE exC2 = (0, 46) := by kernel_rfl
def exC3 : List Ins := [⟨32, 0, 0, 64⟩, ⟨6, 0, 0, 0⟩]
theorem exC3_ok : ∀ i ∈ exC3, i.ok := ok_all (by kernel_rfl)
theorem exC3_at : atE exC3 = (0, 41) := by kernel_rfl
def exC4 : List Ins := [⟨100, 0, 0, 32⟩, ⟨6, 0, 0, 0⟩]
theorem exC4_ok : ∀ i ∈ exC4, i.ok := ok_all (by kernel_rfl)
theorem exC4_at : atE exC4 = (0, 45) := by kernel_rfl
def exC5 : List Ins := [⟨52, 0, 0, 0⟩, ⟨6, 0, 0, 0⟩]
theorem exC5_ok : ∀ i ∈ exC5, i.ok := ok_all (by kernel_rfl)
theorem exC5_at : atE exC5 = (0, 44) := by kernel_rfl
def exC6 : List Ins := [⟨2, 0, 0, 16⟩, ⟨6, 0, 0, 0⟩]
theorem exC6_ok : ∀ i ∈ exC6, i.ok := ok_all (by kernel_rfl)
theorem exC6_at : atE exC6 = (0, 43) := by kernel_rfl
def exC7 : List Ins := [⟨21, 0, 2, 0⟩, ⟨6, 0, 0, 0⟩, ⟨6, 0, 0, 0⟩]
theorem exC7_ok : ∀ i ∈ exC7, i.ok := ok_all (by kernel_rfl)
theorem exC7_at : atE exC7 = (0, 42) := by kernel_rfl
def exC8 : List Ins := [⟨5, 0, 0, 1⟩, ⟨6, 0, 0, 0⟩]
theorem exC8_ok : ∀ i ∈ exC8, i.ok := ok_all (by kernel_rfl)
theorem exC8_at : atE exC8 = (0, 42) := by kernel_rfl
def exC9 : List Ins := [⟨0, 0, 0, 1⟩, ⟨96, 0, 0, 0⟩, ⟨22, 0, 0, 0⟩]
theorem exC9_ok : ∀ i ∈ exC9, i.ok := ok_all (by kernel_rfl)
theorem exC9_at : atE exC9 = (1, 61) := by kernel_rfl
set_option maxHeartbeats 4000000 in
set_option maxRecDepth 100000 in
theorem awake06 (w : World) : Calls Try.prog 23 #[] w fun e w' => e = .returned (.bool true) ∧ Ext w w' := by
  have C0 : ∀ (A : Option Addr) (c : Nat) (W : World), InM W A (pc exC0) → Calls Try.prog 36 #[.int .i64 0, .int .i64 0, .slice A 1 c] W fun e w' => e = .returned (.bool true) ∧ Ext W w' := fun A c W h => is06 A 1 c exC0 0 0 W rfl exC0_ok (by decide) h exC0_at
  have C0 := Lib.hid C0
  have C1 : ∀ (A : Option Addr) (c : Nat) (W : World), InM W A (pc exC1) → Calls Try.prog 36 #[.int .i64 0, .int .i64 60, .slice A 0 c] W fun e w' => e = .returned (.bool true) ∧ Ext W w' := fun A c W h => is06 A 0 c exC1 0 60 W rfl exC1_ok (by decide) h exC1_at
  have C1 := Lib.hid C1
  have C2 : ∀ (A : Option Addr) (c : Nat) (W : World), InM W A (pc exC2) → Calls Try.prog 36 #[.int .i64 0, .int .i64 46, .slice A 1 c] W fun e w' => e = .returned (.bool true) ∧ Ext W w' := fun A c W h => is06 A 1 c exC2 0 46 W rfl exC2_ok (by decide) h exC2_at
  have C2 := Lib.hid C2
  have C3 : ∀ (A : Option Addr) (c : Nat) (W : World), InM W A (pc exC3) → Calls Try.prog 36 #[.int .i64 0, .int .i64 41, .slice A 2 c] W fun e w' => e = .returned (.bool true) ∧ Ext W w' := fun A c W h => is06 A 2 c exC3 0 41 W rfl exC3_ok (by decide) h exC3_at
  have C3 := Lib.hid C3
  have C4 : ∀ (A : Option Addr) (c : Nat) (W : World), InM W A (pc exC4) → Calls Try.prog 36 #[.int .i64 0, .int .i64 45, .slice A 2 c] W fun e w' => e = .returned (.bool true) ∧ Ext W w' := fun A c W h => is06 A 2 c exC4 0 45 W rfl exC4_ok (by decide) h exC4_at
  have C4 := Lib.hid C4
  have C5 : ∀ (A : Option Addr) (c : Nat) (W : World), InM W A (pc exC5) → Calls Try.prog 36 #[.int .i64 0, .int .i64 44, .slice A 2 c] W fun e w' => e = .returned (.bool true) ∧ Ext W w' := fun A c W h => is06 A 2 c exC5 0 44 W rfl exC5_ok (by decide) h exC5_at
  have C5 := Lib.hid C5
  have C6 : ∀ (A : Option Addr) (c : Nat) (W : World), InM W A (pc exC6) → Calls Try.prog 36 #[.int .i64 0, .int .i64 43, .slice A 2 c] W fun e w' => e = .returned (.bool true) ∧ Ext W w' := fun A c W h => is06 A 2 c exC6 0 43 W rfl exC6_ok (by decide) h exC6_at
  have C6 := Lib.hid C6
  have C7 : ∀ (A : Option Addr) (c : Nat) (W : World), InM W A (pc exC7) → Calls Try.prog 36 #[.int .i64 0, .int .i64 42, .slice A 3 c] W fun e w' => e = .returned (.bool true) ∧ Ext W w' := fun A c W h => is06 A 3 c exC7 0 42 W rfl exC7_ok (by decide) h exC7_at
  have C7 := Lib.hid C7
  have C8 : ∀ (A : Option Addr) (c : Nat) (W : World), InM W A (pc exC8) → Calls Try.prog 36 #[.int .i64 0, .int .i64 42, .slice A 2 c] W fun e w' => e = .returned (.bool true) ∧ Ext W w' := fun A c W h => is06 A 2 c exC8 0 42 W rfl exC8_ok (by decide) h exC8_at
  have C8 := Lib.hid C8
  have C9 : ∀ (A : Option Addr) (c : Nat) (W : World), InM W A (pc exC9) → Calls Try.prog 36 #[.int .i64 1, .int .i64 61, .slice A 3 c] W fun e w' => e = .returned (.bool true) ∧ Ext W w' := fun A c W h => is06 A 3 c exC9 1 61 W rfl exC9_ok (by decide) h exC9_at
  have C9 := Lib.hid C9
  have HI := Lib.hid (fun co k W => in06 co k W)
  have hx := Ext.refl w
  go_enter Try.func23, Try.ntmps23
  go_wp2_with fail
  refine (HI.out _ _ _).mono ?_
  rintro e w1 ⟨rfl, hx'⟩
  replace hx := (hx.trans hx').alloc (.cells #[.int .u16 6, .int .u8 0, .int .u8 0, .int .u32 0] 32)
  have B1 := Blk.new w1 32 #[.int .u16 6, .int .u8 0, .int .u8 0, .int .u32 0]
  clear hx'
  go_wp2_with fail
  generalize w1.alloc (.cells #[.int .u16 6, .int .u8 0, .int .u8 0, .int .u32 0] 32) = w2 at *
  generalize w1.heap.size = g at *
  have HB := Lib.hid B1
  clear B1
  refine wp_region_mono rfl ((.is (.agg #[.int .u16 6, .int .u8 0, .int .u8 0, .int .u32 0]) : VP) :: (.row 1 [.int .u16 6, .int .u8 0, .int .u8 0, .int .u32 0] : VP) :: (.is (.bool true) : VP) :: (.is (.bool true) : VP) :: (.is (.bool true) : VP) :: (.is (.bool true) : VP) :: (.is (.bool true) : VP) :: (.is (.agg #[.int .u16 0, .int .u8 0, .int .u8 0, .int .u32 1]) : VP) :: (.row 1 [.int .u16 0, .int .u8 0, .int .u8 0, .int .u32 1] : VP) :: (.is (.bool true) : VP) :: (.is (.bool true) : VP) :: (.is (.bool true) : VP) :: (.is (.agg #[.int .u16 32, .int .u8 0, .int .u8 0, .int .u32 64]) : VP) :: (.is (.agg #[.int .u16 6, .int .u8 0, .int .u8 0, .int .u32 0]) : VP) :: (.row 2 [.int .u16 32, .int .u8 0, .int .u8 0, .int .u32 64, .int .u16 6, .int .u8 0, .int .u8 0, .int .u32 0] : VP) :: (.is (.bool true) : VP) :: (.is (.bool true) : VP) :: (.is (.bool true) : VP) :: (.is (.agg #[.int .u16 100, .int .u8 0, .int .u8 0, .int .u32 32]) : VP) :: (.is (.agg #[.int .u16 6, .int .u8 0, .int .u8 0, .int .u32 0]) : VP) :: (.row 2 [.int .u16 100, .int .u8 0, .int .u8 0, .int .u32 32, .int .u16 6, .int .u8 0, .int .u8 0, .int .u32 0] : VP) :: (.is (.bool true) : VP) :: (.is (.bool true) : VP) :: (.is (.bool true) : VP) :: (.is (.agg #[.int .u16 52, .int .u8 0, .int .u8 0, .int .u32 0]) : VP) :: (.is (.agg #[.int .u16 6, .int .u8 0, .int .u8 0, .int .u32 0]) : VP) :: (.row 2 [.int .u16 52, .int .u8 0, .int .u8 0, .int .u32 0, .int .u16 6, .int .u8 0, .int .u8 0, .int .u32 0] : VP) :: (.is (.bool true) : VP) :: (.is (.bool true) : VP) :: (.is (.bool true) : VP) :: (.is (.agg #[.int .u16 2, .int .u8 0, .int .u8 0, .int .u32 16]) : VP) :: (.is (.agg #[.int .u16 6, .int .u8 0, .int .u8 0, .int .u32 0]) : VP) :: (.row 2 [.int .u16 2, .int .u8 0, .int .u8 0, .int .u32 16, .int .u16 6, .int .u8 0, .int .u8 0, .int .u32 0] : VP) :: (.is (.bool true) : VP) :: (.is (.bool true) : VP) :: (.is (.bool true) : VP) :: (.is (.agg #[.int .u16 21, .int .u8 0, .int .u8 2, .int .u32 0]) : VP) :: (.is (.agg #[.int .u16 6, .int .u8 0, .int .u8 0, .int .u32 0]) : VP) :: (.is (.agg #[.int .u16 6, .int .u8 0, .int .u8 0, .int .u32 0]) : VP) :: (.row 3 [.int .u16 21, .int .u8 0, .int .u8 2, .int .u32 0, .int .u16 6, .int .u8 0, .int .u8 0, .int .u32 0, .int .u16 6, .int .u8 0, .int .u8 0, .int .u32 0] : VP) :: (.is (.bool true) : VP) :: (.is (.bool true) : VP) :: (.is (.bool true) : VP) :: (.is (.agg #[.int .u16 5, .int .u8 0, .int .u8 0, .int .u32 1]) : VP) :: (.is (.agg #[.int .u16 6, .int .u8 0, .int .u8 0, .int .u32 0]) : VP) :: (.row 2 [.int .u16 5, .int .u8 0, .int .u8 0, .int .u32 1, .int .u16 6, .int .u8 0, .int .u8 0, .int .u32 0] : VP) :: (.is (.bool true) : VP) :: (.is (.bool true) : VP) :: (.is (.bool true) : VP) :: (.is (.agg #[.int .u16 0, .int .u8 0, .int .u8 0, .int .u32 1]) : VP) :: (.is (.agg #[.int .u16 96, .int .u8 0, .int .u8 0, .int .u32 0]) : VP) :: (.is (.agg #[.int .u16 22, .int .u8 0, .int .u8 0, .int .u32 0]) : VP) :: (.row 3 [.int .u16 0, .int .u8 0, .int .u8 0, .int .u32 1, .int .u16 96, .int .u8 0, .int .u8 0, .int .u32 0, .int .u16 22, .int .u8 0, .int .u8 0, .int .u32 0] : VP) :: (.is (.bool true) : VP) :: (.is (.bool true) : VP) :: (.is ?va55 : VP) :: []) (by kernel_rfl) (by kernel_rfl) ?Aa ?hAa ⟨?oa0, ?oa1, ?oa2, ?oa3, ?oa4, ?oa5, ?oa6, ?oa7, ?oa8, ?oa9, ?oa10, ?oa11, ?oa12, ?oa13, ?oa14, ?oa15, ?oa16, ?oa17, ?oa18, ?oa19, ?oa20, ?oa21, ?oa22, ?oa23, ?oa24, ?oa25, ?oa26, ?oa27, ?oa28, ?oa29, ?oa30, ?oa31, ?oa32, ?oa33, ?oa34, ?oa35, ?oa36, ?oa37, ?oa38, ?oa39, ?oa40, ?oa41, ?oa42, ?oa43, ?oa44, ?oa45, ?oa46, ?oa47, ?oa48, ?oa49, ?oa50, ?oa51, ?oa52, ?oa53, ?oa54, ?oa55, trivial⟩ ?fina
  case hAa => (intro x; simp only [fillOps, Act.put, List.setIfInBounds_toArray, List.set_cons_zero, List.set_cons_succ, Nat.reduceAdd]; rfl)
  case oa0 =>
    intro x U hU
    simp only [depV, One, dstOf, readDst, asBool, VP.is, VP.any, VP.row, VP.ptr, VP.blk, VP.ex, VP.and, VP.of, List.getD_cons_zero, List.getD_cons_succ]
    have q0 := (HB.out.ext hU).cell 0
    have q1 := (HB.out.ext hU).cell 1
    have q2 := (HB.out.ext hU).cell 2
    have q3 := (HB.out.ext hU).cell 3
    go_wp2_with (fail)
    refine done_mk ?_ rfl (Ext.refl _)
    rfl
  case oa1 =>
    intro x U hU
    simp only [depV, One, dstOf, readDst, asBool, VP.is, VP.any, VP.row, VP.ptr, VP.blk, VP.ex, VP.and, VP.of, List.getD_cons_zero, List.getD_cons_succ]
    intro d0
    simp only [d0]
    go_wp2_with (fail)
    refine done_mk ?_ rfl ((Ext.refl _).alloc _)
    exact ⟨_, _, rfl, inM_new rfl⟩
  case oa2 =>
    intro x U hU
    simp only [depV, One, dstOf, readDst, asBool, VP.is, VP.any, VP.row, VP.ptr, VP.blk, VP.ex, VP.and, VP.of, List.getD_cons_zero, List.getD_cons_succ]
    rintro ⟨A1, c1, d1, m1⟩
    simp only [d1]
    go_wp2_with ((refine (C0.out _ _ _ m1).mono ?_; rintro e w9 ⟨rfl, hx9⟩))
    refine done_mk ?_ rfl (hx9)
    rfl
  case oa3 =>
    intro x U hU
    simp only [depV, One, dstOf, readDst, asBool, VP.is, VP.any, VP.row, VP.ptr, VP.blk, VP.ex, VP.and, VP.of, List.getD_cons_zero, List.getD_cons_succ]
    intro d2
    simp only [d2]
    go_wp2_with (fail)
    refine done_mk ?_ rfl (Ext.refl _)
    rfl
  case oa4 =>
    intro x U hU
    simp only [depV, One, dstOf, readDst, asBool, VP.is, VP.any, VP.row, VP.ptr, VP.blk, VP.ex, VP.and, VP.of, List.getD_cons_zero, List.getD_cons_succ]
    intro d3
    simp only [d3]
    refine gcase_run (by first | rfl | simp) ?_
    go_wp2_with ((refine (C1.out none 0 _ (InM.nil _ _)).mono ?_; rintro e w9 ⟨rfl, hx9⟩))
    refine done_mk ?_ rfl (hx9)
    rfl
  case oa5 =>
    intro x U hU
    simp only [depV, One, dstOf, readDst, asBool, VP.is, VP.any, VP.row, VP.ptr, VP.blk, VP.ex, VP.and, VP.of, List.getD_cons_zero, List.getD_cons_succ]
    intro d3
    intro d4
    simp only [d3, d4]
    go_wp2_with (fail)
    refine done_mk ?_ rfl (Ext.refl _)
    rfl
  case oa6 =>
    intro x U hU
    simp only [depV, One, dstOf, readDst, asBool, VP.is, VP.any, VP.row, VP.ptr, VP.blk, VP.ex, VP.and, VP.of, List.getD_cons_zero, List.getD_cons_succ]
    intro d5
    simp only [d5]
    go_wp2_with (fail)
    refine done_mk ?_ rfl (Ext.refl _)
    rfl
  case oa7 =>
    intro x U hU
    simp only [depV, One, dstOf, readDst, asBool, VP.is, VP.any, VP.row, VP.ptr, VP.blk, VP.ex, VP.and, VP.of, List.getD_cons_zero, List.getD_cons_succ]
    intro d6
    simp only [d6]
    refine gcase_run (by first | rfl | simp) ?_
    go_wp2_with ((refine (HI.out _ _ _).mono ?_; rintro e w9 ⟨rfl, hx9⟩))
    refine done_mk ?_ rfl (hx9)
    rfl
  case oa8 =>
    intro x U hU
    simp only [depV, One, dstOf, readDst, asBool, VP.is, VP.any, VP.row, VP.ptr, VP.blk, VP.ex, VP.and, VP.of, List.getD_cons_zero, List.getD_cons_succ]
    intro d7
    intro d6
    simp only [d7, d6]
    refine gcase_run (by first | rfl | simp) ?_
    go_wp2_with (fail)
    refine done_mk ?_ rfl ((Ext.refl _).alloc _)
    exact ⟨_, _, rfl, inM_new rfl⟩
  case oa9 =>
    intro x U hU
    simp only [depV, One, dstOf, readDst, asBool, VP.is, VP.any, VP.row, VP.ptr, VP.blk, VP.ex, VP.and, VP.of, List.getD_cons_zero, List.getD_cons_succ]
    rintro ⟨A8, c8, d8, m8⟩
    intro d6
    simp only [d8, d6]
    refine gcase_run (by first | rfl | simp) ?_
    go_wp2_with ((refine (C2.out _ _ _ m8).mono ?_; rintro e w9 ⟨rfl, hx9⟩))
    refine done_mk ?_ rfl (hx9)
    rfl
  case oa10 =>
    intro x U hU
    simp only [depV, One, dstOf, readDst, asBool, VP.is, VP.any, VP.row, VP.ptr, VP.blk, VP.ex, VP.and, VP.of, List.getD_cons_zero, List.getD_cons_succ]
    intro d6
    intro d9
    simp only [d6, d9]
    go_wp2_with (fail)
    refine done_mk ?_ rfl (Ext.refl _)
    rfl
  case oa11 =>
    intro x U hU
    simp only [depV, One, dstOf, readDst, asBool, VP.is, VP.any, VP.row, VP.ptr, VP.blk, VP.ex, VP.and, VP.of, List.getD_cons_zero, List.getD_cons_succ]
    intro d10
    simp only [d10]
    go_wp2_with (fail)
    refine done_mk ?_ rfl (Ext.refl _)
    rfl
  case oa12 =>
    intro x U hU
    simp only [depV, One, dstOf, readDst, asBool, VP.is, VP.any, VP.row, VP.ptr, VP.blk, VP.ex, VP.and, VP.of, List.getD_cons_zero, List.getD_cons_succ]
    intro d11
    simp only [d11]
    refine gcase_run (by first | rfl | simp) ?_
    go_wp2_with ((refine (HI.out _ _ _).mono ?_; rintro e w9 ⟨rfl, hx9⟩))
    refine done_mk ?_ rfl (hx9)
    rfl
  case oa13 =>
    intro x U hU
    simp only [depV, One, dstOf, readDst, asBool, VP.is, VP.any, VP.row, VP.ptr, VP.blk, VP.ex, VP.and, VP.of, List.getD_cons_zero, List.getD_cons_succ]
    intro d11
    simp only [d11]
    refine gcase_run (by first | rfl | simp) ?_
    have q0 := (HB.out.ext hU).cell 0
    have q1 := (HB.out.ext hU).cell 1
    have q2 := (HB.out.ext hU).cell 2
    have q3 := (HB.out.ext hU).cell 3
    go_wp2_with (fail)
    refine done_mk ?_ rfl (Ext.refl _)
    rfl
  case oa14 =>
    intro x U hU
    simp only [depV, One, dstOf, readDst, asBool, VP.is, VP.any, VP.row, VP.ptr, VP.blk, VP.ex, VP.and, VP.of, List.getD_cons_zero, List.getD_cons_succ]
    intro d12
    intro d13
    intro d11
    simp only [d12, d13, d11]
    refine gcase_run (by first | rfl | simp) ?_
    go_wp2_with (fail)
    refine done_mk ?_ rfl ((Ext.refl _).alloc _)
    exact ⟨_, _, rfl, inM_new rfl⟩
  case oa15 =>
    intro x U hU
    simp only [depV, One, dstOf, readDst, asBool, VP.is, VP.any, VP.row, VP.ptr, VP.blk, VP.ex, VP.and, VP.of, List.getD_cons_zero, List.getD_cons_succ]
    rintro ⟨A14, c14, d14, m14⟩
    intro d11
    simp only [d14, d11]
    refine gcase_run (by first | rfl | simp) ?_
    go_wp2_with ((refine (C3.out _ _ _ m14).mono ?_; rintro e w9 ⟨rfl, hx9⟩))
    refine done_mk ?_ rfl (hx9)
    rfl
  case oa16 =>
    intro x U hU
    simp only [depV, One, dstOf, readDst, asBool, VP.is, VP.any, VP.row, VP.ptr, VP.blk, VP.ex, VP.and, VP.of, List.getD_cons_zero, List.getD_cons_succ]
    intro d11
    intro d15
    simp only [d11, d15]
    go_wp2_with (fail)
    refine done_mk ?_ rfl (Ext.refl _)
    rfl
  case oa17 =>
    intro x U hU
    simp only [depV, One, dstOf, readDst, asBool, VP.is, VP.any, VP.row, VP.ptr, VP.blk, VP.ex, VP.and, VP.of, List.getD_cons_zero, List.getD_cons_succ]
    intro d16
    simp only [d16]
    go_wp2_with (fail)
    refine done_mk ?_ rfl (Ext.refl _)
    rfl
  case oa18 =>
    intro x U hU
    simp only [depV, One, dstOf, readDst, asBool, VP.is, VP.any, VP.row, VP.ptr, VP.blk, VP.ex, VP.and, VP.of, List.getD_cons_zero, List.getD_cons_succ]
    intro d17
    simp only [d17]
    refine gcase_run (by first | rfl | simp) ?_
    go_wp2_with ((refine (HI.out _ _ _).mono ?_; rintro e w9 ⟨rfl, hx9⟩))
    refine done_mk ?_ rfl (hx9)
    rfl
  case oa19 =>
    intro x U hU
    simp only [depV, One, dstOf, readDst, asBool, VP.is, VP.any, VP.row, VP.ptr, VP.blk, VP.ex, VP.and, VP.of, List.getD_cons_zero, List.getD_cons_succ]
    intro d17
    simp only [d17]
    refine gcase_run (by first | rfl | simp) ?_
    have q0 := (HB.out.ext hU).cell 0
    have q1 := (HB.out.ext hU).cell 1
    have q2 := (HB.out.ext hU).cell 2
    have q3 := (HB.out.ext hU).cell 3
    go_wp2_with (fail)
    refine done_mk ?_ rfl (Ext.refl _)
    rfl
  case oa20 =>
    intro x U hU
    simp only [depV, One, dstOf, readDst, asBool, VP.is, VP.any, VP.row, VP.ptr, VP.blk, VP.ex, VP.and, VP.of, List.getD_cons_zero, List.getD_cons_succ]
    intro d18
    intro d19
    intro d17
    simp only [d18, d19, d17]
    refine gcase_run (by first | rfl | simp) ?_
    go_wp2_with (fail)
    refine done_mk ?_ rfl ((Ext.refl _).alloc _)
    exact ⟨_, _, rfl, inM_new rfl⟩
  case oa21 =>
    intro x U hU
    simp only [depV, One, dstOf, readDst, asBool, VP.is, VP.any, VP.row, VP.ptr, VP.blk, VP.ex, VP.and, VP.of, List.getD_cons_zero, List.getD_cons_succ]
    rintro ⟨A20, c20, d20, m20⟩
    intro d17
    simp only [d20, d17]
    refine gcase_run (by first | rfl | simp) ?_
    go_wp2_with ((refine (C4.out _ _ _ m20).mono ?_; rintro e w9 ⟨rfl, hx9⟩))
    refine done_mk ?_ rfl (hx9)
    rfl
  case oa22 =>
    intro x U hU
    simp only [depV, One, dstOf, readDst, asBool, VP.is, VP.any, VP.row, VP.ptr, VP.blk, VP.ex, VP.and, VP.of, List.getD_cons_zero, List.getD_cons_succ]
    intro d17
    intro d21
    simp only [d17, d21]
    go_wp2_with (fail)
    refine done_mk ?_ rfl (Ext.refl _)
    rfl
  case oa23 =>
    intro x U hU
    simp only [depV, One, dstOf, readDst, asBool, VP.is, VP.any, VP.row, VP.ptr, VP.blk, VP.ex, VP.and, VP.of, List.getD_cons_zero, List.getD_cons_succ]
    intro d22
    simp only [d22]
    go_wp2_with (fail)
    refine done_mk ?_ rfl (Ext.refl _)
    rfl
  case oa24 =>
    intro x U hU
    simp only [depV, One, dstOf, readDst, asBool, VP.is, VP.any, VP.row, VP.ptr, VP.blk, VP.ex, VP.and, VP.of, List.getD_cons_zero, List.getD_cons_succ]
    intro d23
    simp only [d23]
    refine gcase_run (by first | rfl | simp) ?_
    go_wp2_with ((refine (HI.out _ _ _).mono ?_; rintro e w9 ⟨rfl, hx9⟩))
    refine done_mk ?_ rfl (hx9)
    rfl
  case oa25 =>
    intro x U hU
    simp only [depV, One, dstOf, readDst, asBool, VP.is, VP.any, VP.row, VP.ptr, VP.blk, VP.ex, VP.and, VP.of, List.getD_cons_zero, List.getD_cons_succ]
    intro d23
    simp only [d23]
    refine gcase_run (by first | rfl | simp) ?_
    have q0 := (HB.out.ext hU).cell 0
    have q1 := (HB.out.ext hU).cell 1
    have q2 := (HB.out.ext hU).cell 2
    have q3 := (HB.out.ext hU).cell 3
    go_wp2_with (fail)
    refine done_mk ?_ rfl (Ext.refl _)
    rfl
  case oa26 =>
    intro x U hU
    simp only [depV, One, dstOf, readDst, asBool, VP.is, VP.any, VP.row, VP.ptr, VP.blk, VP.ex, VP.and, VP.of, List.getD_cons_zero, List.getD_cons_succ]
    intro d24
    intro d25
    intro d23
    simp only [d24, d25, d23]
    refine gcase_run (by first | rfl | simp) ?_
    go_wp2_with (fail)
    refine done_mk ?_ rfl ((Ext.refl _).alloc _)
    exact ⟨_, _, rfl, inM_new rfl⟩
  case oa27 =>
    intro x U hU
    simp only [depV, One, dstOf, readDst, asBool, VP.is, VP.any, VP.row, VP.ptr, VP.blk, VP.ex, VP.and, VP.of, List.getD_cons_zero, List.getD_cons_succ]
    rintro ⟨A26, c26, d26, m26⟩
    intro d23
    simp only [d26, d23]
    refine gcase_run (by first | rfl | simp) ?_
    go_wp2_with ((refine (C5.out _ _ _ m26).mono ?_; rintro e w9 ⟨rfl, hx9⟩))
    refine done_mk ?_ rfl (hx9)
    rfl
  case oa28 =>
    intro x U hU
    simp only [depV, One, dstOf, readDst, asBool, VP.is, VP.any, VP.row, VP.ptr, VP.blk, VP.ex, VP.and, VP.of, List.getD_cons_zero, List.getD_cons_succ]
    intro d23
    intro d27
    simp only [d23, d27]
    go_wp2_with (fail)
    refine done_mk ?_ rfl (Ext.refl _)
    rfl
  case oa29 =>
    intro x U hU
    simp only [depV, One, dstOf, readDst, asBool, VP.is, VP.any, VP.row, VP.ptr, VP.blk, VP.ex, VP.and, VP.of, List.getD_cons_zero, List.getD_cons_succ]
    intro d28
    simp only [d28]
    go_wp2_with (fail)
    refine done_mk ?_ rfl (Ext.refl _)
    rfl
  case oa30 =>
    intro x U hU
    simp only [depV, One, dstOf, readDst, asBool, VP.is, VP.any, VP.row, VP.ptr, VP.blk, VP.ex, VP.and, VP.of, List.getD_cons_zero, List.getD_cons_succ]
    intro d29
    simp only [d29]
    refine gcase_run (by first | rfl | simp) ?_
    go_wp2_with ((refine (HI.out _ _ _).mono ?_; rintro e w9 ⟨rfl, hx9⟩))
    refine done_mk ?_ rfl (hx9)
    rfl
  case oa31 =>
    intro x U hU
    simp only [depV, One, dstOf, readDst, asBool, VP.is, VP.any, VP.row, VP.ptr, VP.blk, VP.ex, VP.and, VP.of, List.getD_cons_zero, List.getD_cons_succ]
    intro d29
    simp only [d29]
    refine gcase_run (by first | rfl | simp) ?_
    have q0 := (HB.out.ext hU).cell 0
    have q1 := (HB.out.ext hU).cell 1
    have q2 := (HB.out.ext hU).cell 2
    have q3 := (HB.out.ext hU).cell 3
    go_wp2_with (fail)
    refine done_mk ?_ rfl (Ext.refl _)
    rfl
  case oa32 =>
    intro x U hU
    simp only [depV, One, dstOf, readDst, asBool, VP.is, VP.any, VP.row, VP.ptr, VP.blk, VP.ex, VP.and, VP.of, List.getD_cons_zero, List.getD_cons_succ]
    intro d30
    intro d31
    intro d29
    simp only [d30, d31, d29]
    refine gcase_run (by first | rfl | simp) ?_
    go_wp2_with (fail)
    refine done_mk ?_ rfl ((Ext.refl _).alloc _)
    exact ⟨_, _, rfl, inM_new rfl⟩
  case oa33 =>
    intro x U hU
    simp only [depV, One, dstOf, readDst, asBool, VP.is, VP.any, VP.row, VP.ptr, VP.blk, VP.ex, VP.and, VP.of, List.getD_cons_zero, List.getD_cons_succ]
    rintro ⟨A32, c32, d32, m32⟩
    intro d29
    simp only [d32, d29]
    refine gcase_run (by first | rfl | simp) ?_
    go_wp2_with ((refine (C6.out _ _ _ m32).mono ?_; rintro e w9 ⟨rfl, hx9⟩))
    refine done_mk ?_ rfl (hx9)
    rfl
  case oa34 =>
    intro x U hU
    simp only [depV, One, dstOf, readDst, asBool, VP.is, VP.any, VP.row, VP.ptr, VP.blk, VP.ex, VP.and, VP.of, List.getD_cons_zero, List.getD_cons_succ]
    intro d29
    intro d33
    simp only [d29, d33]
    go_wp2_with (fail)
    refine done_mk ?_ rfl (Ext.refl _)
    rfl
  case oa35 =>
    intro x U hU
    simp only [depV, One, dstOf, readDst, asBool, VP.is, VP.any, VP.row, VP.ptr, VP.blk, VP.ex, VP.and, VP.of, List.getD_cons_zero, List.getD_cons_succ]
    intro d34
    simp only [d34]
    go_wp2_with (fail)
    refine done_mk ?_ rfl (Ext.refl _)
    rfl
  case oa36 =>
    intro x U hU
    simp only [depV, One, dstOf, readDst, asBool, VP.is, VP.any, VP.row, VP.ptr, VP.blk, VP.ex, VP.and, VP.of, List.getD_cons_zero, List.getD_cons_succ]
    intro d35
    simp only [d35]
    refine gcase_run (by first | rfl | simp) ?_
    go_wp2_with (fail)
    refine done_mk ?_ rfl (Ext.refl _)
    rfl
  case oa37 =>
    intro x U hU
    simp only [depV, One, dstOf, readDst, asBool, VP.is, VP.any, VP.row, VP.ptr, VP.blk, VP.ex, VP.and, VP.of, List.getD_cons_zero, List.getD_cons_succ]
    intro d35
    simp only [d35]
    refine gcase_run (by first | rfl | simp) ?_
    have q0 := (HB.out.ext hU).cell 0
    have q1 := (HB.out.ext hU).cell 1
    have q2 := (HB.out.ext hU).cell 2
    have q3 := (HB.out.ext hU).cell 3
    go_wp2_with (fail)
    refine done_mk ?_ rfl (Ext.refl _)
    rfl
  case oa38 =>
    intro x U hU
    simp only [depV, One, dstOf, readDst, asBool, VP.is, VP.any, VP.row, VP.ptr, VP.blk, VP.ex, VP.and, VP.of, List.getD_cons_zero, List.getD_cons_succ]
    intro d35
    simp only [d35]
    refine gcase_run (by first | rfl | simp) ?_
    have q0 := (HB.out.ext hU).cell 0
    have q1 := (HB.out.ext hU).cell 1
    have q2 := (HB.out.ext hU).cell 2
    have q3 := (HB.out.ext hU).cell 3
    go_wp2_with (fail)
    refine done_mk ?_ rfl (Ext.refl _)
    rfl
  case oa39 =>
    intro x U hU
    simp only [depV, One, dstOf, readDst, asBool, VP.is, VP.any, VP.row, VP.ptr, VP.blk, VP.ex, VP.and, VP.of, List.getD_cons_zero, List.getD_cons_succ]
    intro d36
    intro d37
    intro d38
    intro d35
    simp only [d36, d37, d38, d35]
    refine gcase_run (by first | rfl | simp) ?_
    go_wp2_with (fail)
    refine done_mk ?_ rfl ((Ext.refl _).alloc _)
    exact ⟨_, _, rfl, inM_new rfl⟩
  case oa40 =>
    intro x U hU
    simp only [depV, One, dstOf, readDst, asBool, VP.is, VP.any, VP.row, VP.ptr, VP.blk, VP.ex, VP.and, VP.of, List.getD_cons_zero, List.getD_cons_succ]
    rintro ⟨A39, c39, d39, m39⟩
    intro d35
    simp only [d39, d35]
    refine gcase_run (by first | rfl | simp) ?_
    go_wp2_with ((refine (C7.out _ _ _ m39).mono ?_; rintro e w9 ⟨rfl, hx9⟩))
    refine done_mk ?_ rfl (hx9)
    rfl
  case oa41 =>
    intro x U hU
    simp only [depV, One, dstOf, readDst, asBool, VP.is, VP.any, VP.row, VP.ptr, VP.blk, VP.ex, VP.and, VP.of, List.getD_cons_zero, List.getD_cons_succ]
    intro d35
    intro d40
    simp only [d35, d40]
    go_wp2_with (fail)
    refine done_mk ?_ rfl (Ext.refl _)
    rfl
  case oa42 =>
    intro x U hU
    simp only [depV, One, dstOf, readDst, asBool, VP.is, VP.any, VP.row, VP.ptr, VP.blk, VP.ex, VP.and, VP.of, List.getD_cons_zero, List.getD_cons_succ]
    intro d41
    simp only [d41]
    go_wp2_with (fail)
    refine done_mk ?_ rfl (Ext.refl _)
    rfl
  case oa43 =>
    intro x U hU
    simp only [depV, One, dstOf, readDst, asBool, VP.is, VP.any, VP.row, VP.ptr, VP.blk, VP.ex, VP.and, VP.of, List.getD_cons_zero, List.getD_cons_succ]
    intro d42
    simp only [d42]
    refine gcase_run (by first | rfl | simp) ?_
    go_wp2_with ((refine (HI.out _ _ _).mono ?_; rintro e w9 ⟨rfl, hx9⟩))
    refine done_mk ?_ rfl (hx9)
    rfl
  case oa44 =>
    intro x U hU
    simp only [depV, One, dstOf, readDst, asBool, VP.is, VP.any, VP.row, VP.ptr, VP.blk, VP.ex, VP.and, VP.of, List.getD_cons_zero, List.getD_cons_succ]
    intro d42
    simp only [d42]
    refine gcase_run (by first | rfl | simp) ?_
    have q0 := (HB.out.ext hU).cell 0
    have q1 := (HB.out.ext hU).cell 1
    have q2 := (HB.out.ext hU).cell 2
    have q3 := (HB.out.ext hU).cell 3
    go_wp2_with (fail)
    refine done_mk ?_ rfl (Ext.refl _)
    rfl
  case oa45 =>
    intro x U hU
    simp only [depV, One, dstOf, readDst, asBool, VP.is, VP.any, VP.row, VP.ptr, VP.blk, VP.ex, VP.and, VP.of, List.getD_cons_zero, List.getD_cons_succ]
    intro d43
    intro d44
    intro d42
    simp only [d43, d44, d42]
    refine gcase_run (by first | rfl | simp) ?_
    go_wp2_with (fail)
    refine done_mk ?_ rfl ((Ext.refl _).alloc _)
    exact ⟨_, _, rfl, inM_new rfl⟩
  case oa46 =>
    intro x U hU
    simp only [depV, One, dstOf, readDst, asBool, VP.is, VP.any, VP.row, VP.ptr, VP.blk, VP.ex, VP.and, VP.of, List.getD_cons_zero, List.getD_cons_succ]
    rintro ⟨A45, c45, d45, m45⟩
    intro d42
    simp only [d45, d42]
    refine gcase_run (by first | rfl | simp) ?_
    go_wp2_with ((refine (C8.out _ _ _ m45).mono ?_; rintro e w9 ⟨rfl, hx9⟩))
    refine done_mk ?_ rfl (hx9)
    rfl
  case oa47 =>
    intro x U hU
    simp only [depV, One, dstOf, readDst, asBool, VP.is, VP.any, VP.row, VP.ptr, VP.blk, VP.ex, VP.and, VP.of, List.getD_cons_zero, List.getD_cons_succ]
    intro d42
    intro d46
    simp only [d42, d46]
    go_wp2_with (fail)
    refine done_mk ?_ rfl (Ext.refl _)
    rfl
  case oa48 =>
    intro x U hU
    simp only [depV, One, dstOf, readDst, asBool, VP.is, VP.any, VP.row, VP.ptr, VP.blk, VP.ex, VP.and, VP.of, List.getD_cons_zero, List.getD_cons_succ]
    intro d47
    simp only [d47]
    go_wp2_with (fail)
    refine done_mk ?_ rfl (Ext.refl _)
    rfl
  case oa49 =>
    intro x U hU
    simp only [depV, One, dstOf, readDst, asBool, VP.is, VP.any, VP.row, VP.ptr, VP.blk, VP.ex, VP.and, VP.of, List.getD_cons_zero, List.getD_cons_succ]
    intro d48
    simp only [d48]
    refine gcase_run (by first | rfl | simp) ?_
    go_wp2_with ((refine (HI.out _ _ _).mono ?_; rintro e w9 ⟨rfl, hx9⟩))
    refine done_mk ?_ rfl (hx9)
    rfl
  case oa50 =>
    intro x U hU
    simp only [depV, One, dstOf, readDst, asBool, VP.is, VP.any, VP.row, VP.ptr, VP.blk, VP.ex, VP.and, VP.of, List.getD_cons_zero, List.getD_cons_succ]
    intro d48
    simp only [d48]
    refine gcase_run (by first | rfl | simp) ?_
    go_wp2_with ((refine (HI.out _ _ _).mono ?_; rintro e w9 ⟨rfl, hx9⟩))
    refine done_mk ?_ rfl (hx9)
    rfl
  case oa51 =>
    intro x U hU
    simp only [depV, One, dstOf, readDst, asBool, VP.is, VP.any, VP.row, VP.ptr, VP.blk, VP.ex, VP.and, VP.of, List.getD_cons_zero, List.getD_cons_succ]
    intro d48
    simp only [d48]
    refine gcase_run (by first | rfl | simp) ?_
    go_wp2_with ((refine (HI.out _ _ _).mono ?_; rintro e w9 ⟨rfl, hx9⟩))
    refine done_mk ?_ rfl (hx9)
    rfl
  case oa52 =>
    intro x U hU
    simp only [depV, One, dstOf, readDst, asBool, VP.is, VP.any, VP.row, VP.ptr, VP.blk, VP.ex, VP.and, VP.of, List.getD_cons_zero, List.getD_cons_succ]
    intro d49
    intro d50
    intro d51
    intro d48
    simp only [d49, d50, d51, d48]
    refine gcase_run (by first | rfl | simp) ?_
    go_wp2_with (fail)
    refine done_mk ?_ rfl ((Ext.refl _).alloc _)
    exact ⟨_, _, rfl, inM_new rfl⟩
  case oa53 =>
    intro x U hU
    simp only [depV, One, dstOf, readDst, asBool, VP.is, VP.any, VP.row, VP.ptr, VP.blk, VP.ex, VP.and, VP.of, List.getD_cons_zero, List.getD_cons_succ]
    rintro ⟨A52, c52, d52, m52⟩
    intro d48
    simp only [d52, d48]
    refine gcase_run (by first | rfl | simp) ?_
    go_wp2_with ((refine (C9.out _ _ _ m52).mono ?_; rintro e w9 ⟨rfl, hx9⟩))
    refine done_mk ?_ rfl (hx9)
    rfl
  case oa54 =>
    intro x U hU
    simp only [depV, One, dstOf, readDst, asBool, VP.is, VP.any, VP.row, VP.ptr, VP.blk, VP.ex, VP.and, VP.of, List.getD_cons_zero, List.getD_cons_succ]
    intro d48
    intro d53
    simp only [d48, d53]
    go_wp2_with (fail)
    refine done_mk ?_ rfl (Ext.refl _)
    rfl
  case oa55 =>
    intro x U hU
    simp only [depV, One, dstOf, readDst, asBool, VP.is, VP.any, VP.row, VP.ptr, VP.blk, VP.ex, VP.and, VP.of, List.getD_cons_zero, List.getD_cons_succ]
    intro d54
    simp only [d54]
    go_wp2_with (fail)
    refine done_mk ?_ rfl (Ext.refl _)
    rfl
  case fina =>
    intro x U hU
    simp only [allV, depV, One, dstOf, readDst, asBool, VP.is, VP.any, VP.row, VP.ptr, VP.blk, VP.ex, VP.and, VP.of, List.getD_cons_zero, List.getD_cons_succ]
    intro d0
    rintro ⟨A1, c1, d1, m1⟩
    intro d2
    intro d3
    intro d4
    intro d5
    intro d6
    intro d7
    rintro ⟨A8, c8, d8, m8⟩
    intro d9
    intro d10
    intro d11
    intro d12
    intro d13
    rintro ⟨A14, c14, d14, m14⟩
    intro d15
    intro d16
    intro d17
    intro d18
    intro d19
    rintro ⟨A20, c20, d20, m20⟩
    intro d21
    intro d22
    intro d23
    intro d24
    intro d25
    rintro ⟨A26, c26, d26, m26⟩
    intro d27
    intro d28
    intro d29
    intro d30
    intro d31
    rintro ⟨A32, c32, d32, m32⟩
    intro d33
    intro d34
    intro d35
    intro d36
    intro d37
    intro d38
    rintro ⟨A39, c39, d39, m39⟩
    intro d40
    intro d41
    intro d42
    intro d43
    intro d44
    rintro ⟨A45, c45, d45, m45⟩
    intro d46
    intro d47
    intro d48
    intro d49
    intro d50
    intro d51
    rintro ⟨A52, c52, d52, m52⟩
    intro d53
    intro d54
    intro d55
    simp only [d0, d1, d2, d3, d4, d5, d6, d7, d8, d9, d10, d11, d12, d13, d14, d15, d16, d17, d18, d19, d20, d21, d22, d23, d24, d25, d26, d27, d28, d29, d30, d31, d32, d33, d34, d35, d36, d37, d38, d39, d40, d41, d42, d43, d44, d45, d46, d47, d48, d49, d50, d51, d52, d53, d54, d55]
    clear d0 d1 d2 d3 d4 d5 d6 d7 d8 d9 d10 d11 d12 d13 d14 d15 d16 d17 d18 d19 d20 d21 d22 d23 d24 d25 d26 d27 d28 d29 d30 d31 d32 d33 d34 d35 d36 d37 d38 d39 d40 d41 d42 d43 d44 d45 d46 d47 d48 d49 d50 d51 d52 d53 d54 d55
    go_wp2
    go_ret
    exact ⟨rfl, hx.trans hU⟩
end Go.Proofs.Ytkejcfbhikpibaa
