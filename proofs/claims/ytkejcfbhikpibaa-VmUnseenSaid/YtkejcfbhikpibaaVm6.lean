import Derived.Test.YtkejcfbhikpibaaVm5
import Derived.Test.YtkejcfbhikpibaaMonoIn
/- vm: number. -/
namespace Go.Proofs.Ytkejcfbhikpibaa
open Go.RowKit Go.ChangeShapes Go.WideShapes
set_option linter.unusedVariables false
set_option linter.unusedSimpArgs false

theorem pr_do : ∀ (k : Nat), k < 10 → ∀ (a b : Int), U32 a → U32 b → ∀ W, Calls Try.prog (prF k) #[.int .u32 a, .int .u32 b] W fun e w' => e = .returned (.int .u32 (doE k a b)) ∧ W = w'
  | 0, _, a, b, ha, hb, W => pr1 a b ha hb W
  | 1, _, a, b, ha, hb, W => pr2 a b ha hb W
  | 2, _, a, b, ha, hb, W => pr3 a b ha hb W
  | 3, _, a, b, ha, hb, W => pr4 a b ha hb W
  | 4, _, a, b, ha, hb, W => pr5 a b ha hb W
  | 5, _, a, b, ha, hb, W => pr6 a b ha hb W
  | 6, _, a, b, ha, hb, W => pr7 a b ha hb W
  | 7, _, a, b, ha, hb, W => pr8 a b ha hb W
  | 8, _, a, b, ha, hb, W => pr9 a b ha hb W
  | 9, _, a, b, ha, hb, W => pr10 a b ha hb W
  | n + 10, h, _, _, _, _, _ => absurd h (by omega)
theorem pr_ho : ∀ (k : Nat), k < 4 → ∀ (a b : Int), U32 a → U32 b → ∀ W, Calls Try.prog (prF (10 + k)) #[.int .u32 a, .int .u32 b] W fun e w' => e = .returned (.bool (hoE k a b)) ∧ W = w'
  | 0, _, a, b, ha, hb, W => pr11 a b ha hb W
  | 1, _, a, b, ha, hb, W => pr12 a b ha hb W
  | 2, _, a, b, ha, hb, W => pr13 a b ha hb W
  | 3, _, a, b, ha, hb, W => pr14 a b ha hb W
  | n + 4, h, _, _, _, _, _ => absurd h (by omega)
theorem pr_enters : ∀ (k : Nat), k < 14 → ∀ args w, (callFunc (prF k) args).run Try.prog w = .ok (.enter (prF k) args) w
  | 0, _ => enters_of Try.func98 (by kernel_rfl) rfl
  | 1, _ => enters_of Try.func99 (by kernel_rfl) rfl
  | 2, _ => enters_of Try.func100 (by kernel_rfl) rfl
  | 3, _ => enters_of Try.func101 (by kernel_rfl) rfl
  | 4, _ => enters_of Try.func102 (by kernel_rfl) rfl
  | 5, _ => enters_of Try.func103 (by kernel_rfl) rfl
  | 6, _ => enters_of Try.func104 (by kernel_rfl) rfl
  | 7, _ => enters_of Try.func105 (by kernel_rfl) rfl
  | 8, _ => enters_of Try.func106 (by kernel_rfl) rfl
  | 9, _ => enters_of Try.func107 (by kernel_rfl) rfl
  | 10, _ => enters_of Try.func108 (by kernel_rfl) rfl
  | 11, _ => enters_of Try.func109 (by kernel_rfl) rfl
  | 12, _ => enters_of Try.func110 (by kernel_rfl) rfl
  | 13, _ => enters_of Try.func111 (by kernel_rfl) rfl
  | n + 14, h => absurd h (by omega)
theorem pair_do (c : Int) (f h : Value) (W : World) : (Instr.field 132 (.agg #[.int .u16 c, f, h]) 1).run Try.prog W = .ok f W := by kernel_rfl
theorem pair_ho (c : Int) (f h : Value) (W : World) : (Instr.field 132 (.agg #[.int .u16 c, f, h]) 2).run Try.prog W = .ok h W := by kernel_rfl

def numberE (i : Ins) (s : Vm) : Vm × Int :=
  if i.code = 52 ∧ secondE i s = 0 then (s, 44)
  else if i.code = 60 ∧ secondE i s = 0 then ({ s with over := true }, 0)
  else if (i.code = 100 ∨ i.code = 116) ∧ 31 < secondE i s then (s, 45)
  else ({ s with a := doE (byI i.code) s.a (secondE i s) }, 0)

theorem number_div0 (i : Ins) (hc : i.code = 52) (g : Nat) (d : Dat) (s : Vm) (hb : secondE i s = 0) (W : World) (B : MB W g d s) :
    Calls Try.prog 69 #[.pointer (some ⟨g, 0, none⟩), i.val] W fun e w' => e = .panicked (pan 44) ∧ Upd g W w' := by
  have HS := Lib.hid (fun W B => second_any i g d s W B)
  have hx := (Ext.refl W).alloc (.cells #[.int .u16 i.code, .int .u8 i.jt, .int .u8 i.jf, .int .u32 i.k] 32)
  have HI := Lib.hid (Blk.new W 32 #[.int .u16 i.code, .int .u8 i.jt, .int .u8 i.jf, .int .u32 i.k])
  have HB := Lib.hid (B.ext hx)
  clear B
  rw [hb] at HS
  clear hb
  unfold Ins.val Ins.cells at *
  obtain ⟨co, jt, jf, k⟩ := i
  dsimp only at *
  subst hc
  go_enter Try.func69, Try.ntmps69
  go_wp2_with fail
  generalize W.alloc (.cells #[.int .u16 52, .int .u8 jt, .int .u8 jf, .int .u32 k] 32) = W0 at *
  refine (HS.out W0 HB.out).mono ?_
  rintro e w1 ⟨rfl, hx1⟩
  have q0 := (HI.out.ext hx1).cell 0
  have B1 := HB.out.ext hx1
  have HI1 := Lib.hid (HI.out.ext hx1)
  replace hx := hx.trans hx1
  clear HI HB HS hx1
  go_wp2_with fail
  refine (fail_any 44 _).mono ?_
  rintro e w1 ⟨rfl, rfl⟩
  exact ⟨rfl, rfl, Upd.of_ext hx⟩
theorem number_divx0 (i : Ins) (hc : i.code = 60) (g : Nat) (d : Dat) (s : Vm) (hb : secondE i s = 0) (W : World) (B : MB W g d s) :
    Calls Try.prog 69 #[.pointer (some ⟨g, 0, none⟩), i.val] W fun e w' => e = .returned (.tuple #[]) ∧ Upd g W w' ∧ MB w' g d { s with over := true } := by
  have HS := Lib.hid (fun W B => second_any i g d s W B)
  have hx := (Ext.refl W).alloc (.cells #[.int .u16 i.code, .int .u8 i.jt, .int .u8 i.jf, .int .u32 i.k] 32)
  have HI := Lib.hid (Blk.new W 32 #[.int .u16 i.code, .int .u8 i.jt, .int .u8 i.jf, .int .u32 i.k])
  have HB := Lib.hid (B.ext hx)
  clear B
  rw [hb] at HS
  clear hb
  unfold Ins.val Ins.cells at *
  obtain ⟨co, jt, jf, k⟩ := i
  dsimp only at *
  subst hc
  go_enter Try.func69, Try.ntmps69
  go_wp2_with fail
  generalize W.alloc (.cells #[.int .u16 60, .int .u8 jt, .int .u8 jf, .int .u32 k] 32) = W0 at *
  refine (HS.out W0 HB.out).mono ?_
  rintro e w1 ⟨rfl, hx1⟩
  have q0 := (HI.out.ext hx1).cell 0
  have B1 := HB.out.ext hx1
  have HI1 := Lib.hid (HI.out.ext hx1)
  replace hx := hx.trans hx1
  clear HI HB HS hx1
  have z := B1.fz 28
  have z1 := B1.over
  have hu := (Upd.of_ext (g := g) hx).set 28 (.bool true)
  have B2 := B1.setO true
  clear B1
  go_wp2_with fail
  go_end0
  exact ⟨rfl, hu, B2⟩
theorem number_shift (i : Ins) (hc : i.code = 100 ∨ i.code = 116) (g : Nat) (d : Dat) (s : Vm) (hb : 31 < secondE i s) (W : World) (B : MB W g d s) :
    Calls Try.prog 69 #[.pointer (some ⟨g, 0, none⟩), i.val] W fun e w' => e = .panicked (pan 45) ∧ Upd g W w' := by
  have HS := Lib.hid (fun W B => second_any i g d s W B)
  have hx := (Ext.refl W).alloc (.cells #[.int .u16 i.code, .int .u8 i.jt, .int .u8 i.jf, .int .u32 i.k] 32)
  have HI := Lib.hid (Blk.new W 32 #[.int .u16 i.code, .int .u8 i.jt, .int .u8 i.jf, .int .u32 i.k])
  have HB := Lib.hid (B.ext hx)
  clear B
  have b1 : decide ((31 : Int) < secondE i s) = true := by simpa using hb
  clear hb
  generalize secondE i s = b at *
  unfold Ins.val Ins.cells at *
  obtain ⟨co, jt, jf, k⟩ := i
  dsimp only at *
  rcases hc with rfl | rfl
  ·
    go_enter Try.func69, Try.ntmps69
    go_wp2_with fail
    generalize W.alloc (.cells #[.int .u16 100, .int .u8 jt, .int .u8 jf, .int .u32 k] 32) = W0 at *
    refine (HS.out W0 HB.out).mono ?_
    rintro e w1 ⟨rfl, hx1⟩
    have q0 := (HI.out.ext hx1).cell 0
    have B1 := HB.out.ext hx1
    have HI1 := Lib.hid (HI.out.ext hx1)
    replace hx := hx.trans hx1
    clear HI HB HS hx1
    go_wp2_with fail
    refine (fail_any 45 _).mono ?_
    rintro e w1 ⟨rfl, rfl⟩
    exact ⟨rfl, rfl, Upd.of_ext hx⟩
  ·
    go_enter Try.func69, Try.ntmps69
    go_wp2_with fail
    generalize W.alloc (.cells #[.int .u16 116, .int .u8 jt, .int .u8 jf, .int .u32 k] 32) = W0 at *
    refine (HS.out W0 HB.out).mono ?_
    rintro e w1 ⟨rfl, hx1⟩
    have q0 := (HI.out.ext hx1).cell 0
    have B1 := HB.out.ext hx1
    have HI1 := Lib.hid (HI.out.ext hx1)
    replace hx := hx.trans hx1
    clear HI HB HS hx1
    go_wp2_with fail
    refine (fail_any 45 _).mono ?_
    rintro e w1 ⟨rfl, rfl⟩
    exact ⟨rfl, rfl, Upd.of_ext hx⟩
set_option maxHeartbeats 2000000 in
theorem number_op (i : Ins) (hi : i.ok) (g : Nat) (d : Dat) (s : Vm) (ho : s.ok) (kk : Nat) (hk : kk < 10) (hby : byI i.code = kk) (hb : U32 (secondE i s)) (h1 : ¬ (i.code = 52 ∧ secondE i s = 0)) (h2 : ¬ (i.code = 60 ∧ secondE i s = 0))
    (h3 : ¬ ((i.code = 100 ∨ i.code = 116) ∧ 31 < secondE i s)) (W : World) (B : MB W g d s) :
    Calls Try.prog 69 #[.pointer (some ⟨g, 0, none⟩), i.val] W fun e w' => e = .returned (.tuple #[]) ∧ Upd g W w' ∧ MB w' g d { s with a := doE kk s.a (secondE i s) } := by
  have HS := Lib.hid (fun W B => second_any i g d s W B)
  have hx := (Ext.refl W).alloc (.cells #[.int .u16 i.code, .int .u8 i.jt, .int .u8 i.jf, .int .u32 i.k] 32)
  have HI := Lib.hid (Blk.new W 32 #[.int .u16 i.code, .int .u8 i.jt, .int .u8 i.jf, .int .u32 i.k])
  have HB := Lib.hid (B.ext hx)
  clear B
  have HY := Lib.hid (fun W => by_vm i.code kk (by omega) hby W)
  have HD := Lib.hid (fun W => pr_do kk hk s.a (secondE i s) ho.a hb W)
  have HEV := Lib.hid (pr_enters kk (by omega))
  have ed : prD kk = .func (.func (prF kk)) #[] #[] := by unfold prD; rw [if_pos hk]
  have eh : prH kk = .nilFunc := by unfold prH; rw [if_pos hk]
  rw [ed, eh] at HY
  clear ed eh hby hb hi
  have HH := Lib.hid (And.intro h1 (And.intro h2 h3))
  clear h1 h2 h3
  generalize secondE i s = b at *
  unfold Ins.val Ins.cells at *
  obtain ⟨co, jt, jf, k⟩ := i
  dsimp only at *
  by_cases c1 : co = 52
  · subst c1
    have b1 : (b == 0) = false := by have := HH.out.1; simpa using this
    clear HH
    go_enter Try.func69, Try.ntmps69
    go_wp2_with fail
    generalize W.alloc (.cells #[.int .u16 52, .int .u8 jt, .int .u8 jf, .int .u32 k] 32) = W0 at *
    refine (HS.out W0 HB.out).mono ?_
    rintro e w1 ⟨rfl, hx1⟩
    have q0 := (HI.out.ext hx1).cell 0
    have B1 := HB.out.ext hx1
    have HI1 := Lib.hid (HI.out.ext hx1)
    replace hx := hx.trans hx1
    clear HI HB HS hx1
    go_wp2_with fail
    clear q0
    have hidx := pair_do (prC.getD kk 0) (.func (.func (prF kk)) #[] #[]) .nilFunc
    generalize prC.getD kk 0 = pcode at *
    generalize prF kk = F at *
    refine (wpIn_wide (n := 1)).1 ?_
    refine wpIn_region_last (fun _ => trivial) rfl [.is ?va0, .is ?va1, .is ?va2, .is (.agg #[.int .u16 pcode, .func (.func F) #[] #[], .nilFunc]), .is ?va4, .is ?va5, .is ?va6, .is ?va7, .is ?va8, .is ?va9, .is ?va10, .is ?va11, .is ?va12] (by kernel_rfl) (by kernel_rfl) (by kernel_rfl) ?Aa ?hAa ⟨?oa0, ?oa1, ?oa2, ?oa3, ?oa4, ?oa5, ?oa6, ?oa7, ?oa8, ?oa9, ?oa10, ?oa11, ?oa12, trivial⟩ _ rfl rfl ?fina
    case hAa => (intro x; simp only [fillOps, Act.put, List.setIfInBounds_toArray, List.set_cons_zero, List.set_cons_succ, Nat.reduceAdd]; rfl)
    case oa0 =>
      intro x U hU
      simp only [depV, OneIn, dstOf, readDst, asBool, VP.is, VP.any, VP.row, VP.ptr, VP.blk, VP.ex, VP.and, VP.of, List.getD_cons_zero, List.getD_cons_succ]
      gi_wp2_with (fail)
      refine done_mk ?_ rfl (Ext.refl _)
      rfl
    case oa1 =>
      intro x U hU
      simp only [depV, OneIn, dstOf, readDst, asBool, VP.is, VP.any, VP.row, VP.ptr, VP.blk, VP.ex, VP.and, VP.of, List.getD_cons_zero, List.getD_cons_succ]
      gi_wp2_with (fail)
      refine done_mk ?_ rfl (Ext.refl _)
      rfl
    case oa2 =>
      intro x U hU
      simp only [depV, OneIn, dstOf, readDst, asBool, VP.is, VP.any, VP.row, VP.ptr, VP.blk, VP.ex, VP.and, VP.of, List.getD_cons_zero, List.getD_cons_succ]
      intro d1
      simp only [d1]
      have q0 := (HI1.out.ext hU).cell 0
      gi_wp2_with (fail)
      refine done_mk ?_ rfl (Ext.refl _)
      rfl
    case oa3 =>
      intro x U hU
      simp only [depV, OneIn, dstOf, readDst, asBool, VP.is, VP.any, VP.row, VP.ptr, VP.blk, VP.ex, VP.and, VP.of, List.getD_cons_zero, List.getD_cons_succ]
      intro d2
      simp only [d2]
      gi_wp2_with (refine ⟨trivial, ?_⟩; gi_at_call 81; refine ((callsIn_wide (n := 0)).2 (HY.out _)).mono ?_; rintro e w2 ⟨rfl, hx2⟩)
      refine done_mk ?_ rfl (hx2)
      rfl
    case oa4 =>
      intro x U hU
      simp only [depV, OneIn, dstOf, readDst, asBool, VP.is, VP.any, VP.row, VP.ptr, VP.blk, VP.ex, VP.and, VP.of, List.getD_cons_zero, List.getD_cons_succ]
      intro d3
      simp only [d3]
      gi_wp2_with (fail)
      refine done_mk ?_ rfl (Ext.refl _)
      rfl
    case oa5 =>
      intro x U hU
      simp only [depV, OneIn, dstOf, readDst, asBool, VP.is, VP.any, VP.row, VP.ptr, VP.blk, VP.ex, VP.and, VP.of, List.getD_cons_zero, List.getD_cons_succ]
      gi_wp2_with (fail)
      refine done_mk ?_ rfl (Ext.refl _)
      rfl
    case oa6 =>
      intro x U hU
      simp only [depV, OneIn, dstOf, readDst, asBool, VP.is, VP.any, VP.row, VP.ptr, VP.blk, VP.ex, VP.and, VP.of, List.getD_cons_zero, List.getD_cons_succ]
      intro d5
      simp only [d5]
      gi_wp2_with (fail)
      refine done_mk ?_ rfl (Ext.refl _)
      rfl
    case oa7 =>
      intro x U hU
      simp only [depV, OneIn, dstOf, readDst, asBool, VP.is, VP.any, VP.row, VP.ptr, VP.blk, VP.ex, VP.and, VP.of, List.getD_cons_zero, List.getD_cons_succ]
      intro d6
      simp only [d6]
      gi_wp2_with (fail)
      refine done_mk ?_ rfl (Ext.refl _)
      rfl
    case oa8 =>
      intro x U hU
      simp only [depV, OneIn, dstOf, readDst, asBool, VP.is, VP.any, VP.row, VP.ptr, VP.blk, VP.ex, VP.and, VP.of, List.getD_cons_zero, List.getD_cons_succ]
      intro d7
      simp only [d7]
      have q0 := (B1.ext hU).a
      gi_wp2_with (fail)
      refine done_mk ?_ rfl (Ext.refl _)
      rfl
    case oa9 =>
      intro x U hU
      simp only [depV, OneIn, dstOf, readDst, asBool, VP.is, VP.any, VP.row, VP.ptr, VP.blk, VP.ex, VP.and, VP.of, List.getD_cons_zero, List.getD_cons_succ]
      gi_wp2_with (fail)
      refine done_mk ?_ rfl (Ext.refl _)
      rfl
    case oa10 =>
      intro x U hU
      simp only [depV, OneIn, dstOf, readDst, asBool, VP.is, VP.any, VP.row, VP.ptr, VP.blk, VP.ex, VP.and, VP.of, List.getD_cons_zero, List.getD_cons_succ]
      intro d4
      intro d8
      intro d9
      simp only [d4, d8, d9]
      have ev := HEV.out
      gi_wp2_with (refine ⟨trivial, ?_⟩; refine ((callsIn_wide (n := 0)).2 (HD.out _)).mono ?_; rintro e w2 ⟨rfl, rfl⟩)
      refine done_mk ?_ rfl (Ext.refl _)
      rfl
    case oa11 =>
      intro x U hU
      simp only [depV, OneIn, dstOf, readDst, asBool, VP.is, VP.any, VP.row, VP.ptr, VP.blk, VP.ex, VP.and, VP.of, List.getD_cons_zero, List.getD_cons_succ]
      intro d0
      simp only [d0]
      gi_wp2_with (fail)
      refine done_mk ?_ rfl (Ext.refl _)
      rfl
    case oa12 =>
      intro x U hU
      simp only [depV, OneIn, dstOf, readDst, asBool, VP.is, VP.any, VP.row, VP.ptr, VP.blk, VP.ex, VP.and, VP.of, List.getD_cons_zero, List.getD_cons_succ]
      intro d11
      simp only [d11]
      gi_wp2_with (fail)
      refine done_mk ?_ rfl (Ext.refl _)
      rfl
    case fina =>
      intro x U hU
      simp only [allV, depV, One, dstOf, readDst, asBool, VP.is, VP.any, VP.row, VP.ptr, VP.blk, VP.ex, VP.and, VP.of, List.getD_cons_zero, List.getD_cons_succ]
      intro d0
      intro d1
      intro d2
      intro d3
      intro d4
      intro d5
      intro d6
      intro d7
      intro d8
      intro d9
      intro d10
      intro d11
      intro d12
      simp only [d0, d1, d2, d3, d4, d5, d6, d7, d8, d9, d10, d11, d12]
      clear d0 d1 d2 d3 d4 d5 d6 d7 d8 d9 d10 d11 d12
      have z := (B1.ext hU).fz 0
      have z1 := (B1.ext hU).a
      have hu := (Upd.of_ext (g := g) (hx.trans hU)).set 0 (.int .u32 (doE kk s.a b))
      have B2 := (B1.ext hU).setA (doE kk s.a b)
      clear B1 hU
      gi_wp2_with fail
      go_end0
      exact ⟨rfl, hu, B2⟩
  by_cases c2 : co = 60
  · subst c2
    have b1 : (b == 0) = false := by have := HH.out.2.1; simpa using this
    clear HH
    go_enter Try.func69, Try.ntmps69
    go_wp2_with fail
    generalize W.alloc (.cells #[.int .u16 60, .int .u8 jt, .int .u8 jf, .int .u32 k] 32) = W0 at *
    refine (HS.out W0 HB.out).mono ?_
    rintro e w1 ⟨rfl, hx1⟩
    have q0 := (HI.out.ext hx1).cell 0
    have B1 := HB.out.ext hx1
    have HI1 := Lib.hid (HI.out.ext hx1)
    replace hx := hx.trans hx1
    clear HI HB HS hx1
    go_wp2_with fail
    clear q0
    have hidx := pair_do (prC.getD kk 0) (.func (.func (prF kk)) #[] #[]) .nilFunc
    generalize prC.getD kk 0 = pcode at *
    generalize prF kk = F at *
    refine (wpIn_wide (n := 1)).1 ?_
    refine wpIn_region_last (fun _ => trivial) rfl [.is ?vaq2r0, .is ?vaq2r1, .is ?vaq2r2, .is (.agg #[.int .u16 pcode, .func (.func F) #[] #[], .nilFunc]), .is ?vaq2r4, .is ?vaq2r5, .is ?vaq2r6, .is ?vaq2r7, .is ?vaq2r8, .is ?vaq2r9, .is ?vaq2r10, .is ?vaq2r11, .is ?vaq2r12] (by kernel_rfl) (by kernel_rfl) (by kernel_rfl) ?Aaq2r ?hAaq2r ⟨?oaq2r0, ?oaq2r1, ?oaq2r2, ?oaq2r3, ?oaq2r4, ?oaq2r5, ?oaq2r6, ?oaq2r7, ?oaq2r8, ?oaq2r9, ?oaq2r10, ?oaq2r11, ?oaq2r12, trivial⟩ _ rfl rfl ?finaq2r
    case hAaq2r => (intro x; simp only [fillOps, Act.put, List.setIfInBounds_toArray, List.set_cons_zero, List.set_cons_succ, Nat.reduceAdd]; rfl)
    case oaq2r0 =>
      intro x U hU
      simp only [depV, OneIn, dstOf, readDst, asBool, VP.is, VP.any, VP.row, VP.ptr, VP.blk, VP.ex, VP.and, VP.of, List.getD_cons_zero, List.getD_cons_succ]
      gi_wp2_with (fail)
      refine done_mk ?_ rfl (Ext.refl _)
      rfl
    case oaq2r1 =>
      intro x U hU
      simp only [depV, OneIn, dstOf, readDst, asBool, VP.is, VP.any, VP.row, VP.ptr, VP.blk, VP.ex, VP.and, VP.of, List.getD_cons_zero, List.getD_cons_succ]
      gi_wp2_with (fail)
      refine done_mk ?_ rfl (Ext.refl _)
      rfl
    case oaq2r2 =>
      intro x U hU
      simp only [depV, OneIn, dstOf, readDst, asBool, VP.is, VP.any, VP.row, VP.ptr, VP.blk, VP.ex, VP.and, VP.of, List.getD_cons_zero, List.getD_cons_succ]
      intro d1
      simp only [d1]
      have q0 := (HI1.out.ext hU).cell 0
      gi_wp2_with (fail)
      refine done_mk ?_ rfl (Ext.refl _)
      rfl
    case oaq2r3 =>
      intro x U hU
      simp only [depV, OneIn, dstOf, readDst, asBool, VP.is, VP.any, VP.row, VP.ptr, VP.blk, VP.ex, VP.and, VP.of, List.getD_cons_zero, List.getD_cons_succ]
      intro d2
      simp only [d2]
      gi_wp2_with (refine ⟨trivial, ?_⟩; gi_at_call 81; refine ((callsIn_wide (n := 0)).2 (HY.out _)).mono ?_; rintro e w2 ⟨rfl, hx2⟩)
      refine done_mk ?_ rfl (hx2)
      rfl
    case oaq2r4 =>
      intro x U hU
      simp only [depV, OneIn, dstOf, readDst, asBool, VP.is, VP.any, VP.row, VP.ptr, VP.blk, VP.ex, VP.and, VP.of, List.getD_cons_zero, List.getD_cons_succ]
      intro d3
      simp only [d3]
      gi_wp2_with (fail)
      refine done_mk ?_ rfl (Ext.refl _)
      rfl
    case oaq2r5 =>
      intro x U hU
      simp only [depV, OneIn, dstOf, readDst, asBool, VP.is, VP.any, VP.row, VP.ptr, VP.blk, VP.ex, VP.and, VP.of, List.getD_cons_zero, List.getD_cons_succ]
      gi_wp2_with (fail)
      refine done_mk ?_ rfl (Ext.refl _)
      rfl
    case oaq2r6 =>
      intro x U hU
      simp only [depV, OneIn, dstOf, readDst, asBool, VP.is, VP.any, VP.row, VP.ptr, VP.blk, VP.ex, VP.and, VP.of, List.getD_cons_zero, List.getD_cons_succ]
      intro d5
      simp only [d5]
      gi_wp2_with (fail)
      refine done_mk ?_ rfl (Ext.refl _)
      rfl
    case oaq2r7 =>
      intro x U hU
      simp only [depV, OneIn, dstOf, readDst, asBool, VP.is, VP.any, VP.row, VP.ptr, VP.blk, VP.ex, VP.and, VP.of, List.getD_cons_zero, List.getD_cons_succ]
      intro d6
      simp only [d6]
      gi_wp2_with (fail)
      refine done_mk ?_ rfl (Ext.refl _)
      rfl
    case oaq2r8 =>
      intro x U hU
      simp only [depV, OneIn, dstOf, readDst, asBool, VP.is, VP.any, VP.row, VP.ptr, VP.blk, VP.ex, VP.and, VP.of, List.getD_cons_zero, List.getD_cons_succ]
      intro d7
      simp only [d7]
      have q0 := (B1.ext hU).a
      gi_wp2_with (fail)
      refine done_mk ?_ rfl (Ext.refl _)
      rfl
    case oaq2r9 =>
      intro x U hU
      simp only [depV, OneIn, dstOf, readDst, asBool, VP.is, VP.any, VP.row, VP.ptr, VP.blk, VP.ex, VP.and, VP.of, List.getD_cons_zero, List.getD_cons_succ]
      gi_wp2_with (fail)
      refine done_mk ?_ rfl (Ext.refl _)
      rfl
    case oaq2r10 =>
      intro x U hU
      simp only [depV, OneIn, dstOf, readDst, asBool, VP.is, VP.any, VP.row, VP.ptr, VP.blk, VP.ex, VP.and, VP.of, List.getD_cons_zero, List.getD_cons_succ]
      intro d4
      intro d8
      intro d9
      simp only [d4, d8, d9]
      have ev := HEV.out
      gi_wp2_with (refine ⟨trivial, ?_⟩; refine ((callsIn_wide (n := 0)).2 (HD.out _)).mono ?_; rintro e w2 ⟨rfl, rfl⟩)
      refine done_mk ?_ rfl (Ext.refl _)
      rfl
    case oaq2r11 =>
      intro x U hU
      simp only [depV, OneIn, dstOf, readDst, asBool, VP.is, VP.any, VP.row, VP.ptr, VP.blk, VP.ex, VP.and, VP.of, List.getD_cons_zero, List.getD_cons_succ]
      intro d0
      simp only [d0]
      gi_wp2_with (fail)
      refine done_mk ?_ rfl (Ext.refl _)
      rfl
    case oaq2r12 =>
      intro x U hU
      simp only [depV, OneIn, dstOf, readDst, asBool, VP.is, VP.any, VP.row, VP.ptr, VP.blk, VP.ex, VP.and, VP.of, List.getD_cons_zero, List.getD_cons_succ]
      intro d11
      simp only [d11]
      gi_wp2_with (fail)
      refine done_mk ?_ rfl (Ext.refl _)
      rfl
    case finaq2r =>
      intro x U hU
      simp only [allV, depV, One, dstOf, readDst, asBool, VP.is, VP.any, VP.row, VP.ptr, VP.blk, VP.ex, VP.and, VP.of, List.getD_cons_zero, List.getD_cons_succ]
      intro d0
      intro d1
      intro d2
      intro d3
      intro d4
      intro d5
      intro d6
      intro d7
      intro d8
      intro d9
      intro d10
      intro d11
      intro d12
      simp only [d0, d1, d2, d3, d4, d5, d6, d7, d8, d9, d10, d11, d12]
      clear d0 d1 d2 d3 d4 d5 d6 d7 d8 d9 d10 d11 d12
      have z := (B1.ext hU).fz 0
      have z1 := (B1.ext hU).a
      have hu := (Upd.of_ext (g := g) (hx.trans hU)).set 0 (.int .u32 (doE kk s.a b))
      have B2 := (B1.ext hU).setA (doE kk s.a b)
      clear B1 hU
      gi_wp2_with fail
      go_end0
      exact ⟨rfl, hu, B2⟩
  by_cases c3 : co = 100
  · subst c3
    have b1 : decide ((31 : Int) < b) = false := by have := HH.out.2.2; simpa using this
    clear HH
    go_enter Try.func69, Try.ntmps69
    go_wp2_with fail
    generalize W.alloc (.cells #[.int .u16 100, .int .u8 jt, .int .u8 jf, .int .u32 k] 32) = W0 at *
    refine (HS.out W0 HB.out).mono ?_
    rintro e w1 ⟨rfl, hx1⟩
    have q0 := (HI.out.ext hx1).cell 0
    have B1 := HB.out.ext hx1
    have HI1 := Lib.hid (HI.out.ext hx1)
    replace hx := hx.trans hx1
    clear HI HB HS hx1
    go_wp2_with fail
    clear q0
    have hidx := pair_do (prC.getD kk 0) (.func (.func (prF kk)) #[] #[]) .nilFunc
    generalize prC.getD kk 0 = pcode at *
    generalize prF kk = F at *
    refine (wpIn_wide (n := 1)).1 ?_
    refine wpIn_region_last (fun _ => trivial) rfl [.is ?vaq3r0, .is ?vaq3r1, .is ?vaq3r2, .is (.agg #[.int .u16 pcode, .func (.func F) #[] #[], .nilFunc]), .is ?vaq3r4, .is ?vaq3r5, .is ?vaq3r6, .is ?vaq3r7, .is ?vaq3r8, .is ?vaq3r9, .is ?vaq3r10, .is ?vaq3r11, .is ?vaq3r12] (by kernel_rfl) (by kernel_rfl) (by kernel_rfl) ?Aaq3r ?hAaq3r ⟨?oaq3r0, ?oaq3r1, ?oaq3r2, ?oaq3r3, ?oaq3r4, ?oaq3r5, ?oaq3r6, ?oaq3r7, ?oaq3r8, ?oaq3r9, ?oaq3r10, ?oaq3r11, ?oaq3r12, trivial⟩ _ rfl rfl ?finaq3r
    case hAaq3r => (intro x; simp only [fillOps, Act.put, List.setIfInBounds_toArray, List.set_cons_zero, List.set_cons_succ, Nat.reduceAdd]; rfl)
    case oaq3r0 =>
      intro x U hU
      simp only [depV, OneIn, dstOf, readDst, asBool, VP.is, VP.any, VP.row, VP.ptr, VP.blk, VP.ex, VP.and, VP.of, List.getD_cons_zero, List.getD_cons_succ]
      gi_wp2_with (fail)
      refine done_mk ?_ rfl (Ext.refl _)
      rfl
    case oaq3r1 =>
      intro x U hU
      simp only [depV, OneIn, dstOf, readDst, asBool, VP.is, VP.any, VP.row, VP.ptr, VP.blk, VP.ex, VP.and, VP.of, List.getD_cons_zero, List.getD_cons_succ]
      gi_wp2_with (fail)
      refine done_mk ?_ rfl (Ext.refl _)
      rfl
    case oaq3r2 =>
      intro x U hU
      simp only [depV, OneIn, dstOf, readDst, asBool, VP.is, VP.any, VP.row, VP.ptr, VP.blk, VP.ex, VP.and, VP.of, List.getD_cons_zero, List.getD_cons_succ]
      intro d1
      simp only [d1]
      have q0 := (HI1.out.ext hU).cell 0
      gi_wp2_with (fail)
      refine done_mk ?_ rfl (Ext.refl _)
      rfl
    case oaq3r3 =>
      intro x U hU
      simp only [depV, OneIn, dstOf, readDst, asBool, VP.is, VP.any, VP.row, VP.ptr, VP.blk, VP.ex, VP.and, VP.of, List.getD_cons_zero, List.getD_cons_succ]
      intro d2
      simp only [d2]
      gi_wp2_with (refine ⟨trivial, ?_⟩; gi_at_call 81; refine ((callsIn_wide (n := 0)).2 (HY.out _)).mono ?_; rintro e w2 ⟨rfl, hx2⟩)
      refine done_mk ?_ rfl (hx2)
      rfl
    case oaq3r4 =>
      intro x U hU
      simp only [depV, OneIn, dstOf, readDst, asBool, VP.is, VP.any, VP.row, VP.ptr, VP.blk, VP.ex, VP.and, VP.of, List.getD_cons_zero, List.getD_cons_succ]
      intro d3
      simp only [d3]
      gi_wp2_with (fail)
      refine done_mk ?_ rfl (Ext.refl _)
      rfl
    case oaq3r5 =>
      intro x U hU
      simp only [depV, OneIn, dstOf, readDst, asBool, VP.is, VP.any, VP.row, VP.ptr, VP.blk, VP.ex, VP.and, VP.of, List.getD_cons_zero, List.getD_cons_succ]
      gi_wp2_with (fail)
      refine done_mk ?_ rfl (Ext.refl _)
      rfl
    case oaq3r6 =>
      intro x U hU
      simp only [depV, OneIn, dstOf, readDst, asBool, VP.is, VP.any, VP.row, VP.ptr, VP.blk, VP.ex, VP.and, VP.of, List.getD_cons_zero, List.getD_cons_succ]
      intro d5
      simp only [d5]
      gi_wp2_with (fail)
      refine done_mk ?_ rfl (Ext.refl _)
      rfl
    case oaq3r7 =>
      intro x U hU
      simp only [depV, OneIn, dstOf, readDst, asBool, VP.is, VP.any, VP.row, VP.ptr, VP.blk, VP.ex, VP.and, VP.of, List.getD_cons_zero, List.getD_cons_succ]
      intro d6
      simp only [d6]
      gi_wp2_with (fail)
      refine done_mk ?_ rfl (Ext.refl _)
      rfl
    case oaq3r8 =>
      intro x U hU
      simp only [depV, OneIn, dstOf, readDst, asBool, VP.is, VP.any, VP.row, VP.ptr, VP.blk, VP.ex, VP.and, VP.of, List.getD_cons_zero, List.getD_cons_succ]
      intro d7
      simp only [d7]
      have q0 := (B1.ext hU).a
      gi_wp2_with (fail)
      refine done_mk ?_ rfl (Ext.refl _)
      rfl
    case oaq3r9 =>
      intro x U hU
      simp only [depV, OneIn, dstOf, readDst, asBool, VP.is, VP.any, VP.row, VP.ptr, VP.blk, VP.ex, VP.and, VP.of, List.getD_cons_zero, List.getD_cons_succ]
      gi_wp2_with (fail)
      refine done_mk ?_ rfl (Ext.refl _)
      rfl
    case oaq3r10 =>
      intro x U hU
      simp only [depV, OneIn, dstOf, readDst, asBool, VP.is, VP.any, VP.row, VP.ptr, VP.blk, VP.ex, VP.and, VP.of, List.getD_cons_zero, List.getD_cons_succ]
      intro d4
      intro d8
      intro d9
      simp only [d4, d8, d9]
      have ev := HEV.out
      gi_wp2_with (refine ⟨trivial, ?_⟩; refine ((callsIn_wide (n := 0)).2 (HD.out _)).mono ?_; rintro e w2 ⟨rfl, rfl⟩)
      refine done_mk ?_ rfl (Ext.refl _)
      rfl
    case oaq3r11 =>
      intro x U hU
      simp only [depV, OneIn, dstOf, readDst, asBool, VP.is, VP.any, VP.row, VP.ptr, VP.blk, VP.ex, VP.and, VP.of, List.getD_cons_zero, List.getD_cons_succ]
      intro d0
      simp only [d0]
      gi_wp2_with (fail)
      refine done_mk ?_ rfl (Ext.refl _)
      rfl
    case oaq3r12 =>
      intro x U hU
      simp only [depV, OneIn, dstOf, readDst, asBool, VP.is, VP.any, VP.row, VP.ptr, VP.blk, VP.ex, VP.and, VP.of, List.getD_cons_zero, List.getD_cons_succ]
      intro d11
      simp only [d11]
      gi_wp2_with (fail)
      refine done_mk ?_ rfl (Ext.refl _)
      rfl
    case finaq3r =>
      intro x U hU
      simp only [allV, depV, One, dstOf, readDst, asBool, VP.is, VP.any, VP.row, VP.ptr, VP.blk, VP.ex, VP.and, VP.of, List.getD_cons_zero, List.getD_cons_succ]
      intro d0
      intro d1
      intro d2
      intro d3
      intro d4
      intro d5
      intro d6
      intro d7
      intro d8
      intro d9
      intro d10
      intro d11
      intro d12
      simp only [d0, d1, d2, d3, d4, d5, d6, d7, d8, d9, d10, d11, d12]
      clear d0 d1 d2 d3 d4 d5 d6 d7 d8 d9 d10 d11 d12
      have z := (B1.ext hU).fz 0
      have z1 := (B1.ext hU).a
      have hu := (Upd.of_ext (g := g) (hx.trans hU)).set 0 (.int .u32 (doE kk s.a b))
      have B2 := (B1.ext hU).setA (doE kk s.a b)
      clear B1 hU
      gi_wp2_with fail
      go_end0
      exact ⟨rfl, hu, B2⟩
  by_cases c4 : co = 116
  · subst c4
    have b1 : decide ((31 : Int) < b) = false := by have := HH.out.2.2; simpa using this
    clear HH
    go_enter Try.func69, Try.ntmps69
    go_wp2_with fail
    generalize W.alloc (.cells #[.int .u16 116, .int .u8 jt, .int .u8 jf, .int .u32 k] 32) = W0 at *
    refine (HS.out W0 HB.out).mono ?_
    rintro e w1 ⟨rfl, hx1⟩
    have q0 := (HI.out.ext hx1).cell 0
    have B1 := HB.out.ext hx1
    have HI1 := Lib.hid (HI.out.ext hx1)
    replace hx := hx.trans hx1
    clear HI HB HS hx1
    go_wp2_with fail
    clear q0
    have hidx := pair_do (prC.getD kk 0) (.func (.func (prF kk)) #[] #[]) .nilFunc
    generalize prC.getD kk 0 = pcode at *
    generalize prF kk = F at *
    refine (wpIn_wide (n := 1)).1 ?_
    refine wpIn_region_last (fun _ => trivial) rfl [.is ?vaq4r0, .is ?vaq4r1, .is ?vaq4r2, .is (.agg #[.int .u16 pcode, .func (.func F) #[] #[], .nilFunc]), .is ?vaq4r4, .is ?vaq4r5, .is ?vaq4r6, .is ?vaq4r7, .is ?vaq4r8, .is ?vaq4r9, .is ?vaq4r10, .is ?vaq4r11, .is ?vaq4r12] (by kernel_rfl) (by kernel_rfl) (by kernel_rfl) ?Aaq4r ?hAaq4r ⟨?oaq4r0, ?oaq4r1, ?oaq4r2, ?oaq4r3, ?oaq4r4, ?oaq4r5, ?oaq4r6, ?oaq4r7, ?oaq4r8, ?oaq4r9, ?oaq4r10, ?oaq4r11, ?oaq4r12, trivial⟩ _ rfl rfl ?finaq4r
    case hAaq4r => (intro x; simp only [fillOps, Act.put, List.setIfInBounds_toArray, List.set_cons_zero, List.set_cons_succ, Nat.reduceAdd]; rfl)
    case oaq4r0 =>
      intro x U hU
      simp only [depV, OneIn, dstOf, readDst, asBool, VP.is, VP.any, VP.row, VP.ptr, VP.blk, VP.ex, VP.and, VP.of, List.getD_cons_zero, List.getD_cons_succ]
      gi_wp2_with (fail)
      refine done_mk ?_ rfl (Ext.refl _)
      rfl
    case oaq4r1 =>
      intro x U hU
      simp only [depV, OneIn, dstOf, readDst, asBool, VP.is, VP.any, VP.row, VP.ptr, VP.blk, VP.ex, VP.and, VP.of, List.getD_cons_zero, List.getD_cons_succ]
      gi_wp2_with (fail)
      refine done_mk ?_ rfl (Ext.refl _)
      rfl
    case oaq4r2 =>
      intro x U hU
      simp only [depV, OneIn, dstOf, readDst, asBool, VP.is, VP.any, VP.row, VP.ptr, VP.blk, VP.ex, VP.and, VP.of, List.getD_cons_zero, List.getD_cons_succ]
      intro d1
      simp only [d1]
      have q0 := (HI1.out.ext hU).cell 0
      gi_wp2_with (fail)
      refine done_mk ?_ rfl (Ext.refl _)
      rfl
    case oaq4r3 =>
      intro x U hU
      simp only [depV, OneIn, dstOf, readDst, asBool, VP.is, VP.any, VP.row, VP.ptr, VP.blk, VP.ex, VP.and, VP.of, List.getD_cons_zero, List.getD_cons_succ]
      intro d2
      simp only [d2]
      gi_wp2_with (refine ⟨trivial, ?_⟩; gi_at_call 81; refine ((callsIn_wide (n := 0)).2 (HY.out _)).mono ?_; rintro e w2 ⟨rfl, hx2⟩)
      refine done_mk ?_ rfl (hx2)
      rfl
    case oaq4r4 =>
      intro x U hU
      simp only [depV, OneIn, dstOf, readDst, asBool, VP.is, VP.any, VP.row, VP.ptr, VP.blk, VP.ex, VP.and, VP.of, List.getD_cons_zero, List.getD_cons_succ]
      intro d3
      simp only [d3]
      gi_wp2_with (fail)
      refine done_mk ?_ rfl (Ext.refl _)
      rfl
    case oaq4r5 =>
      intro x U hU
      simp only [depV, OneIn, dstOf, readDst, asBool, VP.is, VP.any, VP.row, VP.ptr, VP.blk, VP.ex, VP.and, VP.of, List.getD_cons_zero, List.getD_cons_succ]
      gi_wp2_with (fail)
      refine done_mk ?_ rfl (Ext.refl _)
      rfl
    case oaq4r6 =>
      intro x U hU
      simp only [depV, OneIn, dstOf, readDst, asBool, VP.is, VP.any, VP.row, VP.ptr, VP.blk, VP.ex, VP.and, VP.of, List.getD_cons_zero, List.getD_cons_succ]
      intro d5
      simp only [d5]
      gi_wp2_with (fail)
      refine done_mk ?_ rfl (Ext.refl _)
      rfl
    case oaq4r7 =>
      intro x U hU
      simp only [depV, OneIn, dstOf, readDst, asBool, VP.is, VP.any, VP.row, VP.ptr, VP.blk, VP.ex, VP.and, VP.of, List.getD_cons_zero, List.getD_cons_succ]
      intro d6
      simp only [d6]
      gi_wp2_with (fail)
      refine done_mk ?_ rfl (Ext.refl _)
      rfl
    case oaq4r8 =>
      intro x U hU
      simp only [depV, OneIn, dstOf, readDst, asBool, VP.is, VP.any, VP.row, VP.ptr, VP.blk, VP.ex, VP.and, VP.of, List.getD_cons_zero, List.getD_cons_succ]
      intro d7
      simp only [d7]
      have q0 := (B1.ext hU).a
      gi_wp2_with (fail)
      refine done_mk ?_ rfl (Ext.refl _)
      rfl
    case oaq4r9 =>
      intro x U hU
      simp only [depV, OneIn, dstOf, readDst, asBool, VP.is, VP.any, VP.row, VP.ptr, VP.blk, VP.ex, VP.and, VP.of, List.getD_cons_zero, List.getD_cons_succ]
      gi_wp2_with (fail)
      refine done_mk ?_ rfl (Ext.refl _)
      rfl
    case oaq4r10 =>
      intro x U hU
      simp only [depV, OneIn, dstOf, readDst, asBool, VP.is, VP.any, VP.row, VP.ptr, VP.blk, VP.ex, VP.and, VP.of, List.getD_cons_zero, List.getD_cons_succ]
      intro d4
      intro d8
      intro d9
      simp only [d4, d8, d9]
      have ev := HEV.out
      gi_wp2_with (refine ⟨trivial, ?_⟩; refine ((callsIn_wide (n := 0)).2 (HD.out _)).mono ?_; rintro e w2 ⟨rfl, rfl⟩)
      refine done_mk ?_ rfl (Ext.refl _)
      rfl
    case oaq4r11 =>
      intro x U hU
      simp only [depV, OneIn, dstOf, readDst, asBool, VP.is, VP.any, VP.row, VP.ptr, VP.blk, VP.ex, VP.and, VP.of, List.getD_cons_zero, List.getD_cons_succ]
      intro d0
      simp only [d0]
      gi_wp2_with (fail)
      refine done_mk ?_ rfl (Ext.refl _)
      rfl
    case oaq4r12 =>
      intro x U hU
      simp only [depV, OneIn, dstOf, readDst, asBool, VP.is, VP.any, VP.row, VP.ptr, VP.blk, VP.ex, VP.and, VP.of, List.getD_cons_zero, List.getD_cons_succ]
      intro d11
      simp only [d11]
      gi_wp2_with (fail)
      refine done_mk ?_ rfl (Ext.refl _)
      rfl
    case finaq4r =>
      intro x U hU
      simp only [allV, depV, One, dstOf, readDst, asBool, VP.is, VP.any, VP.row, VP.ptr, VP.blk, VP.ex, VP.and, VP.of, List.getD_cons_zero, List.getD_cons_succ]
      intro d0
      intro d1
      intro d2
      intro d3
      intro d4
      intro d5
      intro d6
      intro d7
      intro d8
      intro d9
      intro d10
      intro d11
      intro d12
      simp only [d0, d1, d2, d3, d4, d5, d6, d7, d8, d9, d10, d11, d12]
      clear d0 d1 d2 d3 d4 d5 d6 d7 d8 d9 d10 d11 d12
      have z := (B1.ext hU).fz 0
      have z1 := (B1.ext hU).a
      have hu := (Upd.of_ext (g := g) (hx.trans hU)).set 0 (.int .u32 (doE kk s.a b))
      have B2 := (B1.ext hU).setA (doE kk s.a b)
      clear B1 hU
      gi_wp2_with fail
      go_end0
      exact ⟨rfl, hu, B2⟩
  have d1 : (co == 52) = false := by simpa using c1
  have d2 : (co == 60) = false := by simpa using c2
  have d3 : (co == 100) = false := by simpa using c3
  have d4 : (co == 116) = false := by simpa using c4
  clear c1 c2 c3 c4 HH
  go_enter Try.func69, Try.ntmps69
  go_wp2_with fail
  generalize W.alloc (.cells #[.int .u16 co, .int .u8 jt, .int .u8 jf, .int .u32 k] 32) = W0 at *
  refine (HS.out W0 HB.out).mono ?_
  rintro e w1 ⟨rfl, hx1⟩
  have q0 := (HI.out.ext hx1).cell 0
  have B1 := HB.out.ext hx1
  have HI1 := Lib.hid (HI.out.ext hx1)
  replace hx := hx.trans hx1
  clear HI HB HS hx1
  go_wp2_with fail
  clear q0
  have hidx := pair_do (prC.getD kk 0) (.func (.func (prF kk)) #[] #[]) .nilFunc
  generalize prC.getD kk 0 = pcode at *
  generalize prF kk = F at *
  refine (wpIn_wide (n := 1)).1 ?_
  refine wpIn_region_last (fun _ => trivial) rfl [.is ?vaq5r0, .is ?vaq5r1, .is ?vaq5r2, .is (.agg #[.int .u16 pcode, .func (.func F) #[] #[], .nilFunc]), .is ?vaq5r4, .is ?vaq5r5, .is ?vaq5r6, .is ?vaq5r7, .is ?vaq5r8, .is ?vaq5r9, .is ?vaq5r10, .is ?vaq5r11, .is ?vaq5r12] (by kernel_rfl) (by kernel_rfl) (by kernel_rfl) ?Aaq5r ?hAaq5r ⟨?oaq5r0, ?oaq5r1, ?oaq5r2, ?oaq5r3, ?oaq5r4, ?oaq5r5, ?oaq5r6, ?oaq5r7, ?oaq5r8, ?oaq5r9, ?oaq5r10, ?oaq5r11, ?oaq5r12, trivial⟩ _ rfl rfl ?finaq5r
  case hAaq5r => (intro x; simp only [fillOps, Act.put, List.setIfInBounds_toArray, List.set_cons_zero, List.set_cons_succ, Nat.reduceAdd]; rfl)
  case oaq5r0 =>
    intro x U hU
    simp only [depV, OneIn, dstOf, readDst, asBool, VP.is, VP.any, VP.row, VP.ptr, VP.blk, VP.ex, VP.and, VP.of, List.getD_cons_zero, List.getD_cons_succ]
    gi_wp2_with (fail)
    refine done_mk ?_ rfl (Ext.refl _)
    rfl
  case oaq5r1 =>
    intro x U hU
    simp only [depV, OneIn, dstOf, readDst, asBool, VP.is, VP.any, VP.row, VP.ptr, VP.blk, VP.ex, VP.and, VP.of, List.getD_cons_zero, List.getD_cons_succ]
    gi_wp2_with (fail)
    refine done_mk ?_ rfl (Ext.refl _)
    rfl
  case oaq5r2 =>
    intro x U hU
    simp only [depV, OneIn, dstOf, readDst, asBool, VP.is, VP.any, VP.row, VP.ptr, VP.blk, VP.ex, VP.and, VP.of, List.getD_cons_zero, List.getD_cons_succ]
    intro d1
    simp only [d1]
    have q0 := (HI1.out.ext hU).cell 0
    gi_wp2_with (fail)
    refine done_mk ?_ rfl (Ext.refl _)
    rfl
  case oaq5r3 =>
    intro x U hU
    simp only [depV, OneIn, dstOf, readDst, asBool, VP.is, VP.any, VP.row, VP.ptr, VP.blk, VP.ex, VP.and, VP.of, List.getD_cons_zero, List.getD_cons_succ]
    intro d2
    simp only [d2]
    gi_wp2_with (refine ⟨trivial, ?_⟩; gi_at_call 81; refine ((callsIn_wide (n := 0)).2 (HY.out _)).mono ?_; rintro e w2 ⟨rfl, hx2⟩)
    refine done_mk ?_ rfl (hx2)
    rfl
  case oaq5r4 =>
    intro x U hU
    simp only [depV, OneIn, dstOf, readDst, asBool, VP.is, VP.any, VP.row, VP.ptr, VP.blk, VP.ex, VP.and, VP.of, List.getD_cons_zero, List.getD_cons_succ]
    intro d3
    simp only [d3]
    gi_wp2_with (fail)
    refine done_mk ?_ rfl (Ext.refl _)
    rfl
  case oaq5r5 =>
    intro x U hU
    simp only [depV, OneIn, dstOf, readDst, asBool, VP.is, VP.any, VP.row, VP.ptr, VP.blk, VP.ex, VP.and, VP.of, List.getD_cons_zero, List.getD_cons_succ]
    gi_wp2_with (fail)
    refine done_mk ?_ rfl (Ext.refl _)
    rfl
  case oaq5r6 =>
    intro x U hU
    simp only [depV, OneIn, dstOf, readDst, asBool, VP.is, VP.any, VP.row, VP.ptr, VP.blk, VP.ex, VP.and, VP.of, List.getD_cons_zero, List.getD_cons_succ]
    intro d5
    simp only [d5]
    gi_wp2_with (fail)
    refine done_mk ?_ rfl (Ext.refl _)
    rfl
  case oaq5r7 =>
    intro x U hU
    simp only [depV, OneIn, dstOf, readDst, asBool, VP.is, VP.any, VP.row, VP.ptr, VP.blk, VP.ex, VP.and, VP.of, List.getD_cons_zero, List.getD_cons_succ]
    intro d6
    simp only [d6]
    gi_wp2_with (fail)
    refine done_mk ?_ rfl (Ext.refl _)
    rfl
  case oaq5r8 =>
    intro x U hU
    simp only [depV, OneIn, dstOf, readDst, asBool, VP.is, VP.any, VP.row, VP.ptr, VP.blk, VP.ex, VP.and, VP.of, List.getD_cons_zero, List.getD_cons_succ]
    intro d7
    simp only [d7]
    have q0 := (B1.ext hU).a
    gi_wp2_with (fail)
    refine done_mk ?_ rfl (Ext.refl _)
    rfl
  case oaq5r9 =>
    intro x U hU
    simp only [depV, OneIn, dstOf, readDst, asBool, VP.is, VP.any, VP.row, VP.ptr, VP.blk, VP.ex, VP.and, VP.of, List.getD_cons_zero, List.getD_cons_succ]
    gi_wp2_with (fail)
    refine done_mk ?_ rfl (Ext.refl _)
    rfl
  case oaq5r10 =>
    intro x U hU
    simp only [depV, OneIn, dstOf, readDst, asBool, VP.is, VP.any, VP.row, VP.ptr, VP.blk, VP.ex, VP.and, VP.of, List.getD_cons_zero, List.getD_cons_succ]
    intro d4
    intro d8
    intro d9
    simp only [d4, d8, d9]
    have ev := HEV.out
    gi_wp2_with (refine ⟨trivial, ?_⟩; refine ((callsIn_wide (n := 0)).2 (HD.out _)).mono ?_; rintro e w2 ⟨rfl, rfl⟩)
    refine done_mk ?_ rfl (Ext.refl _)
    rfl
  case oaq5r11 =>
    intro x U hU
    simp only [depV, OneIn, dstOf, readDst, asBool, VP.is, VP.any, VP.row, VP.ptr, VP.blk, VP.ex, VP.and, VP.of, List.getD_cons_zero, List.getD_cons_succ]
    intro d0
    simp only [d0]
    gi_wp2_with (fail)
    refine done_mk ?_ rfl (Ext.refl _)
    rfl
  case oaq5r12 =>
    intro x U hU
    simp only [depV, OneIn, dstOf, readDst, asBool, VP.is, VP.any, VP.row, VP.ptr, VP.blk, VP.ex, VP.and, VP.of, List.getD_cons_zero, List.getD_cons_succ]
    intro d11
    simp only [d11]
    gi_wp2_with (fail)
    refine done_mk ?_ rfl (Ext.refl _)
    rfl
  case finaq5r =>
    intro x U hU
    simp only [allV, depV, One, dstOf, readDst, asBool, VP.is, VP.any, VP.row, VP.ptr, VP.blk, VP.ex, VP.and, VP.of, List.getD_cons_zero, List.getD_cons_succ]
    intro d0
    intro d1
    intro d2
    intro d3
    intro d4
    intro d5
    intro d6
    intro d7
    intro d8
    intro d9
    intro d10
    intro d11
    intro d12
    simp only [d0, d1, d2, d3, d4, d5, d6, d7, d8, d9, d10, d11, d12]
    clear d0 d1 d2 d3 d4 d5 d6 d7 d8 d9 d10 d11 d12
    have z := (B1.ext hU).fz 0
    have z1 := (B1.ext hU).a
    have hu := (Upd.of_ext (g := g) (hx.trans hU)).set 0 (.int .u32 (doE kk s.a b))
    have B2 := (B1.ext hU).setA (doE kk s.a b)
    clear B1 hU
    gi_wp2_with fail
    go_end0
    exact ⟨rfl, hu, B2⟩
end Go.Proofs.Ytkejcfbhikpibaa
