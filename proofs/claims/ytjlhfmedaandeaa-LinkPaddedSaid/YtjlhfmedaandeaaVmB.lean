import Derived.Test.YtjlhfmedaandeaaVmA
import Derived.Test.YtjlhfmedaandeaaMonoIn
/- vm: load. -/
namespace Go.Proofs.Ytjlhfmedaandeaa
open Go.RowKit Go.ChangeShapes Go.WideShapes
set_option linter.unusedVariables false
set_option linter.unusedSimpArgs false

/-- How a function of the machine ends: it returns and the machine is s, or an error is raised. -/
def VmP (g : Nat) (d : Dat) (W : World) (v : Value) (r : Vm × Int) (e : Ending) (w' : World) : Prop :=
  Upd g W w' ∧ (if r.2 = 0 then e = .returned v ∧ MB w' g d r.1 else e = .panicked (pan r.2))
theorem VmP.yes {g : Nat} {d : Dat} {W : World} {v : Value} {s : Vm} {w' : World} (h : Upd g W w') (k : MB w' g d s) : VmP g d W v (s, 0) (.returned v) w' := ⟨h, by rw [if_pos rfl]; exact ⟨rfl, k⟩⟩
theorem VmP.no {g : Nat} {d : Dat} {W : World} {v : Value} {s : Vm} {w' : World} {x : Int} (hx : x ≠ 0) (h : Upd g W w') : VmP g d W v (s, x) (.panicked (pan x)) w' := ⟨h, by rw [if_neg hx]⟩
def loadE (d : Dat) (i : Ins) (s : Vm) : Vm × Int :=
  if i.code = 32 then (if wordErr i.k = 0 then ({ s with a := d.word i.k }, 0) else (s, 41))
  else if i.code = 128 then ({ s with a := 64 }, 0)
  else if i.code = 129 then ({ s with x := 64 }, 0)
  else if i.code = 0 then ({ s with a := i.k }, 0)
  else if i.code = 1 then ({ s with x := i.k }, 0)
  else if i.code = 96 then (if i.k < 16 then ({ s with a := s.cs.getD i.k.toNat 0 }, 0) else (s, 43))
  else if i.code = 97 then (if i.k < 16 then ({ s with x := s.cs.getD i.k.toNat 0 }, 0) else (s, 43))
  else (s, 0)

theorem MB.dats {W : World} {g : Nat} {d : Dat} {s : Vm} (h : MB W g d s) : W.cell? ⟨g, 18, none⟩ = some (.int .u32 d.nr) ∧ W.cell? ⟨g, 19, none⟩ = some (.int .u32 d.arch) ∧ W.cell? ⟨g, 20, none⟩ = some (.int .u64 d.ip) ∧ W.cell? ⟨g, 21, none⟩ = some (.int .u64 d.a0) ∧ W.cell? ⟨g, 22, none⟩ = some (.int .u64 d.a1) ∧ W.cell? ⟨g, 23, none⟩ = some (.int .u64 d.a2) ∧ W.cell? ⟨g, 24, none⟩ = some (.int .u64 d.a3) ∧ W.cell? ⟨g, 25, none⟩ = some (.int .u64 d.a4) ∧ W.cell? ⟨g, 26, none⟩ = some (.int .u64 d.a5) :=
  ⟨h.dat (j := 0) (by decide), h.dat (j := 1) (by decide), h.dat (j := 2) (by decide), h.dat (j := 3) (by decide), h.dat (j := 4) (by decide), h.dat (j := 5) (by decide), h.dat (j := 6) (by decide), h.dat (j := 7) (by decide), h.dat (j := 8) (by decide)⟩
theorem load_128 (jt jf k : Int) (g : Nat) (d : Dat) (s : Vm) (W : World) (B : MB W g d s) : Calls Try.prog 86 #[.pointer (some ⟨g, 0, none⟩), .agg #[.int .u16 128, .int .u8 jt, .int .u8 jf, .int .u32 k]] W fun e w' => e = .returned (.tuple #[]) ∧ Upd g W w' ∧ MB w' g d { s with a := 64 } := by
  have hx := (Ext.refl W).alloc (.cells #[.int .u16 128, .int .u8 jt, .int .u8 jf, .int .u32 k] 43)
  have B1 := B.ext hx
  have z := B1.fz 0
  have z1 := B1.a
  have hu := (Upd.of_ext (g := g) hx).set 0 (.int .u32 64)
  have B2 := B1.setA 64
  clear B B1 hx
  go_enter Try.func86, Try.ntmps86
  go_wp2
  go_end0
  exact ⟨rfl, hu, B2⟩
theorem load_129 (jt jf k : Int) (g : Nat) (d : Dat) (s : Vm) (W : World) (B : MB W g d s) : Calls Try.prog 86 #[.pointer (some ⟨g, 0, none⟩), .agg #[.int .u16 129, .int .u8 jt, .int .u8 jf, .int .u32 k]] W fun e w' => e = .returned (.tuple #[]) ∧ Upd g W w' ∧ MB w' g d { s with x := 64 } := by
  have hx := (Ext.refl W).alloc (.cells #[.int .u16 129, .int .u8 jt, .int .u8 jf, .int .u32 k] 43)
  have B1 := B.ext hx
  have z := B1.fz 1
  have z1 := B1.x
  have hu := (Upd.of_ext (g := g) hx).set 1 (.int .u32 64)
  have B2 := B1.setX 64
  clear B B1 hx
  go_enter Try.func86, Try.ntmps86
  go_wp2
  go_end0
  exact ⟨rfl, hu, B2⟩
theorem load_0 (jt jf k : Int) (g : Nat) (d : Dat) (s : Vm) (W : World) (B : MB W g d s) : Calls Try.prog 86 #[.pointer (some ⟨g, 0, none⟩), .agg #[.int .u16 0, .int .u8 jt, .int .u8 jf, .int .u32 k]] W fun e w' => e = .returned (.tuple #[]) ∧ Upd g W w' ∧ MB w' g d { s with a := k } := by
  have hx := (Ext.refl W).alloc (.cells #[.int .u16 0, .int .u8 jt, .int .u8 jf, .int .u32 k] 43)
  have B1 := B.ext hx
  have z := B1.fz 0
  have z1 := B1.a
  have hu := (Upd.of_ext (g := g) hx).set 0 (.int .u32 k)
  have B2 := B1.setA k
  clear B B1 hx
  go_enter Try.func86, Try.ntmps86
  go_wp2
  go_end0
  exact ⟨rfl, hu, B2⟩
theorem load_1 (jt jf k : Int) (g : Nat) (d : Dat) (s : Vm) (W : World) (B : MB W g d s) : Calls Try.prog 86 #[.pointer (some ⟨g, 0, none⟩), .agg #[.int .u16 1, .int .u8 jt, .int .u8 jf, .int .u32 k]] W fun e w' => e = .returned (.tuple #[]) ∧ Upd g W w' ∧ MB w' g d { s with x := k } := by
  have hx := (Ext.refl W).alloc (.cells #[.int .u16 1, .int .u8 jt, .int .u8 jf, .int .u32 k] 43)
  have B1 := B.ext hx
  have z := B1.fz 1
  have z1 := B1.x
  have hu := (Upd.of_ext (g := g) hx).set 1 (.int .u32 k)
  have B2 := B1.setX k
  clear B B1 hx
  go_enter Try.func86, Try.ntmps86
  go_wp2
  go_end0
  exact ⟨rfl, hu, B2⟩
theorem load_96_no (jt jf k : Int) (hk : 16 ≤ k) (g : Nat) (d : Dat) (s : Vm) (W : World) (B : MB W g d s) : Calls Try.prog 86 #[.pointer (some ⟨g, 0, none⟩), .agg #[.int .u16 96, .int .u8 jt, .int .u8 jf, .int .u32 k]] W fun e w' => e = .panicked (pan 43) ∧ Upd g W w' := by
  have hx := (Ext.refl W).alloc (.cells #[.int .u16 96, .int .u8 jt, .int .u8 jf, .int .u32 k] 43)
  clear B
  go_enter Try.func86, Try.ntmps86
  go_wp2_with fail
  refine (cell_no g k hk _).mono ?_
  rintro e w1 ⟨rfl, rfl⟩
  exact ⟨rfl, rfl, Upd.of_ext hx⟩
theorem load_96_yes (jt jf : Int) (k : Nat) (hk : k < 16) (g : Nat) (d : Dat) (s : Vm) (W : World) (B : MB W g d s) : Calls Try.prog 86 #[.pointer (some ⟨g, 0, none⟩), .agg #[.int .u16 96, .int .u8 jt, .int .u8 jf, .int .u32 k]] W fun e w' => e = .returned (.tuple #[]) ∧ Upd g W w' ∧ MB w' g d { s with a := s.cs.getD k 0 } := by
  have hx := (Ext.refl W).alloc (.cells #[.int .u16 96, .int .u8 jt, .int .u8 jf, .int .u32 k] 43)
  have B1 := B.ext hx
  have z := B1.fz 0
  have z1 := B1.a
  have q := B1.c hk
  have hu := (Upd.of_ext (g := g) hx).set 0 (.int .u32 (s.cs.getD k 0))
  have B2 := B1.setA (s.cs.getD k 0)
  clear B B1 hx
  generalize s.cs.getD k 0 = v at *
  go_enter Try.func86, Try.ntmps86
  go_wp2_with fail
  refine (cell_yes g k hk _).mono ?_
  rintro e w1 ⟨rfl, rfl⟩
  go_wp2
  go_end0
  exact ⟨rfl, hu, B2⟩
theorem load_97_no (jt jf k : Int) (hk : 16 ≤ k) (g : Nat) (d : Dat) (s : Vm) (W : World) (B : MB W g d s) : Calls Try.prog 86 #[.pointer (some ⟨g, 0, none⟩), .agg #[.int .u16 97, .int .u8 jt, .int .u8 jf, .int .u32 k]] W fun e w' => e = .panicked (pan 43) ∧ Upd g W w' := by
  have hx := (Ext.refl W).alloc (.cells #[.int .u16 97, .int .u8 jt, .int .u8 jf, .int .u32 k] 43)
  clear B
  go_enter Try.func86, Try.ntmps86
  go_wp2_with fail
  refine (cell_no g k hk _).mono ?_
  rintro e w1 ⟨rfl, rfl⟩
  exact ⟨rfl, rfl, Upd.of_ext hx⟩
theorem load_97_yes (jt jf : Int) (k : Nat) (hk : k < 16) (g : Nat) (d : Dat) (s : Vm) (W : World) (B : MB W g d s) : Calls Try.prog 86 #[.pointer (some ⟨g, 0, none⟩), .agg #[.int .u16 97, .int .u8 jt, .int .u8 jf, .int .u32 k]] W fun e w' => e = .returned (.tuple #[]) ∧ Upd g W w' ∧ MB w' g d { s with x := s.cs.getD k 0 } := by
  have hx := (Ext.refl W).alloc (.cells #[.int .u16 97, .int .u8 jt, .int .u8 jf, .int .u32 k] 43)
  have B1 := B.ext hx
  have z := B1.fz 1
  have z1 := B1.x
  have q := B1.c hk
  have hu := (Upd.of_ext (g := g) hx).set 1 (.int .u32 (s.cs.getD k 0))
  have B2 := B1.setX (s.cs.getD k 0)
  clear B B1 hx
  generalize s.cs.getD k 0 = v at *
  go_enter Try.func86, Try.ntmps86
  go_wp2_with fail
  refine (cell_yes g k hk _).mono ?_
  rintro e w1 ⟨rfl, rfl⟩
  go_wp2
  go_end0
  exact ⟨rfl, hu, B2⟩
set_option maxHeartbeats 1000000 in
theorem load_32 (jt jf k : Int) (hk : U32 k) (g : Nat) (d : Dat) (hd : d.ok) (s : Vm) (W : World) (B : MB W g d s) : Calls Try.prog 86 #[.pointer (some ⟨g, 0, none⟩), .agg #[.int .u16 32, .int .u8 jt, .int .u8 jf, .int .u32 k]] W fun e w' => VmP g d W (.tuple #[]) (if wordErr k = 0 then ({ s with a := d.word k }, 0) else (s, 41)) e w' := by
  have hx := (Ext.refl W).alloc (.cells #[.int .u16 32, .int .u8 jt, .int .u8 jf, .int .u32 k] 43)
  have HI := Lib.hid ((Blk.new W 43 #[.int .u16 32, .int .u8 jt, .int .u8 jf, .int .u32 k]))
  have HB := Lib.hid (B.ext hx)
  have HW := Lib.hid (fun W => word_any d hd k W hk.1 hk.2)
  have HS : wordErr k = 0 ∨ wordErr k = 41 := by unfold wordErr; split <;> simp
  clear B hk hd
  generalize wordErr k = we at *
  generalize d.word k = wv at *
  go_enter Try.func86, Try.ntmps86
  go_wp2_with fail
  generalize W.alloc (.cells #[.int .u16 32, .int .u8 jt, .int .u8 jf, .int .u32 k] 43) = W0 at *
  refine wp_region_mono rfl [.is ?va0, .is ?va1, .is ?va2, .is d.val, .is ?va4, .is ?va5, .is ?va6, .is ?va7, .is ?va8, .is ?va9, .is ?va10, .is ?va11] (by kernel_rfl) (by kernel_rfl) ?Aa ?hAa ⟨?oa0, ?oa1, ?oa2, ?oa3, ?oa4, ?oa5, ?oa6, ?oa7, ?oa8, ?oa9, ?oa10, ?oa11, trivial⟩ ?fina
  case hAa => (intro x; simp only [fillOps, Act.put, List.setIfInBounds_toArray, List.set_cons_zero, List.set_cons_succ, Nat.reduceAdd]; rfl)
  case oa0 =>
    intro x U hU
    simp only [depV, One, dstOf, readDst, asBool, VP.is, VP.any, VP.row, VP.ptr, VP.blk, VP.ex, VP.and, VP.of, List.getD_cons_zero, List.getD_cons_succ]
    go_wp2_with (fail)
    refine done_mk ?_ rfl (Ext.refl _)
    rfl
  case oa1 =>
    intro x U hU
    simp only [depV, One, dstOf, readDst, asBool, VP.is, VP.any, VP.row, VP.ptr, VP.blk, VP.ex, VP.and, VP.of, List.getD_cons_zero, List.getD_cons_succ]
    intro d0
    simp only [d0]
    go_wp2_with (fail)
    refine done_mk ?_ rfl (Ext.refl _)
    rfl
  case oa2 =>
    intro x U hU
    simp only [depV, One, dstOf, readDst, asBool, VP.is, VP.any, VP.row, VP.ptr, VP.blk, VP.ex, VP.and, VP.of, List.getD_cons_zero, List.getD_cons_succ]
    intro d1
    simp only [d1]
    go_wp2_with (fail)
    refine done_mk ?_ rfl (Ext.refl _)
    rfl
  case oa3 =>
    intro x U hU
    simp only [depV, One, dstOf, readDst, asBool, VP.is, VP.any, VP.row, VP.ptr, VP.blk, VP.ex, VP.and, VP.of, List.getD_cons_zero, List.getD_cons_succ]
    intro d2
    simp only [d2]
    obtain ⟨q0, q1, q2, q3, q4, q5, q6, q7, q8⟩ := (HB.out.ext hU).dats
    go_wp2_with (fail)
    refine done_mk ?_ rfl (Ext.refl _)
    rfl
  case oa4 =>
    intro x U hU
    simp only [depV, One, dstOf, readDst, asBool, VP.is, VP.any, VP.row, VP.ptr, VP.blk, VP.ex, VP.and, VP.of, List.getD_cons_zero, List.getD_cons_succ]
    go_wp2_with (fail)
    refine done_mk ?_ rfl (Ext.refl _)
    rfl
  case oa5 =>
    intro x U hU
    simp only [depV, One, dstOf, readDst, asBool, VP.is, VP.any, VP.row, VP.ptr, VP.blk, VP.ex, VP.and, VP.of, List.getD_cons_zero, List.getD_cons_succ]
    intro d4
    simp only [d4]
    have q3 := (HI.out.ext hU).cell 3
    go_wp2_with (fail)
    refine done_mk ?_ rfl (Ext.refl _)
    rfl
  case oa6 =>
    intro x U hU
    simp only [depV, One, dstOf, readDst, asBool, VP.is, VP.any, VP.row, VP.ptr, VP.blk, VP.ex, VP.and, VP.of, List.getD_cons_zero, List.getD_cons_succ]
    intro d3
    intro d5
    simp only [d3, d5]
    go_wp2_with ((refine (HW.out _).mono ?_; rintro e w1 ⟨rfl, hx1⟩))
    refine done_mk ?_ rfl (hx1)
    rfl
  case oa7 =>
    intro x U hU
    simp only [depV, One, dstOf, readDst, asBool, VP.is, VP.any, VP.row, VP.ptr, VP.blk, VP.ex, VP.and, VP.of, List.getD_cons_zero, List.getD_cons_succ]
    intro d6
    simp only [d6]
    go_wp2_with (fail)
    refine done_mk ?_ rfl (Ext.refl _)
    rfl
  case oa8 =>
    intro x U hU
    simp only [depV, One, dstOf, readDst, asBool, VP.is, VP.any, VP.row, VP.ptr, VP.blk, VP.ex, VP.and, VP.of, List.getD_cons_zero, List.getD_cons_succ]
    intro d7
    simp only [d7]
    go_wp2_with (fail)
    refine done_mk ?_ rfl (Ext.refl _)
    rfl
  case oa9 =>
    intro x U hU
    simp only [depV, One, dstOf, readDst, asBool, VP.is, VP.any, VP.row, VP.ptr, VP.blk, VP.ex, VP.and, VP.of, List.getD_cons_zero, List.getD_cons_succ]
    intro d7
    simp only [d7]
    go_wp2_with (fail)
    refine done_mk ?_ rfl (Ext.refl _)
    rfl
  case oa10 =>
    intro x U hU
    simp only [depV, One, dstOf, readDst, asBool, VP.is, VP.any, VP.row, VP.ptr, VP.blk, VP.ex, VP.and, VP.of, List.getD_cons_zero, List.getD_cons_succ]
    intro d8
    simp only [d8]
    go_wp2_with (fail)
    refine done_mk ?_ rfl (Ext.refl _)
    rfl
  case oa11 =>
    intro x U hU
    simp only [depV, One, dstOf, readDst, asBool, VP.is, VP.any, VP.row, VP.ptr, VP.blk, VP.ex, VP.and, VP.of, List.getD_cons_zero, List.getD_cons_succ]
    intro d9
    simp only [d9]
    go_wp2_with (fail)
    refine done_mk ?_ rfl (Ext.refl _)
    rfl
  case fina =>
    intro x U hU
    simp only [allV, depV, One, dstOf, readDst, asBool, VP.is, VP.any, VP.row, VP.ptr, VP.blk, VP.ex, VP.and, VP.of, List.getD_cons_zero, List.getD_cons_succ]
    intro d0
    intro d1
    intro d2
    intro d3
    intro d4
    intro d5
    intro d6
    intro d7
    intro d8
    intro d9
    intro d10
    intro d11
    simp only [d0, d1, d2, d3, d4, d5, d6, d7, d8, d9, d10, d11]
    clear d0 d1 d2 d3 d4 d5 d6 d7 d8 d9 d10 d11
    have B1 := HB.out.ext hU
    replace hx := hx.trans hU
    clear HB HI HW hU
    rcases HS with rfl | rfl
    · have z := B1.fz 0
      have z1 := B1.a
      have hu := (Upd.of_ext (g := g) hx).set 0 (.int .u32 wv)
      have B2 := B1.setA wv
      go_wp2_with fail
      go_end0
      exact VmP.yes hu B2
    · go_wp2_with fail
      refine (fail_any 41 _).mono ?_
      rintro e w1 ⟨rfl, rfl⟩
      exact ⟨rfl, VmP.no (by decide) (Upd.of_ext hx)⟩
end Go.Proofs.Ytjlhfmedaandeaa

/- vm: number. -/
namespace Go.Proofs.Ytjlhfmedaandeaa
open Go.RowKit Go.ChangeShapes Go.WideShapes
set_option linter.unusedVariables false
set_option linter.unusedSimpArgs false

theorem pr_do : ∀ (k : Nat), k < 10 → ∀ (a b : Int), U32 a → U32 b → ∀ W, Calls Try.prog (prF k) #[.int .u32 a, .int .u32 b] W fun e w' => e = .returned (.int .u32 (doE k a b)) ∧ W = w'
  | 0, _, a, b, ha, hb, W => pr1 a b ha hb W
  | 1, _, a, b, ha, hb, W => pr2 a b ha hb W
  | 2, _, a, b, ha, hb, W => pr3 a b ha hb W
  | 3, _, a, b, ha, hb, W => pr4 a b ha hb W
  | 4, _, a, b, ha, hb, W => pr5 a b ha hb W
  | 5, _, a, b, ha, hb, W => pr6 a b ha hb W
  | 6, _, a, b, ha, hb, W => pr7 a b ha hb W
  | 7, _, a, b, ha, hb, W => pr8 a b ha hb W
  | 8, _, a, b, ha, hb, W => pr9 a b ha hb W
  | 9, _, a, b, ha, hb, W => pr10 a b ha hb W
  | n + 10, h, _, _, _, _, _ => absurd h (by omega)
theorem pr_ho : ∀ (k : Nat), k < 4 → ∀ (a b : Int), U32 a → U32 b → ∀ W, Calls Try.prog (prF (10 + k)) #[.int .u32 a, .int .u32 b] W fun e w' => e = .returned (.bool (hoE k a b)) ∧ W = w'
  | 0, _, a, b, ha, hb, W => pr11 a b ha hb W
  | 1, _, a, b, ha, hb, W => pr12 a b ha hb W
  | 2, _, a, b, ha, hb, W => pr13 a b ha hb W
  | 3, _, a, b, ha, hb, W => pr14 a b ha hb W
  | n + 4, h, _, _, _, _, _ => absurd h (by omega)
theorem pr_enters : ∀ (k : Nat), k < 14 → ∀ args w, (callFunc (prF k) args).run Try.prog w = .ok (.enter (prF k) args) w
  | 0, _ => enters_of Try.func112 (by kernel_rfl) rfl
  | 1, _ => enters_of Try.func113 (by kernel_rfl) rfl
  | 2, _ => enters_of Try.func114 (by kernel_rfl) rfl
  | 3, _ => enters_of Try.func115 (by kernel_rfl) rfl
  | 4, _ => enters_of Try.func116 (by kernel_rfl) rfl
  | 5, _ => enters_of Try.func117 (by kernel_rfl) rfl
  | 6, _ => enters_of Try.func118 (by kernel_rfl) rfl
  | 7, _ => enters_of Try.func119 (by kernel_rfl) rfl
  | 8, _ => enters_of Try.func120 (by kernel_rfl) rfl
  | 9, _ => enters_of Try.func121 (by kernel_rfl) rfl
  | 10, _ => enters_of Try.func122 (by kernel_rfl) rfl
  | 11, _ => enters_of Try.func123 (by kernel_rfl) rfl
  | 12, _ => enters_of Try.func124 (by kernel_rfl) rfl
  | 13, _ => enters_of Try.func125 (by kernel_rfl) rfl
  | n + 14, h => absurd h (by omega)
theorem pair_do (c : Int) (f h : Value) (W : World) : (Instr.field 137 (.agg #[.int .u16 c, f, h]) 1).run Try.prog W = .ok f W := by kernel_rfl
theorem pair_ho (c : Int) (f h : Value) (W : World) : (Instr.field 137 (.agg #[.int .u16 c, f, h]) 2).run Try.prog W = .ok h W := by kernel_rfl

def numberE (i : Ins) (s : Vm) : Vm × Int :=
  if i.code = 52 ∧ secondE i s = 0 then (s, 44)
  else if i.code = 60 ∧ secondE i s = 0 then ({ s with over := true }, 0)
  else if (i.code = 100 ∨ i.code = 116) ∧ 31 < secondE i s then (s, 45)
  else ({ s with a := doE (byI i.code) s.a (secondE i s) }, 0)

theorem number_div0 (i : Ins) (hc : i.code = 52) (g : Nat) (d : Dat) (s : Vm) (hb : secondE i s = 0) (W : World) (B : MB W g d s) :
    Calls Try.prog 88 #[.pointer (some ⟨g, 0, none⟩), i.val] W fun e w' => e = .panicked (pan 44) ∧ Upd g W w' := by
  have HS := Lib.hid (fun W B => second_any i g d s W B)
  have hx := (Ext.refl W).alloc (.cells #[.int .u16 i.code, .int .u8 i.jt, .int .u8 i.jf, .int .u32 i.k] 43)
  have HI := Lib.hid (Blk.new W 43 #[.int .u16 i.code, .int .u8 i.jt, .int .u8 i.jf, .int .u32 i.k])
  have HB := Lib.hid (B.ext hx)
  clear B
  rw [hb] at HS
  clear hb
  unfold Ins.val Ins.cells at *
  obtain ⟨co, jt, jf, k⟩ := i
  dsimp only at *
  subst hc
  go_enter Try.func88, Try.ntmps88
  go_wp2_with fail
  generalize W.alloc (.cells #[.int .u16 52, .int .u8 jt, .int .u8 jf, .int .u32 k] 43) = W0 at *
  refine (HS.out W0 HB.out).mono ?_
  rintro e w1 ⟨rfl, hx1⟩
  have q0 := (HI.out.ext hx1).cell 0
  have B1 := HB.out.ext hx1
  have HI1 := Lib.hid (HI.out.ext hx1)
  replace hx := hx.trans hx1
  clear HI HB HS hx1
  go_wp2_with fail
  refine (fail_any 44 _).mono ?_
  rintro e w1 ⟨rfl, rfl⟩
  exact ⟨rfl, rfl, Upd.of_ext hx⟩
theorem number_divx0 (i : Ins) (hc : i.code = 60) (g : Nat) (d : Dat) (s : Vm) (hb : secondE i s = 0) (W : World) (B : MB W g d s) :
    Calls Try.prog 88 #[.pointer (some ⟨g, 0, none⟩), i.val] W fun e w' => e = .returned (.tuple #[]) ∧ Upd g W w' ∧ MB w' g d { s with over := true } := by
  have HS := Lib.hid (fun W B => second_any i g d s W B)
  have hx := (Ext.refl W).alloc (.cells #[.int .u16 i.code, .int .u8 i.jt, .int .u8 i.jf, .int .u32 i.k] 43)
  have HI := Lib.hid (Blk.new W 43 #[.int .u16 i.code, .int .u8 i.jt, .int .u8 i.jf, .int .u32 i.k])
  have HB := Lib.hid (B.ext hx)
  clear B
  rw [hb] at HS
  clear hb
  unfold Ins.val Ins.cells at *
  obtain ⟨co, jt, jf, k⟩ := i
  dsimp only at *
  subst hc
  go_enter Try.func88, Try.ntmps88
  go_wp2_with fail
  generalize W.alloc (.cells #[.int .u16 60, .int .u8 jt, .int .u8 jf, .int .u32 k] 43) = W0 at *
  refine (HS.out W0 HB.out).mono ?_
  rintro e w1 ⟨rfl, hx1⟩
  have q0 := (HI.out.ext hx1).cell 0
  have B1 := HB.out.ext hx1
  have HI1 := Lib.hid (HI.out.ext hx1)
  replace hx := hx.trans hx1
  clear HI HB HS hx1
  have z := B1.fz 28
  have z1 := B1.over
  have hu := (Upd.of_ext (g := g) hx).set 28 (.bool true)
  have B2 := B1.setO true
  clear B1
  go_wp2_with fail
  go_end0
  exact ⟨rfl, hu, B2⟩
theorem number_shift (i : Ins) (hc : i.code = 100 ∨ i.code = 116) (g : Nat) (d : Dat) (s : Vm) (hb : 31 < secondE i s) (W : World) (B : MB W g d s) :
    Calls Try.prog 88 #[.pointer (some ⟨g, 0, none⟩), i.val] W fun e w' => e = .panicked (pan 45) ∧ Upd g W w' := by
  have HS := Lib.hid (fun W B => second_any i g d s W B)
  have hx := (Ext.refl W).alloc (.cells #[.int .u16 i.code, .int .u8 i.jt, .int .u8 i.jf, .int .u32 i.k] 43)
  have HI := Lib.hid (Blk.new W 43 #[.int .u16 i.code, .int .u8 i.jt, .int .u8 i.jf, .int .u32 i.k])
  have HB := Lib.hid (B.ext hx)
  clear B
  have b1 : decide ((31 : Int) < secondE i s) = true := by simpa using hb
  clear hb
  generalize secondE i s = b at *
  unfold Ins.val Ins.cells at *
  obtain ⟨co, jt, jf, k⟩ := i
  dsimp only at *
  rcases hc with rfl | rfl
  ·
    go_enter Try.func88, Try.ntmps88
    go_wp2_with fail
    generalize W.alloc (.cells #[.int .u16 100, .int .u8 jt, .int .u8 jf, .int .u32 k] 43) = W0 at *
    refine (HS.out W0 HB.out).mono ?_
    rintro e w1 ⟨rfl, hx1⟩
    have q0 := (HI.out.ext hx1).cell 0
    have B1 := HB.out.ext hx1
    have HI1 := Lib.hid (HI.out.ext hx1)
    replace hx := hx.trans hx1
    clear HI HB HS hx1
    go_wp2_with fail
    refine (fail_any 45 _).mono ?_
    rintro e w1 ⟨rfl, rfl⟩
    exact ⟨rfl, rfl, Upd.of_ext hx⟩
  ·
    go_enter Try.func88, Try.ntmps88
    go_wp2_with fail
    generalize W.alloc (.cells #[.int .u16 116, .int .u8 jt, .int .u8 jf, .int .u32 k] 43) = W0 at *
    refine (HS.out W0 HB.out).mono ?_
    rintro e w1 ⟨rfl, hx1⟩
    have q0 := (HI.out.ext hx1).cell 0
    have B1 := HB.out.ext hx1
    have HI1 := Lib.hid (HI.out.ext hx1)
    replace hx := hx.trans hx1
    clear HI HB HS hx1
    go_wp2_with fail
    refine (fail_any 45 _).mono ?_
    rintro e w1 ⟨rfl, rfl⟩
    exact ⟨rfl, rfl, Upd.of_ext hx⟩
set_option maxHeartbeats 2000000 in
theorem number_op (i : Ins) (hi : i.ok) (g : Nat) (d : Dat) (s : Vm) (ho : s.ok) (kk : Nat) (hk : kk < 10) (hby : byI i.code = kk) (hb : U32 (secondE i s)) (h1 : ¬ (i.code = 52 ∧ secondE i s = 0)) (h2 : ¬ (i.code = 60 ∧ secondE i s = 0))
    (h3 : ¬ ((i.code = 100 ∨ i.code = 116) ∧ 31 < secondE i s)) (W : World) (B : MB W g d s) :
    Calls Try.prog 88 #[.pointer (some ⟨g, 0, none⟩), i.val] W fun e w' => e = .returned (.tuple #[]) ∧ Upd g W w' ∧ MB w' g d { s with a := doE kk s.a (secondE i s) } := by
  have HS := Lib.hid (fun W B => second_any i g d s W B)
  have hx := (Ext.refl W).alloc (.cells #[.int .u16 i.code, .int .u8 i.jt, .int .u8 i.jf, .int .u32 i.k] 43)
  have HI := Lib.hid (Blk.new W 43 #[.int .u16 i.code, .int .u8 i.jt, .int .u8 i.jf, .int .u32 i.k])
  have HB := Lib.hid (B.ext hx)
  clear B
  have HY := Lib.hid (fun W => by_vm i.code kk (by omega) hby W)
  have HD := Lib.hid (fun W => pr_do kk hk s.a (secondE i s) ho.a hb W)
  have HEV := Lib.hid (pr_enters kk (by omega))
  have ed : prD kk = .func (.func (prF kk)) #[] #[] := by unfold prD; rw [if_pos hk]
  have eh : prH kk = .nilFunc := by unfold prH; rw [if_pos hk]
  rw [ed, eh] at HY
  clear ed eh hby hb hi
  have HH := Lib.hid (And.intro h1 (And.intro h2 h3))
  clear h1 h2 h3
  generalize secondE i s = b at *
  unfold Ins.val Ins.cells at *
  obtain ⟨co, jt, jf, k⟩ := i
  dsimp only at *
  by_cases c1 : co = 52
  · subst c1
    have b1 : (b == 0) = false := by have := HH.out.1; simpa using this
    clear HH
    go_enter Try.func88, Try.ntmps88
    go_wp2_with fail
    generalize W.alloc (.cells #[.int .u16 52, .int .u8 jt, .int .u8 jf, .int .u32 k] 43) = W0 at *
    refine (HS.out W0 HB.out).mono ?_
    rintro e w1 ⟨rfl, hx1⟩
    have q0 := (HI.out.ext hx1).cell 0
    have B1 := HB.out.ext hx1
    have HI1 := Lib.hid (HI.out.ext hx1)
    replace hx := hx.trans hx1
    clear HI HB HS hx1
    go_wp2_with fail
    clear q0
    have hidx := pair_do (prC.getD kk 0) (.func (.func (prF kk)) #[] #[]) .nilFunc
    generalize prC.getD kk 0 = pcode at *
    generalize prF kk = F at *
    refine (wpIn_wide (n := 1)).1 ?_
    refine wpIn_region_last (fun _ => trivial) rfl [.is ?vaq2r0, .is ?vaq2r1, .is ?vaq2r2, .is (.agg #[.int .u16 pcode, .func (.func F) #[] #[], .nilFunc]), .is ?vaq2r4, .is ?vaq2r5, .is ?vaq2r6, .is ?vaq2r7, .is ?vaq2r8, .is ?vaq2r9, .is ?vaq2r10, .is ?vaq2r11, .is ?vaq2r12] (by kernel_rfl) (by kernel_rfl) (by kernel_rfl) ?Aaq2r ?hAaq2r ⟨?oaq2r0, ?oaq2r1, ?oaq2r2, ?oaq2r3, ?oaq2r4, ?oaq2r5, ?oaq2r6, ?oaq2r7, ?oaq2r8, ?oaq2r9, ?oaq2r10, ?oaq2r11, ?oaq2r12, trivial⟩ _ rfl rfl ?finaq2r
    case hAaq2r => (intro x; simp only [fillOps, Act.put, List.setIfInBounds_toArray, List.set_cons_zero, List.set_cons_succ, Nat.reduceAdd]; rfl)
    case oaq2r0 =>
      intro x U hU
      simp only [depV, OneIn, dstOf, readDst, asBool, VP.is, VP.any, VP.row, VP.ptr, VP.blk, VP.ex, VP.and, VP.of, List.getD_cons_zero, List.getD_cons_succ]
      gi_wp2_with (fail)
      refine done_mk ?_ rfl (Ext.refl _)
      rfl
    case oaq2r1 =>
      intro x U hU
      simp only [depV, OneIn, dstOf, readDst, asBool, VP.is, VP.any, VP.row, VP.ptr, VP.blk, VP.ex, VP.and, VP.of, List.getD_cons_zero, List.getD_cons_succ]
      gi_wp2_with (fail)
      refine done_mk ?_ rfl (Ext.refl _)
      rfl
    case oaq2r2 =>
      intro x U hU
      simp only [depV, OneIn, dstOf, readDst, asBool, VP.is, VP.any, VP.row, VP.ptr, VP.blk, VP.ex, VP.and, VP.of, List.getD_cons_zero, List.getD_cons_succ]
      intro d1
      simp only [d1]
      have q0 := (HI1.out.ext hU).cell 0
      gi_wp2_with (fail)
      refine done_mk ?_ rfl (Ext.refl _)
      rfl
    case oaq2r3 =>
      intro x U hU
      simp only [depV, OneIn, dstOf, readDst, asBool, VP.is, VP.any, VP.row, VP.ptr, VP.blk, VP.ex, VP.and, VP.of, List.getD_cons_zero, List.getD_cons_succ]
      intro d2
      simp only [d2]
      gi_wp2_with (refine ⟨trivial, ?_⟩; gi_at_call 96; refine ((callsIn_wide (n := 0)).2 (HY.out _)).mono ?_; rintro e w2 ⟨rfl, hx2⟩)
      refine done_mk ?_ rfl (hx2)
      rfl
    case oaq2r4 =>
      intro x U hU
      simp only [depV, OneIn, dstOf, readDst, asBool, VP.is, VP.any, VP.row, VP.ptr, VP.blk, VP.ex, VP.and, VP.of, List.getD_cons_zero, List.getD_cons_succ]
      intro d3
      simp only [d3]
      gi_wp2_with (fail)
      refine done_mk ?_ rfl (Ext.refl _)
      rfl
    case oaq2r5 =>
      intro x U hU
      simp only [depV, OneIn, dstOf, readDst, asBool, VP.is, VP.any, VP.row, VP.ptr, VP.blk, VP.ex, VP.and, VP.of, List.getD_cons_zero, List.getD_cons_succ]
      gi_wp2_with (fail)
      refine done_mk ?_ rfl (Ext.refl _)
      rfl
    case oaq2r6 =>
      intro x U hU
      simp only [depV, OneIn, dstOf, readDst, asBool, VP.is, VP.any, VP.row, VP.ptr, VP.blk, VP.ex, VP.and, VP.of, List.getD_cons_zero, List.getD_cons_succ]
      intro d5
      simp only [d5]
      gi_wp2_with (fail)
      refine done_mk ?_ rfl (Ext.refl _)
      rfl
    case oaq2r7 =>
      intro x U hU
      simp only [depV, OneIn, dstOf, readDst, asBool, VP.is, VP.any, VP.row, VP.ptr, VP.blk, VP.ex, VP.and, VP.of, List.getD_cons_zero, List.getD_cons_succ]
      intro d6
      simp only [d6]
      gi_wp2_with (fail)
      refine done_mk ?_ rfl (Ext.refl _)
      rfl
    case oaq2r8 =>
      intro x U hU
      simp only [depV, OneIn, dstOf, readDst, asBool, VP.is, VP.any, VP.row, VP.ptr, VP.blk, VP.ex, VP.and, VP.of, List.getD_cons_zero, List.getD_cons_succ]
      intro d7
      simp only [d7]
      have q0 := (B1.ext hU).a
      gi_wp2_with (fail)
      refine done_mk ?_ rfl (Ext.refl _)
      rfl
    case oaq2r9 =>
      intro x U hU
      simp only [depV, OneIn, dstOf, readDst, asBool, VP.is, VP.any, VP.row, VP.ptr, VP.blk, VP.ex, VP.and, VP.of, List.getD_cons_zero, List.getD_cons_succ]
      gi_wp2_with (fail)
      refine done_mk ?_ rfl (Ext.refl _)
      rfl
    case oaq2r10 =>
      intro x U hU
      simp only [depV, OneIn, dstOf, readDst, asBool, VP.is, VP.any, VP.row, VP.ptr, VP.blk, VP.ex, VP.and, VP.of, List.getD_cons_zero, List.getD_cons_succ]
      intro d4
      intro d8
      intro d9
      simp only [d4, d8, d9]
      have ev := HEV.out
      gi_wp2_with (refine ⟨trivial, ?_⟩; refine ((callsIn_wide (n := 0)).2 (HD.out _)).mono ?_; rintro e w2 ⟨rfl, rfl⟩)
      refine done_mk ?_ rfl (Ext.refl _)
      rfl
    case oaq2r11 =>
      intro x U hU
      simp only [depV, OneIn, dstOf, readDst, asBool, VP.is, VP.any, VP.row, VP.ptr, VP.blk, VP.ex, VP.and, VP.of, List.getD_cons_zero, List.getD_cons_succ]
      intro d0
      simp only [d0]
      gi_wp2_with (fail)
      refine done_mk ?_ rfl (Ext.refl _)
      rfl
    case oaq2r12 =>
      intro x U hU
      simp only [depV, OneIn, dstOf, readDst, asBool, VP.is, VP.any, VP.row, VP.ptr, VP.blk, VP.ex, VP.and, VP.of, List.getD_cons_zero, List.getD_cons_succ]
      intro d11
      simp only [d11]
      gi_wp2_with (fail)
      refine done_mk ?_ rfl (Ext.refl _)
      rfl
    case finaq2r =>
      intro x U hU
      simp only [allV, depV, One, dstOf, readDst, asBool, VP.is, VP.any, VP.row, VP.ptr, VP.blk, VP.ex, VP.and, VP.of, List.getD_cons_zero, List.getD_cons_succ]
      intro d0
      intro d1
      intro d2
      intro d3
      intro d4
      intro d5
      intro d6
      intro d7
      intro d8
      intro d9
      intro d10
      intro d11
      intro d12
      simp only [d0, d1, d2, d3, d4, d5, d6, d7, d8, d9, d10, d11, d12]
      clear d0 d1 d2 d3 d4 d5 d6 d7 d8 d9 d10 d11 d12
      have z := (B1.ext hU).fz 0
      have z1 := (B1.ext hU).a
      have hu := (Upd.of_ext (g := g) (hx.trans hU)).set 0 (.int .u32 (doE kk s.a b))
      have B2 := (B1.ext hU).setA (doE kk s.a b)
      clear B1 hU
      gi_wp2_with fail
      go_end0
      exact ⟨rfl, hu, B2⟩
  by_cases c2 : co = 60
  · subst c2
    have b1 : (b == 0) = false := by have := HH.out.2.1; simpa using this
    clear HH
    go_enter Try.func88, Try.ntmps88
    go_wp2_with fail
    generalize W.alloc (.cells #[.int .u16 60, .int .u8 jt, .int .u8 jf, .int .u32 k] 43) = W0 at *
    refine (HS.out W0 HB.out).mono ?_
    rintro e w1 ⟨rfl, hx1⟩
    have q0 := (HI.out.ext hx1).cell 0
    have B1 := HB.out.ext hx1
    have HI1 := Lib.hid (HI.out.ext hx1)
    replace hx := hx.trans hx1
    clear HI HB HS hx1
    go_wp2_with fail
    clear q0
    have hidx := pair_do (prC.getD kk 0) (.func (.func (prF kk)) #[] #[]) .nilFunc
    generalize prC.getD kk 0 = pcode at *
    generalize prF kk = F at *
    refine (wpIn_wide (n := 1)).1 ?_
    refine wpIn_region_last (fun _ => trivial) rfl [.is ?vaq3r0, .is ?vaq3r1, .is ?vaq3r2, .is (.agg #[.int .u16 pcode, .func (.func F) #[] #[], .nilFunc]), .is ?vaq3r4, .is ?vaq3r5, .is ?vaq3r6, .is ?vaq3r7, .is ?vaq3r8, .is ?vaq3r9, .is ?vaq3r10, .is ?vaq3r11, .is ?vaq3r12] (by kernel_rfl) (by kernel_rfl) (by kernel_rfl) ?Aaq3r ?hAaq3r ⟨?oaq3r0, ?oaq3r1, ?oaq3r2, ?oaq3r3, ?oaq3r4, ?oaq3r5, ?oaq3r6, ?oaq3r7, ?oaq3r8, ?oaq3r9, ?oaq3r10, ?oaq3r11, ?oaq3r12, trivial⟩ _ rfl rfl ?finaq3r
    case hAaq3r => (intro x; simp only [fillOps, Act.put, List.setIfInBounds_toArray, List.set_cons_zero, List.set_cons_succ, Nat.reduceAdd]; rfl)
    case oaq3r0 =>
      intro x U hU
      simp only [depV, OneIn, dstOf, readDst, asBool, VP.is, VP.any, VP.row, VP.ptr, VP.blk, VP.ex, VP.and, VP.of, List.getD_cons_zero, List.getD_cons_succ]
      gi_wp2_with (fail)
      refine done_mk ?_ rfl (Ext.refl _)
      rfl
    case oaq3r1 =>
      intro x U hU
      simp only [depV, OneIn, dstOf, readDst, asBool, VP.is, VP.any, VP.row, VP.ptr, VP.blk, VP.ex, VP.and, VP.of, List.getD_cons_zero, List.getD_cons_succ]
      gi_wp2_with (fail)
      refine done_mk ?_ rfl (Ext.refl _)
      rfl
    case oaq3r2 =>
      intro x U hU
      simp only [depV, OneIn, dstOf, readDst, asBool, VP.is, VP.any, VP.row, VP.ptr, VP.blk, VP.ex, VP.and, VP.of, List.getD_cons_zero, List.getD_cons_succ]
      intro d1
      simp only [d1]
      have q0 := (HI1.out.ext hU).cell 0
      gi_wp2_with (fail)
      refine done_mk ?_ rfl (Ext.refl _)
      rfl
    case oaq3r3 =>
      intro x U hU
      simp only [depV, OneIn, dstOf, readDst, asBool, VP.is, VP.any, VP.row, VP.ptr, VP.blk, VP.ex, VP.and, VP.of, List.getD_cons_zero, List.getD_cons_succ]
      intro d2
      simp only [d2]
      gi_wp2_with (refine ⟨trivial, ?_⟩; gi_at_call 96; refine ((callsIn_wide (n := 0)).2 (HY.out _)).mono ?_; rintro e w2 ⟨rfl, hx2⟩)
      refine done_mk ?_ rfl (hx2)
      rfl
    case oaq3r4 =>
      intro x U hU
      simp only [depV, OneIn, dstOf, readDst, asBool, VP.is, VP.any, VP.row, VP.ptr, VP.blk, VP.ex, VP.and, VP.of, List.getD_cons_zero, List.getD_cons_succ]
      intro d3
      simp only [d3]
      gi_wp2_with (fail)
      refine done_mk ?_ rfl (Ext.refl _)
      rfl
    case oaq3r5 =>
      intro x U hU
      simp only [depV, OneIn, dstOf, readDst, asBool, VP.is, VP.any, VP.row, VP.ptr, VP.blk, VP.ex, VP.and, VP.of, List.getD_cons_zero, List.getD_cons_succ]
      gi_wp2_with (fail)
      refine done_mk ?_ rfl (Ext.refl _)
      rfl
    case oaq3r6 =>
      intro x U hU
      simp only [depV, OneIn, dstOf, readDst, asBool, VP.is, VP.any, VP.row, VP.ptr, VP.blk, VP.ex, VP.and, VP.of, List.getD_cons_zero, List.getD_cons_succ]
      intro d5
      simp only [d5]
      gi_wp2_with (fail)
      refine done_mk ?_ rfl (Ext.refl _)
      rfl
    case oaq3r7 =>
      intro x U hU
      simp only [depV, OneIn, dstOf, readDst, asBool, VP.is, VP.any, VP.row, VP.ptr, VP.blk, VP.ex, VP.and, VP.of, List.getD_cons_zero, List.getD_cons_succ]
      intro d6
      simp only [d6]
      gi_wp2_with (fail)
      refine done_mk ?_ rfl (Ext.refl _)
      rfl
    case oaq3r8 =>
      intro x U hU
      simp only [depV, OneIn, dstOf, readDst, asBool, VP.is, VP.any, VP.row, VP.ptr, VP.blk, VP.ex, VP.and, VP.of, List.getD_cons_zero, List.getD_cons_succ]
      intro d7
      simp only [d7]
      have q0 := (B1.ext hU).a
      gi_wp2_with (fail)
      refine done_mk ?_ rfl (Ext.refl _)
      rfl
    case oaq3r9 =>
      intro x U hU
      simp only [depV, OneIn, dstOf, readDst, asBool, VP.is, VP.any, VP.row, VP.ptr, VP.blk, VP.ex, VP.and, VP.of, List.getD_cons_zero, List.getD_cons_succ]
      gi_wp2_with (fail)
      refine done_mk ?_ rfl (Ext.refl _)
      rfl
    case oaq3r10 =>
      intro x U hU
      simp only [depV, OneIn, dstOf, readDst, asBool, VP.is, VP.any, VP.row, VP.ptr, VP.blk, VP.ex, VP.and, VP.of, List.getD_cons_zero, List.getD_cons_succ]
      intro d4
      intro d8
      intro d9
      simp only [d4, d8, d9]
      have ev := HEV.out
      gi_wp2_with (refine ⟨trivial, ?_⟩; refine ((callsIn_wide (n := 0)).2 (HD.out _)).mono ?_; rintro e w2 ⟨rfl, rfl⟩)
      refine done_mk ?_ rfl (Ext.refl _)
      rfl
    case oaq3r11 =>
      intro x U hU
      simp only [depV, OneIn, dstOf, readDst, asBool, VP.is, VP.any, VP.row, VP.ptr, VP.blk, VP.ex, VP.and, VP.of, List.getD_cons_zero, List.getD_cons_succ]
      intro d0
      simp only [d0]
      gi_wp2_with (fail)
      refine done_mk ?_ rfl (Ext.refl _)
      rfl
    case oaq3r12 =>
      intro x U hU
      simp only [depV, OneIn, dstOf, readDst, asBool, VP.is, VP.any, VP.row, VP.ptr, VP.blk, VP.ex, VP.and, VP.of, List.getD_cons_zero, List.getD_cons_succ]
      intro d11
      simp only [d11]
      gi_wp2_with (fail)
      refine done_mk ?_ rfl (Ext.refl _)
      rfl
    case finaq3r =>
      intro x U hU
      simp only [allV, depV, One, dstOf, readDst, asBool, VP.is, VP.any, VP.row, VP.ptr, VP.blk, VP.ex, VP.and, VP.of, List.getD_cons_zero, List.getD_cons_succ]
      intro d0
      intro d1
      intro d2
      intro d3
      intro d4
      intro d5
      intro d6
      intro d7
      intro d8
      intro d9
      intro d10
      intro d11
      intro d12
      simp only [d0, d1, d2, d3, d4, d5, d6, d7, d8, d9, d10, d11, d12]
      clear d0 d1 d2 d3 d4 d5 d6 d7 d8 d9 d10 d11 d12
      have z := (B1.ext hU).fz 0
      have z1 := (B1.ext hU).a
      have hu := (Upd.of_ext (g := g) (hx.trans hU)).set 0 (.int .u32 (doE kk s.a b))
      have B2 := (B1.ext hU).setA (doE kk s.a b)
      clear B1 hU
      gi_wp2_with fail
      go_end0
      exact ⟨rfl, hu, B2⟩
  by_cases c3 : co = 100
  · subst c3
    have b1 : decide ((31 : Int) < b) = false := by have := HH.out.2.2; simpa using this
    clear HH
    go_enter Try.func88, Try.ntmps88
    go_wp2_with fail
    generalize W.alloc (.cells #[.int .u16 100, .int .u8 jt, .int .u8 jf, .int .u32 k] 43) = W0 at *
    refine (HS.out W0 HB.out).mono ?_
    rintro e w1 ⟨rfl, hx1⟩
    have q0 := (HI.out.ext hx1).cell 0
    have B1 := HB.out.ext hx1
    have HI1 := Lib.hid (HI.out.ext hx1)
    replace hx := hx.trans hx1
    clear HI HB HS hx1
    go_wp2_with fail
    clear q0
    have hidx := pair_do (prC.getD kk 0) (.func (.func (prF kk)) #[] #[]) .nilFunc
    generalize prC.getD kk 0 = pcode at *
    generalize prF kk = F at *
    refine (wpIn_wide (n := 1)).1 ?_
    refine wpIn_region_last (fun _ => trivial) rfl [.is ?vaq4r0, .is ?vaq4r1, .is ?vaq4r2, .is (.agg #[.int .u16 pcode, .func (.func F) #[] #[], .nilFunc]), .is ?vaq4r4, .is ?vaq4r5, .is ?vaq4r6, .is ?vaq4r7, .is ?vaq4r8, .is ?vaq4r9, .is ?vaq4r10, .is ?vaq4r11, .is ?vaq4r12] (by kernel_rfl) (by kernel_rfl) (by kernel_rfl) ?Aaq4r ?hAaq4r ⟨?oaq4r0, ?oaq4r1, ?oaq4r2, ?oaq4r3, ?oaq4r4, ?oaq4r5, ?oaq4r6, ?oaq4r7, ?oaq4r8, ?oaq4r9, ?oaq4r10, ?oaq4r11, ?oaq4r12, trivial⟩ _ rfl rfl ?finaq4r
    case hAaq4r => (intro x; simp only [fillOps, Act.put, List.setIfInBounds_toArray, List.set_cons_zero, List.set_cons_succ, Nat.reduceAdd]; rfl)
    case oaq4r0 =>
      intro x U hU
      simp only [depV, OneIn, dstOf, readDst, asBool, VP.is, VP.any, VP.row, VP.ptr, VP.blk, VP.ex, VP.and, VP.of, List.getD_cons_zero, List.getD_cons_succ]
      gi_wp2_with (fail)
      refine done_mk ?_ rfl (Ext.refl _)
      rfl
    case oaq4r1 =>
      intro x U hU
      simp only [depV, OneIn, dstOf, readDst, asBool, VP.is, VP.any, VP.row, VP.ptr, VP.blk, VP.ex, VP.and, VP.of, List.getD_cons_zero, List.getD_cons_succ]
      gi_wp2_with (fail)
      refine done_mk ?_ rfl (Ext.refl _)
      rfl
    case oaq4r2 =>
      intro x U hU
      simp only [depV, OneIn, dstOf, readDst, asBool, VP.is, VP.any, VP.row, VP.ptr, VP.blk, VP.ex, VP.and, VP.of, List.getD_cons_zero, List.getD_cons_succ]
      intro d1
      simp only [d1]
      have q0 := (HI1.out.ext hU).cell 0
      gi_wp2_with (fail)
      refine done_mk ?_ rfl (Ext.refl _)
      rfl
    case oaq4r3 =>
      intro x U hU
      simp only [depV, OneIn, dstOf, readDst, asBool, VP.is, VP.any, VP.row, VP.ptr, VP.blk, VP.ex, VP.and, VP.of, List.getD_cons_zero, List.getD_cons_succ]
      intro d2
      simp only [d2]
      gi_wp2_with (refine ⟨trivial, ?_⟩; gi_at_call 96; refine ((callsIn_wide (n := 0)).2 (HY.out _)).mono ?_; rintro e w2 ⟨rfl, hx2⟩)
      refine done_mk ?_ rfl (hx2)
      rfl
    case oaq4r4 =>
      intro x U hU
      simp only [depV, OneIn, dstOf, readDst, asBool, VP.is, VP.any, VP.row, VP.ptr, VP.blk, VP.ex, VP.and, VP.of, List.getD_cons_zero, List.getD_cons_succ]
      intro d3
      simp only [d3]
      gi_wp2_with (fail)
      refine done_mk ?_ rfl (Ext.refl _)
      rfl
    case oaq4r5 =>
      intro x U hU
      simp only [depV, OneIn, dstOf, readDst, asBool, VP.is, VP.any, VP.row, VP.ptr, VP.blk, VP.ex, VP.and, VP.of, List.getD_cons_zero, List.getD_cons_succ]
      gi_wp2_with (fail)
      refine done_mk ?_ rfl (Ext.refl _)
      rfl
    case oaq4r6 =>
      intro x U hU
      simp only [depV, OneIn, dstOf, readDst, asBool, VP.is, VP.any, VP.row, VP.ptr, VP.blk, VP.ex, VP.and, VP.of, List.getD_cons_zero, List.getD_cons_succ]
      intro d5
      simp only [d5]
      gi_wp2_with (fail)
      refine done_mk ?_ rfl (Ext.refl _)
      rfl
    case oaq4r7 =>
      intro x U hU
      simp only [depV, OneIn, dstOf, readDst, asBool, VP.is, VP.any, VP.row, VP.ptr, VP.blk, VP.ex, VP.and, VP.of, List.getD_cons_zero, List.getD_cons_succ]
      intro d6
      simp only [d6]
      gi_wp2_with (fail)
      refine done_mk ?_ rfl (Ext.refl _)
      rfl
    case oaq4r8 =>
      intro x U hU
      simp only [depV, OneIn, dstOf, readDst, asBool, VP.is, VP.any, VP.row, VP.ptr, VP.blk, VP.ex, VP.and, VP.of, List.getD_cons_zero, List.getD_cons_succ]
      intro d7
      simp only [d7]
      have q0 := (B1.ext hU).a
      gi_wp2_with (fail)
      refine done_mk ?_ rfl (Ext.refl _)
      rfl
    case oaq4r9 =>
      intro x U hU
      simp only [depV, OneIn, dstOf, readDst, asBool, VP.is, VP.any, VP.row, VP.ptr, VP.blk, VP.ex, VP.and, VP.of, List.getD_cons_zero, List.getD_cons_succ]
      gi_wp2_with (fail)
      refine done_mk ?_ rfl (Ext.refl _)
      rfl
    case oaq4r10 =>
      intro x U hU
      simp only [depV, OneIn, dstOf, readDst, asBool, VP.is, VP.any, VP.row, VP.ptr, VP.blk, VP.ex, VP.and, VP.of, List.getD_cons_zero, List.getD_cons_succ]
      intro d4
      intro d8
      intro d9
      simp only [d4, d8, d9]
      have ev := HEV.out
      gi_wp2_with (refine ⟨trivial, ?_⟩; refine ((callsIn_wide (n := 0)).2 (HD.out _)).mono ?_; rintro e w2 ⟨rfl, rfl⟩)
      refine done_mk ?_ rfl (Ext.refl _)
      rfl
    case oaq4r11 =>
      intro x U hU
      simp only [depV, OneIn, dstOf, readDst, asBool, VP.is, VP.any, VP.row, VP.ptr, VP.blk, VP.ex, VP.and, VP.of, List.getD_cons_zero, List.getD_cons_succ]
      intro d0
      simp only [d0]
      gi_wp2_with (fail)
      refine done_mk ?_ rfl (Ext.refl _)
      rfl
    case oaq4r12 =>
      intro x U hU
      simp only [depV, OneIn, dstOf, readDst, asBool, VP.is, VP.any, VP.row, VP.ptr, VP.blk, VP.ex, VP.and, VP.of, List.getD_cons_zero, List.getD_cons_succ]
      intro d11
      simp only [d11]
      gi_wp2_with (fail)
      refine done_mk ?_ rfl (Ext.refl _)
      rfl
    case finaq4r =>
      intro x U hU
      simp only [allV, depV, One, dstOf, readDst, asBool, VP.is, VP.any, VP.row, VP.ptr, VP.blk, VP.ex, VP.and, VP.of, List.getD_cons_zero, List.getD_cons_succ]
      intro d0
      intro d1
      intro d2
      intro d3
      intro d4
      intro d5
      intro d6
      intro d7
      intro d8
      intro d9
      intro d10
      intro d11
      intro d12
      simp only [d0, d1, d2, d3, d4, d5, d6, d7, d8, d9, d10, d11, d12]
      clear d0 d1 d2 d3 d4 d5 d6 d7 d8 d9 d10 d11 d12
      have z := (B1.ext hU).fz 0
      have z1 := (B1.ext hU).a
      have hu := (Upd.of_ext (g := g) (hx.trans hU)).set 0 (.int .u32 (doE kk s.a b))
      have B2 := (B1.ext hU).setA (doE kk s.a b)
      clear B1 hU
      gi_wp2_with fail
      go_end0
      exact ⟨rfl, hu, B2⟩
  by_cases c4 : co = 116
  · subst c4
    have b1 : decide ((31 : Int) < b) = false := by have := HH.out.2.2; simpa using this
    clear HH
    go_enter Try.func88, Try.ntmps88
    go_wp2_with fail
    generalize W.alloc (.cells #[.int .u16 116, .int .u8 jt, .int .u8 jf, .int .u32 k] 43) = W0 at *
    refine (HS.out W0 HB.out).mono ?_
    rintro e w1 ⟨rfl, hx1⟩
    have q0 := (HI.out.ext hx1).cell 0
    have B1 := HB.out.ext hx1
    have HI1 := Lib.hid (HI.out.ext hx1)
    replace hx := hx.trans hx1
    clear HI HB HS hx1
    go_wp2_with fail
    clear q0
    have hidx := pair_do (prC.getD kk 0) (.func (.func (prF kk)) #[] #[]) .nilFunc
    generalize prC.getD kk 0 = pcode at *
    generalize prF kk = F at *
    refine (wpIn_wide (n := 1)).1 ?_
    refine wpIn_region_last (fun _ => trivial) rfl [.is ?vaq5r0, .is ?vaq5r1, .is ?vaq5r2, .is (.agg #[.int .u16 pcode, .func (.func F) #[] #[], .nilFunc]), .is ?vaq5r4, .is ?vaq5r5, .is ?vaq5r6, .is ?vaq5r7, .is ?vaq5r8, .is ?vaq5r9, .is ?vaq5r10, .is ?vaq5r11, .is ?vaq5r12] (by kernel_rfl) (by kernel_rfl) (by kernel_rfl) ?Aaq5r ?hAaq5r ⟨?oaq5r0, ?oaq5r1, ?oaq5r2, ?oaq5r3, ?oaq5r4, ?oaq5r5, ?oaq5r6, ?oaq5r7, ?oaq5r8, ?oaq5r9, ?oaq5r10, ?oaq5r11, ?oaq5r12, trivial⟩ _ rfl rfl ?finaq5r
    case hAaq5r => (intro x; simp only [fillOps, Act.put, List.setIfInBounds_toArray, List.set_cons_zero, List.set_cons_succ, Nat.reduceAdd]; rfl)
    case oaq5r0 =>
      intro x U hU
      simp only [depV, OneIn, dstOf, readDst, asBool, VP.is, VP.any, VP.row, VP.ptr, VP.blk, VP.ex, VP.and, VP.of, List.getD_cons_zero, List.getD_cons_succ]
      gi_wp2_with (fail)
      refine done_mk ?_ rfl (Ext.refl _)
      rfl
    case oaq5r1 =>
      intro x U hU
      simp only [depV, OneIn, dstOf, readDst, asBool, VP.is, VP.any, VP.row, VP.ptr, VP.blk, VP.ex, VP.and, VP.of, List.getD_cons_zero, List.getD_cons_succ]
      gi_wp2_with (fail)
      refine done_mk ?_ rfl (Ext.refl _)
      rfl
    case oaq5r2 =>
      intro x U hU
      simp only [depV, OneIn, dstOf, readDst, asBool, VP.is, VP.any, VP.row, VP.ptr, VP.blk, VP.ex, VP.and, VP.of, List.getD_cons_zero, List.getD_cons_succ]
      intro d1
      simp only [d1]
      have q0 := (HI1.out.ext hU).cell 0
      gi_wp2_with (fail)
      refine done_mk ?_ rfl (Ext.refl _)
      rfl
    case oaq5r3 =>
      intro x U hU
      simp only [depV, OneIn, dstOf, readDst, asBool, VP.is, VP.any, VP.row, VP.ptr, VP.blk, VP.ex, VP.and, VP.of, List.getD_cons_zero, List.getD_cons_succ]
      intro d2
      simp only [d2]
      gi_wp2_with (refine ⟨trivial, ?_⟩; gi_at_call 96; refine ((callsIn_wide (n := 0)).2 (HY.out _)).mono ?_; rintro e w2 ⟨rfl, hx2⟩)
      refine done_mk ?_ rfl (hx2)
      rfl
    case oaq5r4 =>
      intro x U hU
      simp only [depV, OneIn, dstOf, readDst, asBool, VP.is, VP.any, VP.row, VP.ptr, VP.blk, VP.ex, VP.and, VP.of, List.getD_cons_zero, List.getD_cons_succ]
      intro d3
      simp only [d3]
      gi_wp2_with (fail)
      refine done_mk ?_ rfl (Ext.refl _)
      rfl
    case oaq5r5 =>
      intro x U hU
      simp only [depV, OneIn, dstOf, readDst, asBool, VP.is, VP.any, VP.row, VP.ptr, VP.blk, VP.ex, VP.and, VP.of, List.getD_cons_zero, List.getD_cons_succ]
      gi_wp2_with (fail)
      refine done_mk ?_ rfl (Ext.refl _)
      rfl
    case oaq5r6 =>
      intro x U hU
      simp only [depV, OneIn, dstOf, readDst, asBool, VP.is, VP.any, VP.row, VP.ptr, VP.blk, VP.ex, VP.and, VP.of, List.getD_cons_zero, List.getD_cons_succ]
      intro d5
      simp only [d5]
      gi_wp2_with (fail)
      refine done_mk ?_ rfl (Ext.refl _)
      rfl
    case oaq5r7 =>
      intro x U hU
      simp only [depV, OneIn, dstOf, readDst, asBool, VP.is, VP.any, VP.row, VP.ptr, VP.blk, VP.ex, VP.and, VP.of, List.getD_cons_zero, List.getD_cons_succ]
      intro d6
      simp only [d6]
      gi_wp2_with (fail)
      refine done_mk ?_ rfl (Ext.refl _)
      rfl
    case oaq5r8 =>
      intro x U hU
      simp only [depV, OneIn, dstOf, readDst, asBool, VP.is, VP.any, VP.row, VP.ptr, VP.blk, VP.ex, VP.and, VP.of, List.getD_cons_zero, List.getD_cons_succ]
      intro d7
      simp only [d7]
      have q0 := (B1.ext hU).a
      gi_wp2_with (fail)
      refine done_mk ?_ rfl (Ext.refl _)
      rfl
    case oaq5r9 =>
      intro x U hU
      simp only [depV, OneIn, dstOf, readDst, asBool, VP.is, VP.any, VP.row, VP.ptr, VP.blk, VP.ex, VP.and, VP.of, List.getD_cons_zero, List.getD_cons_succ]
      gi_wp2_with (fail)
      refine done_mk ?_ rfl (Ext.refl _)
      rfl
    case oaq5r10 =>
      intro x U hU
      simp only [depV, OneIn, dstOf, readDst, asBool, VP.is, VP.any, VP.row, VP.ptr, VP.blk, VP.ex, VP.and, VP.of, List.getD_cons_zero, List.getD_cons_succ]
      intro d4
      intro d8
      intro d9
      simp only [d4, d8, d9]
      have ev := HEV.out
      gi_wp2_with (refine ⟨trivial, ?_⟩; refine ((callsIn_wide (n := 0)).2 (HD.out _)).mono ?_; rintro e w2 ⟨rfl, rfl⟩)
      refine done_mk ?_ rfl (Ext.refl _)
      rfl
    case oaq5r11 =>
      intro x U hU
      simp only [depV, OneIn, dstOf, readDst, asBool, VP.is, VP.any, VP.row, VP.ptr, VP.blk, VP.ex, VP.and, VP.of, List.getD_cons_zero, List.getD_cons_succ]
      intro d0
      simp only [d0]
      gi_wp2_with (fail)
      refine done_mk ?_ rfl (Ext.refl _)
      rfl
    case oaq5r12 =>
      intro x U hU
      simp only [depV, OneIn, dstOf, readDst, asBool, VP.is, VP.any, VP.row, VP.ptr, VP.blk, VP.ex, VP.and, VP.of, List.getD_cons_zero, List.getD_cons_succ]
      intro d11
      simp only [d11]
      gi_wp2_with (fail)
      refine done_mk ?_ rfl (Ext.refl _)
      rfl
    case finaq5r =>
      intro x U hU
      simp only [allV, depV, One, dstOf, readDst, asBool, VP.is, VP.any, VP.row, VP.ptr, VP.blk, VP.ex, VP.and, VP.of, List.getD_cons_zero, List.getD_cons_succ]
      intro d0
      intro d1
      intro d2
      intro d3
      intro d4
      intro d5
      intro d6
      intro d7
      intro d8
      intro d9
      intro d10
      intro d11
      intro d12
      simp only [d0, d1, d2, d3, d4, d5, d6, d7, d8, d9, d10, d11, d12]
      clear d0 d1 d2 d3 d4 d5 d6 d7 d8 d9 d10 d11 d12
      have z := (B1.ext hU).fz 0
      have z1 := (B1.ext hU).a
      have hu := (Upd.of_ext (g := g) (hx.trans hU)).set 0 (.int .u32 (doE kk s.a b))
      have B2 := (B1.ext hU).setA (doE kk s.a b)
      clear B1 hU
      gi_wp2_with fail
      go_end0
      exact ⟨rfl, hu, B2⟩
  have d1 : (co == 52) = false := by simpa using c1
  have d2 : (co == 60) = false := by simpa using c2
  have d3 : (co == 100) = false := by simpa using c3
  have d4 : (co == 116) = false := by simpa using c4
  clear c1 c2 c3 c4 HH
  go_enter Try.func88, Try.ntmps88
  go_wp2_with fail
  generalize W.alloc (.cells #[.int .u16 co, .int .u8 jt, .int .u8 jf, .int .u32 k] 43) = W0 at *
  refine (HS.out W0 HB.out).mono ?_
  rintro e w1 ⟨rfl, hx1⟩
  have q0 := (HI.out.ext hx1).cell 0
  have B1 := HB.out.ext hx1
  have HI1 := Lib.hid (HI.out.ext hx1)
  replace hx := hx.trans hx1
  clear HI HB HS hx1
  go_wp2_with fail
  clear q0
  have hidx := pair_do (prC.getD kk 0) (.func (.func (prF kk)) #[] #[]) .nilFunc
  generalize prC.getD kk 0 = pcode at *
  generalize prF kk = F at *
  refine (wpIn_wide (n := 1)).1 ?_
  refine wpIn_region_last (fun _ => trivial) rfl [.is ?vaq6r0, .is ?vaq6r1, .is ?vaq6r2, .is (.agg #[.int .u16 pcode, .func (.func F) #[] #[], .nilFunc]), .is ?vaq6r4, .is ?vaq6r5, .is ?vaq6r6, .is ?vaq6r7, .is ?vaq6r8, .is ?vaq6r9, .is ?vaq6r10, .is ?vaq6r11, .is ?vaq6r12] (by kernel_rfl) (by kernel_rfl) (by kernel_rfl) ?Aaq6r ?hAaq6r ⟨?oaq6r0, ?oaq6r1, ?oaq6r2, ?oaq6r3, ?oaq6r4, ?oaq6r5, ?oaq6r6, ?oaq6r7, ?oaq6r8, ?oaq6r9, ?oaq6r10, ?oaq6r11, ?oaq6r12, trivial⟩ _ rfl rfl ?finaq6r
  case hAaq6r => (intro x; simp only [fillOps, Act.put, List.setIfInBounds_toArray, List.set_cons_zero, List.set_cons_succ, Nat.reduceAdd]; rfl)
  case oaq6r0 =>
    intro x U hU
    simp only [depV, OneIn, dstOf, readDst, asBool, VP.is, VP.any, VP.row, VP.ptr, VP.blk, VP.ex, VP.and, VP.of, List.getD_cons_zero, List.getD_cons_succ]
    gi_wp2_with (fail)
    refine done_mk ?_ rfl (Ext.refl _)
    rfl
  case oaq6r1 =>
    intro x U hU
    simp only [depV, OneIn, dstOf, readDst, asBool, VP.is, VP.any, VP.row, VP.ptr, VP.blk, VP.ex, VP.and, VP.of, List.getD_cons_zero, List.getD_cons_succ]
    gi_wp2_with (fail)
    refine done_mk ?_ rfl (Ext.refl _)
    rfl
  case oaq6r2 =>
    intro x U hU
    simp only [depV, OneIn, dstOf, readDst, asBool, VP.is, VP.any, VP.row, VP.ptr, VP.blk, VP.ex, VP.and, VP.of, List.getD_cons_zero, List.getD_cons_succ]
    intro d1
    simp only [d1]
    have q0 := (HI1.out.ext hU).cell 0
    gi_wp2_with (fail)
    refine done_mk ?_ rfl (Ext.refl _)
    rfl
  case oaq6r3 =>
    intro x U hU
    simp only [depV, OneIn, dstOf, readDst, asBool, VP.is, VP.any, VP.row, VP.ptr, VP.blk, VP.ex, VP.and, VP.of, List.getD_cons_zero, List.getD_cons_succ]
    intro d2
    simp only [d2]
    gi_wp2_with (refine ⟨trivial, ?_⟩; gi_at_call 96; refine ((callsIn_wide (n := 0)).2 (HY.out _)).mono ?_; rintro e w2 ⟨rfl, hx2⟩)
    refine done_mk ?_ rfl (hx2)
    rfl
  case oaq6r4 =>
    intro x U hU
    simp only [depV, OneIn, dstOf, readDst, asBool, VP.is, VP.any, VP.row, VP.ptr, VP.blk, VP.ex, VP.and, VP.of, List.getD_cons_zero, List.getD_cons_succ]
    intro d3
    simp only [d3]
    gi_wp2_with (fail)
    refine done_mk ?_ rfl (Ext.refl _)
    rfl
  case oaq6r5 =>
    intro x U hU
    simp only [depV, OneIn, dstOf, readDst, asBool, VP.is, VP.any, VP.row, VP.ptr, VP.blk, VP.ex, VP.and, VP.of, List.getD_cons_zero, List.getD_cons_succ]
    gi_wp2_with (fail)
    refine done_mk ?_ rfl (Ext.refl _)
    rfl
  case oaq6r6 =>
    intro x U hU
    simp only [depV, OneIn, dstOf, readDst, asBool, VP.is, VP.any, VP.row, VP.ptr, VP.blk, VP.ex, VP.and, VP.of, List.getD_cons_zero, List.getD_cons_succ]
    intro d5
    simp only [d5]
    gi_wp2_with (fail)
    refine done_mk ?_ rfl (Ext.refl _)
    rfl
  case oaq6r7 =>
    intro x U hU
    simp only [depV, OneIn, dstOf, readDst, asBool, VP.is, VP.any, VP.row, VP.ptr, VP.blk, VP.ex, VP.and, VP.of, List.getD_cons_zero, List.getD_cons_succ]
    intro d6
    simp only [d6]
    gi_wp2_with (fail)
    refine done_mk ?_ rfl (Ext.refl _)
    rfl
  case oaq6r8 =>
    intro x U hU
    simp only [depV, OneIn, dstOf, readDst, asBool, VP.is, VP.any, VP.row, VP.ptr, VP.blk, VP.ex, VP.and, VP.of, List.getD_cons_zero, List.getD_cons_succ]
    intro d7
    simp only [d7]
    have q0 := (B1.ext hU).a
    gi_wp2_with (fail)
    refine done_mk ?_ rfl (Ext.refl _)
    rfl
  case oaq6r9 =>
    intro x U hU
    simp only [depV, OneIn, dstOf, readDst, asBool, VP.is, VP.any, VP.row, VP.ptr, VP.blk, VP.ex, VP.and, VP.of, List.getD_cons_zero, List.getD_cons_succ]
    gi_wp2_with (fail)
    refine done_mk ?_ rfl (Ext.refl _)
    rfl
  case oaq6r10 =>
    intro x U hU
    simp only [depV, OneIn, dstOf, readDst, asBool, VP.is, VP.any, VP.row, VP.ptr, VP.blk, VP.ex, VP.and, VP.of, List.getD_cons_zero, List.getD_cons_succ]
    intro d4
    intro d8
    intro d9
    simp only [d4, d8, d9]
    have ev := HEV.out
    gi_wp2_with (refine ⟨trivial, ?_⟩; refine ((callsIn_wide (n := 0)).2 (HD.out _)).mono ?_; rintro e w2 ⟨rfl, rfl⟩)
    refine done_mk ?_ rfl (Ext.refl _)
    rfl
  case oaq6r11 =>
    intro x U hU
    simp only [depV, OneIn, dstOf, readDst, asBool, VP.is, VP.any, VP.row, VP.ptr, VP.blk, VP.ex, VP.and, VP.of, List.getD_cons_zero, List.getD_cons_succ]
    intro d0
    simp only [d0]
    gi_wp2_with (fail)
    refine done_mk ?_ rfl (Ext.refl _)
    rfl
  case oaq6r12 =>
    intro x U hU
    simp only [depV, OneIn, dstOf, readDst, asBool, VP.is, VP.any, VP.row, VP.ptr, VP.blk, VP.ex, VP.and, VP.of, List.getD_cons_zero, List.getD_cons_succ]
    intro d11
    simp only [d11]
    gi_wp2_with (fail)
    refine done_mk ?_ rfl (Ext.refl _)
    rfl
  case finaq6r =>
    intro x U hU
    simp only [allV, depV, One, dstOf, readDst, asBool, VP.is, VP.any, VP.row, VP.ptr, VP.blk, VP.ex, VP.and, VP.of, List.getD_cons_zero, List.getD_cons_succ]
    intro d0
    intro d1
    intro d2
    intro d3
    intro d4
    intro d5
    intro d6
    intro d7
    intro d8
    intro d9
    intro d10
    intro d11
    intro d12
    simp only [d0, d1, d2, d3, d4, d5, d6, d7, d8, d9, d10, d11, d12]
    clear d0 d1 d2 d3 d4 d5 d6 d7 d8 d9 d10 d11 d12
    have z := (B1.ext hU).fz 0
    have z1 := (B1.ext hU).a
    have hu := (Upd.of_ext (g := g) (hx.trans hU)).set 0 (.int .u32 (doE kk s.a b))
    have B2 := (B1.ext hU).setA (doE kk s.a b)
    clear B1 hU
    gi_wp2_with fail
    go_end0
    exact ⟨rfl, hu, B2⟩
end Go.Proofs.Ytjlhfmedaandeaa

/- vm: jump. -/
namespace Go.Proofs.Ytjlhfmedaandeaa
open Go.RowKit Go.ChangeShapes Go.WideShapes
set_option linter.unusedVariables false
set_option linter.unusedSimpArgs false

theorem jump_ja (jt jf k : Int) (hk : U32 k) (g : Nat) (W : World) :
    Calls Try.prog 89 #[.pointer (some ⟨g, 0, none⟩), .agg #[.int .u16 5, .int .u8 jt, .int .u8 jf, .int .u32 k]] W fun e w' => e = .returned (.int .i64 k) ∧ Ext W w' := by
  have hx := (Ext.refl W).alloc (.cells #[.int .u16 5, .int .u8 jt, .int .u8 jf, .int .u32 k] 43)
  have s1 : IntKind.i64.wrap k = k := IntWalk.i64_in _ (by have := hk.1; have := hk.2; omega)
  clear hk
  go_enter Try.func89, Try.ntmps89
  go_wp2
  go_ret
  exact ⟨rfl, hx⟩
set_option maxHeartbeats 1000000 in
theorem jump_op (i : Ins) (hi : i.ok) (g : Nat) (d : Dat) (s : Vm) (ho : s.ok) (kk : Nat) (hk : kk < 4) (hby : byI i.code = 10 + kk) (hb : U32 (secondE i s)) (h1 : i.code ≠ 5) (W : World) (B : MB W g d s) :
    Calls Try.prog 89 #[.pointer (some ⟨g, 0, none⟩), i.val] W fun e w' => e = .returned (.int .i64 (if hoE kk s.a (secondE i s) then i.jt else i.jf)) ∧ Ext W w' := by
  have HS := Lib.hid (fun W B => second_any i g d s W B)
  have hx := (Ext.refl W).alloc (.cells #[.int .u16 i.code, .int .u8 i.jt, .int .u8 i.jf, .int .u32 i.k] 43)
  have HI := Lib.hid (Blk.new W 43 #[.int .u16 i.code, .int .u8 i.jt, .int .u8 i.jf, .int .u32 i.k])
  have HB := Lib.hid (B.ext hx)
  have HY := Lib.hid (fun W => by_vm i.code (10 + kk) (by omega) hby W)
  have HD := Lib.hid (fun W => pr_ho kk hk s.a (secondE i s) ho.a hb W)
  have HEV := Lib.hid (pr_enters (10 + kk) (by omega))
  have ed : prD (10 + kk) = .nilFunc := by unfold prD; rw [if_neg (by omega)]
  have eh : prH (10 + kk) = .func (.func (prF (10 + kk))) #[] #[] := by unfold prH; rw [if_neg (by omega)]
  rw [ed, eh] at HY
  have j0 := hi.2.1.1
  have j1 : i.jt < 256 := hi.2.1.2
  have f0 := hi.2.2.1.1
  have f1 : i.jf < 256 := hi.2.2.1.2
  have d1 : (i.code == 5) = false := by simpa using h1
  clear ed eh hby hb B ho h1
  have hidx := pair_ho (prC.getD (10 + kk) 0) .nilFunc (.func (.func (prF (10 + kk))) #[] #[])
  generalize prC.getD (10 + kk) 0 = pcode at *
  generalize prF (10 + kk) = F at *
  generalize hoE kk s.a (secondE i s) = hh at *
  generalize secondE i s = b at *
  unfold Ins.val Ins.cells at *
  obtain ⟨co, jt, jf, k⟩ := i
  dsimp only at *
  go_enter Try.func89, Try.ntmps89
  go_wp2_with fail
  generalize W.alloc (.cells #[.int .u16 co, .int .u8 jt, .int .u8 jf, .int .u32 k] 43) = W0 at *
  refine wp_region_mono rfl [.is ?vaq7r0, .is ?vaq7r1, .is (.agg #[.int .u16 pcode, .nilFunc, .func (.func F) #[] #[]]), .is ?vaq7r3, .is ?vaq7r4, .is ?vaq7r5, .is ?vaq7r6, .is ?vaq7r7, .is ?vaq7r8, .is (.agg #[.int .u16 co, .int .u8 jt, .int .u8 jf, .int .u32 k]), .is ?vaq7r10, .is (.bool hh), .is ?vaq7r12] (by kernel_rfl) (by kernel_rfl) ?Aaq7r ?hAaq7r ⟨?oaq7r0, ?oaq7r1, ?oaq7r2, ?oaq7r3, ?oaq7r4, ?oaq7r5, ?oaq7r6, ?oaq7r7, ?oaq7r8, ?oaq7r9, ?oaq7r10, ?oaq7r11, ?oaq7r12, trivial⟩ ?finaq7r
  case hAaq7r => (intro x; simp only [fillOps, Act.put, List.setIfInBounds_toArray, List.set_cons_zero, List.set_cons_succ, Nat.reduceAdd]; rfl)
  case oaq7r0 =>
    intro x U hU
    simp only [depV, One, dstOf, readDst, asBool, VP.is, VP.any, VP.row, VP.ptr, VP.blk, VP.ex, VP.and, VP.of, List.getD_cons_zero, List.getD_cons_succ]
    go_wp2_with (fail)
    refine done_mk ?_ rfl (Ext.refl _)
    rfl
  case oaq7r1 =>
    intro x U hU
    simp only [depV, One, dstOf, readDst, asBool, VP.is, VP.any, VP.row, VP.ptr, VP.blk, VP.ex, VP.and, VP.of, List.getD_cons_zero, List.getD_cons_succ]
    intro d0
    simp only [d0]
    have q0 := (HI.out.ext hU).cell 0
    go_wp2_with (fail)
    refine done_mk ?_ rfl (Ext.refl _)
    rfl
  case oaq7r2 =>
    intro x U hU
    simp only [depV, One, dstOf, readDst, asBool, VP.is, VP.any, VP.row, VP.ptr, VP.blk, VP.ex, VP.and, VP.of, List.getD_cons_zero, List.getD_cons_succ]
    intro d1
    simp only [d1]
    go_wp2_with (refine (HY.out _).mono ?_; rintro e w2 ⟨rfl, hx2⟩)
    refine done_mk ?_ rfl (hx2)
    rfl
  case oaq7r3 =>
    intro x U hU
    simp only [depV, One, dstOf, readDst, asBool, VP.is, VP.any, VP.row, VP.ptr, VP.blk, VP.ex, VP.and, VP.of, List.getD_cons_zero, List.getD_cons_succ]
    intro d2
    simp only [d2]
    go_wp2_with (fail)
    refine done_mk ?_ rfl (Ext.refl _)
    rfl
  case oaq7r4 =>
    intro x U hU
    simp only [depV, One, dstOf, readDst, asBool, VP.is, VP.any, VP.row, VP.ptr, VP.blk, VP.ex, VP.and, VP.of, List.getD_cons_zero, List.getD_cons_succ]
    go_wp2_with (fail)
    refine done_mk ?_ rfl (Ext.refl _)
    rfl
  case oaq7r5 =>
    intro x U hU
    simp only [depV, One, dstOf, readDst, asBool, VP.is, VP.any, VP.row, VP.ptr, VP.blk, VP.ex, VP.and, VP.of, List.getD_cons_zero, List.getD_cons_succ]
    intro d4
    simp only [d4]
    go_wp2_with (fail)
    refine done_mk ?_ rfl (Ext.refl _)
    rfl
  case oaq7r6 =>
    intro x U hU
    simp only [depV, One, dstOf, readDst, asBool, VP.is, VP.any, VP.row, VP.ptr, VP.blk, VP.ex, VP.and, VP.of, List.getD_cons_zero, List.getD_cons_succ]
    intro d5
    simp only [d5]
    go_wp2_with (fail)
    refine done_mk ?_ rfl (Ext.refl _)
    rfl
  case oaq7r7 =>
    intro x U hU
    simp only [depV, One, dstOf, readDst, asBool, VP.is, VP.any, VP.row, VP.ptr, VP.blk, VP.ex, VP.and, VP.of, List.getD_cons_zero, List.getD_cons_succ]
    intro d6
    simp only [d6]
    have q0 := (HB.out.ext hU).a
    go_wp2_with (fail)
    refine done_mk ?_ rfl (Ext.refl _)
    rfl
  case oaq7r8 =>
    intro x U hU
    simp only [depV, One, dstOf, readDst, asBool, VP.is, VP.any, VP.row, VP.ptr, VP.blk, VP.ex, VP.and, VP.of, List.getD_cons_zero, List.getD_cons_succ]
    go_wp2_with (fail)
    refine done_mk ?_ rfl (Ext.refl _)
    rfl
  case oaq7r9 =>
    intro x U hU
    simp only [depV, One, dstOf, readDst, asBool, VP.is, VP.any, VP.row, VP.ptr, VP.blk, VP.ex, VP.and, VP.of, List.getD_cons_zero, List.getD_cons_succ]
    have q0 := (HI.out.ext hU).cell 0
    have q1 := (HI.out.ext hU).cell 1
    have q2 := (HI.out.ext hU).cell 2
    have q3 := (HI.out.ext hU).cell 3
    go_wp2_with (fail)
    refine done_mk ?_ rfl (Ext.refl _)
    rfl
  case oaq7r10 =>
    intro x U hU
    simp only [depV, One, dstOf, readDst, asBool, VP.is, VP.any, VP.row, VP.ptr, VP.blk, VP.ex, VP.and, VP.of, List.getD_cons_zero, List.getD_cons_succ]
    intro d8
    intro d9
    simp only [d8, d9]
    have hb := HB.out.ext hU
    go_wp2_with (refine (HS.out _ hb).mono ?_; rintro e w2 ⟨rfl, hx2⟩)
    refine done_mk ?_ rfl (hx2)
    rfl
  case oaq7r11 =>
    intro x U hU
    simp only [depV, One, dstOf, readDst, asBool, VP.is, VP.any, VP.row, VP.ptr, VP.blk, VP.ex, VP.and, VP.of, List.getD_cons_zero, List.getD_cons_succ]
    intro d3
    intro d7
    intro d10
    simp only [d3, d7, d10]
    have ev := HEV.out
    go_wp2_with ((refine (HD.out _).mono ?_; rintro e w2 ⟨rfl, rfl⟩))
    refine done_mk ?_ rfl (Ext.refl _)
    rfl
  case oaq7r12 =>
    intro x U hU
    simp only [depV, One, dstOf, readDst, asBool, VP.is, VP.any, VP.row, VP.ptr, VP.blk, VP.ex, VP.and, VP.of, List.getD_cons_zero, List.getD_cons_succ]
    intro d11
    simp only [d11]
    go_wp2_with (fail)
    refine done_mk ?_ rfl (Ext.refl _)
    rfl
  case finaq7r =>
    intro x U hU
    simp only [allV, depV, One, dstOf, readDst, asBool, VP.is, VP.any, VP.row, VP.ptr, VP.blk, VP.ex, VP.and, VP.of, List.getD_cons_zero, List.getD_cons_succ]
    intro d0
    intro d1
    intro d2
    intro d3
    intro d4
    intro d5
    intro d6
    intro d7
    intro d8
    intro d9
    intro d10
    intro d11
    intro d12
    simp only [d0, d1, d2, d3, d4, d5, d6, d7, d8, d9, d10, d11, d12]
    clear d0 d1 d2 d3 d4 d5 d6 d7 d8 d9 d10 d11 d12
    have q1 := (HI.out.ext hU).cell 1
    have q2 := (HI.out.ext hU).cell 2
    replace hx := hx.trans hU
    clear hU
    cases hh
    · go_wp2
      go_ret
      exact ⟨rfl, hx⟩
    · go_wp2
      go_ret
      exact ⟨rfl, hx⟩
end Go.Proofs.Ytjlhfmedaandeaa

/- vm: what a step does; load and number, whatever they end in. -/
namespace Go.Proofs.Ytjlhfmedaandeaa
open Go.RowKit Go.ChangeShapes Go.WideShapes
set_option linter.unusedVariables false
set_option linter.unusedSimpArgs false

theorem ent_class : ∀ e ∈ ents, (e.cls = 1 → e.code = 32 ∨ e.code = 128 ∨ e.code = 129 ∨ e.code = 0 ∨ e.code = 1 ∨ e.code = 96 ∨ e.code = 97) ∧ (e.cls = 2 → e.code = 2 ∨ e.code = 3) ∧ (e.cls = 3 → byI e.code < 10) ∧
    (e.cls = 4 → e.code = 5 ∨ (e.code ≠ 5 ∧ 10 ≤ byI e.code ∧ byI e.code < 14)) ∧ (e.cls = 5 → e.code = 6 ∨ e.code = 22) ∧ (e.cls = 6 → e.code = 7 ∨ e.code = 135) ∧ (e.cls = 1 ∨ e.cls = 2 ∨ e.cls = 3 ∨ e.cls = 4 ∨ e.cls = 5 ∨ e.cls = 6) := by
  intro e he
  simp only [ents, List.mem_cons, List.not_mem_nil, or_false] at he
  rcases he with rfl | rfl | rfl | rfl | rfl | rfl | rfl | rfl | rfl | rfl | rfl | rfl | rfl | rfl | rfl | rfl | rfl | rfl | rfl | rfl | rfl | rfl | rfl | rfl | rfl | rfl | rfl | rfl | rfl | rfl | rfl | rfl | rfl | rfl | rfl | rfl | rfl | rfl | rfl | rfl | rfl
  all_goals exact ⟨by decide +kernel, by decide +kernel, by decide +kernel, by decide +kernel, by decide +kernel, by decide +kernel, by decide +kernel⟩
theorem class_of (c : Int) : (clsOf c = 0 ∧ (byE c).2 = false) ∨ ∃ e ∈ ents, c = e.code ∧ clsOf c = e.cls ∧ (byE c).2 = true := by
  unfold clsOf
  rcases by_cases_ c with h | ⟨e, he, hc, h⟩
  · rw [h]; exact .inl ⟨rfl, rfl⟩
  · rw [h]; exact .inr ⟨e, he, hc, rfl, rfl⟩
theorem class_load {c : Int} (h : clsOf c = 1) : c = 32 ∨ c = 128 ∨ c = 129 ∨ c = 0 ∨ c = 1 ∨ c = 96 ∨ c = 97 := by
  rcases class_of c with ⟨k, _⟩ | ⟨e, he, rfl, k, _⟩
  · omega
  · exact (ent_class e he).1 (k.symm.trans h)
theorem class_store {c : Int} (h : clsOf c = 2) : c = 2 ∨ c = 3 := by
  rcases class_of c with ⟨k, _⟩ | ⟨e, he, rfl, k, _⟩
  · omega
  · exact (ent_class e he).2.1 (k.symm.trans h)
theorem class_number {c : Int} (h : clsOf c = 3) : byI c < 10 := by
  rcases class_of c with ⟨k, _⟩ | ⟨e, he, rfl, k, _⟩
  · omega
  · exact (ent_class e he).2.2.1 (k.symm.trans h)
theorem class_jump {c : Int} (h : clsOf c = 4) : c = 5 ∨ (c ≠ 5 ∧ 10 ≤ byI c ∧ byI c < 14) := by
  rcases class_of c with ⟨k, _⟩ | ⟨e, he, rfl, k, _⟩
  · omega
  · exact (ent_class e he).2.2.2.1 (k.symm.trans h)
theorem class_answer {c : Int} (h : clsOf c = 5) : c = 6 ∨ c = 22 := by
  rcases class_of c with ⟨k, _⟩ | ⟨e, he, rfl, k, _⟩
  · omega
  · exact (ent_class e he).2.2.2.2.1 (k.symm.trans h)
theorem class_move {c : Int} (h : clsOf c = 6) : c = 7 ∨ c = 135 := by
  rcases class_of c with ⟨k, _⟩ | ⟨e, he, rfl, k, _⟩
  · omega
  · exact (ent_class e he).2.2.2.2.2.1 (k.symm.trans h)
theorem class_any (c : Int) : clsOf c = 0 ∨ clsOf c = 1 ∨ clsOf c = 2 ∨ clsOf c = 3 ∨ clsOf c = 4 ∨ clsOf c = 5 ∨ clsOf c = 6 := by
  rcases class_of c with ⟨k, _⟩ | ⟨e, he, rfl, k, _⟩
  · exact .inl k
  · rw [k]; exact .inr (ent_class e he).2.2.2.2.2.2

def jumpE (i : Ins) (s : Vm) : Int := if i.code = 5 then i.k else if hoE (byI i.code - 10) s.a (secondE i s) then i.jt else i.jf
/-- What an instruction does: the machine then, how many are left out, the error. -/
def stepE (d : Dat) (i : Ins) (s : Vm) : Vm × Int × Int :=
  if clsOf i.code = 1 then ((loadE d i s).1, 0, (loadE d i s).2)
  else if clsOf i.code = 2 then (if i.k < 16 then ({ s with cs := s.cs.set i.k.toNat (if i.code = 3 then s.x else s.a) }, 0, 0) else (s, 0, 43))
  else if clsOf i.code = 3 then ((numberE i s).1, 0, (numberE i s).2)
  else if clsOf i.code = 4 then (s, jumpE i s, 0)
  else if clsOf i.code = 5 then ({ s with told := if i.code = 22 then s.a else i.k, over := true }, 0, 0)
  else if clsOf i.code = 6 then ((if i.code = 7 then { s with x := s.a } else { s with a := s.x }), 0, 0)
  else (s, 0, 40)

theorem vmp_of {f : Nat} {args : Array Value} {g : Nat} {d : Dat} {W : World} {s : Vm} {v : Value} (h : Calls Try.prog f args W fun e w' => e = .returned v ∧ Upd g W w' ∧ MB w' g d s) : Calls Try.prog f args W fun e w' => VmP g d W v (s, 0) e w' :=
  h.mono fun e w' ⟨h1, h2, h3⟩ => by subst h1; exact .yes h2 h3
theorem vmp_no {f : Nat} {args : Array Value} {g : Nat} {d : Dat} {W : World} {s : Vm} {v : Value} {x : Int} (hx : x ≠ 0) (h : Calls Try.prog f args W fun e w' => e = .panicked (pan x) ∧ Upd g W w') : Calls Try.prog f args W fun e w' => VmP g d W v (s, x) e w' :=
  h.mono fun e w' ⟨h1, h2⟩ => by subst h1; exact .no hx h2
theorem load_any (i : Ins) (hi : i.ok) (hc : clsOf i.code = 1) (g : Nat) (d : Dat) (hd : d.ok) (s : Vm) (W : World) (B : MB W g d s) : Calls Try.prog 86 #[.pointer (some ⟨g, 0, none⟩), i.val] W fun e w' => VmP g d W (.tuple #[]) (loadE d i s) e w' := by
  obtain ⟨co, jt, jf, k⟩ := i
  have hk : U32 k := hi.2.2.2
  unfold Ins.val Ins.cells
  dsimp only at *
  rcases class_load hc with rfl | rfl | rfl | rfl | rfl | rfl | rfl
  · exact load_32 jt jf k hk g d hd s W B
  · exact vmp_of (load_128 jt jf k g d s W B)
  · exact vmp_of (load_129 jt jf k g d s W B)
  · exact vmp_of (load_0 jt jf k g d s W B)
  · exact vmp_of (load_1 jt jf k g d s W B)
  · by_cases h : k < 16
    · obtain ⟨n, rfl⟩ : ∃ n : Nat, k = n := ⟨k.toNat, by have := hk.1; omega⟩
      rw [show loadE d ⟨96, jt, jf, n⟩ s = ({ s with a := s.cs.getD n 0 }, 0) from by simp [loadE, h]]
      exact vmp_of (load_96_yes jt jf n (by omega) g d s W B)
    · rw [show loadE d ⟨96, jt, jf, k⟩ s = (s, 43) from by simp [loadE, h]]
      exact vmp_no (by decide) (load_96_no jt jf k (by omega) g d s W B)
  · by_cases h : k < 16
    · obtain ⟨n, rfl⟩ : ∃ n : Nat, k = n := ⟨k.toNat, by have := hk.1; omega⟩
      rw [show loadE d ⟨97, jt, jf, n⟩ s = ({ s with x := s.cs.getD n 0 }, 0) from by simp [loadE, h]]
      exact vmp_of (load_97_yes jt jf n (by omega) g d s W B)
    · rw [show loadE d ⟨97, jt, jf, k⟩ s = (s, 43) from by simp [loadE, h]]
      exact vmp_no (by decide) (load_97_no jt jf k (by omega) g d s W B)
theorem second_u32 (i : Ins) (hi : i.ok) (s : Vm) (ho : s.ok) : U32 (secondE i s) := by
  unfold secondE
  split
  · exact ho.x
  · exact hi.2.2.2
theorem number_any (i : Ins) (hi : i.ok) (hc : clsOf i.code = 3) (g : Nat) (d : Dat) (s : Vm) (ho : s.ok) (W : World) (B : MB W g d s) : Calls Try.prog 88 #[.pointer (some ⟨g, 0, none⟩), i.val] W fun e w' => VmP g d W (.tuple #[]) (numberE i s) e w' := by
  by_cases h1 : i.code = 52 ∧ secondE i s = 0
  · rw [show numberE i s = (s, 44) from by unfold numberE; rw [if_pos h1]]
    exact vmp_no (by decide) (number_div0 i h1.1 g d s h1.2 W B)
  by_cases h2 : i.code = 60 ∧ secondE i s = 0
  · rw [show numberE i s = ({ s with over := true }, 0) from by unfold numberE; rw [if_neg h1, if_pos h2]]
    exact vmp_of (number_divx0 i h2.1 g d s h2.2 W B)
  by_cases h3 : (i.code = 100 ∨ i.code = 116) ∧ 31 < secondE i s
  · rw [show numberE i s = (s, 45) from by unfold numberE; rw [if_neg h1, if_neg h2, if_pos h3]]
    exact vmp_no (by decide) (number_shift i h3.1 g d s h3.2 W B)
  rw [show numberE i s = ({ s with a := doE (byI i.code) s.a (secondE i s) }, 0) from by unfold numberE; rw [if_neg h1, if_neg h2, if_neg h3]]
  exact vmp_of (number_op i hi g d s ho _ (class_number hc) rfl (second_u32 i hi s ho) h1 h2 h3 W B)
theorem jump_any (i : Ins) (hi : i.ok) (hc : clsOf i.code = 4) (g : Nat) (d : Dat) (s : Vm) (ho : s.ok) (W : World) (B : MB W g d s) : Calls Try.prog 89 #[.pointer (some ⟨g, 0, none⟩), i.val] W fun e w' => e = .returned (.int .i64 (jumpE i s)) ∧ Ext W w' := by
  unfold jumpE
  by_cases h : i.code = 5
  · rw [if_pos h]
    obtain ⟨co, jt, jf, k⟩ := i
    dsimp only at h
    subst h
    exact jump_ja jt jf k hi.2.2.2 g W
  · rw [if_neg h]
    rcases class_jump hc with h' | ⟨_, h1, h2⟩
    · exact absurd h' h
    · exact jump_op i hi g d s ho (byI i.code - 10) (by omega) (by omega) (second_u32 i hi s ho) h W B
end Go.Proofs.Ytjlhfmedaandeaa
