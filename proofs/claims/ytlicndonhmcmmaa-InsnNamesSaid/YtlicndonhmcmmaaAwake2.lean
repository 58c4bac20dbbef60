import Derived.Test.YtlicndonhmcmmaaPrg9
import Derived.Test.YtlicndonhmcmmaaPrg7
import Derived.Test.YtlicndonhmcmmaaInsn8
namespace Go.Proofs.Ytlicndonhmcmmaa
open Go.RowKit Go.ChangeShapes Go.WideShapes
set_option linter.unusedVariables false
set_option linter.unusedSimpArgs false

theorem code_const (t : ByteArray) (c : Int) (ok : Bool) (h : (nmE t).1.code = c ∧ (nmE t).2 = ok) (W : World) : Calls Try.prog 57 #[.string t] W fun e w' => e = .returned (.tuple #[.int .u16 c, .bool ok]) ∧ Ext W w' := by
  have := code_any t W
  rwa [h.1, h.2] at this
theorem name_const (a : Int) (s : ByteArray) (h : (byE a).1.name = s) (W : World) : Calls Try.prog 62 #[.int .u16 a] W fun e w' => e = .returned (.string s) ∧ Ext W w' := by
  have := name_any a W
  rwa [h] at this
theorem withX_const (a : Int) (b : Bool) (h : takesX a = b) (W : World) : Calls Try.prog 63 #[.int .u16 a] W fun e w' => e = .returned (.bool b) ∧ Ext W w' := by
  have := withX_any a W
  rwa [h] at this

set_option maxHeartbeats 1000000 in
set_option maxRecDepth 100000 in
theorem awake02 (w : World) : Calls Try.prog 65 #[] w fun e w' => e = .returned (.bool true) ∧ Ext w w' := by
  have C1 := Lib.hid (code_const ⟨#[114, 101, 116]⟩ 6 true ⟨by kernel_rfl, by kernel_rfl⟩)
  have C2 := Lib.hid (code_const ⟨#[109, 111, 100]⟩ 0 false ⟨by kernel_rfl, by kernel_rfl⟩)
  have C3 := Lib.hid (fun A W => parse_odd A 7 7 W (by decide))
  have C4 := Lib.hid (fun W => parseI none 0 0 [] W (by decide) (by decide) rfl (fun x hx => by cases hx) (InM.nil _ _))
  rw [show pm 0 = 0 from rfl, show pe 0 = 0 from rfl] at C4
  have C5 := Lib.hid (fun W => encode_any ⟨21, 1, 2, 3221225534⟩ ⟨by decide, by decide, by decide, by decide⟩ W)
  rw [show (Ins.mk 21 1 2 3221225534).bytes = [21, 0, 1, 2, 62, 0, 0, 192] from by decide] at C5
  have C6 := Lib.hid (fun A B c d W h k => keep (wordsSame A B 8 c 8 d [21, 0, 1, 2, 62, 0, 0, 192] [21, 0, 1, 2, 62, 0, 0, 192] W rfl rfl (byt_lit rfl) (byt_lit rfl) h k))
  rw [show decide ([(21 : Int), 0, 1, 2, 62, 0, 0, 192] = [21, 0, 1, 2, 62, 0, 0, 192]) = true from by decide] at C6
  have N1 := Lib.hid (name_const 32 ⟨#[108, 100, 97, 98, 115]⟩ (by kernel_rfl))
  have N2 := Lib.hid (name_const 135 ⟨#[116, 120, 97]⟩ (by kernel_rfl))
  have N3 := Lib.hid (name_const 148 ⟨#[]⟩ (by kernel_rfl))
  have X1 := Lib.hid (withX_const 29 true (by kernel_rfl))
  have X2 := Lib.hid (withX_const 7 false (by kernel_rfl))
  have hmk : ∀ w : World, (Instr.makeSlice 23 (.int .i64 7) (.int .i64 7)).run Try.prog w = .ok (.slice (some ⟨w.heap.size, 0, none⟩) 7 7) (w.alloc (.cells (madeCells #[.int .u8 0] 7) 5)) := fun w => make_run1 23 5 (.int .u8 0) 1 Try.underlying23 info_u8 rfl .i64 .i64 7 7 (by decide) (by decide) (by decide) w
  have hx := Ext.refl w
  go_enter Try.func65, Try.ntmps65
  go_wp2_with fail
  refine (C1.out _).mono ?_
  rintro e w1 ⟨rfl, hx'⟩
  replace hx := Ext.trans (by first | exact hx | exact hx.alloc _ | exact (hx.alloc _).alloc _ | exact hx.drew) hx'
  clear hx'
  go_wp2_with fail
  refine (C2.out _).mono ?_
  rintro e w2 ⟨rfl, hx'⟩
  replace hx := Ext.trans (by first | exact hx | exact hx.alloc _ | exact (hx.alloc _).alloc _ | exact hx.drew) hx'
  clear hx'
  go_wp2_with fail
  refine (C3.out _ _).mono ?_
  rintro e w3 ⟨rfl, hx'⟩
  replace hx := Ext.trans (by first | exact hx | exact hx.alloc _ | exact (hx.alloc _).alloc _ | exact hx.drew) hx'
  clear hx'
  go_wp2_with fail
  refine (C4.out _).mono ?_
  rintro e w4 ⟨P, cP, rfl, _, hx'⟩
  replace hx := Ext.trans (by first | exact hx | exact hx.alloc _ | exact (hx.alloc _).alloc _ | exact hx.drew) hx'
  clear hx'
  go_wp2_with fail
  refine (C5.out _).mono ?_
  rintro e w5 ⟨Q, cQ, rfl, ho, hx'⟩
  replace hx := Ext.trans (by first | exact hx | exact hx.alloc _ | exact (hx.alloc _).alloc _ | exact hx.drew) hx'
  clear hx'
  go_wp2_with fail
  refine (C6.out _ _ _ _ _ ((own_inM ho).ext ((Ext.refl _).alloc _)) (inM_new rfl)).mono ?_
  rintro e w6 ⟨rfl, hx'⟩
  replace hx := Ext.trans (by first | exact hx | exact hx.alloc _ | exact (hx.alloc _).alloc _ | exact hx.drew) hx'
  clear hx'
  clear ho
  go_wp2_with fail
  refine (N1.out _).mono ?_
  rintro e w7 ⟨rfl, hx'⟩
  replace hx := Ext.trans (by first | exact hx | exact hx.alloc _ | exact (hx.alloc _).alloc _ | exact hx.drew) hx'
  clear hx'
  go_wp2_with fail
  refine (N2.out _).mono ?_
  rintro e w8 ⟨rfl, hx'⟩
  replace hx := Ext.trans (by first | exact hx | exact hx.alloc _ | exact (hx.alloc _).alloc _ | exact hx.drew) hx'
  clear hx'
  go_wp2_with fail
  refine (N3.out _).mono ?_
  rintro e w9 ⟨rfl, hx'⟩
  replace hx := Ext.trans (by first | exact hx | exact hx.alloc _ | exact (hx.alloc _).alloc _ | exact hx.drew) hx'
  clear hx'
  go_wp2_with fail
  refine (X1.out _).mono ?_
  rintro e w10 ⟨rfl, hx'⟩
  replace hx := Ext.trans (by first | exact hx | exact hx.alloc _ | exact (hx.alloc _).alloc _ | exact hx.drew) hx'
  clear hx'
  go_wp2_with fail
  refine (X2.out _).mono ?_
  rintro e w11 ⟨rfl, hx'⟩
  replace hx := Ext.trans (by first | exact hx | exact hx.alloc _ | exact (hx.alloc _).alloc _ | exact hx.drew) hx'
  clear hx'
  go_wp2_with fail
  go_ret
  exact ⟨rfl, hx⟩
end Go.Proofs.Ytlicndonhmcmmaa
