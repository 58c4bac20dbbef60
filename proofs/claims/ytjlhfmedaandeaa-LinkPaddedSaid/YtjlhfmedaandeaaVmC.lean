import Derived.Test.YtjlhfmedaandeaaPrg
import Derived.Defers
import Derived.Recover
import Derived.RegionTactic
import Derived.ChangeAlike
import Derived.Test.YtjlhfmedaandeaaVmB
/- vm: do. -/
namespace Go.Proofs.Ytjlhfmedaandeaa
open Go.RowKit Go.ChangeShapes Go.WideShapes
set_option linter.unusedVariables false
set_option linter.unusedSimpArgs false

theorem do_load (i : Ins) (hi : i.ok) (hc : clsOf i.code = 1) (g : Nat) (d : Dat) (hd : d.ok) (s : Vm) (W : World) (B : MB W g d s) :
    Calls Try.prog 77 #[.pointer (some ⟨g, 0, none⟩), i.val] W fun e w' => VmP g d W (.int .i64 0) (loadE d i s) e w' := by
  have HO := Lib.hid (fun W => of_any i.code W)
  rw [show (byE i.code).1.cls = 1 from hc] at HO
  have hx := (Ext.refl W).alloc (.cells #[.int .u16 i.code, .int .u8 i.jt, .int .u8 i.jf, .int .u32 i.k] 43)
  have HI := Lib.hid (Blk.new W 43 #[.int .u16 i.code, .int .u8 i.jt, .int .u8 i.jf, .int .u32 i.k])
  have HB := Lib.hid (B.ext hx)
  have HL := Lib.hid (fun W B => load_any i hi hc g d hd s W B)
  clear hc hi hd B
  generalize loadE d i s = r at *
  obtain ⟨s', x⟩ := r
  by_cases h0 : x = 0
  · subst h0
    unfold Ins.val Ins.cells at *
    obtain ⟨co, jt, jf, k⟩ := i
    dsimp only at *
    go_enter Try.func77, Try.ntmps77
    go_wp2_with fail
    refine (HO.out _).mono ?_
    rintro e w1 ⟨rfl, hx1⟩
    have q0 := (HI.out.ext hx1).cell 0
    have q1 := (HI.out.ext hx1).cell 1
    have q2 := (HI.out.ext hx1).cell 2
    have q3 := (HI.out.ext hx1).cell 3
    have B1 := HB.out.ext hx1
    replace hx := hx.trans hx1
    clear HI HB HO hx1
    go_wp2_with fail
    refine (HL.out _ B1).mono ?_
    rintro e w2 ⟨hu, hr⟩
    rw [if_pos rfl] at hr
    obtain ⟨rfl, hB⟩ := hr
    clear q0 q1 q2 q3
    go_wp2_with fail
    go_ret
    exact .yes ((Upd.of_ext hx).trans hu) hB
  · have H0 := Lib.hid h0
    clear h0
    unfold Ins.val Ins.cells at *
    obtain ⟨co, jt, jf, k⟩ := i
    dsimp only at *
    go_enter Try.func77, Try.ntmps77
    go_wp2_with fail
    refine (HO.out _).mono ?_
    rintro e w1 ⟨rfl, hx1⟩
    have q0 := (HI.out.ext hx1).cell 0
    have q1 := (HI.out.ext hx1).cell 1
    have q2 := (HI.out.ext hx1).cell 2
    have q3 := (HI.out.ext hx1).cell 3
    have B1 := HB.out.ext hx1
    replace hx := hx.trans hx1
    clear HI HB HO hx1
    go_wp2_with fail
    refine (HL.out _ B1).mono ?_
    rintro e w2 ⟨hu, hr⟩
    rw [if_neg H0.out] at hr
    subst hr
    exact ⟨rfl, .no H0.out ((Upd.of_ext hx).trans hu)⟩
theorem do_number (i : Ins) (hi : i.ok) (hc : clsOf i.code = 3) (g : Nat) (d : Dat) (s : Vm) (ho : s.ok) (W : World) (B : MB W g d s) :
    Calls Try.prog 77 #[.pointer (some ⟨g, 0, none⟩), i.val] W fun e w' => VmP g d W (.int .i64 0) (numberE i s) e w' := by
  have HO := Lib.hid (fun W => of_any i.code W)
  rw [show (byE i.code).1.cls = 3 from hc] at HO
  have hx := (Ext.refl W).alloc (.cells #[.int .u16 i.code, .int .u8 i.jt, .int .u8 i.jf, .int .u32 i.k] 43)
  have HI := Lib.hid (Blk.new W 43 #[.int .u16 i.code, .int .u8 i.jt, .int .u8 i.jf, .int .u32 i.k])
  have HB := Lib.hid (B.ext hx)
  have HL := Lib.hid (fun W B => number_any i hi hc g d s ho W B)
  clear hc hi B
  generalize numberE i s = r at *
  obtain ⟨s', x⟩ := r
  by_cases h0 : x = 0
  · subst h0
    unfold Ins.val Ins.cells at *
    obtain ⟨co, jt, jf, k⟩ := i
    dsimp only at *
    go_enter Try.func77, Try.ntmps77
    go_wp2_with fail
    refine (HO.out _).mono ?_
    rintro e w1 ⟨rfl, hx1⟩
    have q0 := (HI.out.ext hx1).cell 0
    have q1 := (HI.out.ext hx1).cell 1
    have q2 := (HI.out.ext hx1).cell 2
    have q3 := (HI.out.ext hx1).cell 3
    have B1 := HB.out.ext hx1
    replace hx := hx.trans hx1
    clear HI HB HO hx1
    go_wp2_with fail
    refine (HL.out _ B1).mono ?_
    rintro e w2 ⟨hu, hr⟩
    rw [if_pos rfl] at hr
    obtain ⟨rfl, hB⟩ := hr
    clear q0 q1 q2 q3
    go_wp2_with fail
    go_ret
    exact .yes ((Upd.of_ext hx).trans hu) hB
  · have H0 := Lib.hid h0
    clear h0
    unfold Ins.val Ins.cells at *
    obtain ⟨co, jt, jf, k⟩ := i
    dsimp only at *
    go_enter Try.func77, Try.ntmps77
    go_wp2_with fail
    refine (HO.out _).mono ?_
    rintro e w1 ⟨rfl, hx1⟩
    have q0 := (HI.out.ext hx1).cell 0
    have q1 := (HI.out.ext hx1).cell 1
    have q2 := (HI.out.ext hx1).cell 2
    have q3 := (HI.out.ext hx1).cell 3
    have B1 := HB.out.ext hx1
    replace hx := hx.trans hx1
    clear HI HB HO hx1
    go_wp2_with fail
    refine (HL.out _ B1).mono ?_
    rintro e w2 ⟨hu, hr⟩
    rw [if_neg H0.out] at hr
    subst hr
    exact ⟨rfl, .no H0.out ((Upd.of_ext hx).trans hu)⟩
theorem do_jump (i : Ins) (hi : i.ok) (hc : clsOf i.code = 4) (g : Nat) (d : Dat) (s : Vm) (ho : s.ok) (W : World) (B : MB W g d s) :
    Calls Try.prog 77 #[.pointer (some ⟨g, 0, none⟩), i.val] W fun e w' => VmP g d W (.int .i64 (jumpE i s)) (s, 0) e w' := by
  have HO := Lib.hid (fun W => of_any i.code W)
  rw [show (byE i.code).1.cls = 4 from hc] at HO
  have hx := (Ext.refl W).alloc (.cells #[.int .u16 i.code, .int .u8 i.jt, .int .u8 i.jf, .int .u32 i.k] 43)
  have HI := Lib.hid (Blk.new W 43 #[.int .u16 i.code, .int .u8 i.jt, .int .u8 i.jf, .int .u32 i.k])
  have HB := Lib.hid (B.ext hx)
  have HL := Lib.hid (fun W B => jump_any i hi hc g d s ho W B)
  clear hc hi B
  generalize jumpE i s = r at *
  unfold Ins.val Ins.cells at *
  obtain ⟨co, jt, jf, k⟩ := i
  dsimp only at *
  go_enter Try.func77, Try.ntmps77
  go_wp2_with fail
  refine (HO.out _).mono ?_
  rintro e w1 ⟨rfl, hx1⟩
  have q0 := (HI.out.ext hx1).cell 0
  have q1 := (HI.out.ext hx1).cell 1
  have q2 := (HI.out.ext hx1).cell 2
  have q3 := (HI.out.ext hx1).cell 3
  have B1 := HB.out.ext hx1
  replace hx := hx.trans hx1
  clear HI HB HO hx1
  go_wp2_with fail
  refine (HL.out _ B1).mono ?_
  rintro e w2 ⟨rfl, hx2⟩
  clear q0 q1 q2 q3
  go_wp2_with fail
  go_ret
  exact .yes (Upd.of_ext (hx.trans hx2)) (B1.ext hx2)
theorem do_store_no (i : Ins) (hc : clsOf i.code = 2) (hk : 16 ≤ i.k) (g : Nat) (d : Dat) (s : Vm) (W : World) (B : MB W g d s) :
    Calls Try.prog 77 #[.pointer (some ⟨g, 0, none⟩), i.val] W fun e w' => VmP g d W (.int .i64 0) (s, 43) e w' := by
  have hcc := class_store hc
  have HO := Lib.hid (fun W => of_any i.code W)
  rw [show (byE i.code).1.cls = 2 from hc] at HO
  have hx := (Ext.refl W).alloc (.cells #[.int .u16 i.code, .int .u8 i.jt, .int .u8 i.jf, .int .u32 i.k] 43)
  have HI := Lib.hid (Blk.new W 43 #[.int .u16 i.code, .int .u8 i.jt, .int .u8 i.jf, .int .u32 i.k])
  have HB := Lib.hid (B.ext hx)
  clear hc B
  unfold Ins.val Ins.cells at *
  obtain ⟨co, jt, jf, k⟩ := i
  dsimp only at *
  rcases hcc with rfl | rfl
  ·
    go_enter Try.func77, Try.ntmps77
    go_wp2_with fail
    refine (HO.out _).mono ?_
    rintro e w1 ⟨rfl, hx1⟩
    have q0 := (HI.out.ext hx1).cell 0
    have q1 := (HI.out.ext hx1).cell 1
    have q2 := (HI.out.ext hx1).cell 2
    have q3 := (HI.out.ext hx1).cell 3
    have B1 := HB.out.ext hx1
    replace hx := hx.trans hx1
    clear HI HB HO hx1
    have z := B1.a
    have z1 := B1.x
    go_wp2_with fail
    refine (cell_no g k hk _).mono ?_
    rintro e w2 ⟨rfl, rfl⟩
    exact ⟨rfl, .no (by decide) (Upd.of_ext hx)⟩
  ·
    go_enter Try.func77, Try.ntmps77
    go_wp2_with fail
    refine (HO.out _).mono ?_
    rintro e w1 ⟨rfl, hx1⟩
    have q0 := (HI.out.ext hx1).cell 0
    have q1 := (HI.out.ext hx1).cell 1
    have q2 := (HI.out.ext hx1).cell 2
    have q3 := (HI.out.ext hx1).cell 3
    have B1 := HB.out.ext hx1
    replace hx := hx.trans hx1
    clear HI HB HO hx1
    have z := B1.a
    have z1 := B1.x
    go_wp2_with fail
    refine (cell_no g k hk _).mono ?_
    rintro e w2 ⟨rfl, rfl⟩
    exact ⟨rfl, .no (by decide) (Upd.of_ext hx)⟩
theorem do_store_yes (co jt jf : Int) (k : Nat) (hc : clsOf co = 2) (hk : k < 16) (g : Nat) (d : Dat) (s : Vm) (W : World) (B : MB W g d s) :
    Calls Try.prog 77 #[.pointer (some ⟨g, 0, none⟩), (⟨co, jt, jf, k⟩ : Ins).val] W fun e w' => VmP g d W (.int .i64 0) ({ s with cs := s.cs.set k (if co = 3 then s.x else s.a) }, 0) e w' := by
  have hcc := class_store hc
  obtain ⟨i, hi⟩ : ∃ i : Ins, i = ⟨co, jt, jf, k⟩ := ⟨_, rfl⟩
  rw [← hi]
  replace hc : clsOf i.code = 2 := by rw [hi]; exact hc
  have HO := Lib.hid (fun W => of_any i.code W)
  rw [show (byE i.code).1.cls = 2 from hc] at HO
  have hx := (Ext.refl W).alloc (.cells #[.int .u16 i.code, .int .u8 i.jt, .int .u8 i.jf, .int .u32 i.k] 43)
  have HI := Lib.hid (Blk.new W 43 #[.int .u16 i.code, .int .u8 i.jt, .int .u8 i.jf, .int .u32 i.k])
  have HB := Lib.hid (B.ext hx)
  clear hc B
  subst hi
  unfold Ins.val Ins.cells at *
  dsimp only at *
  rcases hcc with rfl | rfl
  · rw [if_neg (by decide)]
    go_enter Try.func77, Try.ntmps77
    go_wp2_with fail
    refine (HO.out _).mono ?_
    rintro e w1 ⟨rfl, hx1⟩
    have q0 := (HI.out.ext hx1).cell 0
    have q1 := (HI.out.ext hx1).cell 1
    have q2 := (HI.out.ext hx1).cell 2
    have q3 := (HI.out.ext hx1).cell 3
    have B1 := HB.out.ext hx1
    replace hx := hx.trans hx1
    clear HI HB HO hx1
    have z := B1.a
    have z1 := B1.x
    have z2 := B1.c hk
    have z3 := B1.fz (2 + k)
    have B2 := B1.setC hk s.a
    have hu := (Upd.of_ext (g := g) hx).set (2 + k) (.int .u32 s.a)
    clear B1
    go_wp2_with fail
    refine (cell_yes g k hk _).mono ?_
    rintro e w2 ⟨rfl, rfl⟩
    go_wp2_with fail
    go_ret
    exact .yes hu B2
  · rw [if_pos rfl]
    go_enter Try.func77, Try.ntmps77
    go_wp2_with fail
    refine (HO.out _).mono ?_
    rintro e w1 ⟨rfl, hx1⟩
    have q0 := (HI.out.ext hx1).cell 0
    have q1 := (HI.out.ext hx1).cell 1
    have q2 := (HI.out.ext hx1).cell 2
    have q3 := (HI.out.ext hx1).cell 3
    have B1 := HB.out.ext hx1
    replace hx := hx.trans hx1
    clear HI HB HO hx1
    have z := B1.a
    have z1 := B1.x
    have z2 := B1.c hk
    have z3 := B1.fz (2 + k)
    have B2 := B1.setC hk s.x
    have hu := (Upd.of_ext (g := g) hx).set (2 + k) (.int .u32 s.x)
    clear B1
    go_wp2_with fail
    refine (cell_yes g k hk _).mono ?_
    rintro e w2 ⟨rfl, rfl⟩
    go_wp2_with fail
    go_ret
    exact .yes hu B2
theorem do_answer (i : Ins) (hc : clsOf i.code = 5) (g : Nat) (d : Dat) (s : Vm) (W : World) (B : MB W g d s) :
    Calls Try.prog 77 #[.pointer (some ⟨g, 0, none⟩), i.val] W fun e w' => VmP g d W (.int .i64 0) ({ s with told := if i.code = 22 then s.a else i.k, over := true }, 0) e w' := by
  have hcc := class_answer hc
  have HO := Lib.hid (fun W => of_any i.code W)
  rw [show (byE i.code).1.cls = 5 from hc] at HO
  have hx := (Ext.refl W).alloc (.cells #[.int .u16 i.code, .int .u8 i.jt, .int .u8 i.jf, .int .u32 i.k] 43)
  have HI := Lib.hid (Blk.new W 43 #[.int .u16 i.code, .int .u8 i.jt, .int .u8 i.jf, .int .u32 i.k])
  have HB := Lib.hid (B.ext hx)
  clear hc B
  unfold Ins.val Ins.cells at *
  obtain ⟨co, jt, jf, k⟩ := i
  dsimp only at *
  rcases hcc with rfl | rfl
  · rw [if_neg (by decide)]
    go_enter Try.func77, Try.ntmps77
    go_wp2_with fail
    refine (HO.out _).mono ?_
    rintro e w1 ⟨rfl, hx1⟩
    have q0 := (HI.out.ext hx1).cell 0
    have q1 := (HI.out.ext hx1).cell 1
    have q2 := (HI.out.ext hx1).cell 2
    have q3 := (HI.out.ext hx1).cell 3
    have B1 := HB.out.ext hx1
    replace hx := hx.trans hx1
    clear HI HB HO hx1
    have z := B1.told
    have z1 := B1.over
    have z2 := B1.fz 27
    have z3 := B1.fz 28
    have B2 := (B1.setT k).setO true
    have hu := ((Upd.of_ext (g := g) hx).set 27 (.int .u32 k)).set 28 (.bool true)
    clear B1
    go_wp2_with fail
    go_ret
    exact .yes hu B2
  · rw [if_pos rfl]
    go_enter Try.func77, Try.ntmps77
    go_wp2_with fail
    refine (HO.out _).mono ?_
    rintro e w1 ⟨rfl, hx1⟩
    have q0 := (HI.out.ext hx1).cell 0
    have q1 := (HI.out.ext hx1).cell 1
    have q2 := (HI.out.ext hx1).cell 2
    have q3 := (HI.out.ext hx1).cell 3
    have B1 := HB.out.ext hx1
    replace hx := hx.trans hx1
    clear HI HB HO hx1
    have z := B1.told
    have z1 := B1.over
    have z2 := B1.fz 27
    have z3 := B1.fz 28
    have z4 := B1.a
    have B2 := ((B1.setT k).setO true).setT s.a
    have hu := (((Upd.of_ext (g := g) hx).set 27 (.int .u32 k)).set 28 (.bool true)).set 27 (.int .u32 s.a)
    clear B1
    go_wp2_with fail
    go_ret
    exact .yes hu B2
theorem do_move (i : Ins) (hc : clsOf i.code = 6) (g : Nat) (d : Dat) (s : Vm) (W : World) (B : MB W g d s) :
    Calls Try.prog 77 #[.pointer (some ⟨g, 0, none⟩), i.val] W fun e w' => VmP g d W (.int .i64 0) ((if i.code = 7 then { s with x := s.a } else { s with a := s.x }), 0) e w' := by
  have hcc := class_move hc
  have HO := Lib.hid (fun W => of_any i.code W)
  rw [show (byE i.code).1.cls = 6 from hc] at HO
  have hx := (Ext.refl W).alloc (.cells #[.int .u16 i.code, .int .u8 i.jt, .int .u8 i.jf, .int .u32 i.k] 43)
  have HI := Lib.hid (Blk.new W 43 #[.int .u16 i.code, .int .u8 i.jt, .int .u8 i.jf, .int .u32 i.k])
  have HB := Lib.hid (B.ext hx)
  clear hc B
  unfold Ins.val Ins.cells at *
  obtain ⟨co, jt, jf, k⟩ := i
  dsimp only at *
  rcases hcc with rfl | rfl
  · rw [if_pos rfl]
    go_enter Try.func77, Try.ntmps77
    go_wp2_with fail
    refine (HO.out _).mono ?_
    rintro e w1 ⟨rfl, hx1⟩
    have q0 := (HI.out.ext hx1).cell 0
    have q1 := (HI.out.ext hx1).cell 1
    have q2 := (HI.out.ext hx1).cell 2
    have q3 := (HI.out.ext hx1).cell 3
    have B1 := HB.out.ext hx1
    replace hx := hx.trans hx1
    clear HI HB HO hx1
    have z := B1.a
    have z1 := B1.x
    have z2 := B1.fz 1
    have B2 := B1.setX s.a
    have hu := (Upd.of_ext (g := g) hx).set 1 (.int .u32 s.a)
    clear B1
    go_wp2_with fail
    go_ret
    exact .yes hu B2
  · rw [if_neg (by decide)]
    go_enter Try.func77, Try.ntmps77
    go_wp2_with fail
    refine (HO.out _).mono ?_
    rintro e w1 ⟨rfl, hx1⟩
    have q0 := (HI.out.ext hx1).cell 0
    have q1 := (HI.out.ext hx1).cell 1
    have q2 := (HI.out.ext hx1).cell 2
    have q3 := (HI.out.ext hx1).cell 3
    have B1 := HB.out.ext hx1
    replace hx := hx.trans hx1
    clear HI HB HO hx1
    have z := B1.a
    have z1 := B1.x
    have z2 := B1.fz 0
    have B2 := B1.setA s.x
    have hu := (Upd.of_ext (g := g) hx).set 0 (.int .u32 s.x)
    clear B1
    go_wp2_with fail
    go_ret
    exact .yes hu B2
theorem do_none (i : Ins) (hc : clsOf i.code = 0) (g : Nat) (d : Dat) (s : Vm) (W : World) (B : MB W g d s) :
    Calls Try.prog 77 #[.pointer (some ⟨g, 0, none⟩), i.val] W fun e w' => VmP g d W (.int .i64 0) (s, 40) e w' := by
  have HO := Lib.hid (fun W => of_any i.code W)
  rw [show (byE i.code).1.cls = 0 from hc] at HO
  have hx := (Ext.refl W).alloc (.cells #[.int .u16 i.code, .int .u8 i.jt, .int .u8 i.jf, .int .u32 i.k] 43)
  have HI := Lib.hid (Blk.new W 43 #[.int .u16 i.code, .int .u8 i.jt, .int .u8 i.jf, .int .u32 i.k])
  have HB := Lib.hid (B.ext hx)
  clear hc B
  unfold Ins.val Ins.cells at *
  obtain ⟨co, jt, jf, k⟩ := i
  dsimp only at *
  go_enter Try.func77, Try.ntmps77
  go_wp2_with fail
  refine (HO.out _).mono ?_
  rintro e w1 ⟨rfl, hx1⟩
  have q0 := (HI.out.ext hx1).cell 0
  have q1 := (HI.out.ext hx1).cell 1
  have q2 := (HI.out.ext hx1).cell 2
  have q3 := (HI.out.ext hx1).cell 3
  have B1 := HB.out.ext hx1
  replace hx := hx.trans hx1
  clear HI HB HO hx1
  go_wp2_with fail
  refine (fail_any 40 _).mono ?_
  rintro e w2 ⟨rfl, rfl⟩
  exact ⟨rfl, .no (by decide) (Upd.of_ext hx)⟩
theorem do_any (i : Ins) (hi : i.ok) (g : Nat) (d : Dat) (hd : d.ok) (s : Vm) (ho : s.ok) (W : World) (B : MB W g d s) :
    Calls Try.prog 77 #[.pointer (some ⟨g, 0, none⟩), i.val] W fun e w' => VmP g d W (.int .i64 (stepE d i s).2.1) ((stepE d i s).1, (stepE d i s).2.2) e w' := by
  rcases class_any i.code with h | h | h | h | h | h | h
  · have := do_none i h g d s W B
    unfold stepE
    simpa [h] using this
  · have := do_load i hi h g d hd s W B
    unfold stepE
    simpa [h] using this
  · unfold stepE
    by_cases hk : i.k < 16
    · obtain ⟨co, jt, jf, k⟩ := i
      obtain ⟨n, rfl⟩ : ∃ n : Nat, k = n := ⟨k.toNat, by have := hi.2.2.2.1; dsimp only at this; omega⟩
      have hk : (n : Int) < 16 := hk
      have := do_store_yes co jt jf n h (by omega) g d s W B
      simp only [h, hk]
      simpa using this
    · have := do_store_no i h (by omega) g d s W B
      simpa [h, hk] using this
  · have := do_number i hi h g d s ho W B
    unfold stepE
    simpa [h] using this
  · have := do_jump i hi h g d s ho W B
    unfold stepE
    simpa [h] using this
  · have := do_answer i h g d s W B
    unfold stepE
    simpa [h] using this
  · have := do_move i h g d s W B
    unfold stepE
    simpa [h] using this
end Go.Proofs.Ytjlhfmedaandeaa

/- vm: a run. -/
namespace Go.Proofs.Ytjlhfmedaandeaa
open Go.RowKit
set_option linter.unusedVariables false
set_option linter.unusedSimpArgs false

theorem wrap_u32 (x : Int) : U32 (IntKind.u32.wrap x) := by
  have e : IntKind.u32.wrap x = x % 4294967296 := IntKind.wrap_u32 x
  rw [e]
  unfold U32
  omega
theorem bits_u32 (o : BinOp) (a b : Int) : U32 (bits o .u32 a b) := by
  unfold bits
  exact wrap_u32 _
theorem doE_u32 (k : Nat) (a b : Int) (ha : U32 a) (hb : U32 b) : U32 (doE k a b) := by
  have hdiv : ∀ m : Int, 1 ≤ m → U32 (a / m) := fun m hm => ⟨Int.ediv_nonneg ha.1 (by omega), Int.lt_of_le_of_lt (Int.ediv_le_self _ ha.1) ha.2⟩
  unfold doE
  split
  · exact wrap_u32 _
  · exact wrap_u32 _
  · exact wrap_u32 _
  · exact hdiv _ (by omega)
  · exact bits_u32 _ _ _
  · exact bits_u32 _ _ _
  · exact wrap_u32 _
  · exact hdiv _ (Int.pow_pos (by decide))
  · exact bits_u32 _ _ _
  · exact wrap_u32 _
theorem word_u32 (d : Dat) (hd : d.ok) (x : Int) : U32 (d.word x) := by
  unfold Dat.word
  split
  · exact wordAt_u32 d hd _
  · exact ⟨by decide, by decide⟩
theorem getD_set_u32 (l : List Int) (hl : ∀ k, U32 (l.getD k 0)) (i : Nat) (v : Int) (hv : U32 v) (k : Nat) : U32 ((l.set i v).getD k 0) := by
  have := hl k
  rw [List.getD_eq_getElem?_getD, List.getElem?_set]
  rw [List.getD_eq_getElem?_getD] at this
  split
  · split
    · exact hv
    · exact ⟨by decide, by decide⟩
  · exact this
theorem step_ok (d : Dat) (hd : d.ok) (i : Ins) (hi : i.ok) (s : Vm) (h : s.ok) : (stepE d i s).1.ok := by
  have hA : ∀ v, U32 v → ({ s with a := v } : Vm).ok := fun v hv => ⟨hv, h.x, h.len, h.cs, h.told⟩
  have hX : ∀ v, U32 v → ({ s with x := v } : Vm).ok := fun v hv => ⟨h.a, hv, h.len, h.cs, h.told⟩
  have hO : ∀ v, ({ s with over := v } : Vm).ok := fun v => ⟨h.a, h.x, h.len, h.cs, h.told⟩
  have hk : U32 i.k := hi.2.2.2
  have h64 : U32 64 := ⟨by decide, by decide⟩
  unfold stepE
  split
  · unfold loadE
    (repeat' split) <;> first | exact h | exact hA _ h64 | exact hX _ h64 | exact hA _ hk | exact hX _ hk | exact hA _ (h.cs _) | exact hX _ (h.cs _) | exact hA _ (word_u32 d hd _)
  split
  · split
    · refine ⟨h.a, h.x, by simp [h.len], fun k => getD_set_u32 _ h.cs _ _ ?_ k, h.told⟩
      split
      · exact h.x
      · exact h.a
    · exact h
  split
  · unfold numberE
    (repeat' split) <;> first | exact h | exact hO _ | exact hA _ (doE_u32 _ _ _ h.a (second_u32 i hi s h))
  split
  · exact h
  split
  · refine ⟨h.a, h.x, h.len, h.cs, ?_⟩
    show U32 (if i.code = 22 then s.a else i.k)
    split
    · exact h.a
    · exact hk
  split
  · show Vm.ok (if i.code = 7 then { s with x := s.a } else { s with a := s.x })
    split
    · exact hX _ h.a
    · exact hA _ h.x
  · exact h
theorem step_skip (d : Dat) (i : Ins) (hi : i.ok) (s : Vm) : U32 (stepE d i s).2.1 := by
  have h0 : U32 0 := ⟨by decide, by decide⟩
  have hk : U32 i.k := hi.2.2.2
  have hj : U32 i.jt := ⟨hi.2.1.1, by have := hi.2.1.2; omega⟩
  have hf : U32 i.jf := ⟨hi.2.2.1.1, by have := hi.2.2.1.2; omega⟩
  unfold stepE
  (repeat' split) <;> try exact h0
  unfold jumpE
  (repeat' split) <;> first | exact hk | exact hj | exact hf

/-- What a run comes to. -/
structure Res where
  ans : Int
  steps : Nat
  tr : List Nat
  err : Int
def behE (c : Int) : Int := if clsOf c = 4 then 42 else 46
/-- A run from a place on. -/
def runE (d : Dat) (ps : List Ins) : Nat → Nat → Vm → Int → List Nat → Res
  | 0, _, _, _, tr => ⟨0, tr.length, tr, 0⟩
  | f + 1, at_, s, beh, tr =>
    if s.over = true then ⟨s.told, tr.length, tr, 0⟩
    else if at_ < ps.length then
      if (stepE d (ps.getD at_ zeroI) s).2.2 = 0 then runE d ps f (at_ + (1 + (stepE d (ps.getD at_ zeroI) s).2.1.toNat)) (stepE d (ps.getD at_ zeroI) s).1 (behE (ps.getD at_ zeroI).code) (tr ++ [at_])
      else ⟨0, tr.length, tr ++ [at_], (stepE d (ps.getD at_ zeroI) s).2.2⟩
    else ⟨0, tr.length, tr, beh⟩
def vm0 : Vm := ⟨0, 0, List.replicate 16 0, 0, false⟩
theorem vm0_ok : vm0.ok := by
  refine ⟨⟨by decide, by decide⟩, ⟨by decide, by decide⟩, rfl, fun k => ?_, ⟨by decide, by decide⟩⟩
  have : (List.replicate 16 (0 : Int)).getD k 0 = 0 := by
    rw [List.getD_eq_getElem?_getD, List.getElem?_replicate]
    split <;> rfl
  show U32 ((List.replicate 16 (0 : Int)).getD k 0)
  rw [this]
  exact ⟨by decide, by decide⟩
def runR (d : Dat) (ps : List Ins) : Res := runE d ps (ps.length + 2) 0 vm0 46 []
end Go.Proofs.Ytjlhfmedaandeaa

/- vm: run. -/
namespace Go.Proofs.Ytjlhfmedaandeaa
open Go.RowKit Go.ChangeShapes Go.WideShapes
set_option linter.unusedVariables false
set_option linter.unusedSimpArgs false

theorem run1_pan (p q : Nat) (x a b : Int) (w : World) (hp : w.cell? ⟨p, 0, none⟩ = some (.int .u32 a)) (hq : w.cell? ⟨q, 0, none⟩ = some (.int .i64 b)) (hpq : p ≠ q) (zp : w.frozen? ⟨p, 0, none⟩ = false) (zq : w.frozen? ⟨q, 0, none⟩ = false) :
    CallsD Try.prog 75 #[.pointer (some ⟨p, 0, none⟩), .pointer (some ⟨q, 0, none⟩)] (.panicking (pan x)) w fun e u' w' =>
      e = .returned (.tuple #[]) ∧ u' = .panicking [{ v := .iface 24 (.int .i64 x), recovered := true }] ∧ w' = ((w.setCell ⟨p, 0, none⟩ (.int .u32 0)).setCell ⟨q, 0, none⟩ (.int .i64 x)).drew := by
  have hta : ∀ w, (Instr.typeAssert (.iface 24 (.int .i64 x)) 20 24 false).run Try.prog w = .ok (.int .i64 x) w := fun _ => by kernel_rfl
  refine callsD_of_wpS Try.func75 rfl fun c₀ cs hu => ?_
  have hu' : c₀.mode = .panicking [{ v := .iface 24 (.int .i64 x), recovered := false }] := hu
  apply wpS_seq
  apply wpS_region
  simp [wpOpsS, go_sem, recoverD, hu', Try.ntmps75, Exit.thenS]
  apply wpS_seq
  apply wpS_region
  simp [wpOpsS, go_sem, Exit.thenS]
  refine wpS_cond (t := true) (by simp [Act.eval, Array.replicate]) ?_
  simp only [if_true]
  refine wpS_of_wp ?_
  go_region
  all_goals exact ⟨rfl, _, rfl, _, results_none rfl _ _ _, rfl, rfl, rfl⟩
theorem run1_idle (p q : Addr) (w : World) :
    CallsD Try.prog 75 #[.pointer (some p), .pointer (some q)] .returning w fun e u' w' => e = .returned (.tuple #[]) ∧ u' = .returning ∧ w' = w := by
  refine callsD_of_wpS Try.func75 rfl fun c₀ cs hu => ?_
  apply wpS_seq
  apply wpS_region
  simp [wpOpsS, go_sem, recoverD, hu, Try.ntmps75, Exit.thenS]
  apply wpS_seq
  apply wpS_region
  simp [wpOpsS, go_sem, Exit.thenS]
  refine wpS_cond (t := false) (by simp [Act.eval, Array.replicate]) ?_
  simp only [Bool.false_eq_true, if_false]
  refine wpS_of_wp (wp_skip ?_)
  cases c₀
  simp_all [bodyPostS, results, Try.results75]

theorem info_int' : (Try.prog.info? 3).map (fun i => (i.zero, i.size, i.bytes)) = some (some (.int .i64 0), 1, 8) := by kernel_rfl
def ints (l : List Nat) : List Int := l.map Int.ofNat
theorem ints_length (l : List Nat) : (ints l).length = l.length := by simp [ints]
theorem ints_append (a b : List Nat) : ints (a ++ b) = ints a ++ ints b := by simp [ints]
theorem run_over {d : Dat} {ps : List Ins} {f at_ : Nat} {s : Vm} {beh : Int} {tr : List Nat} (h : s.over = true) : runE d ps (f + 1) at_ s beh tr = ⟨s.told, tr.length, tr, 0⟩ := by
  unfold runE; rw [if_pos h]
theorem run_end {d : Dat} {ps : List Ins} {f at_ : Nat} {s : Vm} {beh : Int} {tr : List Nat} (h : s.over = false) (k : ¬ at_ < ps.length) : runE d ps (f + 1) at_ s beh tr = ⟨0, tr.length, tr, beh⟩ := by
  unfold runE; rw [if_neg (by rw [h]; decide), if_neg k]
theorem run_err {d : Dat} {ps : List Ins} {f at_ : Nat} {s : Vm} {beh : Int} {tr : List Nat} (h : s.over = false) (k : at_ < ps.length) (he : (stepE d ps[at_] s).2.2 ≠ 0) :
    runE d ps (f + 1) at_ s beh tr = ⟨0, tr.length, tr ++ [at_], (stepE d ps[at_] s).2.2⟩ := by
  have e : ps.getD at_ zeroI = ps[at_] := by rw [List.getD_eq_getElem?_getD, List.getElem?_eq_getElem k]; rfl
  rw [← e] at he ⊢
  conv => lhs; unfold runE
  rw [if_neg (by rw [h]; decide), if_pos k, if_neg he]
theorem run_step {d : Dat} {ps : List Ins} {f at_ : Nat} {s : Vm} {beh : Int} {tr : List Nat} (h : s.over = false) (k : at_ < ps.length) (he : (stepE d ps[at_] s).2.2 = 0) :
    runE d ps (f + 1) at_ s beh tr = runE d ps f (at_ + (1 + (stepE d ps[at_] s).2.1.toNat)) (stepE d ps[at_] s).1 (behE ps[at_].code) (tr ++ [at_]) := by
  have e : ps.getD at_ zeroI = ps[at_] := by rw [List.getD_eq_getElem?_getD, List.getElem?_eq_getElem k]; rfl
  rw [← e] at he ⊢
  conv => lhs; unfold runE
  rw [if_neg (by rw [h]; decide), if_pos k, if_pos he]
theorem own_upd {W W' : World} {g base : Nat} {e : TypeId} {size n : Nat} {v : Value} {xs : List Value} (h : W.ownsRow base e size v n xs) (hu : Upd g W W') (hg : g < base) : W'.ownsRow base e size v n xs := by
  refine h.kept hu.grown ?_
  rcases ho : v.ownBlock with _ | k
  · exact .inl rfl
  · have := (h.lt k ho).1
    refine .inr fun e => ?_
    injection e with e
    omega
theorem grown_blk {W W' : World} {g base : Nat} {e t : TypeId} {size n : Nat} {v : Value} {xs : List Value} {cs : Array Value} (h : W.ownsRow base e size v n xs) (hg : W.grownBy W' v.ownBlock) (hb : Blk W g t cs) (hl : g < base) : Blk W' g t cs :=
  hb.grown hg fun e => by
    have := (h.lt g e.symm).1
    omega

set_option maxHeartbeats 4000000 in
set_option maxRecDepth 100000 in
theorem run_any (A : Option Addr) (n c : Nat) (ps : List Ins) (hp : ps.length = n) (hok : ∀ i ∈ ps, i.ok) (hn : n ≤ 100000) (d : Dat) (hd : d.ok) (w : World) (hM : InM w A (pc ps)) :
    Calls Try.prog 60 #[.slice A n c, d.val] w fun e w' => ∃ L cl, e = .returned (.tuple #[.int .u32 (runR d ps).ans, .int .i64 (runR d ps).steps, .slice L (runR d ps).tr.length cl, .int .i64 (runR d ps).err]) ∧
      InM w' L (nums .i64 (ints (runR d ps).tr)) ∧ Ext w w' := by
  have hmf : ∀ (fn : Fn) (first cap : Array Value) (w : World), (Instr.makeFunc fn first cap).run Try.prog w = .ok (.func fn first cap) w := fun _ _ _ _ => rfl
  obtain ⟨i0, hi, hz0, hz1, hz2⟩ := info_parts info_int'
  have HI := Lib.hid hi; have HZ0 := Lib.hid hz0; have HZ1 := Lib.hid hz1; have HZ2 := Lib.hid hz2
  have HM := Lib.hid hM
  have HD := Lib.hid hd
  have HP := Lib.hid hp
  have HOK := Lib.hid hok
  clear hM hd hp hok hi hz0 hz1 hz2
  obtain ⟨R, hR⟩ : ∃ R, runR d ps = R := ⟨_, rfl⟩
  rw [hR]
  unfold runR at hR
  rw [HP.out] at hR
  have HR := Lib.hid hR
  clear hR
  obtain ⟨nr, arch, ip, a0, a1, a2, a3, a4, a5⟩ := d
  go_enter_defers Try.func60, Try.ntmps60
  go_wp2_with fail
  have hx0 : Ext w ((((w.alloc (.cells #[.int .u32 nr, .int .u32 arch, .int .u64 ip, .int .u64 a0, .int .u64 a1, .int .u64 a2, .int .u64 a3, .int .u64 a4, .int .u64 a5] 53)).alloc (.cells #[.int .u32 0] 30)).alloc (.cells #[.int .i64 0] 24)).alloc (.cells #[.int .u32 0, .int .u32 0, .int .u32 0, .int .u32 0, .int .u32 0, .int .u32 0, .int .u32 0, .int .u32 0, .int .u32 0, .int .u32 0, .int .u32 0, .int .u32 0, .int .u32 0, .int .u32 0, .int .u32 0, .int .u32 0, .int .u32 0, .int .u32 0, .int .u32 nr, .int .u32 arch, .int .u64 ip, .int .u64 a0, .int .u64 a1, .int .u64 a2, .int .u64 a3, .int .u64 a4, .int .u64 a5, .int .u32 0, .bool false] 106)) := ((((Ext.refl w).alloc _).alloc _).alloc _).alloc _
  have b40 : Blk ((((w.alloc (.cells #[.int .u32 nr, .int .u32 arch, .int .u64 ip, .int .u64 a0, .int .u64 a1, .int .u64 a2, .int .u64 a3, .int .u64 a4, .int .u64 a5] 53)).alloc (.cells #[.int .u32 0] 30)).alloc (.cells #[.int .i64 0] 24)).alloc (.cells #[.int .u32 0, .int .u32 0, .int .u32 0, .int .u32 0, .int .u32 0, .int .u32 0, .int .u32 0, .int .u32 0, .int .u32 0, .int .u32 0, .int .u32 0, .int .u32 0, .int .u32 0, .int .u32 0, .int .u32 0, .int .u32 0, .int .u32 0, .int .u32 0, .int .u32 nr, .int .u32 arch, .int .u64 ip, .int .u64 a0, .int .u64 a1, .int .u64 a2, .int .u64 a3, .int .u64 a4, .int .u64 a5, .int .u32 0, .bool false] 106)) (w.heap.size + 1) 30 #[.int .u32 0] := ((Blk.new_ (by simp)).alloc _).alloc _
  have b70 : Blk ((((w.alloc (.cells #[.int .u32 nr, .int .u32 arch, .int .u64 ip, .int .u64 a0, .int .u64 a1, .int .u64 a2, .int .u64 a3, .int .u64 a4, .int .u64 a5] 53)).alloc (.cells #[.int .u32 0] 30)).alloc (.cells #[.int .i64 0] 24)).alloc (.cells #[.int .u32 0, .int .u32 0, .int .u32 0, .int .u32 0, .int .u32 0, .int .u32 0, .int .u32 0, .int .u32 0, .int .u32 0, .int .u32 0, .int .u32 0, .int .u32 0, .int .u32 0, .int .u32 0, .int .u32 0, .int .u32 0, .int .u32 0, .int .u32 0, .int .u32 nr, .int .u32 arch, .int .u64 ip, .int .u64 a0, .int .u64 a1, .int .u64 a2, .int .u64 a3, .int .u64 a4, .int .u64 a5, .int .u32 0, .bool false] 106)) (w.heap.size + 1 + 1) 24 #[.int .i64 0] := (Blk.new_ (by simp)).alloc _
  have mb0 : MB ((((w.alloc (.cells #[.int .u32 nr, .int .u32 arch, .int .u64 ip, .int .u64 a0, .int .u64 a1, .int .u64 a2, .int .u64 a3, .int .u64 a4, .int .u64 a5] 53)).alloc (.cells #[.int .u32 0] 30)).alloc (.cells #[.int .i64 0] 24)).alloc (.cells #[.int .u32 0, .int .u32 0, .int .u32 0, .int .u32 0, .int .u32 0, .int .u32 0, .int .u32 0, .int .u32 0, .int .u32 0, .int .u32 0, .int .u32 0, .int .u32 0, .int .u32 0, .int .u32 0, .int .u32 0, .int .u32 0, .int .u32 0, .int .u32 0, .int .u32 nr, .int .u32 arch, .int .u64 ip, .int .u64 a0, .int .u64 a1, .int .u64 a2, .int .u64 a3, .int .u64 a4, .int .u64 a5, .int .u32 0, .bool false] 106)) (w.heap.size + 1 + 1 + 1) ⟨nr, arch, ip, a0, a1, a2, a3, a4, a5⟩ vm0 := ⟨Blk.new_ (by simp), rfl⟩
  generalize (((w.alloc (.cells #[.int .u32 nr, .int .u32 arch, .int .u64 ip, .int .u64 a0, .int .u64 a1, .int .u64 a2, .int .u64 a3, .int .u64 a4, .int .u64 a5] 53)).alloc (.cells #[.int .u32 0] 30)).alloc (.cells #[.int .i64 0] 24)).alloc (.cells #[.int .u32 0, .int .u32 0, .int .u32 0, .int .u32 0, .int .u32 0, .int .u32 0, .int .u32 0, .int .u32 0, .int .u32 0, .int .u32 0, .int .u32 0, .int .u32 0, .int .u32 0, .int .u32 0, .int .u32 0, .int .u32 0, .int .u32 0, .int .u32 0, .int .u32 nr, .int .u32 arch, .int .u64 ip, .int .u64 a0, .int .u64 a1, .int .u64 a2, .int .u64 a3, .int .u64 a4, .int .u64 a5, .int .u32 0, .bool false] 106) = w0 at *
  generalize hdd : (⟨nr, arch, ip, a0, a1, a2, a3, a4, a5⟩ : Dat) = d at *
  clear hdd
  generalize Value.agg #[.int .u32 0, .int .u32 0, .int .u32 0, .int .u32 0, .int .u32 0, .int .u32 0, .int .u32 0, .int .u32 0, .int .u32 0, .int .u32 0, .int .u32 0, .int .u32 0, .int .u32 0, .int .u32 0, .int .u32 0, .int .u32 0, .int .u32 0, .int .u32 0, .int .u32 nr, .int .u32 arch, .int .u64 ip, .int .u64 a0, .int .u64 a1, .int .u64 a2, .int .u64 a3, .int .u64 a4, .int .u64 a5, .int .u32 0, .bool false] = V12
  generalize Value.agg #[.int .u32 nr, .int .u32 arch, .int .u64 ip, .int .u64 a0, .int .u64 a1, .int .u64 a2, .int .u64 a3, .int .u64 a4, .int .u64 a5] = V11
  generalize d.val = V1
  go_loopw [5, 6, 9, 10] (fun st sl be ap wr => ∃ (f at_ : Nat) (s : Vm) (beh : Int) (tr : List Nat) (B : Option Addr) (cl : Nat), st = .int .i64 tr.length ∧ sl = .slice B tr.length cl ∧ be = .int .i64 beh ∧ ap = .int .i64 at_ ∧ runE d ps (f + 1) at_ s beh tr = R ∧ s.ok ∧ MB wr (w.heap.size + 1 + 1 + 1) d s ∧
      wr.ownsRow (w.heap.size + 4) 3 1 (.slice B tr.length cl) tr.length (nums .i64 (ints tr)) ∧ Ext w wr ∧ w.heap.size + 4 ≤ wr.heap.size ∧ Blk wr (w.heap.size + 1) 30 #[.int .u32 0] ∧ Blk wr (w.heap.size + 1 + 1) 24 #[.int .i64 0] ∧ tr.length ≤ at_ ∧ n + 1 ≤ f + at_ ∧ at_ ≤ n + 4294967296)
    (fun _ _ _ ap _ => n - (intOf ap).toNat)
  case atStart => exact ⟨n + 1, 0, vm0, 46, [], none, 0, rfl, rfl, rfl, rfl, HR.out, vm0_ok, mb0, (World.ownsRow_nil w0 (w.heap.size + 4) 3 1 : w0.ownsRow (w.heap.size + 4) 3 1 (.slice none ([] : List Nat).length 0) ([] : List Nat).length (nums .i64 (ints []))), hx0, by have := mb0.blk.lt; omega, b40, b70, Nat.le_refl _, by omega, by omega⟩
  case round =>
    clear hx0 b40 b70 mb0
    obtain ⟨f, at_, s, beh, tr, B, cl, rfl, rfl, rfl, rfl, hrun, hso, hB, hrow, hx, hz4, b4, b7, htl, hf, hat⟩ := hrel
    have HRUN := Lib.hid hrun
    have HSO := Lib.hid hso
    have z1 := hB.over
    have z2 := hB.told
    clear hrun hso
    rcases hov : s.over with _ | _
    · rw [hov] at z1
      by_cases hlt : at_ < n
      · have hkp : at_ < ps.length := by rw [HP.out]; exact hlt
        have hMr := HM.out.ext hx
        obtain ⟨b0, o0, rfl, _⟩ := prog_some hMr (by omega)
        obtain ⟨q0, q1, q2, q3⟩ := prog_cells hMr hkp
        have k1 : (0 : Int) ≤ at_ := by omega
        have k2 : ¬ (n : Int) ≤ at_ := by omega
        have hik := HOK.out _ (List.getElem_mem hkp)
        have HDO := Lib.hid (fun W B => do_any ps[at_] hik (w.heap.size + 1 + 1 + 1) d HD.out s HSO.out W B)
        have HO := Lib.hid (fun W => of_any (ps[at_]).code W)
        have HST := Lib.hid (fun he => (run_step (d := d) (ps := ps) (f := f) (beh := beh) (tr := tr) hov hkp he).symm.trans HRUN.out)
        have HER := Lib.hid (fun he => (run_err (d := d) (ps := ps) (f := f) (beh := beh) (tr := tr) hov hkp he).symm.trans HRUN.out)
        have HSK := step_skip d ps[at_] hik s
        have HSO' := Lib.hid (step_ok d HD.out ps[at_] hik s HSO.out)
        have HQ := Lib.hid (fun W (h : Ext w W) => prog_cells (HM.out.ext h) hkp)
        have HBE := Lib.hid (show behE (ps[at_]).code = if clsOf (ps[at_]).code = 4 then 42 else 46 from rfl)
        obtain ⟨f, rfl⟩ : ∃ f', f = f' + 1 := ⟨f - 1, by omega⟩
        clear hMr HRUN
        generalize ps[at_] = P at *
        obtain ⟨co, jt, jf, kk⟩ := P
        generalize stepE d ⟨co, jt, jf, kk⟩ s = r at *
        obtain ⟨s', sk, er⟩ := r
        obtain ⟨m, rfl⟩ : ∃ m : Nat, sk = m := ⟨sk.toNat, by have := HSK.1; dsimp only at this; omega⟩
        have hm1 : (m : Int) < 4294967296 := HSK.2
        have hm0 : (0 : Int) ≤ m := by omega
        dsimp only at q0 q1 q2 q3 HO HDO HST HER HSO' HQ HBE
        have hcl : (byE co).1.cls = clsOf co := rfl
        rw [hcl] at HO
        simp only [Ins.val, Ins.cells] at HDO
        clear hcl HSK hik
        have hxa := hx.alloc (.cells #[.int .i64 at_] 3)
        have hma : InM (wr.alloc (.cells #[.int .i64 at_] 3)) (some ⟨wr.heap.size, 0, none⟩) [.int .i64 at_] := inM_new rfl
        have hra := own_ext hrow ((Ext.refl wr).alloc (.cells #[.int .i64 at_] 3))
        have hBa := hB.ext ((Ext.refl wr).alloc (.cells #[.int .i64 at_] 3))
        have b4a := b4.alloc (.cells #[.int .i64 at_] 3)
        have b7a := b7.alloc (.cells #[.int .i64 at_] 3)
        have hza : w.heap.size + 4 ≤ (wr.alloc (.cells #[.int .i64 at_] 3)).heap.size := by simp; omega
        have hlen : tr.length + 1 ≤ 1000000 := by omega
        have HLEN := Lib.hid hlen
        have HRA := Lib.hid hra
        have HMA := Lib.hid hma
        have HBA := Lib.hid hBa
        have HB4 := Lib.hid b4a
        have HB7 := Lib.hid b7a
        have HXA := Lib.hid hxa
        have HZA := Lib.hid hza
        have HAT := Lib.hid (And.intro hat (And.intro hf htl))
        clear hlen hra hma hBa hB hrow b4 b7 b4a b7a hxa hza hat hf htl hx hz4 hkp hlt z2 q0 q1 q2 q3
        go_wp2_with (at_builtin; refine wpList_app rfl (.tmp 28) (.tmp 30) 67 rfl (w.heap.size + 4) 3 i0 (.int .i64 0) 1 8 Try.underlying67 HI.out HZ0.out HZ1.out HZ2.out rfl (by decide) B tr.length cl _ rfl HRA.out _ 1 1 [.int .i64 at_] rfl rfl HMA.out (by simp [Value.oneCell']) HLEN.out (by decide) HZA.out ?_; intro B' c' w2 hown2 hg2 hat2; have HOWN := Lib.hid hown2; have HG := Lib.hid hg2; clear hown2 hg2 hat2; have HX2 := Lib.hid (HXA.out.app HRA.out (by omega) HG.out); obtain ⟨q0, q1, q2, q3⟩ := HQ.out _ HX2.out)
        clear q0 q1 q2 q3
        refine (HO.out _).mono ?_
        rintro e w3 ⟨rfl, hx3⟩
        have HB3 := Lib.hid ((MB.mk (grown_blk HRA.out HG.out HBA.out.blk (by omega)) HBA.out.len).ext hx3)
        have HX3 := Lib.hid (HX2.out.trans hx3)
        have HR3 := Lib.hid (own_ext HOWN.out hx3)
        have HB43 := Lib.hid ((grown_blk HRA.out HG.out HB4.out (by omega)).ext hx3)
        have HB73 := Lib.hid ((grown_blk HRA.out HG.out HB7.out (by omega)).ext hx3)
        have HZ3 := Lib.hid (Nat.le_trans HZA.out (Nat.le_trans HG.out.size hx3.size))
        obtain ⟨q0, q1, q2, q3⟩ := HQ.out _ HX3.out
        clear HO HX2 HOWN HB4 HB7 HZA HXA HBA HMA HG HRA hx3
        generalize clsOf co = q at *
        by_cases hq : q = 4
        · subst hq
          have HBB : behE co = 42 := HBE.out
          rw [HBB] at HST
          clear HBB HBE
          go_wp2_with fail
          clear q0 q1 q2 q3
          refine (HDO.out _ HB3.out).mono ?_
          rintro e w4 ⟨hu, hr⟩
          have HR4 := Lib.hid (own_upd HR3.out hu (by omega))
          have HB44 := Lib.hid (hu.blk HB43.out (by omega))
          have HB74 := Lib.hid (hu.blk HB73.out (by omega))
          have HX4 := Lib.hid (hu.toExt HX3.out (by omega))
          have HZ4 := Lib.hid (Nat.le_trans HZ3.out hu.size)
          clear HDO HB3 HR3 HB43 HB73 HX3 HZ3 hu
          by_cases h0 : er = 0
          · rw [if_pos h0] at hr
            obtain ⟨rfl, hB4⟩ := hr
            have HB4 := Lib.hid hB4
            have HRR := Lib.hid (HST.out h0)
            have hl8 : (0 : Int) ≤ tr.length := by omega
            have hl9 : (tr.length : Int) < 1000000 := by have := HLEN.out; omega
            clear hB4 h0 HST HER
            go_wp2_with fail
            go_roundw
            case rel =>
              obtain ⟨ha1, ha2, ha3⟩ := HAT.out
              refine ⟨f, at_ + (1 + m), s', 42, tr ++ [at_], B', c', by simp, by simp, rfl, by go_num, ?_, HSO'.out, HB4.out, ?_, HX4.out, HZ4.out, HB44.out, HB74.out, by simp; omega, by omega, by omega⟩
              · have := HRR.out
                rwa [Int.toNat_natCast] at this
              · have := HR4.out
                rw [List.length_append, ints_append, nums_append]
                exact this
            case measure =>
              simp [intOf]
              omega
          · rw [if_neg h0] at hr
            subst hr
            have hRR := HER.out h0
            have y1 := HB44.out.cell 0
            have y2 := HB44.out.frozen 0
            have y3 := HB74.out.cell 0
            have y4 := HB74.out.frozen 0
            have hz5 := HZ4.out
            clear HST HER h0
            refine leaves_cons (f := 75) (args := #[.pointer (some ⟨w.heap.size + 1, 0, none⟩), .pointer (some ⟨w.heap.size + 1 + 1, 0, none⟩)]) (by simp) (by simp [go_sem]) ?_
            refine (run1_pan _ _ er 0 0 _ y1 y3 (by omega) y2 y4).mono ?_
            rintro e u' w'' ⟨rfl, rfl, rfl⟩
            have hu : Ext w ((w4.setCell ⟨w.heap.size + 1, 0, none⟩ (.int .u32 0)).setCell ⟨w.heap.size + 1 + 1, 0, none⟩ (.int .i64 er)).drew := ((HX4.out.set (by dsimp only; omega) _).set (by dsimp only; omega) _).drew
            have hr2 := own_upd (own_upd HR4.out ((Upd.refl (w.heap.size + 1) w4).set 0 (.int .u32 0)) (by omega)) ((Upd.refl (w.heap.size + 1 + 1) _).set 0 (.int .i64 er)) (by omega)
            have hm2 := own_inM hr2
            subst hRR
            refine ⟨_, ?_, B', c', rfl, ?_, hu⟩
            · simp [settle, results, Try.results60, go_sem, y1, y2, y3, y4]
            · rw [ints_append, nums_append]
              exact hm2
        · have hq2 : (q == 4) = false := by simpa using hq
          have HBB : behE co = 46 := HBE.out.trans (if_neg hq)
          clear hq
          rw [HBB] at HST
          clear HBB HBE
          go_wp2_with fail
          clear q0 q1 q2 q3
          refine (HDO.out _ HB3.out).mono ?_
          rintro e w4 ⟨hu, hr⟩
          have HR4 := Lib.hid (own_upd HR3.out hu (by omega))
          have HB44 := Lib.hid (hu.blk HB43.out (by omega))
          have HB74 := Lib.hid (hu.blk HB73.out (by omega))
          have HX4 := Lib.hid (hu.toExt HX3.out (by omega))
          have HZ4 := Lib.hid (Nat.le_trans HZ3.out hu.size)
          clear HDO HB3 HR3 HB43 HB73 HX3 HZ3 hu
          by_cases h0 : er = 0
          · rw [if_pos h0] at hr
            obtain ⟨rfl, hB4⟩ := hr
            have HB4 := Lib.hid hB4
            have HRR := Lib.hid (HST.out h0)
            have hl8 : (0 : Int) ≤ tr.length := by omega
            have hl9 : (tr.length : Int) < 1000000 := by have := HLEN.out; omega
            clear hB4 h0 HST HER
            go_wp2_with fail
            go_roundw
            case rel =>
              obtain ⟨ha1, ha2, ha3⟩ := HAT.out
              refine ⟨f, at_ + (1 + m), s', 46, tr ++ [at_], B', c', by simp, by simp, rfl, by go_num, ?_, HSO'.out, HB4.out, ?_, HX4.out, HZ4.out, HB44.out, HB74.out, by simp; omega, by omega, by omega⟩
              · have := HRR.out
                rwa [Int.toNat_natCast] at this
              · have := HR4.out
                rw [List.length_append, ints_append, nums_append]
                exact this
            case measure =>
              simp [intOf]
              omega
          · rw [if_neg h0] at hr
            subst hr
            have hRR := HER.out h0
            have y1 := HB44.out.cell 0
            have y2 := HB44.out.frozen 0
            have y3 := HB74.out.cell 0
            have y4 := HB74.out.frozen 0
            have hz5 := HZ4.out
            clear HST HER h0
            refine leaves_cons (f := 75) (args := #[.pointer (some ⟨w.heap.size + 1, 0, none⟩), .pointer (some ⟨w.heap.size + 1 + 1, 0, none⟩)]) (by simp) (by simp [go_sem]) ?_
            refine (run1_pan _ _ er 0 0 _ y1 y3 (by omega) y2 y4).mono ?_
            rintro e u' w'' ⟨rfl, rfl, rfl⟩
            have hu : Ext w ((w4.setCell ⟨w.heap.size + 1, 0, none⟩ (.int .u32 0)).setCell ⟨w.heap.size + 1 + 1, 0, none⟩ (.int .i64 er)).drew := ((HX4.out.set (by dsimp only; omega) _).set (by dsimp only; omega) _).drew
            have hr2 := own_upd (own_upd HR4.out ((Upd.refl (w.heap.size + 1) w4).set 0 (.int .u32 0)) (by omega)) ((Upd.refl (w.heap.size + 1 + 1) _).set 0 (.int .i64 er)) (by omega)
            have hm2 := own_inM hr2
            subst hRR
            refine ⟨_, ?_, B', c', rfl, ?_, hu⟩
            · simp [settle, results, Try.results60, go_sem, y1, y2, y3, y4]
            · rw [ints_append, nums_append]
              exact hm2
      · have k2 : (n : Int) ≤ at_ := by omega
        have hRR := (run_end hov (by rw [HP.out]; exact hlt)).symm.trans HRUN.out
        clear HRUN
        have y1 := b4.cell 0
        have y2 := b4.frozen 0
        have y3 := b7.cell 0
        have y4 := b7.frozen 0
        clear hB
        go_wp2_with fail
        refine (fail_any beh _).mono ?_
        rintro e w1 ⟨rfl, rfl⟩
        refine leaves_cons (f := 75) (args := #[.pointer (some ⟨w.heap.size + 1, 0, none⟩), .pointer (some ⟨w.heap.size + 1 + 1, 0, none⟩)]) (by simp) (by simp [go_sem]) ?_
        refine (run1_pan _ _ beh 0 0 _ y1 y3 (by omega) y2 y4).mono ?_
        rintro e u' w'' ⟨rfl, rfl, rfl⟩
        have hu : Ext w ((wr.setCell ⟨w.heap.size + 1, 0, none⟩ (.int .u32 0)).setCell ⟨w.heap.size + 1 + 1, 0, none⟩ (.int .i64 beh)).drew := ((hx.set (by dsimp only; omega) _).set (by dsimp only; omega) _).drew
        have hr2 := own_upd (own_upd hrow ((Upd.refl (w.heap.size + 1) wr).set 0 (.int .u32 0)) (by omega)) ((Upd.refl (w.heap.size + 1 + 1) _).set 0 (.int .i64 beh)) (by omega)
        subst hRR
        refine ⟨_, ?_, B, cl, rfl, own_inM hr2, hu⟩
        simp [settle, results, Try.results60, go_sem, y1, y2, y3, y4]
    · rw [hov] at z1
      have hRR := (run_over hov).symm.trans HRUN.out
      clear HRUN
      have y1 := b4.cell 0
      have y2 := b4.frozen 0
      have y3 := b7.cell 0
      have y4 := b7.frozen 0
      have HB4 := Lib.hid b4
      have HB7 := Lib.hid b7
      clear b4 b7 hB
      go_wp2_with fail
      refine leaves_cons (f := 75) (args := #[.pointer (some ⟨w.heap.size + 1, 0, none⟩), .pointer (some ⟨w.heap.size + 1 + 1, 0, none⟩)]) (by simp) (by simp [go_sem]) ?_
      refine (run1_idle _ _ _).mono ?_
      rintro e u' w'' ⟨rfl, rfl, rfl⟩
      have hu : Ext w ((wr.setCell ⟨w.heap.size + 1, 0, none⟩ (.int .u32 s.told)).setCell ⟨w.heap.size + 1 + 1, 0, none⟩ (.int .i64 0)) := (hx.set (by dsimp only; omega) _).set (by dsimp only; omega) _
      have hr2 := own_upd (own_upd hrow ((Upd.refl (w.heap.size + 1) wr).set 0 (.int .u32 s.told)) (by omega)) ((Upd.refl (w.heap.size + 1 + 1) _).set 0 (.int .i64 0)) (by omega)
      subst hRR
      refine ⟨_, ?_, B, cl, rfl, own_inM hr2, hu⟩
      simp [settle, results, Try.results60, go_sem, y1, y2, y3, y4]
end Go.Proofs.Ytjlhfmedaandeaa

/- vm: Run, Trace; told. -/
namespace Go.Proofs.Ytjlhfmedaandeaa
open Go.RowKit Go.ChangeShapes Go.WideShapes
set_option linter.unusedVariables false
set_option linter.unusedSimpArgs false

theorem vmRun (A : Option Addr) (n c : Nat) (ps : List Ins) (hp : ps.length = n) (hok : ∀ i ∈ ps, i.ok) (hn : n ≤ 100000) (d : Dat) (hd : d.ok) (w : World) (hM : InM w A (pc ps)) :
    Calls Try.prog 38 #[.slice A n c, d.val] w fun e w' => e = .returned (.tuple #[.int .u32 (runR d ps).ans, .int .i64 (runR d ps).steps, .int .i64 (runR d ps).err]) ∧ Ext w w' := by
  have HM := Lib.hid hM
  have HR := Lib.hid (fun W h => run_any A n c ps hp hok hn d hd W h)
  clear hM hp hok hd hn
  generalize runR d ps = R at *
  obtain ⟨nr, arch, ip, a0, a1, a2, a3, a4, a5⟩ := d
  have hx := (Ext.refl w).alloc (.cells #[.int .u32 nr, .int .u32 arch, .int .u64 ip, .int .u64 a0, .int .u64 a1, .int .u64 a2, .int .u64 a3, .int .u64 a4, .int .u64 a5] 53)
  have hM2 := HM.out.ext hx
  dsimp only [Dat.val] at HR
  go_enter Try.func38, Try.ntmps38
  go_wp2_with fail
  refine (HR.out _ hM2).mono ?_
  rintro e w1 ⟨L, cl, rfl, hL, hx1⟩
  clear hL hM2
  replace hx := hx.trans hx1
  go_wp2_with fail
  go_ret3
  exact ⟨rfl, hx⟩
end Go.Proofs.Ytjlhfmedaandeaa

/- vm: plain laws of a run. -/
namespace Go.Proofs.Ytjlhfmedaandeaa
open Go.RowKit
set_option linter.unusedVariables false
set_option linter.unusedSimpArgs false

structure Good (n : Nat) (R : Res) : Prop where
  up : R.tr.Pairwise (· < ·)
  lt : ∀ x ∈ R.tr, x < n
  zero : R.tr.head? = some 0 ∨ R.tr = []
  len : R.tr.length ≤ n
  le : R.steps ≤ R.tr.length
  ge : R.tr.length ≤ R.steps + 1
  bad : R.err ≠ 0 → R.ans = 0
  fine : R.err = 0 → R.tr.length = R.steps
theorem beh_ne (c : Int) : behE c ≠ 0 := by unfold behE; split <;> decide
theorem runE_good (d : Dat) (ps : List Ins) : ∀ (f at_ : Nat) (s : Vm) (beh : Int) (tr : List Nat), beh ≠ 0 → tr.Pairwise (· < ·) → (∀ x ∈ tr, x < at_ ∧ x < ps.length) → (tr.head? = some 0 ∨ (tr = [] ∧ at_ = 0)) → tr.length ≤ at_ → tr.length ≤ ps.length →
    Good ps.length (runE d ps f at_ s beh tr)
  | 0, at_, s, beh, tr, hb, h1, h2, h3, h4, h5 => ⟨h1, fun x hx => (h2 x hx).2, h3.imp id (·.1), h5, Nat.le_refl _, Nat.le_succ _, fun h => rfl, fun _ => rfl⟩
  | f + 1, at_, s, beh, tr, hb, h1, h2, h3, h4, h5 => by
    have up : at_ < ps.length → (tr ++ [at_]).Pairwise (· < ·) ∧ (∀ x ∈ tr ++ [at_], x < at_ + 1 ∧ x < ps.length) ∧ (tr ++ [at_]).head? = some 0 := fun h => by
      refine ⟨List.pairwise_append.2 ⟨h1, List.pairwise_singleton _ _, fun x hx y hy => ?_⟩, fun x hx => ?_, ?_⟩
      · rw [List.mem_singleton.1 hy]; exact (h2 x hx).1
      · rcases List.mem_append.1 hx with k | k
        · have := h2 x k; omega
        · rw [List.mem_singleton.1 k]; omega
      · rcases h3 with k | ⟨rfl, rfl⟩
        · rw [List.head?_append, k]; rfl
        · rfl
    unfold runE
    split
    · exact ⟨h1, fun x hx => (h2 x hx).2, h3.imp id (·.1), h5, Nat.le_refl _, Nat.le_succ _, fun h => absurd rfl h, fun _ => rfl⟩
    split
    · rename_i hlt
      obtain ⟨u1, u2, u3⟩ := up hlt
      split
      · refine runE_good d ps f _ _ _ _ (beh_ne _) u1 (fun x hx => ?_) (.inl u3) ?_ ?_
        · have := u2 x hx; omega
        · simp; omega
        · simp; omega
      · rename_i he
        exact ⟨u1, fun x hx => (u2 x hx).2, .inl u3, by simp; omega, by simp, by simp, fun _ => rfl, fun h => absurd h he⟩
    · exact ⟨h1, fun x hx => (h2 x hx).2, h3.imp id (·.1), h5, Nat.le_refl _, Nat.le_succ _, fun h => rfl, fun h => absurd h hb⟩
theorem run_good (d : Dat) (ps : List Ins) : Good ps.length (runR d ps) :=
  runE_good d ps _ _ _ _ _ (by decide) List.Pairwise.nil (fun x hx => by cases hx) (.inr ⟨rfl, rfl⟩) (Nat.le_refl _) (Nat.zero_le _)
end Go.Proofs.Ytjlhfmedaandeaa
