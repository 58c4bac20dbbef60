import Derived.Test.YtkejcfbhikpibaaVm8
/- vm: do. -/
namespace Go.Proofs.Ytkejcfbhikpibaa
open Go.RowKit Go.ChangeShapes Go.WideShapes
set_option linter.unusedVariables false
set_option linter.unusedSimpArgs false

theorem do_load (i : Ins) (hi : i.ok) (hc : clsOf i.code = 1) (g : Nat) (d : Dat) (hd : d.ok) (s : Vm) (W : World) (B : MB W g d s) :
    Calls Try.prog 51 #[.pointer (some ⟨g, 0, none⟩), i.val] W fun e w' => VmP g d W (.int .i64 0) (loadE d i s) e w' := by
  have HO := Lib.hid (fun W => of_any i.code W)
  rw [show (byE i.code).1.cls = 1 from hc] at HO
  have hx := (Ext.refl W).alloc (.cells #[.int .u16 i.code, .int .u8 i.jt, .int .u8 i.jf, .int .u32 i.k] 32)
  have HI := Lib.hid (Blk.new W 32 #[.int .u16 i.code, .int .u8 i.jt, .int .u8 i.jf, .int .u32 i.k])
  have HB := Lib.hid (B.ext hx)
  have HL := Lib.hid (fun W B => load_any i hi hc g d hd s W B)
  clear hc hi hd B
  generalize loadE d i s = r at *
  obtain ⟨s', x⟩ := r
  by_cases h0 : x = 0
  · subst h0
    unfold Ins.val Ins.cells at *
    obtain ⟨co, jt, jf, k⟩ := i
    dsimp only at *
    go_enter Try.func51, Try.ntmps51
    go_wp2_with fail
    refine (HO.out _).mono ?_
    rintro e w1 ⟨rfl, hx1⟩
    have q0 := (HI.out.ext hx1).cell 0
    have q1 := (HI.out.ext hx1).cell 1
    have q2 := (HI.out.ext hx1).cell 2
    have q3 := (HI.out.ext hx1).cell 3
    have B1 := HB.out.ext hx1
    replace hx := hx.trans hx1
    clear HI HB HO hx1
    go_wp2_with fail
    refine (HL.out _ B1).mono ?_
    rintro e w2 ⟨hu, hr⟩
    rw [if_pos rfl] at hr
    obtain ⟨rfl, hB⟩ := hr
    clear q0 q1 q2 q3
    go_wp2_with fail
    go_ret
    exact .yes ((Upd.of_ext hx).trans hu) hB
  · have H0 := Lib.hid h0
    clear h0
    unfold Ins.val Ins.cells at *
    obtain ⟨co, jt, jf, k⟩ := i
    dsimp only at *
    go_enter Try.func51, Try.ntmps51
    go_wp2_with fail
    refine (HO.out _).mono ?_
    rintro e w1 ⟨rfl, hx1⟩
    have q0 := (HI.out.ext hx1).cell 0
    have q1 := (HI.out.ext hx1).cell 1
    have q2 := (HI.out.ext hx1).cell 2
    have q3 := (HI.out.ext hx1).cell 3
    have B1 := HB.out.ext hx1
    replace hx := hx.trans hx1
    clear HI HB HO hx1
    go_wp2_with fail
    refine (HL.out _ B1).mono ?_
    rintro e w2 ⟨hu, hr⟩
    rw [if_neg H0.out] at hr
    subst hr
    exact ⟨rfl, .no H0.out ((Upd.of_ext hx).trans hu)⟩
theorem do_number (i : Ins) (hi : i.ok) (hc : clsOf i.code = 3) (g : Nat) (d : Dat) (s : Vm) (ho : s.ok) (W : World) (B : MB W g d s) :
    Calls Try.prog 51 #[.pointer (some ⟨g, 0, none⟩), i.val] W fun e w' => VmP g d W (.int .i64 0) (numberE i s) e w' := by
  have HO := Lib.hid (fun W => of_any i.code W)
  rw [show (byE i.code).1.cls = 3 from hc] at HO
  have hx := (Ext.refl W).alloc (.cells #[.int .u16 i.code, .int .u8 i.jt, .int .u8 i.jf, .int .u32 i.k] 32)
  have HI := Lib.hid (Blk.new W 32 #[.int .u16 i.code, .int .u8 i.jt, .int .u8 i.jf, .int .u32 i.k])
  have HB := Lib.hid (B.ext hx)
  have HL := Lib.hid (fun W B => number_any i hi hc g d s ho W B)
  clear hc hi B
  generalize numberE i s = r at *
  obtain ⟨s', x⟩ := r
  by_cases h0 : x = 0
  · subst h0
    unfold Ins.val Ins.cells at *
    obtain ⟨co, jt, jf, k⟩ := i
    dsimp only at *
    go_enter Try.func51, Try.ntmps51
    go_wp2_with fail
    refine (HO.out _).mono ?_
    rintro e w1 ⟨rfl, hx1⟩
    have q0 := (HI.out.ext hx1).cell 0
    have q1 := (HI.out.ext hx1).cell 1
    have q2 := (HI.out.ext hx1).cell 2
    have q3 := (HI.out.ext hx1).cell 3
    have B1 := HB.out.ext hx1
    replace hx := hx.trans hx1
    clear HI HB HO hx1
    go_wp2_with fail
    refine (HL.out _ B1).mono ?_
    rintro e w2 ⟨hu, hr⟩
    rw [if_pos rfl] at hr
    obtain ⟨rfl, hB⟩ := hr
    clear q0 q1 q2 q3
    go_wp2_with fail
    go_ret
    exact .yes ((Upd.of_ext hx).trans hu) hB
  · have H0 := Lib.hid h0
    clear h0
    unfold Ins.val Ins.cells at *
    obtain ⟨co, jt, jf, k⟩ := i
    dsimp only at *
    go_enter Try.func51, Try.ntmps51
    go_wp2_with fail
    refine (HO.out _).mono ?_
    rintro e w1 ⟨rfl, hx1⟩
    have q0 := (HI.out.ext hx1).cell 0
    have q1 := (HI.out.ext hx1).cell 1
    have q2 := (HI.out.ext hx1).cell 2
    have q3 := (HI.out.ext hx1).cell 3
    have B1 := HB.out.ext hx1
    replace hx := hx.trans hx1
    clear HI HB HO hx1
    go_wp2_with fail
    refine (HL.out _ B1).mono ?_
    rintro e w2 ⟨hu, hr⟩
    rw [if_neg H0.out] at hr
    subst hr
    exact ⟨rfl, .no H0.out ((Upd.of_ext hx).trans hu)⟩
theorem do_jump (i : Ins) (hi : i.ok) (hc : clsOf i.code = 4) (g : Nat) (d : Dat) (s : Vm) (ho : s.ok) (W : World) (B : MB W g d s) :
    Calls Try.prog 51 #[.pointer (some ⟨g, 0, none⟩), i.val] W fun e w' => VmP g d W (.int .i64 (jumpE i s)) (s, 0) e w' := by
  have HO := Lib.hid (fun W => of_any i.code W)
  rw [show (byE i.code).1.cls = 4 from hc] at HO
  have hx := (Ext.refl W).alloc (.cells #[.int .u16 i.code, .int .u8 i.jt, .int .u8 i.jf, .int .u32 i.k] 32)
  have HI := Lib.hid (Blk.new W 32 #[.int .u16 i.code, .int .u8 i.jt, .int .u8 i.jf, .int .u32 i.k])
  have HB := Lib.hid (B.ext hx)
  have HL := Lib.hid (fun W B => jump_any i hi hc g d s ho W B)
  clear hc hi B
  generalize jumpE i s = r at *
  unfold Ins.val Ins.cells at *
  obtain ⟨co, jt, jf, k⟩ := i
  dsimp only at *
  go_enter Try.func51, Try.ntmps51
  go_wp2_with fail
  refine (HO.out _).mono ?_
  rintro e w1 ⟨rfl, hx1⟩
  have q0 := (HI.out.ext hx1).cell 0
  have q1 := (HI.out.ext hx1).cell 1
  have q2 := (HI.out.ext hx1).cell 2
  have q3 := (HI.out.ext hx1).cell 3
  have B1 := HB.out.ext hx1
  replace hx := hx.trans hx1
  clear HI HB HO hx1
  go_wp2_with fail
  refine (HL.out _ B1).mono ?_
  rintro e w2 ⟨rfl, hx2⟩
  clear q0 q1 q2 q3
  go_wp2_with fail
  go_ret
  exact .yes (Upd.of_ext (hx.trans hx2)) (B1.ext hx2)
theorem do_store_no (i : Ins) (hc : clsOf i.code = 2) (hk : 16 ≤ i.k) (g : Nat) (d : Dat) (s : Vm) (W : World) (B : MB W g d s) :
    Calls Try.prog 51 #[.pointer (some ⟨g, 0, none⟩), i.val] W fun e w' => VmP g d W (.int .i64 0) (s, 43) e w' := by
  have hcc := class_store hc
  have HO := Lib.hid (fun W => of_any i.code W)
  rw [show (byE i.code).1.cls = 2 from hc] at HO
  have hx := (Ext.refl W).alloc (.cells #[.int .u16 i.code, .int .u8 i.jt, .int .u8 i.jf, .int .u32 i.k] 32)
  have HI := Lib.hid (Blk.new W 32 #[.int .u16 i.code, .int .u8 i.jt, .int .u8 i.jf, .int .u32 i.k])
  have HB := Lib.hid (B.ext hx)
  clear hc B
  unfold Ins.val Ins.cells at *
  obtain ⟨co, jt, jf, k⟩ := i
  dsimp only at *
  rcases hcc with rfl | rfl
  ·
    go_enter Try.func51, Try.ntmps51
    go_wp2_with fail
    refine (HO.out _).mono ?_
    rintro e w1 ⟨rfl, hx1⟩
    have q0 := (HI.out.ext hx1).cell 0
    have q1 := (HI.out.ext hx1).cell 1
    have q2 := (HI.out.ext hx1).cell 2
    have q3 := (HI.out.ext hx1).cell 3
    have B1 := HB.out.ext hx1
    replace hx := hx.trans hx1
    clear HI HB HO hx1
    have z := B1.a
    have z1 := B1.x
    go_wp2_with fail
    refine (cell_no g k hk _).mono ?_
    rintro e w2 ⟨rfl, rfl⟩
    exact ⟨rfl, .no (by decide) (Upd.of_ext hx)⟩
  ·
    go_enter Try.func51, Try.ntmps51
    go_wp2_with fail
    refine (HO.out _).mono ?_
    rintro e w1 ⟨rfl, hx1⟩
    have q0 := (HI.out.ext hx1).cell 0
    have q1 := (HI.out.ext hx1).cell 1
    have q2 := (HI.out.ext hx1).cell 2
    have q3 := (HI.out.ext hx1).cell 3
    have B1 := HB.out.ext hx1
    replace hx := hx.trans hx1
    clear HI HB HO hx1
    have z := B1.a
    have z1 := B1.x
    go_wp2_with fail
    refine (cell_no g k hk _).mono ?_
    rintro e w2 ⟨rfl, rfl⟩
    exact ⟨rfl, .no (by decide) (Upd.of_ext hx)⟩
theorem do_store_yes (co jt jf : Int) (k : Nat) (hc : clsOf co = 2) (hk : k < 16) (g : Nat) (d : Dat) (s : Vm) (W : World) (B : MB W g d s) :
    Calls Try.prog 51 #[.pointer (some ⟨g, 0, none⟩), (⟨co, jt, jf, k⟩ : Ins).val] W fun e w' => VmP g d W (.int .i64 0) ({ s with cs := s.cs.set k (if co = 3 then s.x else s.a) }, 0) e w' := by
  have hcc := class_store hc
  obtain ⟨i, hi⟩ : ∃ i : Ins, i = ⟨co, jt, jf, k⟩ := ⟨_, rfl⟩
  rw [← hi]
  replace hc : clsOf i.code = 2 := by rw [hi]; exact hc
  have HO := Lib.hid (fun W => of_any i.code W)
  rw [show (byE i.code).1.cls = 2 from hc] at HO
  have hx := (Ext.refl W).alloc (.cells #[.int .u16 i.code, .int .u8 i.jt, .int .u8 i.jf, .int .u32 i.k] 32)
  have HI := Lib.hid (Blk.new W 32 #[.int .u16 i.code, .int .u8 i.jt, .int .u8 i.jf, .int .u32 i.k])
  have HB := Lib.hid (B.ext hx)
  clear hc B
  subst hi
  unfold Ins.val Ins.cells at *
  dsimp only at *
  rcases hcc with rfl | rfl
  · rw [if_neg (by decide)]
    go_enter Try.func51, Try.ntmps51
    go_wp2_with fail
    refine (HO.out _).mono ?_
    rintro e w1 ⟨rfl, hx1⟩
    have q0 := (HI.out.ext hx1).cell 0
    have q1 := (HI.out.ext hx1).cell 1
    have q2 := (HI.out.ext hx1).cell 2
    have q3 := (HI.out.ext hx1).cell 3
    have B1 := HB.out.ext hx1
    replace hx := hx.trans hx1
    clear HI HB HO hx1
    have z := B1.a
    have z1 := B1.x
    have z2 := B1.c hk
    have z3 := B1.fz (2 + k)
    have B2 := B1.setC hk s.a
    have hu := (Upd.of_ext (g := g) hx).set (2 + k) (.int .u32 s.a)
    clear B1
    go_wp2_with fail
    refine (cell_yes g k hk _).mono ?_
    rintro e w2 ⟨rfl, rfl⟩
    go_wp2_with fail
    go_ret
    exact .yes hu B2
  · rw [if_pos rfl]
    go_enter Try.func51, Try.ntmps51
    go_wp2_with fail
    refine (HO.out _).mono ?_
    rintro e w1 ⟨rfl, hx1⟩
    have q0 := (HI.out.ext hx1).cell 0
    have q1 := (HI.out.ext hx1).cell 1
    have q2 := (HI.out.ext hx1).cell 2
    have q3 := (HI.out.ext hx1).cell 3
    have B1 := HB.out.ext hx1
    replace hx := hx.trans hx1
    clear HI HB HO hx1
    have z := B1.a
    have z1 := B1.x
    have z2 := B1.c hk
    have z3 := B1.fz (2 + k)
    have B2 := B1.setC hk s.x
    have hu := (Upd.of_ext (g := g) hx).set (2 + k) (.int .u32 s.x)
    clear B1
    go_wp2_with fail
    refine (cell_yes g k hk _).mono ?_
    rintro e w2 ⟨rfl, rfl⟩
    go_wp2_with fail
    go_ret
    exact .yes hu B2
theorem do_answer (i : Ins) (hc : clsOf i.code = 5) (g : Nat) (d : Dat) (s : Vm) (W : World) (B : MB W g d s) :
    Calls Try.prog 51 #[.pointer (some ⟨g, 0, none⟩), i.val] W fun e w' => VmP g d W (.int .i64 0) ({ s with told := if i.code = 22 then s.a else i.k, over := true }, 0) e w' := by
  have hcc := class_answer hc
  have HO := Lib.hid (fun W => of_any i.code W)
  rw [show (byE i.code).1.cls = 5 from hc] at HO
  have hx := (Ext.refl W).alloc (.cells #[.int .u16 i.code, .int .u8 i.jt, .int .u8 i.jf, .int .u32 i.k] 32)
  have HI := Lib.hid (Blk.new W 32 #[.int .u16 i.code, .int .u8 i.jt, .int .u8 i.jf, .int .u32 i.k])
  have HB := Lib.hid (B.ext hx)
  clear hc B
  unfold Ins.val Ins.cells at *
  obtain ⟨co, jt, jf, k⟩ := i
  dsimp only at *
  rcases hcc with rfl | rfl
  · rw [if_neg (by decide)]
    go_enter Try.func51, Try.ntmps51
    go_wp2_with fail
    refine (HO.out _).mono ?_
    rintro e w1 ⟨rfl, hx1⟩
    have q0 := (HI.out.ext hx1).cell 0
    have q1 := (HI.out.ext hx1).cell 1
    have q2 := (HI.out.ext hx1).cell 2
    have q3 := (HI.out.ext hx1).cell 3
    have B1 := HB.out.ext hx1
    replace hx := hx.trans hx1
    clear HI HB HO hx1
    have z := B1.told
    have z1 := B1.over
    have z2 := B1.fz 27
    have z3 := B1.fz 28
    have B2 := (B1.setT k).setO true
    have hu := ((Upd.of_ext (g := g) hx).set 27 (.int .u32 k)).set 28 (.bool true)
    clear B1
    go_wp2_with fail
    go_ret
    exact .yes hu B2
  · rw [if_pos rfl]
    go_enter Try.func51, Try.ntmps51
    go_wp2_with fail
    refine (HO.out _).mono ?_
    rintro e w1 ⟨rfl, hx1⟩
    have q0 := (HI.out.ext hx1).cell 0
    have q1 := (HI.out.ext hx1).cell 1
    have q2 := (HI.out.ext hx1).cell 2
    have q3 := (HI.out.ext hx1).cell 3
    have B1 := HB.out.ext hx1
    replace hx := hx.trans hx1
    clear HI HB HO hx1
    have z := B1.told
    have z1 := B1.over
    have z2 := B1.fz 27
    have z3 := B1.fz 28
    have z4 := B1.a
    have B2 := ((B1.setT k).setO true).setT s.a
    have hu := (((Upd.of_ext (g := g) hx).set 27 (.int .u32 k)).set 28 (.bool true)).set 27 (.int .u32 s.a)
    clear B1
    go_wp2_with fail
    go_ret
    exact .yes hu B2
theorem do_move (i : Ins) (hc : clsOf i.code = 6) (g : Nat) (d : Dat) (s : Vm) (W : World) (B : MB W g d s) :
    Calls Try.prog 51 #[.pointer (some ⟨g, 0, none⟩), i.val] W fun e w' => VmP g d W (.int .i64 0) ((if i.code = 7 then { s with x := s.a } else { s with a := s.x }), 0) e w' := by
  have hcc := class_move hc
  have HO := Lib.hid (fun W => of_any i.code W)
  rw [show (byE i.code).1.cls = 6 from hc] at HO
  have hx := (Ext.refl W).alloc (.cells #[.int .u16 i.code, .int .u8 i.jt, .int .u8 i.jf, .int .u32 i.k] 32)
  have HI := Lib.hid (Blk.new W 32 #[.int .u16 i.code, .int .u8 i.jt, .int .u8 i.jf, .int .u32 i.k])
  have HB := Lib.hid (B.ext hx)
  clear hc B
  unfold Ins.val Ins.cells at *
  obtain ⟨co, jt, jf, k⟩ := i
  dsimp only at *
  rcases hcc with rfl | rfl
  · rw [if_pos rfl]
    go_enter Try.func51, Try.ntmps51
    go_wp2_with fail
    refine (HO.out _).mono ?_
    rintro e w1 ⟨rfl, hx1⟩
    have q0 := (HI.out.ext hx1).cell 0
    have q1 := (HI.out.ext hx1).cell 1
    have q2 := (HI.out.ext hx1).cell 2
    have q3 := (HI.out.ext hx1).cell 3
    have B1 := HB.out.ext hx1
    replace hx := hx.trans hx1
    clear HI HB HO hx1
    have z := B1.a
    have z1 := B1.x
    have z2 := B1.fz 1
    have B2 := B1.setX s.a
    have hu := (Upd.of_ext (g := g) hx).set 1 (.int .u32 s.a)
    clear B1
    go_wp2_with fail
    go_ret
    exact .yes hu B2
  · rw [if_neg (by decide)]
    go_enter Try.func51, Try.ntmps51
    go_wp2_with fail
    refine (HO.out _).mono ?_
    rintro e w1 ⟨rfl, hx1⟩
    have q0 := (HI.out.ext hx1).cell 0
    have q1 := (HI.out.ext hx1).cell 1
    have q2 := (HI.out.ext hx1).cell 2
    have q3 := (HI.out.ext hx1).cell 3
    have B1 := HB.out.ext hx1
    replace hx := hx.trans hx1
    clear HI HB HO hx1
    have z := B1.a
    have z1 := B1.x
    have z2 := B1.fz 0
    have B2 := B1.setA s.x
    have hu := (Upd.of_ext (g := g) hx).set 0 (.int .u32 s.x)
    clear B1
    go_wp2_with fail
    go_ret
    exact .yes hu B2
theorem do_none (i : Ins) (hc : clsOf i.code = 0) (g : Nat) (d : Dat) (s : Vm) (W : World) (B : MB W g d s) :
    Calls Try.prog 51 #[.pointer (some ⟨g, 0, none⟩), i.val] W fun e w' => VmP g d W (.int .i64 0) (s, 40) e w' := by
  have HO := Lib.hid (fun W => of_any i.code W)
  rw [show (byE i.code).1.cls = 0 from hc] at HO
  have hx := (Ext.refl W).alloc (.cells #[.int .u16 i.code, .int .u8 i.jt, .int .u8 i.jf, .int .u32 i.k] 32)
  have HI := Lib.hid (Blk.new W 32 #[.int .u16 i.code, .int .u8 i.jt, .int .u8 i.jf, .int .u32 i.k])
  have HB := Lib.hid (B.ext hx)
  clear hc B
  unfold Ins.val Ins.cells at *
  obtain ⟨co, jt, jf, k⟩ := i
  dsimp only at *
  go_enter Try.func51, Try.ntmps51
  go_wp2_with fail
  refine (HO.out _).mono ?_
  rintro e w1 ⟨rfl, hx1⟩
  have q0 := (HI.out.ext hx1).cell 0
  have q1 := (HI.out.ext hx1).cell 1
  have q2 := (HI.out.ext hx1).cell 2
  have q3 := (HI.out.ext hx1).cell 3
  have B1 := HB.out.ext hx1
  replace hx := hx.trans hx1
  clear HI HB HO hx1
  go_wp2_with fail
  refine (fail_any 40 _).mono ?_
  rintro e w2 ⟨rfl, rfl⟩
  exact ⟨rfl, .no (by decide) (Upd.of_ext hx)⟩
theorem do_any (i : Ins) (hi : i.ok) (g : Nat) (d : Dat) (hd : d.ok) (s : Vm) (ho : s.ok) (W : World) (B : MB W g d s) :
    Calls Try.prog 51 #[.pointer (some ⟨g, 0, none⟩), i.val] W fun e w' => VmP g d W (.int .i64 (stepE d i s).2.1) ((stepE d i s).1, (stepE d i s).2.2) e w' := by
  rcases class_any i.code with h | h | h | h | h | h | h
  · have := do_none i h g d s W B
    unfold stepE
    simpa [h] using this
  · have := do_load i hi h g d hd s W B
    unfold stepE
    simpa [h] using this
  · unfold stepE
    by_cases hk : i.k < 16
    · obtain ⟨co, jt, jf, k⟩ := i
      obtain ⟨n, rfl⟩ : ∃ n : Nat, k = n := ⟨k.toNat, by have := hi.2.2.2.1; dsimp only at this; omega⟩
      have hk : (n : Int) < 16 := hk
      have := do_store_yes co jt jf n h (by omega) g d s W B
      simp only [h, hk]
      simpa using this
    · have := do_store_no i h (by omega) g d s W B
      simpa [h, hk] using this
  · have := do_number i hi h g d s ho W B
    unfold stepE
    simpa [h] using this
  · have := do_jump i hi h g d s ho W B
    unfold stepE
    simpa [h] using this
  · have := do_answer i h g d s W B
    unfold stepE
    simpa [h] using this
  · have := do_move i h g d s W B
    unfold stepE
    simpa [h] using this
end Go.Proofs.Ytkejcfbhikpibaa
