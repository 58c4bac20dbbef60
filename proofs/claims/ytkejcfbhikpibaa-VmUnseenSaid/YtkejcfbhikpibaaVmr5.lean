import Derived.Test.YtkejcfbhikpibaaVmr4
/- The document's machine: do. -/
namespace Go.Proofs.Ytkejcfbhikpibaa
open Go.RowKit Go.ChangeShapes Go.WideShapes
set_option linter.unusedVariables false
set_option linter.unusedSimpArgs false

theorem one_field2 (c q : Int) (s : ByteArray) (W : World) : (Instr.field 66 (.agg #[.int .u16 c, .string s, .int .u8 q]) 2).run Try.prog W = .ok (.int .u8 q) W := by kernel_rfl
def RdP (g : Nat) (W : World) (r : Vm × Int × Int) (e : Ending) (w' : World) : Prop := e = .returned (.tuple #[.int .i64 r.2.1, .int .i64 r.2.2]) ∧ Upd g W w' ∧ RB w' g r.1
theorem rdo_none (i : Ins) (hc : clsOf i.code = 0) (hkn : (byE i.code).2 = false) (g : Nat) (d : Dat) (s : Vm) (W : World) (B : RB W g s) :
    Calls Try.prog 32 #[.pointer (some ⟨g, 0, none⟩), i.val, d.val] W fun e w' => RdP g W (s, 0, 40) e w' := by
  have HK := Lib.hid (fun W => refKnown_any i.code W)
  rw [known_same, show (byE i.code).2 = false from hkn] at HK
  have HO := Lib.hid (fun W => refOf_any i.code W)
  rw [show (findO fun e => e.code == i.code).1.val = .agg #[.int .u16 (byO i.code).1.code, .string (byO i.code).1.name, .int .u8 (byO i.code).1.cls] from rfl, show (byO i.code).1.cls = 0 from by rw [← by_same]; exact hc] at HO
  have hf := one_field2 (byO i.code).1.code 0 (byO i.code).1.name
  generalize (byO i.code).1.code = oc at *
  generalize (byO i.code).1.name = on at *
  obtain ⟨co, jt, jf, k⟩ := i
  obtain ⟨nr, arch, ip, a0, a1, a2, a3, a4, a5⟩ := d
  dsimp only at *
  have hx := ((Ext.refl W).alloc (.cells #[.int .u16 co, .int .u8 jt, .int .u8 jf, .int .u32 k] 32)).alloc (.cells #[.int .u32 nr, .int .u32 arch, .int .u64 ip, .int .u64 a0, .int .u64 a1, .int .u64 a2, .int .u64 a3, .int .u64 a4, .int .u64 a5] 36)
  have HI := Lib.hid ((Blk.new W 32 #[.int .u16 co, .int .u8 jt, .int .u8 jf, .int .u32 k]).alloc (.cells #[.int .u32 nr, .int .u32 arch, .int .u64 ip, .int .u64 a0, .int .u64 a1, .int .u64 a2, .int .u64 a3, .int .u64 a4, .int .u64 a5] 36))
  have HD : Blk ((W.alloc (.cells #[.int .u16 co, .int .u8 jt, .int .u8 jf, .int .u32 k] 32)).alloc (.cells #[.int .u32 nr, .int .u32 arch, .int .u64 ip, .int .u64 a0, .int .u64 a1, .int .u64 a2, .int .u64 a3, .int .u64 a4, .int .u64 a5] 36)) (W.heap.size + 1) 36 #[.int .u32 nr, .int .u32 arch, .int .u64 ip, .int .u64 a0, .int .u64 a1, .int .u64 a2, .int .u64 a3, .int .u64 a4, .int .u64 a5] := Blk.new_ (by simp)
  have HD := Lib.hid HD
  have HB := Lib.hid (B.ext hx)
  clear B hc hkn
  simp only [Ins.val, Ins.cells, Dat.val] at *
  go_enter Try.func32, Try.ntmps32
  go_wp2_with fail
  refine (HK.out _).mono ?_
  rintro e w1 ⟨rfl, hx1⟩
  have p0 := (HI.out.ext hx1).cell 0
  go_wp2_with fail
  go_ret2
  exact ⟨rfl, .of_ext (hx.trans hx1), HB.out.ext hx1⟩
theorem rdo_load (i : Ins) (hi : i.ok) (hc : clsOf i.code = 1) (hkn : (byE i.code).2 = true) (g : Nat) (d : Dat) (hd : d.ok) (s : Vm) (W : World) (B : RB W g s) :
    Calls Try.prog 32 #[.pointer (some ⟨g, 0, none⟩), i.val, d.val] W fun e w' => RdP g W ((loadE d i s).1, 0, (loadE d i s).2) e w' := by
  have HL := Lib.hid (fun W B => rload_any i hi hc g d hd s W B)
  generalize hr : (loadE d i s) = r at *
  clear hr hi hd
  have HK := Lib.hid (fun W => refKnown_any i.code W)
  rw [known_same, show (byE i.code).2 = true from hkn] at HK
  have HO := Lib.hid (fun W => refOf_any i.code W)
  rw [show (findO fun e => e.code == i.code).1.val = .agg #[.int .u16 (byO i.code).1.code, .string (byO i.code).1.name, .int .u8 (byO i.code).1.cls] from rfl, show (byO i.code).1.cls = 1 from by rw [← by_same]; exact hc] at HO
  have hf := one_field2 (byO i.code).1.code 1 (byO i.code).1.name
  generalize (byO i.code).1.code = oc at *
  generalize (byO i.code).1.name = on at *
  obtain ⟨co, jt, jf, k⟩ := i
  obtain ⟨nr, arch, ip, a0, a1, a2, a3, a4, a5⟩ := d
  dsimp only at *
  have hx := ((Ext.refl W).alloc (.cells #[.int .u16 co, .int .u8 jt, .int .u8 jf, .int .u32 k] 32)).alloc (.cells #[.int .u32 nr, .int .u32 arch, .int .u64 ip, .int .u64 a0, .int .u64 a1, .int .u64 a2, .int .u64 a3, .int .u64 a4, .int .u64 a5] 36)
  have HI := Lib.hid ((Blk.new W 32 #[.int .u16 co, .int .u8 jt, .int .u8 jf, .int .u32 k]).alloc (.cells #[.int .u32 nr, .int .u32 arch, .int .u64 ip, .int .u64 a0, .int .u64 a1, .int .u64 a2, .int .u64 a3, .int .u64 a4, .int .u64 a5] 36))
  have HD : Blk ((W.alloc (.cells #[.int .u16 co, .int .u8 jt, .int .u8 jf, .int .u32 k] 32)).alloc (.cells #[.int .u32 nr, .int .u32 arch, .int .u64 ip, .int .u64 a0, .int .u64 a1, .int .u64 a2, .int .u64 a3, .int .u64 a4, .int .u64 a5] 36)) (W.heap.size + 1) 36 #[.int .u32 nr, .int .u32 arch, .int .u64 ip, .int .u64 a0, .int .u64 a1, .int .u64 a2, .int .u64 a3, .int .u64 a4, .int .u64 a5] := Blk.new_ (by simp)
  have HD := Lib.hid HD
  have HB := Lib.hid (B.ext hx)
  clear B hc hkn
  simp only [Ins.val, Ins.cells, Dat.val] at *
  go_enter Try.func32, Try.ntmps32
  go_wp2_with fail
  refine (HK.out _).mono ?_
  rintro e w1 ⟨rfl, hx1⟩
  have p0 := (HI.out.ext hx1).cell 0
  go_wp2_with fail
  refine (HO.out _).mono ?_
  rintro e w2 ⟨rfl, hx2⟩
  have q0 := ((HI.out.ext hx1).ext hx2).cell 0
  have q1 := ((HI.out.ext hx1).ext hx2).cell 1
  have q2 := ((HI.out.ext hx1).ext hx2).cell 2
  have q3 := ((HI.out.ext hx1).ext hx2).cell 3
  have r0 := ((HD.out.ext hx1).ext hx2).cell 0
  have r1 := ((HD.out.ext hx1).ext hx2).cell 1
  have r2 := ((HD.out.ext hx1).ext hx2).cell 2
  have r3 := ((HD.out.ext hx1).ext hx2).cell 3
  have r4 := ((HD.out.ext hx1).ext hx2).cell 4
  have r5 := ((HD.out.ext hx1).ext hx2).cell 5
  have r6 := ((HD.out.ext hx1).ext hx2).cell 6
  have r7 := ((HD.out.ext hx1).ext hx2).cell 7
  have r8 := ((HD.out.ext hx1).ext hx2).cell 8
  have B2 := (HB.out.ext hx1).ext hx2
  replace hx := (hx.trans hx1).trans hx2
  clear HI HD HB HO HK hx1 hx2 p0
  go_wp2_with fail
  refine (HL.out _ B2).mono ?_
  rintro e w3 ⟨rfl, hu, hB⟩
  clear q0 q1 q2 q3 r0 r1 r2 r3 r4 r5 r6 r7 r8 B2
  go_wp2_with fail
  go_ret2
  exact ⟨rfl, (Upd.of_ext hx).trans hu, hB⟩
theorem rdo_store (i : Ins) (hi : i.ok) (hc : clsOf i.code = 2) (hkn : (byE i.code).2 = true) (g : Nat) (d : Dat) (hd : d.ok) (s : Vm) (W : World) (B : RB W g s) :
    Calls Try.prog 32 #[.pointer (some ⟨g, 0, none⟩), i.val, d.val] W fun e w' => RdP g W ((storeE i s).1, 0, (storeE i s).2) e w' := by
  have HL := Lib.hid (fun W B => rstore_any i hi hc g d s W B)
  generalize hr : (storeE i s) = r at *
  clear hr hi hd
  have HK := Lib.hid (fun W => refKnown_any i.code W)
  rw [known_same, show (byE i.code).2 = true from hkn] at HK
  have HO := Lib.hid (fun W => refOf_any i.code W)
  rw [show (findO fun e => e.code == i.code).1.val = .agg #[.int .u16 (byO i.code).1.code, .string (byO i.code).1.name, .int .u8 (byO i.code).1.cls] from rfl, show (byO i.code).1.cls = 2 from by rw [← by_same]; exact hc] at HO
  have hf := one_field2 (byO i.code).1.code 2 (byO i.code).1.name
  generalize (byO i.code).1.code = oc at *
  generalize (byO i.code).1.name = on at *
  obtain ⟨co, jt, jf, k⟩ := i
  obtain ⟨nr, arch, ip, a0, a1, a2, a3, a4, a5⟩ := d
  dsimp only at *
  have hx := ((Ext.refl W).alloc (.cells #[.int .u16 co, .int .u8 jt, .int .u8 jf, .int .u32 k] 32)).alloc (.cells #[.int .u32 nr, .int .u32 arch, .int .u64 ip, .int .u64 a0, .int .u64 a1, .int .u64 a2, .int .u64 a3, .int .u64 a4, .int .u64 a5] 36)
  have HI := Lib.hid ((Blk.new W 32 #[.int .u16 co, .int .u8 jt, .int .u8 jf, .int .u32 k]).alloc (.cells #[.int .u32 nr, .int .u32 arch, .int .u64 ip, .int .u64 a0, .int .u64 a1, .int .u64 a2, .int .u64 a3, .int .u64 a4, .int .u64 a5] 36))
  have HD : Blk ((W.alloc (.cells #[.int .u16 co, .int .u8 jt, .int .u8 jf, .int .u32 k] 32)).alloc (.cells #[.int .u32 nr, .int .u32 arch, .int .u64 ip, .int .u64 a0, .int .u64 a1, .int .u64 a2, .int .u64 a3, .int .u64 a4, .int .u64 a5] 36)) (W.heap.size + 1) 36 #[.int .u32 nr, .int .u32 arch, .int .u64 ip, .int .u64 a0, .int .u64 a1, .int .u64 a2, .int .u64 a3, .int .u64 a4, .int .u64 a5] := Blk.new_ (by simp)
  have HD := Lib.hid HD
  have HB := Lib.hid (B.ext hx)
  clear B hc hkn
  simp only [Ins.val, Ins.cells, Dat.val] at *
  go_enter Try.func32, Try.ntmps32
  go_wp2_with fail
  refine (HK.out _).mono ?_
  rintro e w1 ⟨rfl, hx1⟩
  have p0 := (HI.out.ext hx1).cell 0
  go_wp2_with fail
  refine (HO.out _).mono ?_
  rintro e w2 ⟨rfl, hx2⟩
  have q0 := ((HI.out.ext hx1).ext hx2).cell 0
  have q1 := ((HI.out.ext hx1).ext hx2).cell 1
  have q2 := ((HI.out.ext hx1).ext hx2).cell 2
  have q3 := ((HI.out.ext hx1).ext hx2).cell 3
  have r0 := ((HD.out.ext hx1).ext hx2).cell 0
  have r1 := ((HD.out.ext hx1).ext hx2).cell 1
  have r2 := ((HD.out.ext hx1).ext hx2).cell 2
  have r3 := ((HD.out.ext hx1).ext hx2).cell 3
  have r4 := ((HD.out.ext hx1).ext hx2).cell 4
  have r5 := ((HD.out.ext hx1).ext hx2).cell 5
  have r6 := ((HD.out.ext hx1).ext hx2).cell 6
  have r7 := ((HD.out.ext hx1).ext hx2).cell 7
  have r8 := ((HD.out.ext hx1).ext hx2).cell 8
  have B2 := (HB.out.ext hx1).ext hx2
  replace hx := (hx.trans hx1).trans hx2
  clear HI HD HB HO HK hx1 hx2 p0
  go_wp2_with fail
  refine (HL.out _ B2).mono ?_
  rintro e w3 ⟨rfl, hu, hB⟩
  clear q0 q1 q2 q3 r0 r1 r2 r3 r4 r5 r6 r7 r8 B2
  go_wp2_with fail
  go_ret2
  exact ⟨rfl, (Upd.of_ext hx).trans hu, hB⟩
theorem rdo_move (i : Ins) (hi : i.ok) (hc : clsOf i.code = 6) (hkn : (byE i.code).2 = true) (g : Nat) (d : Dat) (hd : d.ok) (s : Vm) (W : World) (B : RB W g s) :
    Calls Try.prog 32 #[.pointer (some ⟨g, 0, none⟩), i.val, d.val] W fun e w' => RdP g W (((moveE i s, 0) : Vm × Int).1, 0, ((moveE i s, 0) : Vm × Int).2) e w' := by
  have HL := Lib.hid (fun W B => rmove_any i hi hc g d s W B)
  generalize hr : ((moveE i s, 0) : Vm × Int) = r at *
  clear hr hi hd
  have HK := Lib.hid (fun W => refKnown_any i.code W)
  rw [known_same, show (byE i.code).2 = true from hkn] at HK
  have HO := Lib.hid (fun W => refOf_any i.code W)
  rw [show (findO fun e => e.code == i.code).1.val = .agg #[.int .u16 (byO i.code).1.code, .string (byO i.code).1.name, .int .u8 (byO i.code).1.cls] from rfl, show (byO i.code).1.cls = 6 from by rw [← by_same]; exact hc] at HO
  have hf := one_field2 (byO i.code).1.code 6 (byO i.code).1.name
  generalize (byO i.code).1.code = oc at *
  generalize (byO i.code).1.name = on at *
  obtain ⟨co, jt, jf, k⟩ := i
  obtain ⟨nr, arch, ip, a0, a1, a2, a3, a4, a5⟩ := d
  dsimp only at *
  have hx := ((Ext.refl W).alloc (.cells #[.int .u16 co, .int .u8 jt, .int .u8 jf, .int .u32 k] 32)).alloc (.cells #[.int .u32 nr, .int .u32 arch, .int .u64 ip, .int .u64 a0, .int .u64 a1, .int .u64 a2, .int .u64 a3, .int .u64 a4, .int .u64 a5] 36)
  have HI := Lib.hid ((Blk.new W 32 #[.int .u16 co, .int .u8 jt, .int .u8 jf, .int .u32 k]).alloc (.cells #[.int .u32 nr, .int .u32 arch, .int .u64 ip, .int .u64 a0, .int .u64 a1, .int .u64 a2, .int .u64 a3, .int .u64 a4, .int .u64 a5] 36))
  have HD : Blk ((W.alloc (.cells #[.int .u16 co, .int .u8 jt, .int .u8 jf, .int .u32 k] 32)).alloc (.cells #[.int .u32 nr, .int .u32 arch, .int .u64 ip, .int .u64 a0, .int .u64 a1, .int .u64 a2, .int .u64 a3, .int .u64 a4, .int .u64 a5] 36)) (W.heap.size + 1) 36 #[.int .u32 nr, .int .u32 arch, .int .u64 ip, .int .u64 a0, .int .u64 a1, .int .u64 a2, .int .u64 a3, .int .u64 a4, .int .u64 a5] := Blk.new_ (by simp)
  have HD := Lib.hid HD
  have HB := Lib.hid (B.ext hx)
  clear B hc hkn
  simp only [Ins.val, Ins.cells, Dat.val] at *
  go_enter Try.func32, Try.ntmps32
  go_wp2_with fail
  refine (HK.out _).mono ?_
  rintro e w1 ⟨rfl, hx1⟩
  have p0 := (HI.out.ext hx1).cell 0
  go_wp2_with fail
  refine (HO.out _).mono ?_
  rintro e w2 ⟨rfl, hx2⟩
  have q0 := ((HI.out.ext hx1).ext hx2).cell 0
  have q1 := ((HI.out.ext hx1).ext hx2).cell 1
  have q2 := ((HI.out.ext hx1).ext hx2).cell 2
  have q3 := ((HI.out.ext hx1).ext hx2).cell 3
  have r0 := ((HD.out.ext hx1).ext hx2).cell 0
  have r1 := ((HD.out.ext hx1).ext hx2).cell 1
  have r2 := ((HD.out.ext hx1).ext hx2).cell 2
  have r3 := ((HD.out.ext hx1).ext hx2).cell 3
  have r4 := ((HD.out.ext hx1).ext hx2).cell 4
  have r5 := ((HD.out.ext hx1).ext hx2).cell 5
  have r6 := ((HD.out.ext hx1).ext hx2).cell 6
  have r7 := ((HD.out.ext hx1).ext hx2).cell 7
  have r8 := ((HD.out.ext hx1).ext hx2).cell 8
  have B2 := (HB.out.ext hx1).ext hx2
  replace hx := (hx.trans hx1).trans hx2
  clear HI HD HB HO HK hx1 hx2 p0
  go_wp2_with fail
  refine (HL.out _ B2).mono ?_
  rintro e w3 ⟨rfl, hu, hB⟩
  clear q0 q1 q2 q3 r0 r1 r2 r3 r4 r5 r6 r7 r8 B2
  go_wp2_with fail
  go_ret2
  exact ⟨rfl, (Upd.of_ext hx).trans hu, hB⟩
theorem rdo_number (i : Ins) (hi : i.ok) (hc : clsOf i.code = 3) (hkn : (byE i.code).2 = true) (g : Nat) (d : Dat) (s : Vm) (ho : s.ok) (W : World) (B : RB W g s) :
    Calls Try.prog 32 #[.pointer (some ⟨g, 0, none⟩), i.val, d.val] W fun e w' => RdP g W ((numberE i s).1, 0, (numberE i s).2) e w' := by
  have HL := Lib.hid (fun W B => rnumber_any i hi hc g s ho W B)
  generalize hr : numberE i s = r at *
  clear hr hi
  have HK := Lib.hid (fun W => refKnown_any i.code W)
  rw [known_same, show (byE i.code).2 = true from hkn] at HK
  have HO := Lib.hid (fun W => refOf_any i.code W)
  rw [show (findO fun e => e.code == i.code).1.val = .agg #[.int .u16 (byO i.code).1.code, .string (byO i.code).1.name, .int .u8 (byO i.code).1.cls] from rfl, show (byO i.code).1.cls = 3 from by rw [← by_same]; exact hc] at HO
  have hf := one_field2 (byO i.code).1.code 3 (byO i.code).1.name
  generalize (byO i.code).1.code = oc at *
  generalize (byO i.code).1.name = on at *
  obtain ⟨co, jt, jf, k⟩ := i
  obtain ⟨nr, arch, ip, a0, a1, a2, a3, a4, a5⟩ := d
  dsimp only at *
  have hx := ((Ext.refl W).alloc (.cells #[.int .u16 co, .int .u8 jt, .int .u8 jf, .int .u32 k] 32)).alloc (.cells #[.int .u32 nr, .int .u32 arch, .int .u64 ip, .int .u64 a0, .int .u64 a1, .int .u64 a2, .int .u64 a3, .int .u64 a4, .int .u64 a5] 36)
  have HI := Lib.hid ((Blk.new W 32 #[.int .u16 co, .int .u8 jt, .int .u8 jf, .int .u32 k]).alloc (.cells #[.int .u32 nr, .int .u32 arch, .int .u64 ip, .int .u64 a0, .int .u64 a1, .int .u64 a2, .int .u64 a3, .int .u64 a4, .int .u64 a5] 36))
  have HD : Blk ((W.alloc (.cells #[.int .u16 co, .int .u8 jt, .int .u8 jf, .int .u32 k] 32)).alloc (.cells #[.int .u32 nr, .int .u32 arch, .int .u64 ip, .int .u64 a0, .int .u64 a1, .int .u64 a2, .int .u64 a3, .int .u64 a4, .int .u64 a5] 36)) (W.heap.size + 1) 36 #[.int .u32 nr, .int .u32 arch, .int .u64 ip, .int .u64 a0, .int .u64 a1, .int .u64 a2, .int .u64 a3, .int .u64 a4, .int .u64 a5] := Blk.new_ (by simp)
  have HD := Lib.hid HD
  have HB := Lib.hid (B.ext hx)
  clear B hc hkn
  simp only [Ins.val, Ins.cells, Dat.val] at *
  go_enter Try.func32, Try.ntmps32
  go_wp2_with fail
  refine (HK.out _).mono ?_
  rintro e w1 ⟨rfl, hx1⟩
  have p0 := (HI.out.ext hx1).cell 0
  go_wp2_with fail
  refine (HO.out _).mono ?_
  rintro e w2 ⟨rfl, hx2⟩
  have q0 := ((HI.out.ext hx1).ext hx2).cell 0
  have q1 := ((HI.out.ext hx1).ext hx2).cell 1
  have q2 := ((HI.out.ext hx1).ext hx2).cell 2
  have q3 := ((HI.out.ext hx1).ext hx2).cell 3
  have r0 := ((HD.out.ext hx1).ext hx2).cell 0
  have r1 := ((HD.out.ext hx1).ext hx2).cell 1
  have r2 := ((HD.out.ext hx1).ext hx2).cell 2
  have r3 := ((HD.out.ext hx1).ext hx2).cell 3
  have r4 := ((HD.out.ext hx1).ext hx2).cell 4
  have r5 := ((HD.out.ext hx1).ext hx2).cell 5
  have r6 := ((HD.out.ext hx1).ext hx2).cell 6
  have r7 := ((HD.out.ext hx1).ext hx2).cell 7
  have r8 := ((HD.out.ext hx1).ext hx2).cell 8
  have B2 := (HB.out.ext hx1).ext hx2
  replace hx := (hx.trans hx1).trans hx2
  clear HI HD HB HO HK hx1 hx2 p0
  go_wp2_with fail
  refine (HL.out _ B2).mono ?_
  rintro e w3 ⟨rfl, hu, hB⟩
  clear q0 q1 q2 q3 r0 r1 r2 r3 r4 r5 r6 r7 r8 B2
  go_wp2_with fail
  go_ret2
  exact ⟨rfl, (Upd.of_ext hx).trans hu, hB⟩
theorem rdo_jump (i : Ins) (hi : i.ok) (hc : clsOf i.code = 4) (hkn : (byE i.code).2 = true) (g : Nat) (d : Dat) (s : Vm) (W : World) (B : RB W g s) :
    Calls Try.prog 32 #[.pointer (some ⟨g, 0, none⟩), i.val, d.val] W fun e w' => RdP g W (s, jumpE i s, 0) e w' := by
  have HL := Lib.hid (fun W B => rjump_any i hi hc g s W B)
  generalize hr : jumpE i s = r at *
  clear hr hi
  have HK := Lib.hid (fun W => refKnown_any i.code W)
  rw [known_same, show (byE i.code).2 = true from hkn] at HK
  have HO := Lib.hid (fun W => refOf_any i.code W)
  rw [show (findO fun e => e.code == i.code).1.val = .agg #[.int .u16 (byO i.code).1.code, .string (byO i.code).1.name, .int .u8 (byO i.code).1.cls] from rfl, show (byO i.code).1.cls = 4 from by rw [← by_same]; exact hc] at HO
  have hf := one_field2 (byO i.code).1.code 4 (byO i.code).1.name
  generalize (byO i.code).1.code = oc at *
  generalize (byO i.code).1.name = on at *
  obtain ⟨co, jt, jf, k⟩ := i
  obtain ⟨nr, arch, ip, a0, a1, a2, a3, a4, a5⟩ := d
  dsimp only at *
  have hx := ((Ext.refl W).alloc (.cells #[.int .u16 co, .int .u8 jt, .int .u8 jf, .int .u32 k] 32)).alloc (.cells #[.int .u32 nr, .int .u32 arch, .int .u64 ip, .int .u64 a0, .int .u64 a1, .int .u64 a2, .int .u64 a3, .int .u64 a4, .int .u64 a5] 36)
  have HI := Lib.hid ((Blk.new W 32 #[.int .u16 co, .int .u8 jt, .int .u8 jf, .int .u32 k]).alloc (.cells #[.int .u32 nr, .int .u32 arch, .int .u64 ip, .int .u64 a0, .int .u64 a1, .int .u64 a2, .int .u64 a3, .int .u64 a4, .int .u64 a5] 36))
  have HD : Blk ((W.alloc (.cells #[.int .u16 co, .int .u8 jt, .int .u8 jf, .int .u32 k] 32)).alloc (.cells #[.int .u32 nr, .int .u32 arch, .int .u64 ip, .int .u64 a0, .int .u64 a1, .int .u64 a2, .int .u64 a3, .int .u64 a4, .int .u64 a5] 36)) (W.heap.size + 1) 36 #[.int .u32 nr, .int .u32 arch, .int .u64 ip, .int .u64 a0, .int .u64 a1, .int .u64 a2, .int .u64 a3, .int .u64 a4, .int .u64 a5] := Blk.new_ (by simp)
  have HD := Lib.hid HD
  have HB := Lib.hid (B.ext hx)
  clear B hc hkn
  simp only [Ins.val, Ins.cells, Dat.val] at *
  go_enter Try.func32, Try.ntmps32
  go_wp2_with fail
  refine (HK.out _).mono ?_
  rintro e w1 ⟨rfl, hx1⟩
  have p0 := (HI.out.ext hx1).cell 0
  go_wp2_with fail
  refine (HO.out _).mono ?_
  rintro e w2 ⟨rfl, hx2⟩
  have q0 := ((HI.out.ext hx1).ext hx2).cell 0
  have q1 := ((HI.out.ext hx1).ext hx2).cell 1
  have q2 := ((HI.out.ext hx1).ext hx2).cell 2
  have q3 := ((HI.out.ext hx1).ext hx2).cell 3
  have r0 := ((HD.out.ext hx1).ext hx2).cell 0
  have r1 := ((HD.out.ext hx1).ext hx2).cell 1
  have r2 := ((HD.out.ext hx1).ext hx2).cell 2
  have r3 := ((HD.out.ext hx1).ext hx2).cell 3
  have r4 := ((HD.out.ext hx1).ext hx2).cell 4
  have r5 := ((HD.out.ext hx1).ext hx2).cell 5
  have r6 := ((HD.out.ext hx1).ext hx2).cell 6
  have r7 := ((HD.out.ext hx1).ext hx2).cell 7
  have r8 := ((HD.out.ext hx1).ext hx2).cell 8
  have B2 := (HB.out.ext hx1).ext hx2
  replace hx := (hx.trans hx1).trans hx2
  clear HI HD HB HO HK hx1 hx2 p0
  go_wp2_with fail
  refine (HL.out _ B2).mono ?_
  rintro e w3 ⟨rfl, hx3⟩
  have B3 := B2.ext hx3
  clear q0 q1 q2 q3 r0 r1 r2 r3 r4 r5 r6 r7 r8 B2
  go_wp2_with fail
  go_ret2
  exact ⟨rfl, (Upd.of_ext hx).ext hx3, B3⟩
theorem rdo_answer (i : Ins) (hc : clsOf i.code = 5) (hkn : (byE i.code).2 = true) (g : Nat) (d : Dat) (s : Vm) (W : World) (B : RB W g s) :
    Calls Try.prog 32 #[.pointer (some ⟨g, 0, none⟩), i.val, d.val] W fun e w' => RdP g W ({ s with told := if i.code = 22 then s.a else i.k, over := true }, 0, 0) e w' := by
  have hcc := class_answer hc
  have HK := Lib.hid (fun W => refKnown_any i.code W)
  rw [known_same, show (byE i.code).2 = true from hkn] at HK
  have HO := Lib.hid (fun W => refOf_any i.code W)
  rw [show (findO fun e => e.code == i.code).1.val = .agg #[.int .u16 (byO i.code).1.code, .string (byO i.code).1.name, .int .u8 (byO i.code).1.cls] from rfl, show (byO i.code).1.cls = 5 from by rw [← by_same]; exact hc] at HO
  have hf := one_field2 (byO i.code).1.code 5 (byO i.code).1.name
  generalize (byO i.code).1.code = oc at *
  generalize (byO i.code).1.name = on at *
  obtain ⟨co, jt, jf, k⟩ := i
  obtain ⟨nr, arch, ip, a0, a1, a2, a3, a4, a5⟩ := d
  dsimp only at *
  have hx := ((Ext.refl W).alloc (.cells #[.int .u16 co, .int .u8 jt, .int .u8 jf, .int .u32 k] 32)).alloc (.cells #[.int .u32 nr, .int .u32 arch, .int .u64 ip, .int .u64 a0, .int .u64 a1, .int .u64 a2, .int .u64 a3, .int .u64 a4, .int .u64 a5] 36)
  have HI := Lib.hid ((Blk.new W 32 #[.int .u16 co, .int .u8 jt, .int .u8 jf, .int .u32 k]).alloc (.cells #[.int .u32 nr, .int .u32 arch, .int .u64 ip, .int .u64 a0, .int .u64 a1, .int .u64 a2, .int .u64 a3, .int .u64 a4, .int .u64 a5] 36))
  have HD : Blk ((W.alloc (.cells #[.int .u16 co, .int .u8 jt, .int .u8 jf, .int .u32 k] 32)).alloc (.cells #[.int .u32 nr, .int .u32 arch, .int .u64 ip, .int .u64 a0, .int .u64 a1, .int .u64 a2, .int .u64 a3, .int .u64 a4, .int .u64 a5] 36)) (W.heap.size + 1) 36 #[.int .u32 nr, .int .u32 arch, .int .u64 ip, .int .u64 a0, .int .u64 a1, .int .u64 a2, .int .u64 a3, .int .u64 a4, .int .u64 a5] := Blk.new_ (by simp)
  have HD := Lib.hid HD
  have HB := Lib.hid (B.ext hx)
  clear B hc hkn
  simp only [Ins.val, Ins.cells, Dat.val] at *
  rcases hcc with rfl | rfl
  · rw [if_neg (by decide)]
    go_enter Try.func32, Try.ntmps32
    go_wp2_with fail
    refine (HK.out _).mono ?_
    rintro e w1 ⟨rfl, hx1⟩
    have p0 := (HI.out.ext hx1).cell 0
    go_wp2_with fail
    refine (HO.out _).mono ?_
    rintro e w2 ⟨rfl, hx2⟩
    have q0 := ((HI.out.ext hx1).ext hx2).cell 0
    have q1 := ((HI.out.ext hx1).ext hx2).cell 1
    have q2 := ((HI.out.ext hx1).ext hx2).cell 2
    have q3 := ((HI.out.ext hx1).ext hx2).cell 3
    have r0 := ((HD.out.ext hx1).ext hx2).cell 0
    have r1 := ((HD.out.ext hx1).ext hx2).cell 1
    have r2 := ((HD.out.ext hx1).ext hx2).cell 2
    have r3 := ((HD.out.ext hx1).ext hx2).cell 3
    have r4 := ((HD.out.ext hx1).ext hx2).cell 4
    have r5 := ((HD.out.ext hx1).ext hx2).cell 5
    have r6 := ((HD.out.ext hx1).ext hx2).cell 6
    have r7 := ((HD.out.ext hx1).ext hx2).cell 7
    have r8 := ((HD.out.ext hx1).ext hx2).cell 8
    have B2 := (HB.out.ext hx1).ext hx2
    replace hx := (hx.trans hx1).trans hx2
    clear HI HD HB HO HK hx1 hx2 p0
    have y1 := B2.told
    have y2 := B2.over
    have z1 := B2.fz 2
    have z2 := B2.fz 19
    have B3 := (B2.setO true).setT k
    have hu := ((Upd.of_ext (g := g) hx).set 19 (.bool true)).set 2 (.int .u32 k)
    clear B2 r0 r1 r2 r3 r4 r5 r6 r7 r8 q1 q2
    go_wp2_with fail
    go_ret2
    exact ⟨rfl, hu, B3⟩
  · rw [if_pos rfl]
    go_enter Try.func32, Try.ntmps32
    go_wp2_with fail
    refine (HK.out _).mono ?_
    rintro e w1 ⟨rfl, hx1⟩
    have p0 := (HI.out.ext hx1).cell 0
    go_wp2_with fail
    refine (HO.out _).mono ?_
    rintro e w2 ⟨rfl, hx2⟩
    have q0 := ((HI.out.ext hx1).ext hx2).cell 0
    have q1 := ((HI.out.ext hx1).ext hx2).cell 1
    have q2 := ((HI.out.ext hx1).ext hx2).cell 2
    have q3 := ((HI.out.ext hx1).ext hx2).cell 3
    have r0 := ((HD.out.ext hx1).ext hx2).cell 0
    have r1 := ((HD.out.ext hx1).ext hx2).cell 1
    have r2 := ((HD.out.ext hx1).ext hx2).cell 2
    have r3 := ((HD.out.ext hx1).ext hx2).cell 3
    have r4 := ((HD.out.ext hx1).ext hx2).cell 4
    have r5 := ((HD.out.ext hx1).ext hx2).cell 5
    have r6 := ((HD.out.ext hx1).ext hx2).cell 6
    have r7 := ((HD.out.ext hx1).ext hx2).cell 7
    have r8 := ((HD.out.ext hx1).ext hx2).cell 8
    have B2 := (HB.out.ext hx1).ext hx2
    replace hx := (hx.trans hx1).trans hx2
    clear HI HD HB HO HK hx1 hx2 p0
    have y0 := B2.a
    have y1 := B2.told
    have y2 := B2.over
    have z1 := B2.fz 2
    have z2 := B2.fz 19
    have B3 := ((B2.setO true).setT k).setT s.a
    have hu := (((Upd.of_ext (g := g) hx).set 19 (.bool true)).set 2 (.int .u32 k)).set 2 (.int .u32 s.a)
    clear B2 r0 r1 r2 r3 r4 r5 r6 r7 r8 q1 q2
    go_wp2_with fail
    go_ret2
    exact ⟨rfl, hu, B3⟩
theorem rdo_any (i : Ins) (hi : i.ok) (g : Nat) (d : Dat) (hd : d.ok) (s : Vm) (ho : s.ok) (W : World) (B : RB W g s) :
    Calls Try.prog 32 #[.pointer (some ⟨g, 0, none⟩), i.val, d.val] W fun e w' => RdP g W (stepE d i s) e w' := by
  have hk : clsOf i.code ≠ 0 → (byE i.code).2 = true := fun h => by
    rcases class_of i.code with ⟨k, _⟩ | ⟨e, he, _, _, k⟩
    · exact absurd k h
    · exact k
  have hz : clsOf i.code = 0 → (byE i.code).2 = false := fun h => by
    rcases class_of i.code with ⟨_, k⟩ | ⟨e, he, _, k2, k⟩
    · exact k
    · have := (ent_class e he).2.2.2.2.2.2
      omega
  rcases class_any i.code with h | h | h | h | h | h | h
  · have := rdo_none i h (hz h) g d s W B
    unfold stepE
    simpa [h] using this
  · have := rdo_load i hi h (hk (by omega)) g d hd s W B
    unfold stepE
    simpa [h] using this
  · have := rdo_store i hi h (hk (by omega)) g d hd s W B
    rw [show stepE d i s = ((storeE i s).1, 0, (storeE i s).2) from by
      unfold stepE storeE
      simp only [h]
      by_cases h16 : i.k < 16 <;> simp [h16]]
    exact this
  · have := rdo_number i hi h (hk (by omega)) g d s ho W B
    unfold stepE
    simpa [h] using this
  · have := rdo_jump i hi h (hk (by omega)) g d s W B
    unfold stepE
    simpa [h] using this
  · have := rdo_answer i h (hk (by omega)) g d s W B
    unfold stepE
    simpa [h] using this
  · have := rdo_move i hi h (hk (by omega)) g d hd s W B
    unfold stepE
    simpa [h, moveE] using this
end Go.Proofs.Ytkejcfbhikpibaa
