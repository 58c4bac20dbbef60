import Derived.Test.YtkejcfbhikpibaaVmr1
/- The document's machine: shifted; number. -/
namespace Go.Proofs.Ytkejcfbhikpibaa
open Go.RowKit Go.ChangeShapes Go.WideShapes
set_option linter.unusedVariables false
set_option linter.unusedSimpArgs false

theorem shl_step (x : Int) (j : Nat) : IntKind.u32.wrap (IntKind.u32.wrap (x * 2) * 2 ^ j) = IntKind.u32.wrap (x * 2 ^ (j + 1)) := by
  rw [IntKind.wrap_u32, IntKind.wrap_u32, IntKind.wrap_u32, Int.mul_emod, Int.emod_emod_of_dvd _ (Int.dvd_refl _), ← Int.mul_emod, Int.pow_succ, Int.mul_assoc, Int.mul_comm 2]
theorem shr_step (x : Int) (j : Nat) : x / 2 / 2 ^ j = x / 2 ^ (j + 1) := by
  rw [Int.ediv_ediv_of_nonneg (by decide), Int.pow_succ, Int.mul_comm]
theorem shifted_l (a : Int) (ha : U32 a) (n : Nat) (hn : n < 32) (W : World) : Calls Try.prog 73 #[.int .u32 a, .bool true, .int .u32 n] W fun e w' => e = .returned (.int .u32 (IntKind.u32.wrap (a * 2 ^ n))) ∧ W = w' := by
  generalize hR : IntKind.u32.wrap (a * 2 ^ n) = R
  have HR := Lib.hid hR
  clear hR
  go_enter Try.func73, Try.ntmps73
  go_wp2_with fail
  go_loop [0, 2] (fun x j => ∃ (y : Int) (m : Nat), x = .int .u32 y ∧ j = .int .u32 m ∧ m < 32 ∧ U32 y ∧ IntKind.u32.wrap (y * 2 ^ m) = R) (fun _ j => (intOf j).toNat)
  case atStart => exact ⟨a, n, rfl, rfl, hn, ha, HR.out⟩
  case round =>
    obtain ⟨y, m, rfl, rfl, hm, hy, hr⟩ := hrel
    rcases m with _ | m
    · have hy2 : IntKind.u32.wrap y = y := IntWalk.u32_in _ (by have := hy.1; have := hy.2; omega)
      have e : y = R := by simpa [hy2] using hr
      subst e
      clear hr hy hy2 HR
      go_wp2
      go_ret
      exact ⟨rfl, rfl⟩
    · have HH := Lib.hid ((shl_step y m).trans hr)
      have hw := wrap_u32 (y * 2)
      have e1 : ((m + 1 : Nat) : Int) = (m : Int) + 1 := by omega
      rw [e1]
      have m0 : (0 : Int) ≤ m := by omega
      have m1 : (m : Int) < 31 := by omega
      clear hr hy e1
      go_wp2
      go_round
      case rel => exact ⟨_, m, rfl, by go_num, by omega, hw, HH.out⟩
      case measure => simp [intOf]
theorem shifted_r (a : Int) (ha : U32 a) (n : Nat) (hn : n < 32) (W : World) : Calls Try.prog 73 #[.int .u32 a, .bool false, .int .u32 n] W fun e w' => e = .returned (.int .u32 (a / 2 ^ n)) ∧ W = w' := by
  generalize hR : a / 2 ^ n = R
  have HR := Lib.hid hR
  clear hR
  go_enter Try.func73, Try.ntmps73
  go_wp2_with fail
  go_loop [0, 2] (fun x j => ∃ (y : Int) (m : Nat), x = .int .u32 y ∧ j = .int .u32 m ∧ m < 32 ∧ U32 y ∧ y / 2 ^ m = R) (fun _ j => (intOf j).toNat)
  case atStart => exact ⟨a, n, rfl, rfl, hn, ha, HR.out⟩
  case round =>
    obtain ⟨y, m, rfl, rfl, hm, hy, hr⟩ := hrel
    rcases m with _ | m
    · have e : y = R := by simpa using hr
      subst e
      clear hr hy HR
      go_wp2
      go_ret
      exact ⟨rfl, rfl⟩
    · have HH := Lib.hid ((shr_step y m).trans hr)
      have y0 := hy.1
      have y1 : y < 4294967296 := hy.2
      have hq := IntWalk.u32_quo y 2 (by omega)
      have hw : U32 (y / 2) := ⟨by omega, by omega⟩
      have HW := Lib.hid hw
      have e1 : ((m + 1 : Nat) : Int) = (m : Int) + 1 := by omega
      rw [e1]
      have m0 : (0 : Int) ≤ m := by omega
      have m1 : (m : Int) < 31 := by omega
      clear hr hy e1 hw
      go_wp2
      go_round
      case rel => exact ⟨_, m, rfl, by go_num, by omega, HW.out, HH.out⟩
      case measure => simp [intOf]

theorem rnum_4 (jt jf k : Int) (g : Nat) (s : Vm) (W : World) (B : RB W g s) : Calls Try.prog 54 #[.pointer (some ⟨g, 0, none⟩), .agg #[.int .u16 4, .int .u8 jt, .int .u8 jf, .int .u32 k]] W fun e w' => RfP g W ({ s with a := (IntKind.u32.wrap (s.a + k)) }, 0) e w' := by
  have hs : (ByteArray.mk #[97,100,100,120]).extract 0 3 = ⟨#[97,100,100]⟩ := by kernel_rfl
  have hx := (Ext.refl W).alloc (.cells #[.int .u16 4, .int .u8 jt, .int .u8 jf, .int .u32 k] 32)
  have B1 := B.ext hx
  have HO := Lib.hid (fun W => refOf_any 4 W)
  rw [show (findO fun e => e.code == 4).1.val = .agg #[.int .u16 4, .string ⟨#[97,100,100]⟩, .int .u8 3] from by kernel_rfl] at HO
  have HWX := Lib.hid (fun W => refWithX_any 4 W)
  rw [show owx (byO 4).1 = false from by kernel_rfl] at HWX
  have hf := one_field 4 3 ⟨#[97,100,100]⟩
  have HI := Lib.hid (Blk.new W 32 #[.int .u16 4, .int .u8 jt, .int .u8 jf, .int .u32 k])
  have HB := Lib.hid B1
  clear B B1
  go_enter Try.func54, Try.ntmps54
  go_wp2_with fail
  refine (HO.out _).mono ?_
  rintro e w1 ⟨rfl, hx1⟩
  have q0 := (HI.out.ext hx1).cell 0
  have q3 := (HI.out.ext hx1).cell 3
  go_wp2_with fail
  clear q0 q3
  refine (HWX.out _).mono ?_
  rintro e w2 ⟨rfl, hx2⟩
  have B2 := HB.out.ext (hx1.trans hx2)
  replace hx := hx.trans (hx1.trans hx2)
  clear HI HB HO HWX hx1 hx2
  have y0 := B2.a
  have y1 := B2.x
  have y2 := B2.over
  have z0 := B2.fz 0
  have hu := (Upd.of_ext (g := g) hx).set 0 (.int .u32 (IntKind.u32.wrap (s.a + k)))
  have B3 := B2.setA (IntKind.u32.wrap (s.a + k))
  clear B2 hx
  go_wp2_with fail
  go_ret
  exact ⟨rfl, hu, B3⟩
theorem rnum_12 (jt jf k : Int) (g : Nat) (s : Vm) (W : World) (B : RB W g s) : Calls Try.prog 54 #[.pointer (some ⟨g, 0, none⟩), .agg #[.int .u16 12, .int .u8 jt, .int .u8 jf, .int .u32 k]] W fun e w' => RfP g W ({ s with a := (IntKind.u32.wrap (s.a + s.x)) }, 0) e w' := by
  have hs : (ByteArray.mk #[97,100,100,120]).extract 0 3 = ⟨#[97,100,100]⟩ := by kernel_rfl
  have hx := (Ext.refl W).alloc (.cells #[.int .u16 12, .int .u8 jt, .int .u8 jf, .int .u32 k] 32)
  have B1 := B.ext hx
  have HO := Lib.hid (fun W => refOf_any 12 W)
  rw [show (findO fun e => e.code == 12).1.val = .agg #[.int .u16 12, .string ⟨#[97,100,100,120]⟩, .int .u8 3] from by kernel_rfl] at HO
  have HWX := Lib.hid (fun W => refWithX_any 12 W)
  rw [show owx (byO 12).1 = true from by kernel_rfl] at HWX
  have hf := one_field 12 3 ⟨#[97,100,100,120]⟩
  have HI := Lib.hid (Blk.new W 32 #[.int .u16 12, .int .u8 jt, .int .u8 jf, .int .u32 k])
  have HB := Lib.hid B1
  clear B B1
  go_enter Try.func54, Try.ntmps54
  go_wp2_with fail
  refine (HO.out _).mono ?_
  rintro e w1 ⟨rfl, hx1⟩
  have q0 := (HI.out.ext hx1).cell 0
  have q3 := (HI.out.ext hx1).cell 3
  go_wp2_with fail
  clear q0 q3
  refine (HWX.out _).mono ?_
  rintro e w2 ⟨rfl, hx2⟩
  have B2 := HB.out.ext (hx1.trans hx2)
  replace hx := hx.trans (hx1.trans hx2)
  clear HI HB HO HWX hx1 hx2
  have y0 := B2.a
  have y1 := B2.x
  have y2 := B2.over
  have z0 := B2.fz 0
  have hu := (Upd.of_ext (g := g) hx).set 0 (.int .u32 (IntKind.u32.wrap (s.a + s.x)))
  have B3 := B2.setA (IntKind.u32.wrap (s.a + s.x))
  clear B2 hx
  go_wp2_with fail
  go_ret
  exact ⟨rfl, hu, B3⟩
theorem rnum_20 (jt jf k : Int) (g : Nat) (s : Vm) (W : World) (B : RB W g s) : Calls Try.prog 54 #[.pointer (some ⟨g, 0, none⟩), .agg #[.int .u16 20, .int .u8 jt, .int .u8 jf, .int .u32 k]] W fun e w' => RfP g W ({ s with a := (IntKind.u32.wrap (s.a - k)) }, 0) e w' := by
  have hs : (ByteArray.mk #[115,117,98,120]).extract 0 3 = ⟨#[115,117,98]⟩ := by kernel_rfl
  have hx := (Ext.refl W).alloc (.cells #[.int .u16 20, .int .u8 jt, .int .u8 jf, .int .u32 k] 32)
  have B1 := B.ext hx
  have HO := Lib.hid (fun W => refOf_any 20 W)
  rw [show (findO fun e => e.code == 20).1.val = .agg #[.int .u16 20, .string ⟨#[115,117,98]⟩, .int .u8 3] from by kernel_rfl] at HO
  have HWX := Lib.hid (fun W => refWithX_any 20 W)
  rw [show owx (byO 20).1 = false from by kernel_rfl] at HWX
  have hf := one_field 20 3 ⟨#[115,117,98]⟩
  have HI := Lib.hid (Blk.new W 32 #[.int .u16 20, .int .u8 jt, .int .u8 jf, .int .u32 k])
  have HB := Lib.hid B1
  clear B B1
  go_enter Try.func54, Try.ntmps54
  go_wp2_with fail
  refine (HO.out _).mono ?_
  rintro e w1 ⟨rfl, hx1⟩
  have q0 := (HI.out.ext hx1).cell 0
  have q3 := (HI.out.ext hx1).cell 3
  go_wp2_with fail
  clear q0 q3
  refine (HWX.out _).mono ?_
  rintro e w2 ⟨rfl, hx2⟩
  have B2 := HB.out.ext (hx1.trans hx2)
  replace hx := hx.trans (hx1.trans hx2)
  clear HI HB HO HWX hx1 hx2
  have y0 := B2.a
  have y1 := B2.x
  have y2 := B2.over
  have z0 := B2.fz 0
  have hu := (Upd.of_ext (g := g) hx).set 0 (.int .u32 (IntKind.u32.wrap (s.a - k)))
  have B3 := B2.setA (IntKind.u32.wrap (s.a - k))
  clear B2 hx
  go_wp2_with fail
  go_ret
  exact ⟨rfl, hu, B3⟩
theorem rnum_28 (jt jf k : Int) (g : Nat) (s : Vm) (W : World) (B : RB W g s) : Calls Try.prog 54 #[.pointer (some ⟨g, 0, none⟩), .agg #[.int .u16 28, .int .u8 jt, .int .u8 jf, .int .u32 k]] W fun e w' => RfP g W ({ s with a := (IntKind.u32.wrap (s.a - s.x)) }, 0) e w' := by
  have hs : (ByteArray.mk #[115,117,98,120]).extract 0 3 = ⟨#[115,117,98]⟩ := by kernel_rfl
  have hx := (Ext.refl W).alloc (.cells #[.int .u16 28, .int .u8 jt, .int .u8 jf, .int .u32 k] 32)
  have B1 := B.ext hx
  have HO := Lib.hid (fun W => refOf_any 28 W)
  rw [show (findO fun e => e.code == 28).1.val = .agg #[.int .u16 28, .string ⟨#[115,117,98,120]⟩, .int .u8 3] from by kernel_rfl] at HO
  have HWX := Lib.hid (fun W => refWithX_any 28 W)
  rw [show owx (byO 28).1 = true from by kernel_rfl] at HWX
  have hf := one_field 28 3 ⟨#[115,117,98,120]⟩
  have HI := Lib.hid (Blk.new W 32 #[.int .u16 28, .int .u8 jt, .int .u8 jf, .int .u32 k])
  have HB := Lib.hid B1
  clear B B1
  go_enter Try.func54, Try.ntmps54
  go_wp2_with fail
  refine (HO.out _).mono ?_
  rintro e w1 ⟨rfl, hx1⟩
  have q0 := (HI.out.ext hx1).cell 0
  have q3 := (HI.out.ext hx1).cell 3
  go_wp2_with fail
  clear q0 q3
  refine (HWX.out _).mono ?_
  rintro e w2 ⟨rfl, hx2⟩
  have B2 := HB.out.ext (hx1.trans hx2)
  replace hx := hx.trans (hx1.trans hx2)
  clear HI HB HO HWX hx1 hx2
  have y0 := B2.a
  have y1 := B2.x
  have y2 := B2.over
  have z0 := B2.fz 0
  have hu := (Upd.of_ext (g := g) hx).set 0 (.int .u32 (IntKind.u32.wrap (s.a - s.x)))
  have B3 := B2.setA (IntKind.u32.wrap (s.a - s.x))
  clear B2 hx
  go_wp2_with fail
  go_ret
  exact ⟨rfl, hu, B3⟩
theorem rnum_36 (jt jf k : Int) (g : Nat) (s : Vm) (W : World) (B : RB W g s) : Calls Try.prog 54 #[.pointer (some ⟨g, 0, none⟩), .agg #[.int .u16 36, .int .u8 jt, .int .u8 jf, .int .u32 k]] W fun e w' => RfP g W ({ s with a := (IntKind.u32.wrap (s.a * k)) }, 0) e w' := by
  have hs : (ByteArray.mk #[109,117,108,120]).extract 0 3 = ⟨#[109,117,108]⟩ := by kernel_rfl
  have hx := (Ext.refl W).alloc (.cells #[.int .u16 36, .int .u8 jt, .int .u8 jf, .int .u32 k] 32)
  have B1 := B.ext hx
  have HO := Lib.hid (fun W => refOf_any 36 W)
  rw [show (findO fun e => e.code == 36).1.val = .agg #[.int .u16 36, .string ⟨#[109,117,108]⟩, .int .u8 3] from by kernel_rfl] at HO
  have HWX := Lib.hid (fun W => refWithX_any 36 W)
  rw [show owx (byO 36).1 = false from by kernel_rfl] at HWX
  have hf := one_field 36 3 ⟨#[109,117,108]⟩
  have HI := Lib.hid (Blk.new W 32 #[.int .u16 36, .int .u8 jt, .int .u8 jf, .int .u32 k])
  have HB := Lib.hid B1
  clear B B1
  go_enter Try.func54, Try.ntmps54
  go_wp2_with fail
  refine (HO.out _).mono ?_
  rintro e w1 ⟨rfl, hx1⟩
  have q0 := (HI.out.ext hx1).cell 0
  have q3 := (HI.out.ext hx1).cell 3
  go_wp2_with fail
  clear q0 q3
  refine (HWX.out _).mono ?_
  rintro e w2 ⟨rfl, hx2⟩
  have B2 := HB.out.ext (hx1.trans hx2)
  replace hx := hx.trans (hx1.trans hx2)
  clear HI HB HO HWX hx1 hx2
  have y0 := B2.a
  have y1 := B2.x
  have y2 := B2.over
  have z0 := B2.fz 0
  have hu := (Upd.of_ext (g := g) hx).set 0 (.int .u32 (IntKind.u32.wrap (s.a * k)))
  have B3 := B2.setA (IntKind.u32.wrap (s.a * k))
  clear B2 hx
  go_wp2_with fail
  go_ret
  exact ⟨rfl, hu, B3⟩
theorem rnum_44 (jt jf k : Int) (g : Nat) (s : Vm) (W : World) (B : RB W g s) : Calls Try.prog 54 #[.pointer (some ⟨g, 0, none⟩), .agg #[.int .u16 44, .int .u8 jt, .int .u8 jf, .int .u32 k]] W fun e w' => RfP g W ({ s with a := (IntKind.u32.wrap (s.a * s.x)) }, 0) e w' := by
  have hs : (ByteArray.mk #[109,117,108,120]).extract 0 3 = ⟨#[109,117,108]⟩ := by kernel_rfl
  have hx := (Ext.refl W).alloc (.cells #[.int .u16 44, .int .u8 jt, .int .u8 jf, .int .u32 k] 32)
  have B1 := B.ext hx
  have HO := Lib.hid (fun W => refOf_any 44 W)
  rw [show (findO fun e => e.code == 44).1.val = .agg #[.int .u16 44, .string ⟨#[109,117,108,120]⟩, .int .u8 3] from by kernel_rfl] at HO
  have HWX := Lib.hid (fun W => refWithX_any 44 W)
  rw [show owx (byO 44).1 = true from by kernel_rfl] at HWX
  have hf := one_field 44 3 ⟨#[109,117,108,120]⟩
  have HI := Lib.hid (Blk.new W 32 #[.int .u16 44, .int .u8 jt, .int .u8 jf, .int .u32 k])
  have HB := Lib.hid B1
  clear B B1
  go_enter Try.func54, Try.ntmps54
  go_wp2_with fail
  refine (HO.out _).mono ?_
  rintro e w1 ⟨rfl, hx1⟩
  have q0 := (HI.out.ext hx1).cell 0
  have q3 := (HI.out.ext hx1).cell 3
  go_wp2_with fail
  clear q0 q3
  refine (HWX.out _).mono ?_
  rintro e w2 ⟨rfl, hx2⟩
  have B2 := HB.out.ext (hx1.trans hx2)
  replace hx := hx.trans (hx1.trans hx2)
  clear HI HB HO HWX hx1 hx2
  have y0 := B2.a
  have y1 := B2.x
  have y2 := B2.over
  have z0 := B2.fz 0
  have hu := (Upd.of_ext (g := g) hx).set 0 (.int .u32 (IntKind.u32.wrap (s.a * s.x)))
  have B3 := B2.setA (IntKind.u32.wrap (s.a * s.x))
  clear B2 hx
  go_wp2_with fail
  go_ret
  exact ⟨rfl, hu, B3⟩
theorem rnum_68 (jt jf k : Int) (g : Nat) (s : Vm) (W : World) (B : RB W g s) : Calls Try.prog 54 #[.pointer (some ⟨g, 0, none⟩), .agg #[.int .u16 68, .int .u8 jt, .int .u8 jf, .int .u32 k]] W fun e w' => RfP g W ({ s with a := (bits .or .u32 s.a k) }, 0) e w' := by
  have hs : (ByteArray.mk #[111,114,120]).extract 0 2 = ⟨#[111,114]⟩ := by kernel_rfl
  have hx := (Ext.refl W).alloc (.cells #[.int .u16 68, .int .u8 jt, .int .u8 jf, .int .u32 k] 32)
  have B1 := B.ext hx
  have HO := Lib.hid (fun W => refOf_any 68 W)
  rw [show (findO fun e => e.code == 68).1.val = .agg #[.int .u16 68, .string ⟨#[111,114]⟩, .int .u8 3] from by kernel_rfl] at HO
  have HWX := Lib.hid (fun W => refWithX_any 68 W)
  rw [show owx (byO 68).1 = false from by kernel_rfl] at HWX
  have hf := one_field 68 3 ⟨#[111,114]⟩
  have HI := Lib.hid (Blk.new W 32 #[.int .u16 68, .int .u8 jt, .int .u8 jf, .int .u32 k])
  have HB := Lib.hid B1
  clear B B1
  go_enter Try.func54, Try.ntmps54
  go_wp2_with fail
  refine (HO.out _).mono ?_
  rintro e w1 ⟨rfl, hx1⟩
  have q0 := (HI.out.ext hx1).cell 0
  have q3 := (HI.out.ext hx1).cell 3
  go_wp2_with fail
  clear q0 q3
  refine (HWX.out _).mono ?_
  rintro e w2 ⟨rfl, hx2⟩
  have B2 := HB.out.ext (hx1.trans hx2)
  replace hx := hx.trans (hx1.trans hx2)
  clear HI HB HO HWX hx1 hx2
  have y0 := B2.a
  have y1 := B2.x
  have y2 := B2.over
  have z0 := B2.fz 0
  have hu := (Upd.of_ext (g := g) hx).set 0 (.int .u32 (bits .or .u32 s.a k))
  have B3 := B2.setA (bits .or .u32 s.a k)
  clear B2 hx
  go_wp2_with fail
  go_ret
  exact ⟨rfl, hu, B3⟩
theorem rnum_76 (jt jf k : Int) (g : Nat) (s : Vm) (W : World) (B : RB W g s) : Calls Try.prog 54 #[.pointer (some ⟨g, 0, none⟩), .agg #[.int .u16 76, .int .u8 jt, .int .u8 jf, .int .u32 k]] W fun e w' => RfP g W ({ s with a := (bits .or .u32 s.a s.x) }, 0) e w' := by
  have hs : (ByteArray.mk #[111,114,120]).extract 0 2 = ⟨#[111,114]⟩ := by kernel_rfl
  have hx := (Ext.refl W).alloc (.cells #[.int .u16 76, .int .u8 jt, .int .u8 jf, .int .u32 k] 32)
  have B1 := B.ext hx
  have HO := Lib.hid (fun W => refOf_any 76 W)
  rw [show (findO fun e => e.code == 76).1.val = .agg #[.int .u16 76, .string ⟨#[111,114,120]⟩, .int .u8 3] from by kernel_rfl] at HO
  have HWX := Lib.hid (fun W => refWithX_any 76 W)
  rw [show owx (byO 76).1 = true from by kernel_rfl] at HWX
  have hf := one_field 76 3 ⟨#[111,114,120]⟩
  have HI := Lib.hid (Blk.new W 32 #[.int .u16 76, .int .u8 jt, .int .u8 jf, .int .u32 k])
  have HB := Lib.hid B1
  clear B B1
  go_enter Try.func54, Try.ntmps54
  go_wp2_with fail
  refine (HO.out _).mono ?_
  rintro e w1 ⟨rfl, hx1⟩
  have q0 := (HI.out.ext hx1).cell 0
  have q3 := (HI.out.ext hx1).cell 3
  go_wp2_with fail
  clear q0 q3
  refine (HWX.out _).mono ?_
  rintro e w2 ⟨rfl, hx2⟩
  have B2 := HB.out.ext (hx1.trans hx2)
  replace hx := hx.trans (hx1.trans hx2)
  clear HI HB HO HWX hx1 hx2
  have y0 := B2.a
  have y1 := B2.x
  have y2 := B2.over
  have z0 := B2.fz 0
  have hu := (Upd.of_ext (g := g) hx).set 0 (.int .u32 (bits .or .u32 s.a s.x))
  have B3 := B2.setA (bits .or .u32 s.a s.x)
  clear B2 hx
  go_wp2_with fail
  go_ret
  exact ⟨rfl, hu, B3⟩
theorem rnum_84 (jt jf k : Int) (g : Nat) (s : Vm) (W : World) (B : RB W g s) : Calls Try.prog 54 #[.pointer (some ⟨g, 0, none⟩), .agg #[.int .u16 84, .int .u8 jt, .int .u8 jf, .int .u32 k]] W fun e w' => RfP g W ({ s with a := (bits .and .u32 s.a k) }, 0) e w' := by
  have hs : (ByteArray.mk #[97,110,100,120]).extract 0 3 = ⟨#[97,110,100]⟩ := by kernel_rfl
  have hx := (Ext.refl W).alloc (.cells #[.int .u16 84, .int .u8 jt, .int .u8 jf, .int .u32 k] 32)
  have B1 := B.ext hx
  have HO := Lib.hid (fun W => refOf_any 84 W)
  rw [show (findO fun e => e.code == 84).1.val = .agg #[.int .u16 84, .string ⟨#[97,110,100]⟩, .int .u8 3] from by kernel_rfl] at HO
  have HWX := Lib.hid (fun W => refWithX_any 84 W)
  rw [show owx (byO 84).1 = false from by kernel_rfl] at HWX
  have hf := one_field 84 3 ⟨#[97,110,100]⟩
  have HI := Lib.hid (Blk.new W 32 #[.int .u16 84, .int .u8 jt, .int .u8 jf, .int .u32 k])
  have HB := Lib.hid B1
  clear B B1
  go_enter Try.func54, Try.ntmps54
  go_wp2_with fail
  refine (HO.out _).mono ?_
  rintro e w1 ⟨rfl, hx1⟩
  have q0 := (HI.out.ext hx1).cell 0
  have q3 := (HI.out.ext hx1).cell 3
  go_wp2_with fail
  clear q0 q3
  refine (HWX.out _).mono ?_
  rintro e w2 ⟨rfl, hx2⟩
  have B2 := HB.out.ext (hx1.trans hx2)
  replace hx := hx.trans (hx1.trans hx2)
  clear HI HB HO HWX hx1 hx2
  have y0 := B2.a
  have y1 := B2.x
  have y2 := B2.over
  have z0 := B2.fz 0
  have hu := (Upd.of_ext (g := g) hx).set 0 (.int .u32 (bits .and .u32 s.a k))
  have B3 := B2.setA (bits .and .u32 s.a k)
  clear B2 hx
  go_wp2_with fail
  go_ret
  exact ⟨rfl, hu, B3⟩
theorem rnum_92 (jt jf k : Int) (g : Nat) (s : Vm) (W : World) (B : RB W g s) : Calls Try.prog 54 #[.pointer (some ⟨g, 0, none⟩), .agg #[.int .u16 92, .int .u8 jt, .int .u8 jf, .int .u32 k]] W fun e w' => RfP g W ({ s with a := (bits .and .u32 s.a s.x) }, 0) e w' := by
  have hs : (ByteArray.mk #[97,110,100,120]).extract 0 3 = ⟨#[97,110,100]⟩ := by kernel_rfl
  have hx := (Ext.refl W).alloc (.cells #[.int .u16 92, .int .u8 jt, .int .u8 jf, .int .u32 k] 32)
  have B1 := B.ext hx
  have HO := Lib.hid (fun W => refOf_any 92 W)
  rw [show (findO fun e => e.code == 92).1.val = .agg #[.int .u16 92, .string ⟨#[97,110,100,120]⟩, .int .u8 3] from by kernel_rfl] at HO
  have HWX := Lib.hid (fun W => refWithX_any 92 W)
  rw [show owx (byO 92).1 = true from by kernel_rfl] at HWX
  have hf := one_field 92 3 ⟨#[97,110,100,120]⟩
  have HI := Lib.hid (Blk.new W 32 #[.int .u16 92, .int .u8 jt, .int .u8 jf, .int .u32 k])
  have HB := Lib.hid B1
  clear B B1
  go_enter Try.func54, Try.ntmps54
  go_wp2_with fail
  refine (HO.out _).mono ?_
  rintro e w1 ⟨rfl, hx1⟩
  have q0 := (HI.out.ext hx1).cell 0
  have q3 := (HI.out.ext hx1).cell 3
  go_wp2_with fail
  clear q0 q3
  refine (HWX.out _).mono ?_
  rintro e w2 ⟨rfl, hx2⟩
  have B2 := HB.out.ext (hx1.trans hx2)
  replace hx := hx.trans (hx1.trans hx2)
  clear HI HB HO HWX hx1 hx2
  have y0 := B2.a
  have y1 := B2.x
  have y2 := B2.over
  have z0 := B2.fz 0
  have hu := (Upd.of_ext (g := g) hx).set 0 (.int .u32 (bits .and .u32 s.a s.x))
  have B3 := B2.setA (bits .and .u32 s.a s.x)
  clear B2 hx
  go_wp2_with fail
  go_ret
  exact ⟨rfl, hu, B3⟩
theorem rnum_164 (jt jf k : Int) (g : Nat) (s : Vm) (W : World) (B : RB W g s) : Calls Try.prog 54 #[.pointer (some ⟨g, 0, none⟩), .agg #[.int .u16 164, .int .u8 jt, .int .u8 jf, .int .u32 k]] W fun e w' => RfP g W ({ s with a := (bits .xor .u32 s.a k) }, 0) e w' := by
  have hs : (ByteArray.mk #[120,111,114,120]).extract 0 3 = ⟨#[120,111,114]⟩ := by kernel_rfl
  have hx := (Ext.refl W).alloc (.cells #[.int .u16 164, .int .u8 jt, .int .u8 jf, .int .u32 k] 32)
  have B1 := B.ext hx
  have HO := Lib.hid (fun W => refOf_any 164 W)
  rw [show (findO fun e => e.code == 164).1.val = .agg #[.int .u16 164, .string ⟨#[120,111,114]⟩, .int .u8 3] from by kernel_rfl] at HO
  have HWX := Lib.hid (fun W => refWithX_any 164 W)
  rw [show owx (byO 164).1 = false from by kernel_rfl] at HWX
  have hf := one_field 164 3 ⟨#[120,111,114]⟩
  have HI := Lib.hid (Blk.new W 32 #[.int .u16 164, .int .u8 jt, .int .u8 jf, .int .u32 k])
  have HB := Lib.hid B1
  clear B B1
  go_enter Try.func54, Try.ntmps54
  go_wp2_with fail
  refine (HO.out _).mono ?_
  rintro e w1 ⟨rfl, hx1⟩
  have q0 := (HI.out.ext hx1).cell 0
  have q3 := (HI.out.ext hx1).cell 3
  go_wp2_with fail
  clear q0 q3
  refine (HWX.out _).mono ?_
  rintro e w2 ⟨rfl, hx2⟩
  have B2 := HB.out.ext (hx1.trans hx2)
  replace hx := hx.trans (hx1.trans hx2)
  clear HI HB HO HWX hx1 hx2
  have y0 := B2.a
  have y1 := B2.x
  have y2 := B2.over
  have z0 := B2.fz 0
  have hu := (Upd.of_ext (g := g) hx).set 0 (.int .u32 (bits .xor .u32 s.a k))
  have B3 := B2.setA (bits .xor .u32 s.a k)
  clear B2 hx
  go_wp2_with fail
  go_ret
  exact ⟨rfl, hu, B3⟩
theorem rnum_172 (jt jf k : Int) (g : Nat) (s : Vm) (W : World) (B : RB W g s) : Calls Try.prog 54 #[.pointer (some ⟨g, 0, none⟩), .agg #[.int .u16 172, .int .u8 jt, .int .u8 jf, .int .u32 k]] W fun e w' => RfP g W ({ s with a := (bits .xor .u32 s.a s.x) }, 0) e w' := by
  have hs : (ByteArray.mk #[120,111,114,120]).extract 0 3 = ⟨#[120,111,114]⟩ := by kernel_rfl
  have hx := (Ext.refl W).alloc (.cells #[.int .u16 172, .int .u8 jt, .int .u8 jf, .int .u32 k] 32)
  have B1 := B.ext hx
  have HO := Lib.hid (fun W => refOf_any 172 W)
  rw [show (findO fun e => e.code == 172).1.val = .agg #[.int .u16 172, .string ⟨#[120,111,114,120]⟩, .int .u8 3] from by kernel_rfl] at HO
  have HWX := Lib.hid (fun W => refWithX_any 172 W)
  rw [show owx (byO 172).1 = true from by kernel_rfl] at HWX
  have hf := one_field 172 3 ⟨#[120,111,114,120]⟩
  have HI := Lib.hid (Blk.new W 32 #[.int .u16 172, .int .u8 jt, .int .u8 jf, .int .u32 k])
  have HB := Lib.hid B1
  clear B B1
  go_enter Try.func54, Try.ntmps54
  go_wp2_with fail
  refine (HO.out _).mono ?_
  rintro e w1 ⟨rfl, hx1⟩
  have q0 := (HI.out.ext hx1).cell 0
  have q3 := (HI.out.ext hx1).cell 3
  go_wp2_with fail
  clear q0 q3
  refine (HWX.out _).mono ?_
  rintro e w2 ⟨rfl, hx2⟩
  have B2 := HB.out.ext (hx1.trans hx2)
  replace hx := hx.trans (hx1.trans hx2)
  clear HI HB HO HWX hx1 hx2
  have y0 := B2.a
  have y1 := B2.x
  have y2 := B2.over
  have z0 := B2.fz 0
  have hu := (Upd.of_ext (g := g) hx).set 0 (.int .u32 (bits .xor .u32 s.a s.x))
  have B3 := B2.setA (bits .xor .u32 s.a s.x)
  clear B2 hx
  go_wp2_with fail
  go_ret
  exact ⟨rfl, hu, B3⟩
theorem rnum_132 (jt jf k : Int) (g : Nat) (s : Vm) (W : World) (B : RB W g s) : Calls Try.prog 54 #[.pointer (some ⟨g, 0, none⟩), .agg #[.int .u16 132, .int .u8 jt, .int .u8 jf, .int .u32 k]] W fun e w' => RfP g W ({ s with a := (IntKind.u32.wrap (-s.a)) }, 0) e w' := by
  have hs : (ByteArray.mk #[110,101,103,120]).extract 0 3 = ⟨#[110,101,103]⟩ := by kernel_rfl
  have hx := (Ext.refl W).alloc (.cells #[.int .u16 132, .int .u8 jt, .int .u8 jf, .int .u32 k] 32)
  have B1 := B.ext hx
  have HO := Lib.hid (fun W => refOf_any 132 W)
  rw [show (findO fun e => e.code == 132).1.val = .agg #[.int .u16 132, .string ⟨#[110,101,103]⟩, .int .u8 3] from by kernel_rfl] at HO
  have HWX := Lib.hid (fun W => refWithX_any 132 W)
  rw [show owx (byO 132).1 = false from by kernel_rfl] at HWX
  have hf := one_field 132 3 ⟨#[110,101,103]⟩
  have HI := Lib.hid (Blk.new W 32 #[.int .u16 132, .int .u8 jt, .int .u8 jf, .int .u32 k])
  have HB := Lib.hid B1
  clear B B1
  go_enter Try.func54, Try.ntmps54
  go_wp2_with fail
  refine (HO.out _).mono ?_
  rintro e w1 ⟨rfl, hx1⟩
  have q0 := (HI.out.ext hx1).cell 0
  have q3 := (HI.out.ext hx1).cell 3
  go_wp2_with fail
  clear q0 q3
  refine (HWX.out _).mono ?_
  rintro e w2 ⟨rfl, hx2⟩
  have B2 := HB.out.ext (hx1.trans hx2)
  replace hx := hx.trans (hx1.trans hx2)
  clear HI HB HO HWX hx1 hx2
  have y0 := B2.a
  have y1 := B2.x
  have y2 := B2.over
  have z0 := B2.fz 0
  have hu := (Upd.of_ext (g := g) hx).set 0 (.int .u32 (IntKind.u32.wrap (-s.a)))
  have B3 := B2.setA (IntKind.u32.wrap (-s.a))
  clear B2 hx
  go_wp2_with fail
  go_ret
  exact ⟨rfl, hu, B3⟩
theorem rnum_52_no (jt jf k : Int) (hk : k = 0) (g : Nat) (s : Vm) (W : World) (B : RB W g s) : Calls Try.prog 54 #[.pointer (some ⟨g, 0, none⟩), .agg #[.int .u16 52, .int .u8 jt, .int .u8 jf, .int .u32 k]] W fun e w' => RfP g W (s, 44) e w' := by
  have HK := Lib.hid hk
  clear hk
  have hx := (Ext.refl W).alloc (.cells #[.int .u16 52, .int .u8 jt, .int .u8 jf, .int .u32 k] 32)
  have B1 := B.ext hx
  have HO := Lib.hid (fun W => refOf_any 52 W)
  rw [show (findO fun e => e.code == 52).1.val = .agg #[.int .u16 52, .string ⟨#[100,105,118]⟩, .int .u8 3] from by kernel_rfl] at HO
  have HWX := Lib.hid (fun W => refWithX_any 52 W)
  rw [show owx (byO 52).1 = false from by kernel_rfl] at HWX
  have hf := one_field 52 3 ⟨#[100,105,118]⟩
  have HI := Lib.hid (Blk.new W 32 #[.int .u16 52, .int .u8 jt, .int .u8 jf, .int .u32 k])
  have HB := Lib.hid B1
  clear B B1
  go_enter Try.func54, Try.ntmps54
  go_wp2_with fail
  refine (HO.out _).mono ?_
  rintro e w1 ⟨rfl, hx1⟩
  have q0 := (HI.out.ext hx1).cell 0
  have q3 := (HI.out.ext hx1).cell 3
  go_wp2_with fail
  clear q0 q3
  refine (HWX.out _).mono ?_
  rintro e w2 ⟨rfl, hx2⟩
  have B2 := HB.out.ext (hx1.trans hx2)
  replace hx := hx.trans (hx1.trans hx2)
  clear HI HB HO HWX hx1 hx2
  have y0 := B2.a
  have y1 := B2.x
  have y2 := B2.over
  have z0 := B2.fz 0
  obtain rfl : k = 0 := HK.out
  go_wp2_with fail
  go_ret
  exact ⟨rfl, .of_ext hx, B2⟩
theorem rnum_52_yes (jt jf k : Int) (hk : 0 < k) (g : Nat) (s : Vm) (ha : U32 s.a) (W : World) (B : RB W g s) : Calls Try.prog 54 #[.pointer (some ⟨g, 0, none⟩), .agg #[.int .u16 52, .int .u8 jt, .int .u8 jf, .int .u32 k]] W fun e w' => RfP g W ({ s with a := s.a / k }, 0) e w' := by
  have hx := (Ext.refl W).alloc (.cells #[.int .u16 52, .int .u8 jt, .int .u8 jf, .int .u32 k] 32)
  have B1 := B.ext hx
  have HO := Lib.hid (fun W => refOf_any 52 W)
  rw [show (findO fun e => e.code == 52).1.val = .agg #[.int .u16 52, .string ⟨#[100,105,118]⟩, .int .u8 3] from by kernel_rfl] at HO
  have HWX := Lib.hid (fun W => refWithX_any 52 W)
  rw [show owx (byO 52).1 = false from by kernel_rfl] at HWX
  have hf := one_field 52 3 ⟨#[100,105,118]⟩
  have HI := Lib.hid (Blk.new W 32 #[.int .u16 52, .int .u8 jt, .int .u8 jf, .int .u32 k])
  have HB := Lib.hid B1
  clear B B1
  go_enter Try.func54, Try.ntmps54
  go_wp2_with fail
  refine (HO.out _).mono ?_
  rintro e w1 ⟨rfl, hx1⟩
  have q0 := (HI.out.ext hx1).cell 0
  have q3 := (HI.out.ext hx1).cell 3
  go_wp2_with fail
  clear q0 q3
  refine (HWX.out _).mono ?_
  rintro e w2 ⟨rfl, hx2⟩
  have B2 := HB.out.ext (hx1.trans hx2)
  replace hx := hx.trans (hx1.trans hx2)
  clear HI HB HO HWX hx1 hx2
  have y0 := B2.a
  have y1 := B2.x
  have y2 := B2.over
  have z0 := B2.fz 0
  have hu := (Upd.of_ext (g := g) hx).set 0 (.int .u32 (s.a / k))
  have B3 := B2.setA (s.a / k)
  have hne : ¬ k = 0 := by omega
  have a0 := ha.1
  have hd : IntKind.u32.wrap (s.a / k) = s.a / k := by
    have h1 : 0 ≤ s.a / k := Int.ediv_nonneg ha.1 (by omega)
    have h2 : s.a / k ≤ s.a := Int.ediv_le_self _ ha.1
    have h3 : s.a < 4294967296 := ha.2
    exact IntWalk.u32_in _ (by omega)
  have hd2 : s.a.tdiv k % 4294967296 = s.a / k := by
    rw [Int.tdiv_eq_ediv_of_nonneg ha.1, ← IntKind.wrap_u32]
    exact hd
  clear B2 hx ha
  go_wp2_with fail
  go_ret
  exact ⟨rfl, hu, B3⟩
theorem rnum_60_no (jt jf k : Int) (g : Nat) (s : Vm) (hk : s.x = 0) (W : World) (B : RB W g s) : Calls Try.prog 54 #[.pointer (some ⟨g, 0, none⟩), .agg #[.int .u16 60, .int .u8 jt, .int .u8 jf, .int .u32 k]] W fun e w' => RfP g W ({ s with over := true }, 0) e w' := by
  have hs : (ByteArray.mk #[100,105,118,120]).extract 0 3 = ⟨#[100,105,118]⟩ := by kernel_rfl
  have hx := (Ext.refl W).alloc (.cells #[.int .u16 60, .int .u8 jt, .int .u8 jf, .int .u32 k] 32)
  have B1 := B.ext hx
  have HO := Lib.hid (fun W => refOf_any 60 W)
  rw [show (findO fun e => e.code == 60).1.val = .agg #[.int .u16 60, .string ⟨#[100,105,118,120]⟩, .int .u8 3] from by kernel_rfl] at HO
  have HWX := Lib.hid (fun W => refWithX_any 60 W)
  rw [show owx (byO 60).1 = true from by kernel_rfl] at HWX
  have hf := one_field 60 3 ⟨#[100,105,118,120]⟩
  have HI := Lib.hid (Blk.new W 32 #[.int .u16 60, .int .u8 jt, .int .u8 jf, .int .u32 k])
  have HB := Lib.hid B1
  clear B B1
  go_enter Try.func54, Try.ntmps54
  go_wp2_with fail
  refine (HO.out _).mono ?_
  rintro e w1 ⟨rfl, hx1⟩
  have q0 := (HI.out.ext hx1).cell 0
  have q3 := (HI.out.ext hx1).cell 3
  go_wp2_with fail
  clear q0 q3
  refine (HWX.out _).mono ?_
  rintro e w2 ⟨rfl, hx2⟩
  have B2 := HB.out.ext (hx1.trans hx2)
  replace hx := hx.trans (hx1.trans hx2)
  clear HI HB HO HWX hx1 hx2
  have y0 := B2.a
  have y1 := B2.x
  have y2 := B2.over
  have z0 := B2.fz 0
  have z1 := B2.fz 19
  have hu := (Upd.of_ext (g := g) hx).set 19 (.bool true)
  have B3 := B2.setO true
  rw [hk] at y1
  clear B2 hx hk
  go_wp2_with fail
  go_ret
  exact ⟨rfl, hu, B3⟩
theorem rnum_60_yes (jt jf k : Int) (g : Nat) (s : Vm) (hk : 0 < s.x) (ha : U32 s.a) (W : World) (B : RB W g s) : Calls Try.prog 54 #[.pointer (some ⟨g, 0, none⟩), .agg #[.int .u16 60, .int .u8 jt, .int .u8 jf, .int .u32 k]] W fun e w' => RfP g W ({ s with a := s.a / s.x }, 0) e w' := by
  have hs : (ByteArray.mk #[100,105,118,120]).extract 0 3 = ⟨#[100,105,118]⟩ := by kernel_rfl
  have hx := (Ext.refl W).alloc (.cells #[.int .u16 60, .int .u8 jt, .int .u8 jf, .int .u32 k] 32)
  have B1 := B.ext hx
  have HO := Lib.hid (fun W => refOf_any 60 W)
  rw [show (findO fun e => e.code == 60).1.val = .agg #[.int .u16 60, .string ⟨#[100,105,118,120]⟩, .int .u8 3] from by kernel_rfl] at HO
  have HWX := Lib.hid (fun W => refWithX_any 60 W)
  rw [show owx (byO 60).1 = true from by kernel_rfl] at HWX
  have hf := one_field 60 3 ⟨#[100,105,118,120]⟩
  have HI := Lib.hid (Blk.new W 32 #[.int .u16 60, .int .u8 jt, .int .u8 jf, .int .u32 k])
  have HB := Lib.hid B1
  clear B B1
  go_enter Try.func54, Try.ntmps54
  go_wp2_with fail
  refine (HO.out _).mono ?_
  rintro e w1 ⟨rfl, hx1⟩
  have q0 := (HI.out.ext hx1).cell 0
  have q3 := (HI.out.ext hx1).cell 3
  go_wp2_with fail
  clear q0 q3
  refine (HWX.out _).mono ?_
  rintro e w2 ⟨rfl, hx2⟩
  have B2 := HB.out.ext (hx1.trans hx2)
  replace hx := hx.trans (hx1.trans hx2)
  clear HI HB HO HWX hx1 hx2
  have y0 := B2.a
  have y1 := B2.x
  have y2 := B2.over
  have z0 := B2.fz 0
  have hu := (Upd.of_ext (g := g) hx).set 0 (.int .u32 (s.a / s.x))
  have B3 := B2.setA (s.a / s.x)
  have hne : ¬ s.x = 0 := by omega
  have a0 := ha.1
  have hd : IntKind.u32.wrap (s.a / s.x) = s.a / s.x := by
    have h1 : 0 ≤ s.a / s.x := Int.ediv_nonneg ha.1 (by omega)
    have h2 : s.a / s.x ≤ s.a := Int.ediv_le_self _ ha.1
    have h3 : s.a < 4294967296 := ha.2
    exact IntWalk.u32_in _ (by omega)
  have hd2 : s.a.tdiv s.x % 4294967296 = s.a / s.x := by
    rw [Int.tdiv_eq_ediv_of_nonneg ha.1, ← IntKind.wrap_u32]
    exact hd
  clear B2 hx ha
  go_wp2_with fail
  go_ret
  exact ⟨rfl, hu, B3⟩
theorem rnum_100_no (jt jf k : Int) (hk : 31 < k) (g : Nat) (s : Vm) (W : World) (B : RB W g s) : Calls Try.prog 54 #[.pointer (some ⟨g, 0, none⟩), .agg #[.int .u16 100, .int .u8 jt, .int .u8 jf, .int .u32 k]] W fun e w' => RfP g W (s, 45) e w' := by
  have hx := (Ext.refl W).alloc (.cells #[.int .u16 100, .int .u8 jt, .int .u8 jf, .int .u32 k] 32)
  have B1 := B.ext hx
  have HO := Lib.hid (fun W => refOf_any 100 W)
  rw [show (findO fun e => e.code == 100).1.val = .agg #[.int .u16 100, .string ⟨#[108,115,104]⟩, .int .u8 3] from by kernel_rfl] at HO
  have HWX := Lib.hid (fun W => refWithX_any 100 W)
  rw [show owx (byO 100).1 = false from by kernel_rfl] at HWX
  have hf := one_field 100 3 ⟨#[108,115,104]⟩
  have HI := Lib.hid (Blk.new W 32 #[.int .u16 100, .int .u8 jt, .int .u8 jf, .int .u32 k])
  have HB := Lib.hid B1
  clear B B1
  go_enter Try.func54, Try.ntmps54
  go_wp2_with fail
  refine (HO.out _).mono ?_
  rintro e w1 ⟨rfl, hx1⟩
  have q0 := (HI.out.ext hx1).cell 0
  have q3 := (HI.out.ext hx1).cell 3
  go_wp2_with fail
  clear q0 q3
  refine (HWX.out _).mono ?_
  rintro e w2 ⟨rfl, hx2⟩
  have B2 := HB.out.ext (hx1.trans hx2)
  replace hx := hx.trans (hx1.trans hx2)
  clear HI HB HO HWX hx1 hx2
  have y0 := B2.a
  have y1 := B2.x
  have y2 := B2.over
  have z0 := B2.fz 0
  go_wp2_with fail
  go_ret
  exact ⟨rfl, .of_ext hx, B2⟩
theorem rnum_116_no (jt jf k : Int) (hk : 31 < k) (g : Nat) (s : Vm) (W : World) (B : RB W g s) : Calls Try.prog 54 #[.pointer (some ⟨g, 0, none⟩), .agg #[.int .u16 116, .int .u8 jt, .int .u8 jf, .int .u32 k]] W fun e w' => RfP g W (s, 45) e w' := by
  have hx := (Ext.refl W).alloc (.cells #[.int .u16 116, .int .u8 jt, .int .u8 jf, .int .u32 k] 32)
  have B1 := B.ext hx
  have HO := Lib.hid (fun W => refOf_any 116 W)
  rw [show (findO fun e => e.code == 116).1.val = .agg #[.int .u16 116, .string ⟨#[114,115,104]⟩, .int .u8 3] from by kernel_rfl] at HO
  have HWX := Lib.hid (fun W => refWithX_any 116 W)
  rw [show owx (byO 116).1 = false from by kernel_rfl] at HWX
  have hf := one_field 116 3 ⟨#[114,115,104]⟩
  have HI := Lib.hid (Blk.new W 32 #[.int .u16 116, .int .u8 jt, .int .u8 jf, .int .u32 k])
  have HB := Lib.hid B1
  clear B B1
  go_enter Try.func54, Try.ntmps54
  go_wp2_with fail
  refine (HO.out _).mono ?_
  rintro e w1 ⟨rfl, hx1⟩
  have q0 := (HI.out.ext hx1).cell 0
  have q3 := (HI.out.ext hx1).cell 3
  go_wp2_with fail
  clear q0 q3
  refine (HWX.out _).mono ?_
  rintro e w2 ⟨rfl, hx2⟩
  have B2 := HB.out.ext (hx1.trans hx2)
  replace hx := hx.trans (hx1.trans hx2)
  clear HI HB HO HWX hx1 hx2
  have y0 := B2.a
  have y1 := B2.x
  have y2 := B2.over
  have z0 := B2.fz 0
  go_wp2_with fail
  go_ret
  exact ⟨rfl, .of_ext hx, B2⟩
theorem rnum_100_yes (jt jf k : Int) (g : Nat) (s : Vm) (ha : U32 s.a) (hb : U32 k) (hk : ¬ 31 < k) (W : World) (B : RB W g s) : Calls Try.prog 54 #[.pointer (some ⟨g, 0, none⟩), .agg #[.int .u16 100, .int .u8 jt, .int .u8 jf, .int .u32 k]] W fun e w' => RfP g W ({ s with a := (IntKind.u32.wrap (s.a * 2 ^ (k % 32).toNat)) }, 0) e w' := by
  have hs : (ByteArray.mk #[108,115,104,120]).extract 0 3 = ⟨#[108,115,104]⟩ := by kernel_rfl
  have hbm : ((k % 32).toNat : Int) = k % 32 := Int.toNat_of_nonneg (by omega)
  have HSH := Lib.hid (fun W => shifted_l s.a ha (k % 32).toNat (by omega) W)
  rw [hbm] at HSH
  have b0 := hb.1
  clear hbm ha hb
  have hx := (Ext.refl W).alloc (.cells #[.int .u16 100, .int .u8 jt, .int .u8 jf, .int .u32 k] 32)
  have B1 := B.ext hx
  have HO := Lib.hid (fun W => refOf_any 100 W)
  rw [show (findO fun e => e.code == 100).1.val = .agg #[.int .u16 100, .string ⟨#[108,115,104]⟩, .int .u8 3] from by kernel_rfl] at HO
  have HWX := Lib.hid (fun W => refWithX_any 100 W)
  rw [show owx (byO 100).1 = false from by kernel_rfl] at HWX
  have hf := one_field 100 3 ⟨#[108,115,104]⟩
  have HI := Lib.hid (Blk.new W 32 #[.int .u16 100, .int .u8 jt, .int .u8 jf, .int .u32 k])
  have HB := Lib.hid B1
  clear B B1
  go_enter Try.func54, Try.ntmps54
  go_wp2_with fail
  refine (HO.out _).mono ?_
  rintro e w1 ⟨rfl, hx1⟩
  have q0 := (HI.out.ext hx1).cell 0
  have q3 := (HI.out.ext hx1).cell 3
  go_wp2_with fail
  clear q0 q3
  refine (HWX.out _).mono ?_
  rintro e w2 ⟨rfl, hx2⟩
  have B2 := HB.out.ext (hx1.trans hx2)
  replace hx := hx.trans (hx1.trans hx2)
  clear HI HB HO HWX hx1 hx2
  have y0 := B2.a
  have y1 := B2.x
  have y2 := B2.over
  have z0 := B2.fz 0
  have hu := (Upd.of_ext (g := g) hx).set 0 (.int .u32 (IntKind.u32.wrap (s.a * 2 ^ (k % 32).toNat)))
  have B3 := B2.setA (IntKind.u32.wrap (s.a * 2 ^ (k % 32).toNat))
  clear B2 hx
  go_wp2_with fail
  refine (HSH.out _).mono ?_
  rintro e w3 ⟨rfl, rfl⟩
  go_wp2_with fail
  go_ret
  exact ⟨rfl, hu, B3⟩
theorem rnum_116_yes (jt jf k : Int) (g : Nat) (s : Vm) (ha : U32 s.a) (hb : U32 k) (hk : ¬ 31 < k) (W : World) (B : RB W g s) : Calls Try.prog 54 #[.pointer (some ⟨g, 0, none⟩), .agg #[.int .u16 116, .int .u8 jt, .int .u8 jf, .int .u32 k]] W fun e w' => RfP g W ({ s with a := (s.a / 2 ^ (k % 32).toNat) }, 0) e w' := by
  have hs : (ByteArray.mk #[114,115,104,120]).extract 0 3 = ⟨#[114,115,104]⟩ := by kernel_rfl
  have hbm : ((k % 32).toNat : Int) = k % 32 := Int.toNat_of_nonneg (by omega)
  have HSH := Lib.hid (fun W => shifted_r s.a ha (k % 32).toNat (by omega) W)
  rw [hbm] at HSH
  have b0 := hb.1
  clear hbm ha hb
  have hx := (Ext.refl W).alloc (.cells #[.int .u16 116, .int .u8 jt, .int .u8 jf, .int .u32 k] 32)
  have B1 := B.ext hx
  have HO := Lib.hid (fun W => refOf_any 116 W)
  rw [show (findO fun e => e.code == 116).1.val = .agg #[.int .u16 116, .string ⟨#[114,115,104]⟩, .int .u8 3] from by kernel_rfl] at HO
  have HWX := Lib.hid (fun W => refWithX_any 116 W)
  rw [show owx (byO 116).1 = false from by kernel_rfl] at HWX
  have hf := one_field 116 3 ⟨#[114,115,104]⟩
  have HI := Lib.hid (Blk.new W 32 #[.int .u16 116, .int .u8 jt, .int .u8 jf, .int .u32 k])
  have HB := Lib.hid B1
  clear B B1
  go_enter Try.func54, Try.ntmps54
  go_wp2_with fail
  refine (HO.out _).mono ?_
  rintro e w1 ⟨rfl, hx1⟩
  have q0 := (HI.out.ext hx1).cell 0
  have q3 := (HI.out.ext hx1).cell 3
  go_wp2_with fail
  clear q0 q3
  refine (HWX.out _).mono ?_
  rintro e w2 ⟨rfl, hx2⟩
  have B2 := HB.out.ext (hx1.trans hx2)
  replace hx := hx.trans (hx1.trans hx2)
  clear HI HB HO HWX hx1 hx2
  have y0 := B2.a
  have y1 := B2.x
  have y2 := B2.over
  have z0 := B2.fz 0
  have hu := (Upd.of_ext (g := g) hx).set 0 (.int .u32 (s.a / 2 ^ (k % 32).toNat))
  have B3 := B2.setA (s.a / 2 ^ (k % 32).toNat)
  clear B2 hx
  go_wp2_with fail
  refine (HSH.out _).mono ?_
  rintro e w3 ⟨rfl, rfl⟩
  go_wp2_with fail
  go_ret
  exact ⟨rfl, hu, B3⟩
theorem rnum_108_yes (jt jf k : Int) (g : Nat) (s : Vm) (ha : U32 s.a) (hb : U32 s.x)  (W : World) (B : RB W g s) : Calls Try.prog 54 #[.pointer (some ⟨g, 0, none⟩), .agg #[.int .u16 108, .int .u8 jt, .int .u8 jf, .int .u32 k]] W fun e w' => RfP g W ({ s with a := (IntKind.u32.wrap (s.a * 2 ^ (s.x % 32).toNat)) }, 0) e w' := by
  have hs : (ByteArray.mk #[108,115,104,120]).extract 0 3 = ⟨#[108,115,104]⟩ := by kernel_rfl
  have hbm : ((s.x % 32).toNat : Int) = s.x % 32 := Int.toNat_of_nonneg (by omega)
  have HSH := Lib.hid (fun W => shifted_l s.a ha (s.x % 32).toNat (by omega) W)
  rw [hbm] at HSH
  have b0 := hb.1
  clear hbm ha hb
  have hx := (Ext.refl W).alloc (.cells #[.int .u16 108, .int .u8 jt, .int .u8 jf, .int .u32 k] 32)
  have B1 := B.ext hx
  have HO := Lib.hid (fun W => refOf_any 108 W)
  rw [show (findO fun e => e.code == 108).1.val = .agg #[.int .u16 108, .string ⟨#[108,115,104,120]⟩, .int .u8 3] from by kernel_rfl] at HO
  have HWX := Lib.hid (fun W => refWithX_any 108 W)
  rw [show owx (byO 108).1 = true from by kernel_rfl] at HWX
  have hf := one_field 108 3 ⟨#[108,115,104,120]⟩
  have HI := Lib.hid (Blk.new W 32 #[.int .u16 108, .int .u8 jt, .int .u8 jf, .int .u32 k])
  have HB := Lib.hid B1
  clear B B1
  go_enter Try.func54, Try.ntmps54
  go_wp2_with fail
  refine (HO.out _).mono ?_
  rintro e w1 ⟨rfl, hx1⟩
  have q0 := (HI.out.ext hx1).cell 0
  have q3 := (HI.out.ext hx1).cell 3
  go_wp2_with fail
  clear q0 q3
  refine (HWX.out _).mono ?_
  rintro e w2 ⟨rfl, hx2⟩
  have B2 := HB.out.ext (hx1.trans hx2)
  replace hx := hx.trans (hx1.trans hx2)
  clear HI HB HO HWX hx1 hx2
  have y0 := B2.a
  have y1 := B2.x
  have y2 := B2.over
  have z0 := B2.fz 0
  have hu := (Upd.of_ext (g := g) hx).set 0 (.int .u32 (IntKind.u32.wrap (s.a * 2 ^ (s.x % 32).toNat)))
  have B3 := B2.setA (IntKind.u32.wrap (s.a * 2 ^ (s.x % 32).toNat))
  clear B2 hx
  go_wp2_with fail
  refine (HSH.out _).mono ?_
  rintro e w3 ⟨rfl, rfl⟩
  go_wp2_with fail
  go_ret
  exact ⟨rfl, hu, B3⟩
theorem rnum_124_yes (jt jf k : Int) (g : Nat) (s : Vm) (ha : U32 s.a) (hb : U32 s.x)  (W : World) (B : RB W g s) : Calls Try.prog 54 #[.pointer (some ⟨g, 0, none⟩), .agg #[.int .u16 124, .int .u8 jt, .int .u8 jf, .int .u32 k]] W fun e w' => RfP g W ({ s with a := (s.a / 2 ^ (s.x % 32).toNat) }, 0) e w' := by
  have hs : (ByteArray.mk #[114,115,104,120]).extract 0 3 = ⟨#[114,115,104]⟩ := by kernel_rfl
  have hbm : ((s.x % 32).toNat : Int) = s.x % 32 := Int.toNat_of_nonneg (by omega)
  have HSH := Lib.hid (fun W => shifted_r s.a ha (s.x % 32).toNat (by omega) W)
  rw [hbm] at HSH
  have b0 := hb.1
  clear hbm ha hb
  have hx := (Ext.refl W).alloc (.cells #[.int .u16 124, .int .u8 jt, .int .u8 jf, .int .u32 k] 32)
  have B1 := B.ext hx
  have HO := Lib.hid (fun W => refOf_any 124 W)
  rw [show (findO fun e => e.code == 124).1.val = .agg #[.int .u16 124, .string ⟨#[114,115,104,120]⟩, .int .u8 3] from by kernel_rfl] at HO
  have HWX := Lib.hid (fun W => refWithX_any 124 W)
  rw [show owx (byO 124).1 = true from by kernel_rfl] at HWX
  have hf := one_field 124 3 ⟨#[114,115,104,120]⟩
  have HI := Lib.hid (Blk.new W 32 #[.int .u16 124, .int .u8 jt, .int .u8 jf, .int .u32 k])
  have HB := Lib.hid B1
  clear B B1
  go_enter Try.func54, Try.ntmps54
  go_wp2_with fail
  refine (HO.out _).mono ?_
  rintro e w1 ⟨rfl, hx1⟩
  have q0 := (HI.out.ext hx1).cell 0
  have q3 := (HI.out.ext hx1).cell 3
  go_wp2_with fail
  clear q0 q3
  refine (HWX.out _).mono ?_
  rintro e w2 ⟨rfl, hx2⟩
  have B2 := HB.out.ext (hx1.trans hx2)
  replace hx := hx.trans (hx1.trans hx2)
  clear HI HB HO HWX hx1 hx2
  have y0 := B2.a
  have y1 := B2.x
  have y2 := B2.over
  have z0 := B2.fz 0
  have hu := (Upd.of_ext (g := g) hx).set 0 (.int .u32 (s.a / 2 ^ (s.x % 32).toNat))
  have B3 := B2.setA (s.a / 2 ^ (s.x % 32).toNat)
  clear B2 hx
  go_wp2_with fail
  refine (HSH.out _).mono ?_
  rintro e w3 ⟨rfl, rfl⟩
  go_wp2_with fail
  go_ret
  exact ⟨rfl, hu, B3⟩
end Go.Proofs.Ytkejcfbhikpibaa
