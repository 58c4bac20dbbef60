import Derived.Test.YtkejcfbhikpibaaVm12
/- The examples of chapter 04 hold. -/
namespace Go.Proofs.Ytkejcfbhikpibaa
open Go.RowKit Go.ChangeShapes Go.WideShapes
set_option linter.unusedVariables false
set_option linter.unusedSimpArgs false

set_option maxRecDepth 100000 in
theorem told04 (A : Option Addr) (n c : Nat) (ps : List Ins) (hp : ps.length = n) (hok : ∀ i ∈ ps, i.ok) (hb : n ≤ 100000) (d : Dat) (hd : d.ok) (x er : Int) (m : Nat) (tr : List Nat) (hr : runR d ps = ⟨x, m, tr, er⟩) (w : World) (hM : InM w A (pc ps)) :
    Calls Try.prog 34 #[.slice A n c, d.val, .int .u32 x, .int .i64 m, .int .i64 er] w fun e w' => e = .returned (.bool true) ∧ Ext w w' := by
  have HM := Lib.hid hM
  have H1 := Lib.hid (fun W h => vmRun A n c ps hp hok hb d hd W h)
  rw [hr] at H1
  clear hr hp hok hM hd hb
  obtain ⟨nr, arch, ip, a0, a1, a2, a3, a4, a5⟩ := d
  dsimp only [Dat.val] at H1
  have hx := (Ext.refl w).alloc (.cells #[.int .u32 nr, .int .u32 arch, .int .u64 ip, .int .u64 a0, .int .u64 a1, .int .u64 a2, .int .u64 a3, .int .u64 a4, .int .u64 a5] 36)
  have hM2 := HM.out.ext hx
  have s1 : (x == x) = true := by simp
  have s2 : ((m : Int) == m) = true := by simp
  have s3 : (er == er) = true := by simp
  go_enter Try.func34, Try.ntmps34
  go_wp2_with fail
  refine (H1.out _ hM2).mono ?_
  rintro e w1 ⟨rfl, hx1⟩
  replace hx := hx.trans hx1
  go_wp2_with fail
  go_ret
  exact ⟨rfl, hx⟩
theorem ok_all4 {ps : List Ins} (h : ps.all (fun i => decide (0 ≤ i.code ∧ i.code < 256 ^ 2) && decide (0 ≤ i.jt ∧ i.jt < 256) && decide (0 ≤ i.jf ∧ i.jf < 256) && decide (0 ≤ i.k ∧ i.k < 256 ^ 4)) = true) : ∀ i ∈ ps, i.ok := fun i hi => by
  have := List.all_eq_true.1 h i hi
  simp only [Bool.and_eq_true, decide_eq_true_eq] at this
  exact ⟨this.1.1.1, this.1.1.2, this.1.2, this.2⟩
def d0 : Dat := ⟨0, 0, 0, 0, 0, 0, 0, 0, 0⟩
def d1 : Dat := ⟨1, 0, 0, 0, 0, 0, 0, 0, 0⟩
def d2 : Dat := ⟨2, 0, 0, 0, 0, 0, 0, 0, 0⟩
theorem d0_ok : d0.ok := ⟨by unfold U32; decide, by unfold U32; decide, by unfold U64; decide, by unfold U64; decide, by unfold U64; decide, by unfold U64; decide, by unfold U64; decide, by unfold U64; decide, by unfold U64; decide⟩
theorem d1_ok : d1.ok := ⟨by unfold U32; decide, by unfold U32; decide, by unfold U64; decide, by unfold U64; decide, by unfold U64; decide, by unfold U64; decide, by unfold U64; decide, by unfold U64; decide, by unfold U64; decide⟩
theorem d2_ok : d2.ok := ⟨by unfold U32; decide, by unfold U32; decide, by unfold U64; decide, by unfold U64; decide, by unfold U64; decide, by unfold U64; decide, by unfold U64; decide, by unfold U64; decide, by unfold U64; decide⟩
def exV0 : List Ins := [⟨32, 0, 0, 0⟩, ⟨21, 0, 1, 1⟩, ⟨6, 0, 0, 5⟩, ⟨6, 0, 0, 6⟩]
theorem exV0_ok : ∀ i ∈ exV0, i.ok := ok_all4 (by kernel_rfl)
theorem exV0_1 : runR d1 exV0 = ⟨5, 3, [0, 1, 2], 0⟩ := by kernel_rfl
theorem exV0_2 : runR d2 exV0 = ⟨6, 3, [0, 1, 3], 0⟩ := by kernel_rfl
def exV1 : List Ins := [⟨0, 0, 0, 7⟩, ⟨1, 0, 0, 0⟩, ⟨60, 0, 0, 0⟩, ⟨22, 0, 0, 0⟩]
theorem exV1_ok : ∀ i ∈ exV1, i.ok := ok_all4 (by kernel_rfl)
theorem exV1_r : runR d0 exV1 = ⟨0, 3, [0, 1, 2], 0⟩ := by kernel_rfl
def exV2 : List Ins := [⟨0, 0, 0, 7⟩, ⟨52, 0, 0, 0⟩]
theorem exV2_ok : ∀ i ∈ exV2, i.ok := ok_all4 (by kernel_rfl)
theorem exV2_r : runR d0 exV2 = ⟨0, 1, [0, 1], 44⟩ := by kernel_rfl
def exV3 : List Ins := []
theorem exV3_ok : ∀ i ∈ exV3, i.ok := ok_all4 (by kernel_rfl)
theorem exV3_r : runR d0 exV3 = ⟨0, 0, [], 46⟩ := by kernel_rfl
def exV4 : List Ins := [⟨0, 0, 0, 1⟩]
theorem exV4_ok : ∀ i ∈ exV4, i.ok := ok_all4 (by kernel_rfl)
theorem exV4_r : runR d0 exV4 = ⟨0, 1, [0], 46⟩ := by kernel_rfl
def exV5 : List Ins := [⟨5, 0, 0, 4⟩]
theorem exV5_ok : ∀ i ∈ exV5, i.ok := ok_all4 (by kernel_rfl)
theorem exV5_r : runR d0 exV5 = ⟨0, 1, [0], 42⟩ := by kernel_rfl
def exV6 : List Ins := [⟨32, 0, 0, 2⟩]
theorem exV6_ok : ∀ i ∈ exV6, i.ok := ok_all4 (by kernel_rfl)
theorem exV6_r : runR d0 exV6 = ⟨0, 0, [0], 41⟩ := by kernel_rfl
def exV7 : List Ins := [⟨96, 0, 0, 16⟩]
theorem exV7_ok : ∀ i ∈ exV7, i.ok := ok_all4 (by kernel_rfl)
theorem exV7_r : runR d0 exV7 = ⟨0, 0, [0], 43⟩ := by kernel_rfl
theorem exV0_m (W : World) : InM (W.alloc (.cells #[.int .u16 32, .int .u8 0, .int .u8 0, .int .u32 0, .int .u16 21, .int .u8 0, .int .u8 1, .int .u32 1, .int .u16 6, .int .u8 0, .int .u8 0, .int .u32 5, .int .u16 6, .int .u8 0, .int .u8 0, .int .u32 6] 32)) (some ⟨W.heap.size, 0, none⟩) (pc exV0) := inM_new rfl
theorem exV1_m (W : World) : InM (W.alloc (.cells #[.int .u16 0, .int .u8 0, .int .u8 0, .int .u32 7, .int .u16 1, .int .u8 0, .int .u8 0, .int .u32 0, .int .u16 60, .int .u8 0, .int .u8 0, .int .u32 0, .int .u16 22, .int .u8 0, .int .u8 0, .int .u32 0] 32)) (some ⟨W.heap.size, 0, none⟩) (pc exV1) := inM_new rfl
theorem exV2_m (W : World) : InM (W.alloc (.cells #[.int .u16 0, .int .u8 0, .int .u8 0, .int .u32 7, .int .u16 52, .int .u8 0, .int .u8 0, .int .u32 0] 32)) (some ⟨W.heap.size, 0, none⟩) (pc exV2) := inM_new rfl
theorem exV4_m (W : World) : InM (W.alloc (.cells #[.int .u16 0, .int .u8 0, .int .u8 0, .int .u32 1] 32)) (some ⟨W.heap.size, 0, none⟩) (pc exV4) := inM_new rfl
theorem exV5_m (W : World) : InM (W.alloc (.cells #[.int .u16 5, .int .u8 0, .int .u8 0, .int .u32 4] 32)) (some ⟨W.heap.size, 0, none⟩) (pc exV5) := inM_new rfl
theorem exV6_m (W : World) : InM (W.alloc (.cells #[.int .u16 32, .int .u8 0, .int .u8 0, .int .u32 2] 32)) (some ⟨W.heap.size, 0, none⟩) (pc exV6) := inM_new rfl
theorem exV7_m (W : World) : InM (W.alloc (.cells #[.int .u16 96, .int .u8 0, .int .u8 0, .int .u32 16] 32)) (some ⟨W.heap.size, 0, none⟩) (pc exV7) := inM_new rfl
set_option maxHeartbeats 4000000 in
set_option maxRecDepth 100000 in
theorem awake04 (w : World) : Calls Try.prog 22 #[] w fun e w' => e = .returned (.bool true) ∧ Ext w w' := by
  have C1 : ∀ (A : Option Addr) (c : Nat) (W : World), InM W A (pc exV0) → Calls Try.prog 34 #[.slice A 4 c, datV 1 0 0 0 0 0 0 0 0, .int .u32 5, .int .i64 (3 : Nat), .int .i64 0] W fun e w' => e = .returned (.bool true) ∧ Ext W w' := fun A c W h => told04 A 4 c exV0 rfl exV0_ok (by decide) d1 d1_ok 5 0 3 _ exV0_1 W h
  have C1 := Lib.hid C1
  have C2 : ∀ (A : Option Addr) (c : Nat) (W : World), InM W A (pc exV0) → Calls Try.prog 34 #[.slice A 4 c, datV 2 0 0 0 0 0 0 0 0, .int .u32 6, .int .i64 (3 : Nat), .int .i64 0] W fun e w' => e = .returned (.bool true) ∧ Ext W w' := fun A c W h => told04 A 4 c exV0 rfl exV0_ok (by decide) d2 d2_ok 6 0 3 _ exV0_2 W h
  have C2 := Lib.hid C2
  have C3 : ∀ (A : Option Addr) (c : Nat) (W : World), InM W A (pc exV0) → Calls Try.prog 20 #[.slice A 4 c, datV 2 0 0 0 0 0 0 0 0] W fun e w' => ∃ L cl, e = .returned (.slice L 3 cl) ∧ Ext W w' := fun A c W h => (vmTrace A 4 c exV0 rfl exV0_ok (by decide) d2 d2_ok W h).mono fun e w' ⟨L, cl, h1, _, h3⟩ => ⟨L, cl, by rw [h1, exV0_2]; rfl, h3⟩
  have C3 := Lib.hid C3
  have C4 : ∀ (A : Option Addr) (c : Nat) (W : World), InM W A (pc exV1) → Calls Try.prog 34 #[.slice A 4 c, datV 0 0 0 0 0 0 0 0 0, .int .u32 0, .int .i64 (3 : Nat), .int .i64 0] W fun e w' => e = .returned (.bool true) ∧ Ext W w' := fun A c W h => told04 A 4 c exV1 rfl exV1_ok (by decide) d0 d0_ok 0 0 3 _ exV1_r W h
  have C4 := Lib.hid C4
  have C5 : ∀ (A : Option Addr) (c : Nat) (W : World), InM W A (pc exV2) → Calls Try.prog 34 #[.slice A 2 c, datV 0 0 0 0 0 0 0 0 0, .int .u32 0, .int .i64 (1 : Nat), .int .i64 44] W fun e w' => e = .returned (.bool true) ∧ Ext W w' := fun A c W h => told04 A 2 c exV2 rfl exV2_ok (by decide) d0 d0_ok 0 44 1 _ exV2_r W h
  have C5 := Lib.hid C5
  have C6 : ∀ (A : Option Addr) (c : Nat) (W : World), InM W A (pc exV3) → Calls Try.prog 34 #[.slice A 0 c, datV 0 0 0 0 0 0 0 0 0, .int .u32 0, .int .i64 (0 : Nat), .int .i64 46] W fun e w' => e = .returned (.bool true) ∧ Ext W w' := fun A c W h => told04 A 0 c exV3 rfl exV3_ok (by decide) d0 d0_ok 0 46 0 _ exV3_r W h
  have C6 := Lib.hid C6
  have C7 : ∀ (A : Option Addr) (c : Nat) (W : World), InM W A (pc exV4) → Calls Try.prog 34 #[.slice A 1 c, datV 0 0 0 0 0 0 0 0 0, .int .u32 0, .int .i64 (1 : Nat), .int .i64 46] W fun e w' => e = .returned (.bool true) ∧ Ext W w' := fun A c W h => told04 A 1 c exV4 rfl exV4_ok (by decide) d0 d0_ok 0 46 1 _ exV4_r W h
  have C7 := Lib.hid C7
  have C8 : ∀ (A : Option Addr) (c : Nat) (W : World), InM W A (pc exV5) → Calls Try.prog 34 #[.slice A 1 c, datV 0 0 0 0 0 0 0 0 0, .int .u32 0, .int .i64 (1 : Nat), .int .i64 42] W fun e w' => e = .returned (.bool true) ∧ Ext W w' := fun A c W h => told04 A 1 c exV5 rfl exV5_ok (by decide) d0 d0_ok 0 42 1 _ exV5_r W h
  have C8 := Lib.hid C8
  have C9 : ∀ (A : Option Addr) (c : Nat) (W : World), InM W A (pc exV6) → Calls Try.prog 34 #[.slice A 1 c, datV 0 0 0 0 0 0 0 0 0, .int .u32 0, .int .i64 (0 : Nat), .int .i64 41] W fun e w' => e = .returned (.bool true) ∧ Ext W w' := fun A c W h => told04 A 1 c exV6 rfl exV6_ok (by decide) d0 d0_ok 0 41 0 _ exV6_r W h
  have C9 := Lib.hid C9
  have C10 : ∀ (A : Option Addr) (c : Nat) (W : World), InM W A (pc exV7) → Calls Try.prog 34 #[.slice A 1 c, datV 0 0 0 0 0 0 0 0 0, .int .u32 0, .int .i64 (0 : Nat), .int .i64 43] W fun e w' => e = .returned (.bool true) ∧ Ext W w' := fun A c W h => told04 A 1 c exV7 rfl exV7_ok (by decide) d0 d0_ok 0 43 0 _ exV7_r W h
  have C10 := Lib.hid C10
  have hx := Ext.refl w
  go_enter Try.func22, Try.ntmps22
  go_wp2_with fail
  have hM0 : InM (w.alloc (.cells #[.int .u16 32, .int .u8 0, .int .u8 0, .int .u32 0, .int .u16 21, .int .u8 0, .int .u8 1, .int .u32 1, .int .u16 6, .int .u8 0, .int .u8 0, .int .u32 5, .int .u16 6, .int .u8 0, .int .u8 0, .int .u32 6] 32)) (some ⟨w.heap.size, 0, none⟩) (pc exV0) := inM_new rfl
  replace hx := hx.alloc (.cells #[.int .u16 32, .int .u8 0, .int .u8 0, .int .u32 0, .int .u16 21, .int .u8 0, .int .u8 1, .int .u32 1, .int .u16 6, .int .u8 0, .int .u8 0, .int .u32 5, .int .u16 6, .int .u8 0, .int .u8 0, .int .u32 6] 32)
  refine (C1.out _ _ _ hM0).mono ?_
  rintro e w1 ⟨rfl, hx1⟩
  replace hx := hx.trans hx1
  replace hM0 := hM0.ext hx1
  clear hx1
  go_wp2_with fail
  refine (C2.out _ _ _ hM0).mono ?_
  rintro e w2 ⟨rfl, hx1⟩
  replace hx := hx.trans hx1
  replace hM0 := hM0.ext hx1
  clear hx1
  go_wp2_with fail
  refine (C3.out _ _ _ hM0).mono ?_
  rintro e w3 ⟨L, cl, rfl, hx1⟩
  replace hx := hx.trans hx1
  clear hM0 hx1
  have bd := Blk.new w3 36 #[.int .u32 0, .int .u32 0, .int .u64 0, .int .u64 0, .int .u64 0, .int .u64 0, .int .u64 0, .int .u64 0, .int .u64 0]
  replace hx := hx.alloc (.cells #[.int .u32 0, .int .u32 0, .int .u64 0, .int .u64 0, .int .u64 0, .int .u64 0, .int .u64 0, .int .u64 0, .int .u64 0] 36)
  go_wp2_with fail
  refine (C4.out _ _ _ (InM.ofBlk (Blk.new_ (by simp)) rfl)).mono ?_
  rintro e w4 ⟨rfl, hx9⟩
  replace hx := (hx.alloc _).trans hx9
  replace bd := (bd.alloc _).ext hx9
  clear hx9
  generalize w3.heap.size = g at *
  have r0 := bd.cell 0
  have r1 := bd.cell 1
  have r2 := bd.cell 2
  have r3 := bd.cell 3
  have r4 := bd.cell 4
  have r5 := bd.cell 5
  have r6 := bd.cell 6
  have r7 := bd.cell 7
  have r8 := bd.cell 8
  have t0 := fun o => (bd.alloc o).cell 0
  have t1 := fun o => (bd.alloc o).cell 1
  have t2 := fun o => (bd.alloc o).cell 2
  have t3 := fun o => (bd.alloc o).cell 3
  have t4 := fun o => (bd.alloc o).cell 4
  have t5 := fun o => (bd.alloc o).cell 5
  have t6 := fun o => (bd.alloc o).cell 6
  have t7 := fun o => (bd.alloc o).cell 7
  have t8 := fun o => (bd.alloc o).cell 8
  go_wp2_with fail
  refine (C5.out _ _ _ (exV2_m _)).mono ?_
  rintro e w5 ⟨rfl, hx9⟩
  replace hx := (hx.alloc _).trans hx9
  replace bd := (bd.alloc _).ext hx9
  clear r0 r1 r2 r3 r4 r5 r6 r7 r8 t0 t1 t2 t3 t4 t5 t6 t7 t8 hx9
  have r0 := bd.cell 0
  have r1 := bd.cell 1
  have r2 := bd.cell 2
  have r3 := bd.cell 3
  have r4 := bd.cell 4
  have r5 := bd.cell 5
  have r6 := bd.cell 6
  have r7 := bd.cell 7
  have r8 := bd.cell 8
  have t0 := fun o => (bd.alloc o).cell 0
  have t1 := fun o => (bd.alloc o).cell 1
  have t2 := fun o => (bd.alloc o).cell 2
  have t3 := fun o => (bd.alloc o).cell 3
  have t4 := fun o => (bd.alloc o).cell 4
  have t5 := fun o => (bd.alloc o).cell 5
  have t6 := fun o => (bd.alloc o).cell 6
  have t7 := fun o => (bd.alloc o).cell 7
  have t8 := fun o => (bd.alloc o).cell 8
  go_wp2_with fail
  refine (C6.out none 0 _ (InM.nil _ _)).mono ?_
  rintro e w6 ⟨rfl, hx9⟩
  replace hx := hx.trans hx9
  replace bd := bd.ext hx9
  clear r0 r1 r2 r3 r4 r5 r6 r7 r8 t0 t1 t2 t3 t4 t5 t6 t7 t8 hx9
  have r0 := bd.cell 0
  have r1 := bd.cell 1
  have r2 := bd.cell 2
  have r3 := bd.cell 3
  have r4 := bd.cell 4
  have r5 := bd.cell 5
  have r6 := bd.cell 6
  have r7 := bd.cell 7
  have r8 := bd.cell 8
  have t0 := fun o => (bd.alloc o).cell 0
  have t1 := fun o => (bd.alloc o).cell 1
  have t2 := fun o => (bd.alloc o).cell 2
  have t3 := fun o => (bd.alloc o).cell 3
  have t4 := fun o => (bd.alloc o).cell 4
  have t5 := fun o => (bd.alloc o).cell 5
  have t6 := fun o => (bd.alloc o).cell 6
  have t7 := fun o => (bd.alloc o).cell 7
  have t8 := fun o => (bd.alloc o).cell 8
  go_wp2_with fail
  refine (C7.out _ _ _ (exV4_m _)).mono ?_
  rintro e w7 ⟨rfl, hx9⟩
  replace hx := (hx.alloc _).trans hx9
  replace bd := (bd.alloc _).ext hx9
  clear r0 r1 r2 r3 r4 r5 r6 r7 r8 t0 t1 t2 t3 t4 t5 t6 t7 t8 hx9
  have r0 := bd.cell 0
  have r1 := bd.cell 1
  have r2 := bd.cell 2
  have r3 := bd.cell 3
  have r4 := bd.cell 4
  have r5 := bd.cell 5
  have r6 := bd.cell 6
  have r7 := bd.cell 7
  have r8 := bd.cell 8
  have t0 := fun o => (bd.alloc o).cell 0
  have t1 := fun o => (bd.alloc o).cell 1
  have t2 := fun o => (bd.alloc o).cell 2
  have t3 := fun o => (bd.alloc o).cell 3
  have t4 := fun o => (bd.alloc o).cell 4
  have t5 := fun o => (bd.alloc o).cell 5
  have t6 := fun o => (bd.alloc o).cell 6
  have t7 := fun o => (bd.alloc o).cell 7
  have t8 := fun o => (bd.alloc o).cell 8
  go_wp2_with fail
  refine (C8.out _ _ _ (exV5_m _)).mono ?_
  rintro e w8 ⟨rfl, hx9⟩
  replace hx := (hx.alloc _).trans hx9
  replace bd := (bd.alloc _).ext hx9
  clear r0 r1 r2 r3 r4 r5 r6 r7 r8 t0 t1 t2 t3 t4 t5 t6 t7 t8 hx9
  have r0 := bd.cell 0
  have r1 := bd.cell 1
  have r2 := bd.cell 2
  have r3 := bd.cell 3
  have r4 := bd.cell 4
  have r5 := bd.cell 5
  have r6 := bd.cell 6
  have r7 := bd.cell 7
  have r8 := bd.cell 8
  have t0 := fun o => (bd.alloc o).cell 0
  have t1 := fun o => (bd.alloc o).cell 1
  have t2 := fun o => (bd.alloc o).cell 2
  have t3 := fun o => (bd.alloc o).cell 3
  have t4 := fun o => (bd.alloc o).cell 4
  have t5 := fun o => (bd.alloc o).cell 5
  have t6 := fun o => (bd.alloc o).cell 6
  have t7 := fun o => (bd.alloc o).cell 7
  have t8 := fun o => (bd.alloc o).cell 8
  go_wp2_with fail
  refine (C9.out _ _ _ (exV6_m _)).mono ?_
  rintro e w9 ⟨rfl, hx9⟩
  replace hx := (hx.alloc _).trans hx9
  replace bd := (bd.alloc _).ext hx9
  clear r0 r1 r2 r3 r4 r5 r6 r7 r8 t0 t1 t2 t3 t4 t5 t6 t7 t8 hx9
  have r0 := bd.cell 0
  have r1 := bd.cell 1
  have r2 := bd.cell 2
  have r3 := bd.cell 3
  have r4 := bd.cell 4
  have r5 := bd.cell 5
  have r6 := bd.cell 6
  have r7 := bd.cell 7
  have r8 := bd.cell 8
  have t0 := fun o => (bd.alloc o).cell 0
  have t1 := fun o => (bd.alloc o).cell 1
  have t2 := fun o => (bd.alloc o).cell 2
  have t3 := fun o => (bd.alloc o).cell 3
  have t4 := fun o => (bd.alloc o).cell 4
  have t5 := fun o => (bd.alloc o).cell 5
  have t6 := fun o => (bd.alloc o).cell 6
  have t7 := fun o => (bd.alloc o).cell 7
  have t8 := fun o => (bd.alloc o).cell 8
  go_wp2_with fail
  refine (C10.out _ _ _ (exV7_m _)).mono ?_
  rintro e w10 ⟨rfl, hx9⟩
  replace hx := (hx.alloc _).trans hx9
  replace bd := (bd.alloc _).ext hx9
  clear r0 r1 r2 r3 r4 r5 r6 r7 r8 t0 t1 t2 t3 t4 t5 t6 t7 t8 hx9
  have r0 := bd.cell 0
  have r1 := bd.cell 1
  have r2 := bd.cell 2
  have r3 := bd.cell 3
  have r4 := bd.cell 4
  have r5 := bd.cell 5
  have r6 := bd.cell 6
  have r7 := bd.cell 7
  have r8 := bd.cell 8
  have t0 := fun o => (bd.alloc o).cell 0
  have t1 := fun o => (bd.alloc o).cell 1
  have t2 := fun o => (bd.alloc o).cell 2
  have t3 := fun o => (bd.alloc o).cell 3
  have t4 := fun o => (bd.alloc o).cell 4
  have t5 := fun o => (bd.alloc o).cell 5
  have t6 := fun o => (bd.alloc o).cell 6
  have t7 := fun o => (bd.alloc o).cell 7
  have t8 := fun o => (bd.alloc o).cell 8
  go_wp2_with fail
  go_ret
  exact ⟨rfl, hx⟩
end Go.Proofs.Ytkejcfbhikpibaa
