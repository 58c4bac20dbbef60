import Derived.Test.YtkejcfbhikpibaaCells21
import Derived.Test.YtkejcfbhikpibaaCells8
/- The examples of chapter 05 hold. -/
namespace Go.Proofs.Ytkejcfbhikpibaa
open Go.RowKit Go.ChangeShapes Go.WideShapes
set_option linter.unusedVariables false
set_option linter.unusedSimpArgs false

def exP : List Ins := [⟨21, 0, 1, 0⟩, ⟨2, 0, 0, 3⟩, ⟨96, 0, 0, 3⟩, ⟨6, 0, 0, 0⟩]
def exQ : List Ins := [⟨2, 0, 0, 3⟩, ⟨5, 0, 0, 1⟩, ⟨2, 0, 0, 4⟩, ⟨96, 0, 0, 3⟩, ⟨6, 0, 0, 0⟩]
def exU : List Ins := [⟨96, 0, 0, 3⟩, ⟨6, 0, 0, 0⟩]
theorem ok_all {ps : List Ins} (h : ps.all (fun i => decide (0 ≤ i.code ∧ i.code < 256 ^ 2) && decide (0 ≤ i.jt ∧ i.jt < 256) && decide (0 ≤ i.jf ∧ i.jf < 256) && decide (0 ≤ i.k ∧ i.k < 256 ^ 4)) = true) : ∀ i ∈ ps, i.ok := fun i hi => by
  have := List.all_eq_true.1 h i hi
  simp only [Bool.and_eq_true, decide_eq_true_eq] at this
  exact ⟨this.1.1.1, this.1.1.2, this.1.2, this.2⟩
theorem exP_ok : ∀ i ∈ exP, i.ok := ok_all (by kernel_rfl)
theorem exQ_ok : ∀ i ∈ exQ, i.ok := ok_all (by kernel_rfl)
theorem exU_ok : ∀ i ∈ exU, i.ok := ok_all (by kernel_rfl)
theorem exP_r : reachT exP = [true, true, true, true] := by kernel_rfl
theorem exP_s : sureT exP = [0, 0, 0, 0] := by kernel_rfl
theorem exQ_r : reachT exQ = [true, true, false, true, true] := by kernel_rfl
theorem exQ_s : sureT exQ = [0, 8, 65535, 8, 8] := by kernel_rfl
theorem exP_u : unsureT exP = [2] := by kernel_rfl
theorem exQ_u : unsureT exQ = [] := by kernel_rfl
theorem exU_u : unsureT exU = [0] := by kernel_rfl
theorem cells3 {w : World} {b o : Nat} {xs : List Value} (h : InM w (some ⟨b, o, none⟩) xs) (k : Nat) {u : Value} (hk : xs[k]? = some u) : w.cell? ⟨b, o + k, none⟩ = some u := h.cell hk
set_option maxHeartbeats 4000000 in
set_option maxRecDepth 100000 in
theorem awake05 (w : World) : Calls Try.prog 25 #[] w fun e w' => e = .returned (.bool true) ∧ Ext w w' := by
  have R1 := Lib.hid (fun A W h => reachedI A 4 4 exP W rfl exP_ok h)
  have S1 := Lib.hid (fun A W h => sureI A 4 4 exP W rfl exP_ok h)
  have R2 := Lib.hid (fun A W h => reachedI A 5 5 exQ W rfl exQ_ok h)
  have S2 := Lib.hid (fun A W h => sureI A 5 5 exQ W rfl exQ_ok h)
  have U1 := Lib.hid (fun A W h => unsureI A 4 4 exP W rfl exP_ok h)
  have U2 := Lib.hid (fun A W h => unsureI A 5 5 exQ W rfl exQ_ok h)
  have U3 := Lib.hid (fun A W h => unsureI A 2 2 exU W rfl exU_ok h)
  rw [exP_r] at R1
  rw [exP_s] at S1
  rw [exQ_r] at R2
  rw [exQ_s] at S2
  rw [exP_u] at U1
  rw [exQ_u] at U2
  rw [exU_u] at U3
  have SM := Lib.hid (fun A B b1 c1 W h k => same05 A B 1 b1 1 c1 [2] [2] W rfl rfl (by omega) h k)
  simp only [decide_true] at SM
  simp only [List.length_cons, List.length_nil, Nat.reduceAdd, Nat.zero_add] at R1 S1 R2 S2 U1 U2 U3
  have hx := Ext.refl w
  go_enter Try.func25, Try.ntmps25
  go_wp2_with fail
  have hp0 : InM ((w.alloc (.cells #[.int .u16 21, .int .u8 0, .int .u8 1, .int .u32 0, .int .u16 2, .int .u8 0, .int .u8 0, .int .u32 3, .int .u16 96, .int .u8 0, .int .u8 0, .int .u32 3, .int .u16 6, .int .u8 0, .int .u8 0, .int .u32 0] 32)).alloc (.cells #[.int .u16 2, .int .u8 0, .int .u8 0, .int .u32 3, .int .u16 5, .int .u8 0, .int .u8 0, .int .u32 1, .int .u16 2, .int .u8 0, .int .u8 0, .int .u32 4, .int .u16 96, .int .u8 0, .int .u8 0, .int .u32 3, .int .u16 6, .int .u8 0, .int .u8 0, .int .u32 0] 32)) (some ⟨w.heap.size, 0, none⟩) (pc exP) := InM.ofBlk ((Blk.new w _ _).alloc _) rfl
  have hq0 : InM ((w.alloc (.cells #[.int .u16 21, .int .u8 0, .int .u8 1, .int .u32 0, .int .u16 2, .int .u8 0, .int .u8 0, .int .u32 3, .int .u16 96, .int .u8 0, .int .u8 0, .int .u32 3, .int .u16 6, .int .u8 0, .int .u8 0, .int .u32 0] 32)).alloc (.cells #[.int .u16 2, .int .u8 0, .int .u8 0, .int .u32 3, .int .u16 5, .int .u8 0, .int .u8 0, .int .u32 1, .int .u16 2, .int .u8 0, .int .u8 0, .int .u32 4, .int .u16 96, .int .u8 0, .int .u8 0, .int .u32 3, .int .u16 6, .int .u8 0, .int .u8 0, .int .u32 0] 32)) (some ⟨w.heap.size + 1, 0, none⟩) (pc exQ) := InM.ofBlk (Blk.new_ (by simp)) rfl
  replace hx := (hx.alloc (.cells #[.int .u16 21, .int .u8 0, .int .u8 1, .int .u32 0, .int .u16 2, .int .u8 0, .int .u8 0, .int .u32 3, .int .u16 96, .int .u8 0, .int .u8 0, .int .u32 3, .int .u16 6, .int .u8 0, .int .u8 0, .int .u32 0] 32)).alloc (.cells #[.int .u16 2, .int .u8 0, .int .u8 0, .int .u32 3, .int .u16 5, .int .u8 0, .int .u8 0, .int .u32 1, .int .u16 2, .int .u8 0, .int .u8 0, .int .u32 4, .int .u16 96, .int .u8 0, .int .u8 0, .int .u32 3, .int .u16 6, .int .u8 0, .int .u8 0, .int .u32 0] 32)
  generalize ((w.alloc (.cells #[.int .u16 21, .int .u8 0, .int .u8 1, .int .u32 0, .int .u16 2, .int .u8 0, .int .u8 0, .int .u32 3, .int .u16 96, .int .u8 0, .int .u8 0, .int .u32 3, .int .u16 6, .int .u8 0, .int .u8 0, .int .u32 0] 32)).alloc (.cells #[.int .u16 2, .int .u8 0, .int .u8 0, .int .u32 3, .int .u16 5, .int .u8 0, .int .u8 0, .int .u32 1, .int .u16 2, .int .u8 0, .int .u8 0, .int .u32 4, .int .u16 96, .int .u8 0, .int .u8 0, .int .u32 3, .int .u16 6, .int .u8 0, .int .u8 0, .int .u32 0] 32)) = w0 at *
  have HP := Lib.hid (fun W' (h : Ext w0 W') => hp0.ext h)
  have HQ := Lib.hid (fun W' (h : Ext w0 W') => hq0.ext h)
  clear hp0 hq0
  have hy := Ext.refl w0
  refine (R1.out _ _ (HP.out _ hy)).mono ?_
  rintro e w1 ⟨A1, rfl, hA1, hx'⟩
  replace hy := hy.trans hx'
  clear hx'
  go_wp2_with fail
  refine (S1.out _ _ (HP.out _ hy)).mono ?_
  rintro e w2 ⟨A2, rfl, hA2, hx'⟩
  replace hy := hy.trans hx'
  replace hA1 := hA1.ext hx'
  clear hx'
  go_wp2_with fail
  refine (R2.out _ _ (HQ.out _ hy)).mono ?_
  rintro e w3 ⟨A3, rfl, hA3, hx'⟩
  replace hy := hy.trans hx'
  replace hA1 := hA1.ext hx'
  replace hA2 := hA2.ext hx'
  clear hx'
  go_wp2_with fail
  refine (S2.out _ _ (HQ.out _ hy)).mono ?_
  rintro e w4 ⟨A4, rfl, hA4, hx'⟩
  replace hy := hy.trans hx'
  replace hA1 := hA1.ext hx'
  replace hA2 := hA2.ext hx'
  replace hA3 := hA3.ext hx'
  clear hx'
  go_wp2_with fail
  have hu0 : InM (w4.alloc (.cells #[.int .u16 96, .int .u8 0, .int .u8 0, .int .u32 3, .int .u16 6, .int .u8 0, .int .u8 0, .int .u32 0] 32)) (some ⟨w4.heap.size, 0, none⟩) (pc exU) := InM.ofBlk (Blk.new w4 _ _) rfl
  have hx' := (Ext.refl w4).alloc (.cells #[.int .u16 96, .int .u8 0, .int .u8 0, .int .u32 3, .int .u16 6, .int .u8 0, .int .u8 0, .int .u32 0] 32)
  replace hy := hy.trans hx'
  replace hA1 := hA1.ext hx'
  replace hA2 := hA2.ext hx'
  replace hA3 := hA3.ext hx'
  replace hA4 := hA4.ext hx'
  clear hx'
  generalize w4.alloc (.cells #[.int .u16 96, .int .u8 0, .int .u8 0, .int .u32 3, .int .u16 6, .int .u8 0, .int .u8 0, .int .u32 0] 32) = w5 at *
  refine (U3.out _ _ hu0).mono ?_
  rintro e w6 ⟨A5, c5, rfl, ho5, hx'⟩
  have hA5 := own_inM ho5
  replace hy := hy.trans hx'
  replace hA1 := hA1.ext hx'
  replace hA2 := hA2.ext hx'
  replace hA3 := hA3.ext hx'
  replace hA4 := hA4.ext hx'
  clear hx' hu0 ho5
  obtain ⟨b1, o1, rfl, _⟩ := hA1.some_ (by decide)
  obtain ⟨b2, o2, rfl, _⟩ := hA2.some_ (by decide)
  obtain ⟨b3, o3, rfl, _⟩ := hA3.some_ (by decide)
  obtain ⟨b4, o4, rfl, _⟩ := hA4.some_ (by decide)
  obtain ⟨b5, o5, rfl, _⟩ := hA5.some_ (by decide)
  have p0 := hA1.cell (k := 0) (u := .bool true) rfl
  simp only [Nat.add_zero] at p0
  have p1 := hA1.cell (k := 1) (u := .bool true) rfl
  have p2 := hA1.cell (k := 2) (u := .bool true) rfl
  have p3 := hA1.cell (k := 3) (u := .bool true) rfl
  have q0 := hA2.cell (k := 0) (u := .int .u16 0) rfl
  simp only [Nat.add_zero] at q0
  have q1 := hA2.cell (k := 1) (u := .int .u16 0) rfl
  have q2 := hA2.cell (k := 2) (u := .int .u16 0) rfl
  have q3 := hA2.cell (k := 3) (u := .int .u16 0) rfl
  have r0 := hA3.cell (k := 0) (u := .bool true) rfl
  simp only [Nat.add_zero] at r0
  have r1 := hA3.cell (k := 1) (u := .bool true) rfl
  have r2 := hA3.cell (k := 2) (u := .bool false) rfl
  have r3 := hA3.cell (k := 3) (u := .bool true) rfl
  have r4 := hA3.cell (k := 4) (u := .bool true) rfl
  have s0 := hA4.cell (k := 0) (u := .int .u16 0) rfl
  simp only [Nat.add_zero] at s0
  have s1 := hA4.cell (k := 1) (u := .int .u16 8) rfl
  have s2 := hA4.cell (k := 2) (u := .int .u16 65535) rfl
  have s3 := hA4.cell (k := 3) (u := .int .u16 8) rfl
  have s4 := hA4.cell (k := 4) (u := .int .u16 8) rfl
  clear hA1 hA2 hA3 hA4
  go_wp2_with fail
  refine (U2.out _ _ (HQ.out _ hy)).mono ?_
  rintro e w7 ⟨A6, c6, rfl, _, hx'⟩
  replace hy := hy.trans hx'
  have hA5 := hA5.ext hx'
  have t0 := hA5.cell (k := 0) (u := .int .i64 0) rfl
  simp only [Nat.add_zero] at t0
  clear hx'
  go_wp2_with fail
  refine (U1.out _ _ (HP.out _ hy)).mono ?_
  rintro e w8 ⟨A7, c7, rfl, ho7, hx'⟩
  replace hy := hy.trans hx'
  clear hx'
  go_wp2_with fail
  refine (SM.out _ _ _ _ _ (own_inM (ho7.alloc _)) (inM_new rfl)).mono ?_
  rintro e w9 ⟨rfl, hx'⟩
  have hz := (hy.alloc (.cells #[.int .i64 2] 3)).trans hx'
  go_wp2
  go_ret
  exact ⟨rfl, hx.trans hz⟩
end Go.Proofs.Ytkejcfbhikpibaa
