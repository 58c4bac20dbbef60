import Derived.Test.YtlicndonhmcmmaaWalkData2
namespace Go.Proofs.Ytlicndonhmcmmaa
open Go.RowKit Go.ChangeShapes Go.WideShapes
set_option linter.unusedVariables false
set_option maxRecDepth 100000 in
theorem dataArgs_walk (d : Dat) (hd : d.ok) (a : Int) (ha : (Lit.int .i64 a).wf = true) (W : World) :
    Calls Try.prog 5 #[d.val, .int .i64 a] W fun e w' => e = .returned (.bool true) ∧ Ext W w' := by
  have HA := Lib.hid (fun W : World => awake03 W)
  have HL := Lib.hid (fun W : World => low_any a W)
  have HH := Lib.hid (fun W : World => high_any a W)
  by_cases hin : 0 ≤ a ∧ a ≤ 5
  · obtain ⟨k, rfl⟩ : ∃ k : Nat, a = (k : Int) := ⟨a.toNat, by omega⟩
    have hk : k ≤ 5 := by omega
    have k6 : k < 6 := by omega
    have k7 : (k : Int) < 6 := by omega
    have d1 : decide ((k : Int) < 0) = false := by simp
    have d2 : decide (5 < (k : Int)) = false := by simp; omega
    have p1 : plc (k : Int) 0 = 16 + 8 * (k : Int) := by unfold plc; rw [if_pos hin]; omega
    have p2 : plc (k : Int) 4 = 20 + 8 * (k : Int) := by unfold plc; rw [if_pos hin]; omega
    have p3 : plb (k : Int) = true := by unfold plb; simp; omega
    rw [p1, p3] at HL
    rw [p2, p3] at HH
    have HX := Lib.hid (fun W : World => word_any d hd (16 + 8 * (k : Int)) W (by omega) (by omega))
    have HY := Lib.hid (fun W : World => word_any d hd (20 + 8 * (k : Int)) W (by omega) (by omega))
    have q1 : wordOk (16 + 8 * (k : Int)) = true := by unfold wordOk; simp; omega
    have q2 : wordOk (20 + 8 * (k : Int)) = true := by unfold wordOk; simp; omega
    rw [show d.word (16 + 8 * (k : Int)) = d.words.getD (4 + 2 * k) 0 from by unfold Dat.word; rw [if_pos q1, show ((16 + 8 * (k : Int)) / 4).toNat = 4 + 2 * k from by omega], show wordErr (16 + 8 * (k : Int)) = 0 from by unfold wordErr; rw [if_pos q1]] at HX
    rw [show d.word (20 + 8 * (k : Int)) = d.words.getD (5 + 2 * k) 0 from by unfold Dat.word; rw [if_pos q2, show ((20 + 8 * (k : Int)) / 4).toNat = 5 + 2 * k from by omega], show wordErr (20 + 8 * (k : Int)) = 0 from by unfold wordErr; rw [if_pos q2]] at HY
    have ux := wordAt_u32 d hd (4 + 2 * k)
    have uy := wordAt_u32 d hd (5 + 2 * k)
    obtain ⟨z, hz, hc⟩ : ∃ z : Int, z = d.words.getD (4 + 2 * k) 0 + 4294967296 * d.words.getD (5 + 2 * k) 0 ∧ (#[.int .u32 d.nr, .int .u32 d.arch, .int .u64 d.ip, .int .u64 d.a0, .int .u64 d.a1, .int .u64 d.a2, .int .u64 d.a3, .int .u64 d.a4, .int .u64 d.a5] : Array Value)[3 + k]? = some (.int .u64 z) := by
      obtain ⟨nr, arch, ip, b0, b1, b2, b3, b4, b5⟩ := d
      rcases (show k = 0 ∨ k = 1 ∨ k = 2 ∨ k = 3 ∨ k = 4 ∨ k = 5 by omega) with rfl | rfl | rfl | rfl | rfl | rfl <;> exact ⟨_, rfl, by simp [Dat.words, lohi]⟩
    have HW := Lib.hid (fun W : World => whole _ _ W ux uy)
    rw [← hz] at HW
    generalize d.words.getD (4 + 2 * k) 0 = x at *
    generalize d.words.getD (5 + 2 * k) 0 = y at *
    clear p1 p2 p3 q1 q2 hin hz hd ux uy
    obtain ⟨nr, arch, ip, b0, b1, b2, b3, b4, b5⟩ := d
    go_enter Try.func5, Try.ntmps5
    go_wp2_with fail
    refine (HA.out _).mono ?_
    rintro e w0 ⟨rfl, hx0⟩
    have B := (Blk.new W _ _).ext hx0
    have hx := ((Ext.refl W).alloc _).trans hx0
    clear hx0
    go_wp2_with fail
    refine (keep (HL.out _)).mono ?_
    rintro e w1 ⟨rfl, hx1⟩
    replace B := B.ext hx1
    replace hx := hx.trans hx1
    clear hx1
    go_wp2_with fail
    refine (keep (HH.out _)).mono ?_
    rintro e w2 ⟨rfl, hx1⟩
    replace B := B.ext hx1
    replace hx := hx.trans hx1
    clear hx1
    go_wp2_with (refine wpList_load_blk rfl 45 (.tmp _) rfl _ _ _ _ rfl B Try.underlying45 rfl (by kernel_rfl) ?_)
    refine (HX.out _).mono ?_
    rintro e w3 ⟨rfl, hx1⟩
    replace B := B.ext hx1
    replace hx := hx.trans hx1
    clear hx1
    go_wp2_with (refine wpList_load_blk rfl 45 (.tmp _) rfl _ _ _ _ rfl B Try.underlying45 rfl (by kernel_rfl) ?_)
    refine (HY.out _).mono ?_
    rintro e w4 ⟨rfl, hx1⟩
    replace B := B.ext hx1
    replace hx := hx.trans hx1
    clear hx1
    have hcell : w4.cell? ⟨W.heap.size, 3 + k, none⟩ = some (.int .u64 z) := by rw [B.cell]; exact hc
    go_wp2_with fail
    have hcd : w4.drew.cell? ⟨W.heap.size, 3 + k, none⟩ = some (.int .u64 z) := hcell
    go_region_held3 (fun V => V.cell? ⟨W.heap.size, 3 + k, none⟩ = some (.int .u64 z)) (first | exact hcd | assumption | exact hx5.cell hcd) (first | (go_at_call 36; refine (keep (HW.out _)).mono ?_; rintro e w5 ⟨rfl, hx5⟩))
    go_wp2
    go_ret
    exact ⟨rfl, hx.drew.trans hx5⟩
  · have p1 : plc a 0 = 0 := by unfold plc; rw [if_neg hin]
    have p2 : plc a 4 = 0 := by unfold plc; rw [if_neg hin]
    have p3 : plb a = false := by unfold plb; simp; omega
    rw [p1, p3] at HL
    rw [p2, p3] at HH
    clear p1 p2 p3
    by_cases hneg : a < 0
    · have d1 : decide (a < 0) = true := by simp; omega
      clear hin
      obtain ⟨nr, arch, ip, b0, b1, b2, b3, b4, b5⟩ := d
      go_enter Try.func5, Try.ntmps5
      go_wp2_with fail
      refine (HA.out _).mono ?_
      rintro e w0 ⟨rfl, hx0⟩
      have hx := ((Ext.refl W).alloc _).trans hx0
      clear hx0
      go_wp2_with fail
      refine (keep (HL.out _)).mono ?_
      rintro e w1 ⟨rfl, hx1⟩
      replace hx := hx.trans hx1
      clear hx1
      go_wp2_with fail
      refine (keep (HH.out _)).mono ?_
      rintro e w2 ⟨rfl, hx1⟩
      replace hx := hx.trans hx1
      clear hx1
      go_wp2
      go_ret
      exact ⟨rfl, hx⟩
    · have d1 : decide (a < 0) = false := by simp; omega
      have d2 : decide (5 < a) = true := by simp; omega
      clear hin
      obtain ⟨nr, arch, ip, b0, b1, b2, b3, b4, b5⟩ := d
      go_enter Try.func5, Try.ntmps5
      go_wp2_with fail
      refine (HA.out _).mono ?_
      rintro e w0 ⟨rfl, hx0⟩
      have hx := ((Ext.refl W).alloc _).trans hx0
      clear hx0
      go_wp2_with fail
      refine (keep (HL.out _)).mono ?_
      rintro e w1 ⟨rfl, hx1⟩
      replace hx := hx.trans hx1
      clear hx1
      go_wp2_with fail
      refine (keep (HH.out _)).mono ?_
      rintro e w2 ⟨rfl, hx1⟩
      replace hx := hx.trans hx1
      clear hx1
      go_wp2
      go_ret
      exact ⟨rfl, hx⟩
end Go.Proofs.Ytlicndonhmcmmaa
