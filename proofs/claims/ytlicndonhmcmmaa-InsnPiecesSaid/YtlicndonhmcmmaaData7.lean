import Derived.Test.YtlicndonhmcmmaaData6
namespace Go.Proofs.Ytlicndonhmcmmaa
open Go.RowKit Go.ChangeShapes Go.WideShapes
set_option linter.unusedVariables false
abbrev exD : Dat := ⟨1, 3221225534, 0, 0, 0, 21474836487, 0, 0, 0⟩
theorem exD_ok : exD.ok := ⟨by unfold U32; decide, by unfold U32; decide, by unfold U64; decide, by unfold U64; decide, by unfold U64; decide, by unfold U64; decide, by unfold U64; decide, by unfold U64; decide, by unfold U64; decide⟩
set_option maxRecDepth 100000 in
theorem awake03 (w : World) : Calls Try.prog 32 #[] w fun e w' => e = .returned (.bool true) ∧ Ext w w' := by
  have HW := Lib.hid (fun (k : Int) (W : World) (h0 : 0 ≤ k) (h1 : k < 4294967296) => word_any exD exD_ok k W h0 h1)
  have e0 : exD.word 0 = 1 := by decide
  have f0 : wordErr 0 = 0 := by decide
  have e4 : exD.word 4 = 3221225534 := by decide
  have f4 : wordErr 4 = 0 := by decide
  have e32 : exD.word 32 = 7 := by decide
  have f32 : wordErr 32 = 0 := by decide
  have e36 : exD.word 36 = 5 := by decide
  have f36 : wordErr 36 = 0 := by decide
  have e2 : exD.word 2 = 0 := by decide
  have f2 : wordErr 2 = 41 := by decide
  have e64 : exD.word 64 = 0 := by decide
  have f64 : wordErr 64 = 41 := by decide
  go_enter Try.func32, Try.ntmps32
  go_wp2_with fail
  generalize hg : w.heap.size = g
  have B1 : Blk (((w.alloc (.cells #[.int .u32 1, .int .u32 3221225534, .int .u64 0, .int .u64 0, .int .u64 0, .int .u64 21474836487, .int .u64 0, .int .u64 0, .int .u64 0] 45)).alloc (.cells #[.int .u32 0, .int .u32 4, .int .u32 32, .int .u32 36] 27)).alloc (.cells #[.int .u32 1, .int .u32 3221225534, .int .u32 7, .int .u32 5] 27)) g 45 #[.int .u32 1, .int .u32 3221225534, .int .u64 0, .int .u64 0, .int .u64 0, .int .u64 21474836487, .int .u64 0, .int .u64 0, .int .u64 0] := by subst hg; exact ((Blk.new w _ _).alloc _).alloc _
  have B2 : Blk (((w.alloc (.cells #[.int .u32 1, .int .u32 3221225534, .int .u64 0, .int .u64 0, .int .u64 0, .int .u64 21474836487, .int .u64 0, .int .u64 0, .int .u64 0] 45)).alloc (.cells #[.int .u32 0, .int .u32 4, .int .u32 32, .int .u32 36] 27)).alloc (.cells #[.int .u32 1, .int .u32 3221225534, .int .u32 7, .int .u32 5] 27)) (g + 1) 27 #[.int .u32 0, .int .u32 4, .int .u32 32, .int .u32 36] := by subst hg; exact (Blk.new_ (by simp)).alloc _
  have B3 : Blk (((w.alloc (.cells #[.int .u32 1, .int .u32 3221225534, .int .u64 0, .int .u64 0, .int .u64 0, .int .u64 21474836487, .int .u64 0, .int .u64 0, .int .u64 0] 45)).alloc (.cells #[.int .u32 0, .int .u32 4, .int .u32 32, .int .u32 36] 27)).alloc (.cells #[.int .u32 1, .int .u32 3221225534, .int .u32 7, .int .u32 5] 27)) (g + 1 + 1) 27 #[.int .u32 1, .int .u32 3221225534, .int .u32 7, .int .u32 5] := by subst hg; exact Blk.new_ (by simp)
  have hx0 : Ext w (((w.alloc (.cells #[.int .u32 1, .int .u32 3221225534, .int .u64 0, .int .u64 0, .int .u64 0, .int .u64 21474836487, .int .u64 0, .int .u64 0, .int .u64 0] 45)).alloc (.cells #[.int .u32 0, .int .u32 4, .int .u32 32, .int .u32 36] 27)).alloc (.cells #[.int .u32 1, .int .u32 3221225534, .int .u32 7, .int .u32 5] 27)) := (((Ext.refl w).alloc _).alloc _).alloc _
  generalize (((w.alloc (.cells #[.int .u32 1, .int .u32 3221225534, .int .u64 0, .int .u64 0, .int .u64 0, .int .u64 21474836487, .int .u64 0, .int .u64 0, .int .u64 0] 45)).alloc (.cells #[.int .u32 0, .int .u32 4, .int .u32 32, .int .u32 36] 27)).alloc (.cells #[.int .u32 1, .int .u32 3221225534, .int .u32 7, .int .u32 5] 27)) = z0 at *
  clear hg
  refine wp_loop_rounds 5 ?_
  rw [rounds_succ]
  go_wp2_with fail
  replace B1 := B1.drew; replace B2 := B2.drew; replace B3 := B3.drew; replace hx0 := hx0.drew
  have c0 : z0.drew.cell? ⟨g, 0, none⟩ = some (.int .u32 1) ∧ z0.drew.cell? ⟨g, 1, none⟩ = some (.int .u32 3221225534) ∧ z0.drew.cell? ⟨g, 2, none⟩ = some (.int .u64 0) ∧ z0.drew.cell? ⟨g, 3, none⟩ = some (.int .u64 0) ∧ z0.drew.cell? ⟨g, 4, none⟩ = some (.int .u64 0) ∧ z0.drew.cell? ⟨g, 5, none⟩ = some (.int .u64 21474836487) ∧ z0.drew.cell? ⟨g, 6, none⟩ = some (.int .u64 0) ∧ z0.drew.cell? ⟨g, 7, none⟩ = some (.int .u64 0) ∧ z0.drew.cell? ⟨g, 8, none⟩ = some (.int .u64 0) ∧ z0.drew.cell? ⟨g + 1, 0, none⟩ = some (.int .u32 0) := by refine ⟨?_, ?_, ?_, ?_, ?_, ?_, ?_, ?_, ?_, ?_⟩ <;> first | (rw [B1.cell]; rfl) | (rw [B2.cell]; rfl)
  go_region_held3 (fun W => W.cell? ⟨g, 0, none⟩ = some (.int .u32 1) ∧ W.cell? ⟨g, 1, none⟩ = some (.int .u32 3221225534) ∧ W.cell? ⟨g, 2, none⟩ = some (.int .u64 0) ∧ W.cell? ⟨g, 3, none⟩ = some (.int .u64 0) ∧ W.cell? ⟨g, 4, none⟩ = some (.int .u64 0) ∧ W.cell? ⟨g, 5, none⟩ = some (.int .u64 21474836487) ∧ W.cell? ⟨g, 6, none⟩ = some (.int .u64 0) ∧ W.cell? ⟨g, 7, none⟩ = some (.int .u64 0) ∧ W.cell? ⟨g, 8, none⟩ = some (.int .u64 0) ∧ W.cell? ⟨g + 1, 0, none⟩ = some (.int .u32 0)) (first | exact c0 | assumption | exact ⟨hx1.cell c0.1, hx1.cell c0.2.1, hx1.cell c0.2.2.1, hx1.cell c0.2.2.2.1, hx1.cell c0.2.2.2.2.1, hx1.cell c0.2.2.2.2.2.1, hx1.cell c0.2.2.2.2.2.2.1, hx1.cell c0.2.2.2.2.2.2.2.1, hx1.cell c0.2.2.2.2.2.2.2.2.1, hx1.cell c0.2.2.2.2.2.2.2.2.2⟩) (first | (go_at_call 35; refine (HW.out 0 _ (by decide) (by decide)).mono ?_; rintro e z1 ⟨rfl, hx1⟩))
  replace B1 := B1.ext hx1; replace B2 := B2.ext hx1; replace B3 := B3.ext hx1; replace hx0 := hx0.trans hx1
  clear c0 hx1
  have q0 : z1.cell? ⟨g + 1 + 1, 0, none⟩ = some (.int .u32 1) := by rw [B3.cell]; rfl
  go_wp2_with fail
  clear q0
  rw [rounds_succ]
  go_wp2_with fail
  replace B1 := B1.drew; replace B2 := B2.drew; replace B3 := B3.drew; replace hx0 := hx0.drew
  have c1 : z1.drew.cell? ⟨g, 0, none⟩ = some (.int .u32 1) ∧ z1.drew.cell? ⟨g, 1, none⟩ = some (.int .u32 3221225534) ∧ z1.drew.cell? ⟨g, 2, none⟩ = some (.int .u64 0) ∧ z1.drew.cell? ⟨g, 3, none⟩ = some (.int .u64 0) ∧ z1.drew.cell? ⟨g, 4, none⟩ = some (.int .u64 0) ∧ z1.drew.cell? ⟨g, 5, none⟩ = some (.int .u64 21474836487) ∧ z1.drew.cell? ⟨g, 6, none⟩ = some (.int .u64 0) ∧ z1.drew.cell? ⟨g, 7, none⟩ = some (.int .u64 0) ∧ z1.drew.cell? ⟨g, 8, none⟩ = some (.int .u64 0) ∧ z1.drew.cell? ⟨g + 1, 1, none⟩ = some (.int .u32 4) := by refine ⟨?_, ?_, ?_, ?_, ?_, ?_, ?_, ?_, ?_, ?_⟩ <;> first | (rw [B1.cell]; rfl) | (rw [B2.cell]; rfl)
  go_region_held3 (fun W => W.cell? ⟨g, 0, none⟩ = some (.int .u32 1) ∧ W.cell? ⟨g, 1, none⟩ = some (.int .u32 3221225534) ∧ W.cell? ⟨g, 2, none⟩ = some (.int .u64 0) ∧ W.cell? ⟨g, 3, none⟩ = some (.int .u64 0) ∧ W.cell? ⟨g, 4, none⟩ = some (.int .u64 0) ∧ W.cell? ⟨g, 5, none⟩ = some (.int .u64 21474836487) ∧ W.cell? ⟨g, 6, none⟩ = some (.int .u64 0) ∧ W.cell? ⟨g, 7, none⟩ = some (.int .u64 0) ∧ W.cell? ⟨g, 8, none⟩ = some (.int .u64 0) ∧ W.cell? ⟨g + 1, 1, none⟩ = some (.int .u32 4)) (first | exact c1 | assumption | exact ⟨hx2.cell c1.1, hx2.cell c1.2.1, hx2.cell c1.2.2.1, hx2.cell c1.2.2.2.1, hx2.cell c1.2.2.2.2.1, hx2.cell c1.2.2.2.2.2.1, hx2.cell c1.2.2.2.2.2.2.1, hx2.cell c1.2.2.2.2.2.2.2.1, hx2.cell c1.2.2.2.2.2.2.2.2.1, hx2.cell c1.2.2.2.2.2.2.2.2.2⟩) (first | (go_at_call 35; refine (HW.out 4 _ (by decide) (by decide)).mono ?_; rintro e z2 ⟨rfl, hx2⟩))
  replace B1 := B1.ext hx2; replace B2 := B2.ext hx2; replace B3 := B3.ext hx2; replace hx0 := hx0.trans hx2
  clear c1 hx2
  have q1 : z2.cell? ⟨g + 1 + 1, 1, none⟩ = some (.int .u32 3221225534) := by rw [B3.cell]; rfl
  go_wp2_with fail
  clear q1
  rw [rounds_succ]
  go_wp2_with fail
  replace B1 := B1.drew; replace B2 := B2.drew; replace B3 := B3.drew; replace hx0 := hx0.drew
  have c2 : z2.drew.cell? ⟨g, 0, none⟩ = some (.int .u32 1) ∧ z2.drew.cell? ⟨g, 1, none⟩ = some (.int .u32 3221225534) ∧ z2.drew.cell? ⟨g, 2, none⟩ = some (.int .u64 0) ∧ z2.drew.cell? ⟨g, 3, none⟩ = some (.int .u64 0) ∧ z2.drew.cell? ⟨g, 4, none⟩ = some (.int .u64 0) ∧ z2.drew.cell? ⟨g, 5, none⟩ = some (.int .u64 21474836487) ∧ z2.drew.cell? ⟨g, 6, none⟩ = some (.int .u64 0) ∧ z2.drew.cell? ⟨g, 7, none⟩ = some (.int .u64 0) ∧ z2.drew.cell? ⟨g, 8, none⟩ = some (.int .u64 0) ∧ z2.drew.cell? ⟨g + 1, 2, none⟩ = some (.int .u32 32) := by refine ⟨?_, ?_, ?_, ?_, ?_, ?_, ?_, ?_, ?_, ?_⟩ <;> first | (rw [B1.cell]; rfl) | (rw [B2.cell]; rfl)
  go_region_held3 (fun W => W.cell? ⟨g, 0, none⟩ = some (.int .u32 1) ∧ W.cell? ⟨g, 1, none⟩ = some (.int .u32 3221225534) ∧ W.cell? ⟨g, 2, none⟩ = some (.int .u64 0) ∧ W.cell? ⟨g, 3, none⟩ = some (.int .u64 0) ∧ W.cell? ⟨g, 4, none⟩ = some (.int .u64 0) ∧ W.cell? ⟨g, 5, none⟩ = some (.int .u64 21474836487) ∧ W.cell? ⟨g, 6, none⟩ = some (.int .u64 0) ∧ W.cell? ⟨g, 7, none⟩ = some (.int .u64 0) ∧ W.cell? ⟨g, 8, none⟩ = some (.int .u64 0) ∧ W.cell? ⟨g + 1, 2, none⟩ = some (.int .u32 32)) (first | exact c2 | assumption | exact ⟨hx3.cell c2.1, hx3.cell c2.2.1, hx3.cell c2.2.2.1, hx3.cell c2.2.2.2.1, hx3.cell c2.2.2.2.2.1, hx3.cell c2.2.2.2.2.2.1, hx3.cell c2.2.2.2.2.2.2.1, hx3.cell c2.2.2.2.2.2.2.2.1, hx3.cell c2.2.2.2.2.2.2.2.2.1, hx3.cell c2.2.2.2.2.2.2.2.2.2⟩) (first | (go_at_call 35; refine (HW.out 32 _ (by decide) (by decide)).mono ?_; rintro e z3 ⟨rfl, hx3⟩))
  replace B1 := B1.ext hx3; replace B2 := B2.ext hx3; replace B3 := B3.ext hx3; replace hx0 := hx0.trans hx3
  clear c2 hx3
  have q2 : z3.cell? ⟨g + 1 + 1, 2, none⟩ = some (.int .u32 7) := by rw [B3.cell]; rfl
  go_wp2_with fail
  clear q2
  rw [rounds_succ]
  go_wp2_with fail
  replace B1 := B1.drew; replace B2 := B2.drew; replace B3 := B3.drew; replace hx0 := hx0.drew
  have c3 : z3.drew.cell? ⟨g, 0, none⟩ = some (.int .u32 1) ∧ z3.drew.cell? ⟨g, 1, none⟩ = some (.int .u32 3221225534) ∧ z3.drew.cell? ⟨g, 2, none⟩ = some (.int .u64 0) ∧ z3.drew.cell? ⟨g, 3, none⟩ = some (.int .u64 0) ∧ z3.drew.cell? ⟨g, 4, none⟩ = some (.int .u64 0) ∧ z3.drew.cell? ⟨g, 5, none⟩ = some (.int .u64 21474836487) ∧ z3.drew.cell? ⟨g, 6, none⟩ = some (.int .u64 0) ∧ z3.drew.cell? ⟨g, 7, none⟩ = some (.int .u64 0) ∧ z3.drew.cell? ⟨g, 8, none⟩ = some (.int .u64 0) ∧ z3.drew.cell? ⟨g + 1, 3, none⟩ = some (.int .u32 36) := by refine ⟨?_, ?_, ?_, ?_, ?_, ?_, ?_, ?_, ?_, ?_⟩ <;> first | (rw [B1.cell]; rfl) | (rw [B2.cell]; rfl)
  go_region_held3 (fun W => W.cell? ⟨g, 0, none⟩ = some (.int .u32 1) ∧ W.cell? ⟨g, 1, none⟩ = some (.int .u32 3221225534) ∧ W.cell? ⟨g, 2, none⟩ = some (.int .u64 0) ∧ W.cell? ⟨g, 3, none⟩ = some (.int .u64 0) ∧ W.cell? ⟨g, 4, none⟩ = some (.int .u64 0) ∧ W.cell? ⟨g, 5, none⟩ = some (.int .u64 21474836487) ∧ W.cell? ⟨g, 6, none⟩ = some (.int .u64 0) ∧ W.cell? ⟨g, 7, none⟩ = some (.int .u64 0) ∧ W.cell? ⟨g, 8, none⟩ = some (.int .u64 0) ∧ W.cell? ⟨g + 1, 3, none⟩ = some (.int .u32 36)) (first | exact c3 | assumption | exact ⟨hx4.cell c3.1, hx4.cell c3.2.1, hx4.cell c3.2.2.1, hx4.cell c3.2.2.2.1, hx4.cell c3.2.2.2.2.1, hx4.cell c3.2.2.2.2.2.1, hx4.cell c3.2.2.2.2.2.2.1, hx4.cell c3.2.2.2.2.2.2.2.1, hx4.cell c3.2.2.2.2.2.2.2.2.1, hx4.cell c3.2.2.2.2.2.2.2.2.2⟩) (first | (go_at_call 35; refine (HW.out 36 _ (by decide) (by decide)).mono ?_; rintro e z4 ⟨rfl, hx4⟩))
  replace B1 := B1.ext hx4; replace B2 := B2.ext hx4; replace B3 := B3.ext hx4; replace hx0 := hx0.trans hx4
  clear c3 hx4
  have q3 : z4.cell? ⟨g + 1 + 1, 3, none⟩ = some (.int .u32 5) := by rw [B3.cell]; rfl
  go_wp2_with fail
  clear q3
  rw [rounds_succ]
  go_wp2_with fail
  refine (HW.out 2 _ (by decide) (by decide)).mono ?_
  rintro e z5 ⟨rfl, hx5⟩
  rw [e2, f2]
  replace B1 := B1.ext hx5; replace hx0 := hx0.trans hx5
  go_wp2_with (refine wpList_load_blk rfl 45 (.tmp _) rfl _ _ _ _ rfl B1 Try.underlying45 rfl (by kernel_rfl) ?_)
  refine (HW.out 64 _ (by decide) (by decide)).mono ?_
  rintro e z6 ⟨rfl, hx6⟩
  rw [e64, f64]
  replace hx0 := hx0.trans hx6
  go_wp2_with fail
  refine (low_any 2 _).mono ?_
  rintro e _ ⟨rfl, rfl⟩
  go_wp2_with fail
  refine (high_any 2 _).mono ?_
  rintro e _ ⟨rfl, rfl⟩
  go_wp2_with fail
  refine (low_any 6 _).mono ?_
  rintro e _ ⟨rfl, rfl⟩
  have p1 : plc 2 0 = 32 := by decide
  have p2 : plc 2 4 = 36 := by decide
  have p3 : plb 2 = true := by decide
  have p4 : plb 6 = false := by decide
  rw [p1, p2, p3, p4]
  go_wp2
  go_ret
  exact ⟨rfl, hx0⟩
end Go.Proofs.Ytlicndonhmcmmaa
