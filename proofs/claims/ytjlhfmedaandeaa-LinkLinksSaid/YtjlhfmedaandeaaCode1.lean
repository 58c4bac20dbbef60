import Derived.Test.YtjlhfmedaandeaaAlive1
import Derived.Test.YtjlhfmedaandeaaData
/- code.May: which rows may be. -/
namespace Go.Proofs.Ytjlhfmedaandeaa
open Go.RowKit Go.ChangeShapes Go.WideShapes
set_option linter.unusedVariables false
set_option linter.unusedSimpArgs false

theorem info_sym : (Try.prog.info? 32).map (fun i => (i.zero, i.size, i.bytes)) = some (some (.agg #[.int .u16 0, .int .u32 0, .int .i64 0, .int .i64 0]), 4, 24) := by kernel_rfl
set_option maxRecDepth 100000 in
theorem codeAsks (c : Int) (W : World) : Calls Try.prog 66 #[.int .u16 c] W fun e w' => e = .returned (.bool (asksC c)) ∧ W = w' := by
  obtain ⟨R, hR⟩ : ∃ R, asksC c = R := ⟨_, rfl⟩
  rw [hR]
  have HR := Lib.hid hR
  clear hR
  rcases h1 : (c == 21) with _ | _
  · rcases h2 : (c == 37) with _ | _
    · rcases h3 : (c == 53) with _ | _
      · rcases h4 : (c == 69) with _ | _
        all_goals
          go_enter Try.func66, Try.ntmps66
          go_wp2
          go_ret
          exact ⟨by rw [← HR.out]; unfold asksC; rw [h1, h2, h3, h4]; rfl, rfl⟩
      · go_enter Try.func66, Try.ntmps66
        go_wp2
        go_ret
        exact ⟨by rw [← HR.out]; unfold asksC; rw [h1, h2, h3]; rfl, rfl⟩
    · go_enter Try.func66, Try.ntmps66
      go_wp2
      go_ret
      exact ⟨by rw [← HR.out]; unfold asksC; rw [h1, h2]; rfl, rfl⟩
  · go_enter Try.func66, Try.ntmps66
    go_wp2
    go_ret
    exact ⟨by rw [← HR.out]; unfold asksC; rw [h1]; rfl, rfl⟩
set_option maxRecDepth 100000 in
theorem codeThere (x a z : Int) (g1 g2 : Nat) (W : World) (B1 : Blk W g1 3 #[.int .i64 a]) (B2 : Blk W g2 3 #[.int .i64 z]) :
    Calls Try.prog 65 #[.int .i64 x, .pointer (some ⟨g1, 0, none⟩), .pointer (some ⟨g2, 0, none⟩)] W fun e w' => e = .returned (.bool (thereS a z x)) ∧ W = w' := by
  obtain ⟨R, hR⟩ : ∃ R, thereS a z x = R := ⟨_, rfl⟩
  rw [hR]
  have HR := Lib.hid hR
  clear hR
  have p1 := B1.cell 0
  have p2 := B2.cell 0
  rcases h1 : decide (a < x) with _ | _
  · go_enter Try.func65, Try.ntmps65
    go_wp2
    go_ret
    exact ⟨by rw [← HR.out]; unfold thereS; rw [h1]; rfl, rfl⟩
  · rcases h2 : decide (x < z) with _ | _
    all_goals
      go_enter Try.func65, Try.ntmps65
      go_wp2
      go_ret
      exact ⟨by rw [← HR.out]; unfold thereS; rw [h1, h2]; rfl, rfl⟩
theorem d00_ok : (⟨0, 0, 0, 0, 0, 0, 0, 0, 0⟩ : Dat).ok := ⟨by unfold U32; decide, by unfold U32; decide, by unfold U64; decide, by unfold U64; decide, by unfold U64; decide, by unfold U64; decide, by unfold U64; decide, by unfold U64; decide, by unfold U64; decide⟩
theorem wordErr_mayS (k : Int) : (wordErr k == 0) = (k % 4 == 0 && decide (k < 64)) := by
  unfold wordErr wordOk
  by_cases h1 : k % 4 = 0
  · by_cases h2 : k < 64
    · simp [h1, h2]
    · simp [h1, h2]
  · simp [h1]
set_option maxHeartbeats 2000000 in
set_option maxRecDepth 100000 in
theorem mayOneI (s : Sy) (hs : s.ok) (a z : Int) (W : World) :
    Calls Try.prog 48 #[s.val, .int .i64 a, .int .i64 z] W fun e w' => e = .returned (.bool (mayS s a z)) ∧ Ext W w' := by
  obtain ⟨R, hR⟩ : ∃ R, mayS s a z = R := ⟨_, rfl⟩
  rw [hR]
  have HR := Lib.hid hR
  clear hR
  have hk : 0 ≤ s.k ∧ s.k < 4294967296 := hs.2.1
  obtain ⟨co, k, th, el⟩ := s
  unfold Sy.val Sy.cells
  dsimp only at *
  have hx := (((Ext.refl W).alloc (.cells #[.int .u16 co, .int .u32 k, .int .i64 th, .int .i64 el] 32)).alloc (.cells #[.int .i64 a] 3)).alloc (.cells #[.int .i64 z] 3)
  have bs := ((Blk.new W 32 #[.int .u16 co, .int .u32 k, .int .i64 th, .int .i64 el]).alloc (.cells #[.int .i64 a] 3)).alloc (.cells #[.int .i64 z] 3)
  have ba : Blk (((W.alloc (.cells #[.int .u16 co, .int .u32 k, .int .i64 th, .int .i64 el] 32)).alloc (.cells #[.int .i64 a] 3)).alloc (.cells #[.int .i64 z] 3)) (W.heap.size + 1) 3 #[.int .i64 a] := (Blk.new_ (by simp)).alloc _
  have bz : Blk (((W.alloc (.cells #[.int .u16 co, .int .u32 k, .int .i64 th, .int .i64 el] 32)).alloc (.cells #[.int .i64 a] 3)).alloc (.cells #[.int .i64 z] 3)) (W.heap.size + 1 + 1) 3 #[.int .i64 z] := Blk.new_ (by simp)
  have HW := Lib.hid (fun W' => word_any ⟨0, 0, 0, 0, 0, 0, 0, 0, 0⟩ d00_ok k W' hk.1 hk.2)
  have HWE := wordErr_mayS k
  clear hs hk
  have hx8 := Ext.refl W
  rcases ht : (th == 0) with _ | _ <;> rcases hl : (el == 0) with _ | _
  all_goals
    rcases h32 : (co == 32) with _ | _
    · clear HW HWE
      rcases h84 : (co == 84) with _ | _
      · rcases h6 : (co == 6) with _ | _
        · rcases h5 : (co == 5) with _ | _
          · rcases hA : asksC co with _ | _
            · skip
              go_enter Try.func48, Try.ntmps48
              go_wp2_with (first
                | (go_at_call 65; refine (codeThere _ a z _ _ _ (by assumption) (by assumption)).mono ?_; rintro e w9 ⟨rfl, rfl⟩)
                | (go_at_call 66; refine (codeAsks _ _).mono ?_; rintro e w9 ⟨rfl, rfl⟩))
              go_ret
              exact ⟨by rw [← HR.out]; simp [mayS, noneS, h32, h84, h6, h5, hA], by first | exact hx | exact hx.trans hx8⟩
            · rcases hT : thereS a z th with _ | _
              · skip
                go_enter Try.func48, Try.ntmps48
                go_wp2_with (first
                  | (go_at_call 65; refine (codeThere _ a z _ _ _ (by assumption) (by assumption)).mono ?_; rintro e w9 ⟨rfl, rfl⟩)
                  | (go_at_call 66; refine (codeAsks _ _).mono ?_; rintro e w9 ⟨rfl, rfl⟩))
                go_ret
                exact ⟨by rw [← HR.out]; simp [mayS, noneS, h32, h84, h6, h5, hA, hT], by first | exact hx | exact hx.trans hx8⟩
              · rcases hE : thereS a z el with _ | _
                all_goals
                  go_enter Try.func48, Try.ntmps48
                  go_wp2_with (first
                    | (go_at_call 65; refine (codeThere _ a z _ _ _ (by assumption) (by assumption)).mono ?_; rintro e w9 ⟨rfl, rfl⟩)
                    | (go_at_call 66; refine (codeAsks _ _).mono ?_; rintro e w9 ⟨rfl, rfl⟩))
                  go_ret
                  exact ⟨by rw [← HR.out]; simp [mayS, noneS, h32, h84, h6, h5, hA, hT, hE], by first | exact hx | exact hx.trans hx8⟩
          · rcases hk : (k == 0) with _ | _
            · skip
              go_enter Try.func48, Try.ntmps48
              go_wp2_with (first
                | (go_at_call 65; refine (codeThere _ a z _ _ _ (by assumption) (by assumption)).mono ?_; rintro e w9 ⟨rfl, rfl⟩)
                | (go_at_call 66; refine (codeAsks _ _).mono ?_; rintro e w9 ⟨rfl, rfl⟩))
              go_ret
              exact ⟨by rw [← HR.out]; simp [mayS, noneS, h32, h84, h6, h5, hk], by first | exact hx | exact hx.trans hx8⟩
            · rcases hT : thereS a z th with _ | _
              all_goals
                go_enter Try.func48, Try.ntmps48
                go_wp2_with (first
                  | (go_at_call 65; refine (codeThere _ a z _ _ _ (by assumption) (by assumption)).mono ?_; rintro e w9 ⟨rfl, rfl⟩)
                  | (go_at_call 66; refine (codeAsks _ _).mono ?_; rintro e w9 ⟨rfl, rfl⟩))
                go_ret
                exact ⟨by rw [← HR.out]; simp [mayS, noneS, h32, h84, h6, h5, hk, hl, hT], by first | exact hx | exact hx.trans hx8⟩
        · skip
          go_enter Try.func48, Try.ntmps48
          go_wp2_with (first
            | (go_at_call 65; refine (codeThere _ a z _ _ _ (by assumption) (by assumption)).mono ?_; rintro e w9 ⟨rfl, rfl⟩)
            | (go_at_call 66; refine (codeAsks _ _).mono ?_; rintro e w9 ⟨rfl, rfl⟩))
          go_ret
          exact ⟨by rw [← HR.out]; simp [mayS, noneS, h32, h84, h6, ht, hl], by first | exact hx | exact hx.trans hx8⟩
      · skip
        go_enter Try.func48, Try.ntmps48
        go_wp2_with (first
          | (go_at_call 65; refine (codeThere _ a z _ _ _ (by assumption) (by assumption)).mono ?_; rintro e w9 ⟨rfl, rfl⟩)
          | (go_at_call 66; refine (codeAsks _ _).mono ?_; rintro e w9 ⟨rfl, rfl⟩))
        go_ret
        exact ⟨by rw [← HR.out]; simp [mayS, noneS, h32, h84, ht, hl], by first | exact hx | exact hx.trans hx8⟩
    · rcases hW : (wordErr k == 0) with _ | _
      all_goals
        rw [hW] at HWE
        have HWE2 := Lib.hid HWE
        clear HWE
        go_enter Try.func48, Try.ntmps48
        go_wp2_with (go_at_call 58; refine (HW.out _).mono ?_; rintro e w9 ⟨rfl, hx8⟩)
        go_ret
        exact ⟨by rw [← HR.out]; unfold mayS noneS; rw [← HWE2.out]; simp [h32, ht, hl], by first | exact hx | exact hx.trans hx8⟩
end Go.Proofs.Ytjlhfmedaandeaa
