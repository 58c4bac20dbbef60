import Derived.Test.YtjlhfmedaandeaaAlive1
import Derived.Test.YtjlhfmedaandeaaData
/- code.May: which rows may be. -/
namespace Go.Proofs.Ytjlhfmedaandeaa
open Go.RowKit Go.ChangeShapes Go.WideShapes
set_option linter.unusedVariables false
set_option linter.unusedSimpArgs false

theorem info_sym : (Try.prog.info? 32).map (fun i => (i.zero, i.size, i.bytes)) = some (some (.agg #[.int .u16 0, .int .u32 0, .int .i64 0, .int .i64 0]), 4, 24) := by kernel_rfl
set_option maxRecDepth 100000 in
theorem codeAsks (c : Int) (W : World) : Calls Try.prog 66 #[.int .u16 c] W fun e w' => e = .returned (.bool (asksC c)) ∧ W = w' := by
  obtain ⟨R, hR⟩ : ∃ R, asksC c = R := ⟨_, rfl⟩
  rw [hR]
  have HR := Lib.hid hR
  clear hR
  rcases h1 : (c == 21) with _ | _
  · rcases h2 : (c == 37) with _ | _
    · rcases h3 : (c == 53) with _ | _
      · rcases h4 : (c == 69) with _ | _
        all_goals
          go_enter Try.func66, Try.ntmps66
          go_wp2
          go_ret
          exact ⟨by rw [← HR.out]; unfold asksC; rw [h1, h2, h3, h4]; rfl, rfl⟩
      · go_enter Try.func66, Try.ntmps66
        go_wp2
        go_ret
        exact ⟨by rw [← HR.out]; unfold asksC; rw [h1, h2, h3]; rfl, rfl⟩
    · go_enter Try.func66, Try.ntmps66
      go_wp2
      go_ret
      exact ⟨by rw [← HR.out]; unfold asksC; rw [h1, h2]; rfl, rfl⟩
  · go_enter Try.func66, Try.ntmps66
    go_wp2
    go_ret
    exact ⟨by rw [← HR.out]; unfold asksC; rw [h1]; rfl, rfl⟩
set_option maxRecDepth 100000 in
theorem codeThere (x a z : Int) (g1 g2 : Nat) (W : World) (B1 : Blk W g1 3 #[.int .i64 a]) (B2 : Blk W g2 3 #[.int .i64 z]) :
    Calls Try.prog 65 #[.int .i64 x, .pointer (some ⟨g1, 0, none⟩), .pointer (some ⟨g2, 0, none⟩)] W fun e w' => e = .returned (.bool (thereS a z x)) ∧ W = w' := by
  obtain ⟨R, hR⟩ : ∃ R, thereS a z x = R := ⟨_, rfl⟩
  rw [hR]
  have HR := Lib.hid hR
  clear hR
  have p1 := B1.cell 0
  have p2 := B2.cell 0
  rcases h1 : decide (a < x) with _ | _
  · go_enter Try.func65, Try.ntmps65
    go_wp2
    go_ret
    exact ⟨by rw [← HR.out]; unfold thereS; rw [h1]; rfl, rfl⟩
  · rcases h2 : decide (x < z) with _ | _
    all_goals
      go_enter Try.func65, Try.ntmps65
      go_wp2
      go_ret
      exact ⟨by rw [← HR.out]; unfold thereS; rw [h1, h2]; rfl, rfl⟩
theorem d00_ok : (⟨0, 0, 0, 0, 0, 0, 0, 0, 0⟩ : Dat).ok := ⟨by unfold U32; decide, by unfold U32; decide, by unfold U64; decide, by unfold U64; decide, by unfold U64; decide, by unfold U64; decide, by unfold U64; decide, by unfold U64; decide, by unfold U64; decide⟩
theorem wordErr_mayS (k : Int) : (wordErr k == 0) = (k % 4 == 0 && decide (k < 64)) := by
  unfold wordErr wordOk
  by_cases h1 : k % 4 = 0
  · by_cases h2 : k < 64
    · simp [h1, h2]
    · simp [h1, h2]
  · simp [h1]
set_option maxHeartbeats 2000000 in
set_option maxRecDepth 100000 in
theorem mayOneI (s : Sy) (hs : s.ok) (a z : Int) (W : World) :
    Calls Try.prog 48 #[s.val, .int .i64 a, .int .i64 z] W fun e w' => e = .returned (.bool (mayS s a z)) ∧ Ext W w' := by
  obtain ⟨R, hR⟩ : ∃ R, mayS s a z = R := ⟨_, rfl⟩
  rw [hR]
  have HR := Lib.hid hR
  clear hR
  have hk : 0 ≤ s.k ∧ s.k < 4294967296 := hs.2.1
  obtain ⟨co, k, th, el⟩ := s
  unfold Sy.val Sy.cells
  dsimp only at *
  have hx := (((Ext.refl W).alloc (.cells #[.int .u16 co, .int .u32 k, .int .i64 th, .int .i64 el] 32)).alloc (.cells #[.int .i64 a] 3)).alloc (.cells #[.int .i64 z] 3)
  have bs := ((Blk.new W 32 #[.int .u16 co, .int .u32 k, .int .i64 th, .int .i64 el]).alloc (.cells #[.int .i64 a] 3)).alloc (.cells #[.int .i64 z] 3)
  have ba : Blk (((W.alloc (.cells #[.int .u16 co, .int .u32 k, .int .i64 th, .int .i64 el] 32)).alloc (.cells #[.int .i64 a] 3)).alloc (.cells #[.int .i64 z] 3)) (W.heap.size + 1) 3 #[.int .i64 a] := (Blk.new_ (by simp)).alloc _
  have bz : Blk (((W.alloc (.cells #[.int .u16 co, .int .u32 k, .int .i64 th, .int .i64 el] 32)).alloc (.cells #[.int .i64 a] 3)).alloc (.cells #[.int .i64 z] 3)) (W.heap.size + 1 + 1) 3 #[.int .i64 z] := Blk.new_ (by simp)
  have HW := Lib.hid (fun W' => word_any ⟨0, 0, 0, 0, 0, 0, 0, 0, 0⟩ d00_ok k W' hk.1 hk.2)
  have HWE := wordErr_mayS k
  clear hs hk
  have hx8 := Ext.refl W
  rcases ht : (th == 0) with _ | _ <;> rcases hl : (el == 0) with _ | _
  all_goals
    rcases h32 : (co == 32) with _ | _
    · clear HW HWE
      rcases h84 : (co == 84) with _ | _
      · rcases h6 : (co == 6) with _ | _
        · rcases h5 : (co == 5) with _ | _
          · rcases hA : asksC co with _ | _
            · skip
              go_enter Try.func48, Try.ntmps48
              go_wp2_with (first
                | (go_at_call 65; refine (codeThere _ a z _ _ _ (by assumption) (by assumption)).mono ?_; rintro e w9 ⟨rfl, rfl⟩)
                | (go_at_call 66; refine (codeAsks _ _).mono ?_; rintro e w9 ⟨rfl, rfl⟩))
              go_ret
              exact ⟨by rw [← HR.out]; simp [mayS, noneS, h32, h84, h6, h5, hA], by first | exact hx | exact hx.trans hx8⟩
            · rcases hT : thereS a z th with _ | _
              · skip
                go_enter Try.func48, Try.ntmps48
                go_wp2_with (first
                  | (go_at_call 65; refine (codeThere _ a z _ _ _ (by assumption) (by assumption)).mono ?_; rintro e w9 ⟨rfl, rfl⟩)
                  | (go_at_call 66; refine (codeAsks _ _).mono ?_; rintro e w9 ⟨rfl, rfl⟩))
                go_ret
                exact ⟨by rw [← HR.out]; simp [mayS, noneS, h32, h84, h6, h5, hA, hT], by first | exact hx | exact hx.trans hx8⟩
              · rcases hE : thereS a z el with _ | _
                all_goals
                  go_enter Try.func48, Try.ntmps48
                  go_wp2_with (first
                    | (go_at_call 65; refine (codeThere _ a z _ _ _ (by assumption) (by assumption)).mono ?_; rintro e w9 ⟨rfl, rfl⟩)
                    | (go_at_call 66; refine (codeAsks _ _).mono ?_; rintro e w9 ⟨rfl, rfl⟩))
                  go_ret
                  exact ⟨by rw [← HR.out]; simp [mayS, noneS, h32, h84, h6, h5, hA, hT, hE], by first | exact hx | exact hx.trans hx8⟩
          · rcases hk : (k == 0) with _ | _
            · skip
              go_enter Try.func48, Try.ntmps48
              go_wp2_with (first
                | (go_at_call 65; refine (codeThere _ a z _ _ _ (by assumption) (by assumption)).mono ?_; rintro e w9 ⟨rfl, rfl⟩)
                | (go_at_call 66; refine (codeAsks _ _).mono ?_; rintro e w9 ⟨rfl, rfl⟩))
              go_ret
              exact ⟨by rw [← HR.out]; simp [mayS, noneS, h32, h84, h6, h5, hk], by first | exact hx | exact hx.trans hx8⟩
            · rcases hT : thereS a z th with _ | _
              all_goals
                go_enter Try.func48, Try.ntmps48
                go_wp2_with (first
                  | (go_at_call 65; refine (codeThere _ a z _ _ _ (by assumption) (by assumption)).mono ?_; rintro e w9 ⟨rfl, rfl⟩)
                  | (go_at_call 66; refine (codeAsks _ _).mono ?_; rintro e w9 ⟨rfl, rfl⟩))
                go_ret
                exact ⟨by rw [← HR.out]; simp [mayS, noneS, h32, h84, h6, h5, hk, hl, hT], by first | exact hx | exact hx.trans hx8⟩
        · skip
          go_enter Try.func48, Try.ntmps48
          go_wp2_with (first
            | (go_at_call 65; refine (codeThere _ a z _ _ _ (by assumption) (by assumption)).mono ?_; rintro e w9 ⟨rfl, rfl⟩)
            | (go_at_call 66; refine (codeAsks _ _).mono ?_; rintro e w9 ⟨rfl, rfl⟩))
          go_ret
          exact ⟨by rw [← HR.out]; simp [mayS, noneS, h32, h84, h6, ht, hl], by first | exact hx | exact hx.trans hx8⟩
      · skip
        go_enter Try.func48, Try.ntmps48
        go_wp2_with (first
          | (go_at_call 65; refine (codeThere _ a z _ _ _ (by assumption) (by assumption)).mono ?_; rintro e w9 ⟨rfl, rfl⟩)
          | (go_at_call 66; refine (codeAsks _ _).mono ?_; rintro e w9 ⟨rfl, rfl⟩))
        go_ret
        exact ⟨by rw [← HR.out]; simp [mayS, noneS, h32, h84, ht, hl], by first | exact hx | exact hx.trans hx8⟩
    · rcases hW : (wordErr k == 0) with _ | _
      all_goals
        rw [hW] at HWE
        have HWE2 := Lib.hid HWE
        clear HWE
        go_enter Try.func48, Try.ntmps48
        go_wp2_with (go_at_call 58; refine (HW.out _).mono ?_; rintro e w9 ⟨rfl, hx8⟩)
        go_ret
        exact ⟨by rw [← HR.out]; unfold mayS noneS; rw [← HWE2.out]; simp [h32, ht, hl], by first | exact hx | exact hx.trans hx8⟩
end Go.Proofs.Ytjlhfmedaandeaa

/- code.May: the loop. -/
namespace Go.Proofs.Ytjlhfmedaandeaa
open Go.RowKit Go.ChangeShapes Go.WideShapes
set_option linter.unusedVariables false
set_option linter.unusedSimpArgs false

theorem mayL_no (ps : List Sy) (h : ps.length = 0 ∨ 131072 < ps.length ∨ (ps.getD (ps.length - 1) zeroS).code ≠ 6 ∨ ∃ k, k < ps.length ∧ mayS (ps.getD k zeroS) k ps.length = false) : mayL ps = false := by
  cases hm : mayL ps
  · rfl
  · exfalso
    have := mayL_of hm
    rcases h with h | h | h | ⟨k, hk, h⟩
    · have := this.l1; omega
    · have := this.l2; omega
    · exact h this.last
    · have h2 := this.one k hk
      rw [h] at h2
      cases h2
theorem mayL_yes (ps : List Sy) (h1 : 1 ≤ ps.length) (h2 : ps.length ≤ 131072) (h3 : (ps.getD (ps.length - 1) zeroS).code = 6) (h4 : ∀ k, k < ps.length → mayS (ps.getD k zeroS) k ps.length = true) : mayL ps = true := by
  unfold mayL
  rw [Bool.and_eq_true, Bool.and_eq_true, Bool.and_eq_true]
  exact ⟨⟨⟨decide_eq_true h1, decide_eq_true h2⟩, by rw [h3]; rfl⟩, List.all_eq_true.2 fun k hk => h4 k (List.mem_range.1 hk)⟩
theorem getD_sy {ps : List Sy} {k : Nat} (hk : k < ps.length) : ps.getD k zeroS = ps[k] := by rw [List.getD_eq_getElem?_getD, List.getElem?_eq_getElem hk]; rfl
set_option maxHeartbeats 2000000 in
set_option maxRecDepth 100000 in
theorem codeMay (A : Option Addr) (n c : Nat) (ps : List Sy) (w : World) (hp : ps.length = n) (hok : ∀ i ∈ ps, i.ok) (hn : n ≤ maxLen) (hM : InM w A (sc ps)) :
    Calls Try.prog 24 #[.slice A n c] w fun e w' => e = .returned (.bool (mayL ps)) ∧ Ext w w' := by
  obtain ⟨R, hR⟩ : ∃ R, mayL ps = R := ⟨_, rfl⟩
  rw [hR]
  have HR := Lib.hid hR
  clear hR
  have HM := Lib.hid hM
  have HP := Lib.hid hp
  have HOK := Lib.hid hok
  clear hM hp hok
  by_cases h0 : n = 0
  · subst h0
    go_enter Try.func24, Try.ntmps24
    go_wp2_with fail
    go_ret
    exact ⟨by rw [← HR.out, mayL_no ps (.inl HP.out)]; try rfl, Ext.refl _⟩
  by_cases hbig : 131072 < n
  · have y1 : decide ((n : Int) < 1) = false := by simp; omega
    have y2 : decide ((131072 : Int) < n) = true := by simp; omega
    go_enter Try.func24, Try.ntmps24
    go_wp2_with fail
    go_ret
    exact ⟨by rw [← HR.out, mayL_no ps (.inr (.inl (by rw [HP.out]; exact hbig)))]; try rfl, Ext.refl _⟩
  obtain ⟨m, rfl⟩ : ∃ m, n = m + 1 := ⟨n - 1, by omega⟩
  have hmp : m < ps.length := by rw [HP.out]; omega
  obtain ⟨bA, oA, rfl, _⟩ := sym_some HM.out (by omega)
  obtain ⟨q0, _, _, _⟩ := sym_cells HM.out hmp
  have y1 : decide (((m : Int) + 1) < 1) = false := by simp; omega
  have y2 : decide ((131072 : Int) < (m : Int) + 1) = false := by simp; omega
  have e1 : (((m + 1 : Nat)) : Int) = (m : Int) + 1 := by omega
  have m1 : (m : Int) ≤ 131071 := by omega
  have m0 : (0 : Int) ≤ m := by omega
  have w1 : IntKind.i64.wrap ((m : Int) + 1 - 1) = m := by rw [show (m : Int) + 1 - 1 = m by omega]; exact IntWalk.i64_in _ (by omega)
  have hlast : ps.getD (ps.length - 1) zeroS = ps[m] := by rw [HP.out, Nat.add_sub_cancel]; exact getD_sy hmp
  have HL := Lib.hid hlast
  clear hlast h0 hbig
  rcases hc : (ps[m].code != 6) with _ | _
  · have h6 : ps[m].code = 6 := by simpa using hc
    have H6 := Lib.hid h6
    rw [h6] at q0
    clear hc h6
    clear q0
    obtain ⟨q0, _, _, _⟩ := sym_cells HM.out hmp
    rw [H6.out] at q0
    go_enter Try.func24, Try.ntmps24
    go_wp2_with fail
    clear q0
    go_loopw [25] (fun it W => ∃ k : Nat, k ≤ m + 1 ∧ it = .int .i64 k ∧ (∀ j, j < k → mayS (ps.getD j zeroS) j ((m : Int) + 1) = true) ∧ Ext w W) (fun it _ => (m + 1) - (intOf it).toNat)
    case atStart => exact ⟨0, Nat.zero_le _, rfl, (fun j hj => by omega), Ext.refl _⟩
    case round =>
      obtain ⟨k, hk, rfl, hall, hy⟩ := hrel
      have HA := Lib.hid hall
      clear hall
      by_cases hlt : k < m + 1
      · have hkp : k < ps.length := by rw [HP.out]; exact hlt
        obtain ⟨p0, p1, p2, p3⟩ := sym_cells (HM.out.ext hy) hkp
        have HOk := Lib.hid (HOK.out _ (List.getElem_mem hkp))
        have HG := Lib.hid (getD_sy hkp)
        have k1 : (0 : Int) ≤ k := by omega
        have k2 : (k : Int) < (m : Int) + 1 := by omega
        have k3 : (k : Int) ≤ 131071 := by omega
        generalize ps[k] = s at *
        obtain ⟨co, kk, th, el⟩ := s
        dsimp only at p0 p1 p2 p3
        have CM := Lib.hid (fun W' => mayOneI ⟨co, kk, th, el⟩ HOk.out k ((m : Int) + 1) W')
        go_wp2_with fail
        refine (CM.out _).mono ?_
        rintro e w9 ⟨rfl, hx9⟩
        have hy9 := (hy.alloc _).trans hx9
        rcases hb : mayS ⟨co, kk, th, el⟩ k ((m : Int) + 1) with _ | _
        · have HB := Lib.hid hb
          go_wp2_with fail
          go_ret
          exact ⟨by rw [← HR.out, mayL_no ps (.inr (.inr (.inr ⟨k, hkp, by rw [HG.out, HP.out]; exact HB.out⟩)))]; try rfl, hy9⟩
        · have HB := Lib.hid hb
          go_wp2_with fail
          go_roundw
          case rel =>
            refine ⟨k + 1, by omega, by go_num, fun j hj => ?_, hy9⟩
            by_cases e : j = k
            · subst e
              rw [HG.out]
              exact HB.out
            · exact HA.out j (by omega)
          case measure => simp [intOf]; omega
      · obtain rfl : k = m + 1 := by omega
        go_wp2_with fail
        go_ret
        exact ⟨by rw [← HR.out, mayL_yes ps (by rw [HP.out]; omega) (by rw [HP.out]; omega) (by rw [HL.out]; exact H6.out) (fun k hk => by rw [HP.out] at hk ⊢; exact HA.out k hk)]; try rfl, hy⟩
  · have HC := Lib.hid hc
    generalize hcc : ps[m].code = cc at *
    have HCC := Lib.hid hcc
    clear hcc
    go_enter Try.func24, Try.ntmps24
    go_wp2_with fail
    go_ret
    exact ⟨by rw [← HR.out, mayL_no ps (.inr (.inr (.inl (by rw [HL.out, HCC.out]; have := HC.out; simpa using this))))]; try rfl, Ext.refl _⟩
end Go.Proofs.Ytjlhfmedaandeaa
