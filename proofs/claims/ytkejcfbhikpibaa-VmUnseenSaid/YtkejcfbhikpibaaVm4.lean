import Derived.Test.YtkejcfbhikpibaaVm3
/- vm: by. -/
namespace Go.Proofs.Ytkejcfbhikpibaa
open Go.RowKit Go.ChangeShapes Go.WideShapes
set_option linter.unusedVariables false
set_option linter.unusedSimpArgs false

theorem pr_index2 (k : Nat) (hk : k < 14) (W : World) : (Instr.index 140 (.agg prA) (.int .i64 k)).run Try.prog W = .ok (.agg #[.int .u16 (prC.getD k 0), prD k, prH k]) W := by
  rw [← prP_eq]
  exact pr_index k hk W

set_option maxHeartbeats 1000000 in
set_option maxRecDepth 100000 in
theorem by_vm (c : Int) (kk : Nat) (hkk : kk < 14) (hb : byI c = kk) (W : World) : Calls Try.prog 81 #[.int .u16 c] W fun e w' => e = .returned (.agg #[.int .u16 (prC.getD kk 0), prD kk, prH kk]) ∧ Ext W w' := by
  have HK := Lib.hid (fun W => withX_any c W)
  have HI := Lib.hid (fun (k : Nat) (hk : k < 14) (W : World) => pr_index2 k hk W)
  have HE := Lib.hid (fun W : World => pairs_any W)
  obtain ⟨cc, hcc⟩ : ∃ cc, cc = (if takesX c then bits .andNot .u16 c 8 else c) := ⟨_, rfl⟩
  have HF := Lib.hid (fun (k : Nat) (hk : k < 14) hno h => show k = kk by rw [← hb, byI, ← hcc]; exact (prC_at (c := cc) hk hno h).symm)
  have HN := Lib.hid (fun (hno : ∀ j, j < 14 → (prC.getD j 0 == cc) = false) => show kk = 14 by rw [← hb, byI, ← hcc]; exact prC_no hno)
  have hx0 := (Ext.refl W).alloc (.cells #[.int .u16 0, .nilFunc, .nilFunc] 132)
  have B0 := Blk.new W 132 #[.int .u16 0, .nilFunc, .nilFunc]
  clear hb
  have HG := Lib.hid (fun k (h : k = kk) => (⟨by rw [h], by rw [h], by rw [h]⟩ : prC.getD k 0 = prC.getD kk 0 ∧ prD k = prD kk ∧ prH k = prH kk))
  generalize prC.getD kk 0 = PC at *
  generalize prD kk = PD at *
  generalize prH kk = PH at *
  generalize prA = PA at *
  generalize hV : Value.agg PA = V at *
  clear hV
  generalize takesX c = tx at *
  have HCC := Lib.hid hcc
  clear hcc
  go_enter Try.func81, Try.ntmps81
  go_wp2_with fail
  refine (HK.out _).mono ?_
  rintro e w1 ⟨rfl, hx1⟩
  replace hx0 := hx0.trans hx1
  replace B0 := B0.ext hx1
  clear hx1 HK
  cases tx
  · have e0 : cc = c := HCC.out
    subst e0
    clear HCC
    go_wp2_with fail
    refine (HE.out _).mono ?_
    rintro e w1 ⟨rfl, hx1⟩
    replace hx0 := hx0.trans hx1
    replace B0 := B0.ext hx1
    clear hx1
    go_wp2_with fail
    go_loopw [10] (fun i wr => ∃ k : Nat, k ≤ 14 ∧ i = .int .i64 k ∧ (∀ j, j < k → (prC.getD j 0 == cc) = false) ∧ Ext W wr ∧ Blk wr W.heap.size 132 #[.int .u16 0, .nilFunc, .nilFunc]) (fun i _ => 14 - (intOf i).toNat)
    case atStart => exact ⟨0, by decide, rfl, fun j hj => absurd hj (by omega), hx0, B0⟩
    case round =>
      clear hx0 B0
      obtain ⟨k, hk, rfl, hno, hx, B0⟩ := hrel
      by_cases hlt : k < 14
      · have hidx : ∀ W, (Instr.index 140 V (.int .i64 k)).run Try.prog W = .ok (.agg #[.int .u16 (prC.getD k 0), prD k, prH k]) W := fun W => HI.out k hlt W
        have hf := Lib.hid (HF.out k hlt hno)
        have hno' : ∀ (h : (prC.getD k 0 == cc) = false) j, j < k + 1 → (prC.getD j 0 == cc) = false := fun h j hj => by
          rcases Nat.lt_succ_iff_lt_or_eq.1 hj with h1 | rfl
          · exact hno j h1
          · exact h
        generalize hpc : prC.getD k 0 = pcode at *
        have HPC := Lib.hid hpc
        clear hno hpc
        by_cases h10 : k < 10
        · have e1 : prD k = .func (.func (prF k)) #[] #[] := by unfold prD; rw [if_pos h10]
          have e2 : prH k = .nilFunc := by unfold prH; rw [if_pos h10]
          have HE1 := Lib.hid e1
          have HE2 := Lib.hid e2
          rw [e1, e2] at hidx
          clear e1 e2
          generalize prF k = F at *
          have Bw := Blk.new wr 132 #[.int .u16 pcode, .func (.func F) #[] #[], .nilFunc]
          have hxa := hx.alloc (.cells #[.int .u16 pcode, .func (.func F) #[] #[], .nilFunc] 132)
          have B1 := B0.alloc (.cells #[.int .u16 pcode, .func (.func F) #[] #[], .nilFunc] 132)
          by_cases h : (pcode == cc) = true
          · have hkk := hf.out h
            obtain ⟨g1, g2, g3⟩ := HG.out k hkk
            rw [HE1.out] at g2
            rw [HE2.out] at g3
            rw [HPC.out] at g1
            subst g1 g2 g3
            clear hno' hf HF HN HI HE hx B0 hkk HE1 HE2 HG HPC
            go_wp2_with (first | (refine wpList_load_blk rfl 132 (.tmp 4) rfl _ _ _ _ rfl Bw Try.underlying132 rfl (by kernel_rfl) ?_) | (refine wpList_store_all rfl 132 (.tmp 2) (.tmp 17) rfl _ _ _ _ rfl rfl B1 rfl (by kernel_rfl) (by simp [Value.oneCell']) ?_; intro wz Bz hgz))
            exact bodyPost_ret (results_blk1 rfl _ _ _ _ _ _ rfl Bz Try.underlying132 rfl (by kernel_rfl)) rfl ⟨rfl, hxa.grown hgz (fun k e => by cases e; exact Nat.le_refl _)⟩
          · have h : (pcode == cc) = false := by simpa using h
            replace hno' := hno' h
            clear hf Bw hx B0
            go_wp2
            go_roundw
            case rel => exact ⟨k + 1, by omega, by go_num, hno', hxa, B1⟩
            case measure => simp [intOf]; omega
        · have e1 : prD k = .nilFunc := by unfold prD; rw [if_neg h10]
          have e2 : prH k = .func (.func (prF k)) #[] #[] := by unfold prH; rw [if_neg h10]
          have HE1 := Lib.hid e1
          have HE2 := Lib.hid e2
          rw [e1, e2] at hidx
          clear e1 e2
          generalize prF k = F at *
          have Bw := Blk.new wr 132 #[.int .u16 pcode, .nilFunc, .func (.func F) #[] #[]]
          have hxa := hx.alloc (.cells #[.int .u16 pcode, .nilFunc, .func (.func F) #[] #[]] 132)
          have B1 := B0.alloc (.cells #[.int .u16 pcode, .nilFunc, .func (.func F) #[] #[]] 132)
          by_cases h : (pcode == cc) = true
          · have hkk := hf.out h
            obtain ⟨g1, g2, g3⟩ := HG.out k hkk
            rw [HE1.out] at g2
            rw [HE2.out] at g3
            rw [HPC.out] at g1
            subst g1 g2 g3
            clear hno' hf HF HN HI HE hx B0 hkk HE1 HE2 HG HPC
            go_wp2_with (first | (refine wpList_load_blk rfl 132 (.tmp 4) rfl _ _ _ _ rfl Bw Try.underlying132 rfl (by kernel_rfl) ?_) | (refine wpList_store_all rfl 132 (.tmp 2) (.tmp 17) rfl _ _ _ _ rfl rfl B1 rfl (by kernel_rfl) (by simp [Value.oneCell']) ?_; intro wz Bz hgz))
            exact bodyPost_ret (results_blk1 rfl _ _ _ _ _ _ rfl Bz Try.underlying132 rfl (by kernel_rfl)) rfl ⟨rfl, hxa.grown hgz (fun k e => by cases e; exact Nat.le_refl _)⟩
          · have h : (pcode == cc) = false := by simpa using h
            replace hno' := hno' h
            clear hf Bw hx B0
            go_wp2
            go_roundw
            case rel => exact ⟨k + 1, by omega, by go_num, hno', hxa, B1⟩
            case measure => simp [intOf]; omega
      · obtain rfl : k = 14 := by omega
        exact absurd (HN.out hno) (by omega)
  · have e0 : bits .andNot .u16 c 8 = cc := HCC.out.symm
    clear HCC
    go_wp2_with fail
    clear e0
    refine (HE.out _).mono ?_
    rintro e w1 ⟨rfl, hx1⟩
    replace hx0 := hx0.trans hx1
    replace B0 := B0.ext hx1
    clear hx1
    go_wp2_with fail
    go_loopw [10] (fun i wr => ∃ k : Nat, k ≤ 14 ∧ i = .int .i64 k ∧ (∀ j, j < k → (prC.getD j 0 == cc) = false) ∧ Ext W wr ∧ Blk wr W.heap.size 132 #[.int .u16 0, .nilFunc, .nilFunc]) (fun i _ => 14 - (intOf i).toNat)
    case atStart => exact ⟨0, by decide, rfl, fun j hj => absurd hj (by omega), hx0, B0⟩
    case round =>
      clear hx0 B0
      obtain ⟨k, hk, rfl, hno, hx, B0⟩ := hrel
      by_cases hlt : k < 14
      · have hidx : ∀ W, (Instr.index 140 V (.int .i64 k)).run Try.prog W = .ok (.agg #[.int .u16 (prC.getD k 0), prD k, prH k]) W := fun W => HI.out k hlt W
        have hf := Lib.hid (HF.out k hlt hno)
        have hno' : ∀ (h : (prC.getD k 0 == cc) = false) j, j < k + 1 → (prC.getD j 0 == cc) = false := fun h j hj => by
          rcases Nat.lt_succ_iff_lt_or_eq.1 hj with h1 | rfl
          · exact hno j h1
          · exact h
        generalize hpc : prC.getD k 0 = pcode at *
        have HPC := Lib.hid hpc
        clear hno hpc
        by_cases h10 : k < 10
        · have e1 : prD k = .func (.func (prF k)) #[] #[] := by unfold prD; rw [if_pos h10]
          have e2 : prH k = .nilFunc := by unfold prH; rw [if_pos h10]
          have HE1 := Lib.hid e1
          have HE2 := Lib.hid e2
          rw [e1, e2] at hidx
          clear e1 e2
          generalize prF k = F at *
          have Bw := Blk.new wr 132 #[.int .u16 pcode, .func (.func F) #[] #[], .nilFunc]
          have hxa := hx.alloc (.cells #[.int .u16 pcode, .func (.func F) #[] #[], .nilFunc] 132)
          have B1 := B0.alloc (.cells #[.int .u16 pcode, .func (.func F) #[] #[], .nilFunc] 132)
          by_cases h : (pcode == cc) = true
          · have hkk := hf.out h
            obtain ⟨g1, g2, g3⟩ := HG.out k hkk
            rw [HE1.out] at g2
            rw [HE2.out] at g3
            rw [HPC.out] at g1
            subst g1 g2 g3
            clear hno' hf HF HN HI HE hx B0 hkk HE1 HE2 HG HPC
            go_wp2_with (first | (refine wpList_load_blk rfl 132 (.tmp 4) rfl _ _ _ _ rfl Bw Try.underlying132 rfl (by kernel_rfl) ?_) | (refine wpList_store_all rfl 132 (.tmp 2) (.tmp 17) rfl _ _ _ _ rfl rfl B1 rfl (by kernel_rfl) (by simp [Value.oneCell']) ?_; intro wz Bz hgz))
            exact bodyPost_ret (results_blk1 rfl _ _ _ _ _ _ rfl Bz Try.underlying132 rfl (by kernel_rfl)) rfl ⟨rfl, hxa.grown hgz (fun k e => by cases e; exact Nat.le_refl _)⟩
          · have h : (pcode == cc) = false := by simpa using h
            replace hno' := hno' h
            clear hf Bw hx B0
            go_wp2
            go_roundw
            case rel => exact ⟨k + 1, by omega, by go_num, hno', hxa, B1⟩
            case measure => simp [intOf]; omega
        · have e1 : prD k = .nilFunc := by unfold prD; rw [if_neg h10]
          have e2 : prH k = .func (.func (prF k)) #[] #[] := by unfold prH; rw [if_neg h10]
          have HE1 := Lib.hid e1
          have HE2 := Lib.hid e2
          rw [e1, e2] at hidx
          clear e1 e2
          generalize prF k = F at *
          have Bw := Blk.new wr 132 #[.int .u16 pcode, .nilFunc, .func (.func F) #[] #[]]
          have hxa := hx.alloc (.cells #[.int .u16 pcode, .nilFunc, .func (.func F) #[] #[]] 132)
          have B1 := B0.alloc (.cells #[.int .u16 pcode, .nilFunc, .func (.func F) #[] #[]] 132)
          by_cases h : (pcode == cc) = true
          · have hkk := hf.out h
            obtain ⟨g1, g2, g3⟩ := HG.out k hkk
            rw [HE1.out] at g2
            rw [HE2.out] at g3
            rw [HPC.out] at g1
            subst g1 g2 g3
            clear hno' hf HF HN HI HE hx B0 hkk HE1 HE2 HG HPC
            go_wp2_with (first | (refine wpList_load_blk rfl 132 (.tmp 4) rfl _ _ _ _ rfl Bw Try.underlying132 rfl (by kernel_rfl) ?_) | (refine wpList_store_all rfl 132 (.tmp 2) (.tmp 17) rfl _ _ _ _ rfl rfl B1 rfl (by kernel_rfl) (by simp [Value.oneCell']) ?_; intro wz Bz hgz))
            exact bodyPost_ret (results_blk1 rfl _ _ _ _ _ _ rfl Bz Try.underlying132 rfl (by kernel_rfl)) rfl ⟨rfl, hxa.grown hgz (fun k e => by cases e; exact Nat.le_refl _)⟩
          · have h : (pcode == cc) = false := by simpa using h
            replace hno' := hno' h
            clear hf Bw hx B0
            go_wp2
            go_roundw
            case rel => exact ⟨k + 1, by omega, by go_num, hno', hxa, B1⟩
            case measure => simp [intOf]; omega
      · obtain rfl : k = 14 := by omega
        exact absurd (HN.out hno) (by omega)
end Go.Proofs.Ytkejcfbhikpibaa
