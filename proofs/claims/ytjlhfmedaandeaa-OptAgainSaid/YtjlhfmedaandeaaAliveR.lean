import Derived.Test.YtjlhfmedaandeaaAliveW
/- vestibuleref26.Alive: walked. -/
namespace Go.Proofs.Ytjlhfmedaandeaa
open Go.RowKit Go.ChangeShapes Go.WideShapes
set_option linter.unusedVariables false
set_option linter.unusedSimpArgs false

def preA (ps : List Sy) (i n : Nat) : List Bool := (List.range i).map (aliveAt ps) ++ List.replicate (n - i) false
theorem preA_length (ps : List Sy) (i n : Nat) (h : i ≤ n) : (preA ps i n).length = n := by simp [preA]; omega
theorem fillA_length (ps : List Sy) (i n : Nat) (b : Bool) (h : i < n) : (fillA ps i b n).length = n := by simp [fillA]; omega
theorem preA_set (ps : List Sy) (i n : Nat) (b : Bool) (h : i < n) : (preA ps i n).set i b = fillA ps i b n := by
  unfold preA fillA
  rw [List.set_append_right _ _ (by simp), List.length_map, List.length_range, Nat.sub_self, show n - i = (n - (i + 1)) + 1 by omega, List.replicate_succ, List.set_cons_zero]
theorem fillA_set (ps : List Sy) (i n : Nat) (b b' : Bool) : (fillA ps i b n).set i b' = fillA ps i b' n := by
  unfold fillA
  rw [List.set_append_right _ _ (by simp), List.length_map, List.length_range, Nat.sub_self, List.set_cons_zero]
theorem fillA_next (ps : List Sy) (i n : Nat) : fillA ps i (aliveAt ps i) n = preA ps (i + 1) n := by
  unfold fillA preA
  rw [List.range_succ, List.map_append, List.append_assoc]
  rfl
theorem fillA_at (ps : List Sy) (i n k : Nat) (b : Bool) (h : k < i) : (bools (fillA ps i b n))[k]? = some (.bool (aliveAt ps k)) := by
  unfold bools fillA
  rw [List.getElem?_toArray, List.getElem?_map, List.getElem?_append_left (by simpa using h), List.getElem?_map, List.getElem?_range h]
  rfl
theorem fillA_own (ps : List Sy) (i n : Nat) (b : Bool) : (bools (fillA ps i b n))[i]? = some (.bool b) := by
  unfold bools fillA
  rw [List.getElem?_toArray, List.getElem?_map, List.getElem?_append_right (by simp), List.length_map, List.length_range, Nat.sub_self]
  rfl
set_option maxHeartbeats 4000000 in
set_option maxRecDepth 100000 in
theorem refAlive (A : Option Addr) (n c : Nat) (ps : List Sy) (w : World) (hp : ps.length = n) (hmay : MayL ps) (hM : InM w A (sc ps)) :
    Calls Try.prog 15 #[.slice A n c] w fun e w' => e = .returned (.slice (some ⟨w.heap.size, 0, none⟩) n n) ∧ Blk w' w.heap.size 4 (bools (aliveT ps)) ∧ Ext w w' := by
  have n1 : 1 ≤ n := by have := hmay.l1; omega
  have n2 : n ≤ 131072 := by have := hmay.l2; omega
  have hmk : ∀ w : World, (Instr.makeSlice 23 (.int .i64 (n : Int)) (.int .i64 (n : Int))).run Try.prog w = .ok (.slice (some ⟨w.heap.size, 0, none⟩) n n) (w.alloc (.cells (bools (List.replicate n false)) 4)) := fun w => by
    rw [← bools_rep]
    exact make_run1 23 4 (.bool false) 1 Try.underlying23 info_bool rfl .i64 .i64 n n (Nat.le_refl _) (by omega) (by decide) w
  have HM := Lib.hid hM
  have HP := Lib.hid hp
  have HY := Lib.hid hmay
  have HT := Lib.hid (show aliveT ps = preA ps n n from by rw [alive_same hmay, hp]; unfold preA; simp)
  have X0 := Lib.hid ((Ext.refl w).alloc (.cells (bools (List.replicate n false)) 4))
  have B0 := Lib.hid (show Blk (w.alloc (.cells (bools (List.replicate n false)) 4)) w.heap.size 4 (bools (preA ps 0 n)) from by
    have h := Blk.new w 4 (bools (List.replicate n false))
    have e : preA ps 0 n = List.replicate n false := by simp [preA]
    rw [e]
    exact h)
  have n4 : (n : Int) ≤ 131072 := by omega
  clear hM hp hmay
  go_enter Try.func15, Try.ntmps15
  go_wp2_with fail
  go_loopw [4] (fun it W => ∃ i : Nat, i ≤ n ∧ it = .int .i64 i ∧ Ext w W ∧ Blk W w.heap.size 4 (bools (preA ps i n))) (fun it _ => n - (intOf it).toNat)
  case atStart => exact ⟨0, Nat.zero_le _, rfl, X0.out, B0.out⟩
  case round =>
    obtain ⟨i, hi, rfl, hy, hB⟩ := hrel
    by_cases hlt : i < n
    · have c0 := (hB.cell i).trans (bools_at (preA ps i n) i (by rw [preA_length ps i n hi]; exact hlt))
      have f0 := hB.frozen i
      have i0 : (0 : Int) ≤ i := by omega
      have i1 : (i : Int) < n := by omega
      have i2 : (i : Int) ≤ 131072 := by omega
      have he : ((i : Int) == 0) = inner ps i 0 := by
        unfold inner
        by_cases e : i = 0
        · subst e; rfl
        · have : ¬ ((i : Int) = 0) := by omega
          simp [e, this]
      have b1 := hB.set_ i (.bool (inner ps i 0))
      rw [bools_set, preA_set ps i n _ hlt] at b1
      have B1 := Lib.hid b1
      have X1 := Lib.hid (hy.set (p := ⟨w.heap.size, i, none⟩) (Nat.le_refl _) (.bool (inner ps i 0)))
      clear b1
      go_wp2_with fail
      clear c0 f0
      go_loopw [5] (fun it W => ∃ k : Nat, k ≤ i ∧ it = .int .i64 k ∧ Ext w W ∧ Blk W w.heap.size 4 (bools (fillA ps i (inner ps i k) n))) (fun it _ => i - (intOf it).toNat)
      case atStart => exact ⟨0, Nat.zero_le _, rfl, X1.out, B1.out⟩
      case round =>
        clear X1 B1 hB hy he
        obtain ⟨k, hk, rfl, hy, hB⟩ := hrel
        by_cases hki : k < i
        · have hkp : k < ps.length := by rw [HP.out]; omega
          obtain ⟨bA, oA, rfl, hbA⟩ := sym_some HM.out (by omega)
          obtain ⟨p0, p1, p2, p3⟩ := sym_cells (HM.out.ext hy) hkp
          have hK := kind_of (HY.out.one k hkp)
          have hL := lead_kind hK k i
          have IN := Lib.hid (inner_succ ps i k)
          have k1 : (0 : Int) ≤ k := by omega
          have k2 : (k : Int) < i := by omega
          have k3 : (k : Int) < n := by omega
          rw [getD_sy hkp] at hK hL IN
          have HJ := Lib.hid (fun W' => refJump26 ps[k] W')
          have HA := Lib.hid (fun W' => refAsks26 ps[k] W')
          generalize ps[k] = s at *
          obtain ⟨co, kk, th, el⟩ := s
          dsimp only at p0 p1 p2 p3
          have bs := Blk.new wr 32 #[.int .u16 co, .int .u32 kk, .int .i64 th, .int .i64 el]
          have hya := hy.alloc (.cells #[.int .u16 co, .int .u32 kk, .int .i64 th, .int .i64 el] 32)
          have hBa := hB.alloc (.cells #[.int .u16 co, .int .u32 kk, .int .i64 th, .int .i64 el] 32)
          unfold jumpS at HJ
          unfold Sy.val Sy.cells at HJ HA
          dsimp only at HJ HA hL
          have s0 := bs.cell 0
          have s1 := bs.cell 1
          have s2 := bs.cell 2
          have s3 := bs.cell 3
          clear hB hy hbA hkp
          by_cases h6 : co = 6
          · have e6 : (co != 6) = false := by simpa using h6
            rw [if_pos h6] at hL
            have LD := Lib.hid hL
            have hA : asksC co = false := by rw [h6]; rfl
            have hJ : (co == 5) = false := by rw [h6]; rfl
            rw [hA, hJ] at HJ
            rw [hA] at HA
            clear hK hL h6
            go_wp2_with fail
            refine (HJ.out _).mono ?_
            rintro e w1 ⟨rfl, hx9⟩
            have hx1 := Ext.trans (Ext.refl _) hx9
            have bs1 := bs.ext hx1
            clear s0 s1 s2 s3 hx9
            have s0 := (bs1).cell 0
            have s1 := (bs1).cell 1
            have s2 := (bs1).cell 2
            have s3 := (bs1).cell 3
            go_wp2_with fail
            refine (HJ.out _).mono ?_
            rintro e w2 ⟨rfl, hx9⟩
            have hx2 := Ext.trans hx1 hx9
            have bs2 := bs.ext hx2
            clear s0 s1 s2 s3 hx9
            have s0 := (bs2).cell 0
            have s1 := (bs2).cell 1
            have s2 := (bs2).cell 2
            have s3 := (bs2).cell 3
            go_wp2_with fail
            refine (HA.out _).mono ?_
            rintro e w3 ⟨rfl, hx9⟩
            have hx3 := Ext.trans hx2 hx9
            have bs3 := bs.ext hx3
            clear s0 s1 s2 s3 hx9
            have s0 := (bs3).cell 0
            have s1 := (bs3).cell 1
            have s2 := (bs3).cell 2
            have s3 := (bs3).cell 3
            have hBN := hBa.ext hx3
            have cN := (hBN.cell k).trans (fillA_at ps i n k (inner ps i k) hki)
            rcases hal : aliveAt ps k with _ | _
            all_goals
              rw [hal] at cN
              go_wp2_with fail
              go_roundw
              case rel => exact ⟨k + 1, by omega, by go_num, hya.trans hx3, by rw [IN.out, LD.out, Bool.and_false, Bool.or_false]; exact hBN⟩
              case measure => simp [intOf]; omega
          rw [if_neg h6] at hL
          have e6 : (co != 6) = true := by simpa using h6
          by_cases h2 : co = 32 ∨ co = 84
          · rw [if_pos h2] at hL
            have hA : asksC co = false := by rcases h2 with h | h <;> rw [h] <;> rfl
            have hJ : (co == 5) = false := by rcases h2 with h | h <;> rw [h] <;> rfl
            rw [hA, hJ] at HJ
            rw [hA] at HA
            clear hK h6 h2
            by_cases e1 : i = k + 1
            · have e2 : ((i : Int) == (k : Int) + 1) = true := by simp; omega
              have LD := Lib.hid (hL.trans (decide_eq_true e1))
              clear hL e1
              go_wp2_with fail
              refine (HJ.out _).mono ?_
              rintro e w1 ⟨rfl, hx9⟩
              have hx1 := Ext.trans (Ext.refl _) hx9
              have bs1 := bs.ext hx1
              clear s0 s1 s2 s3 hx9
              have s0 := (bs1).cell 0
              have s1 := (bs1).cell 1
              have s2 := (bs1).cell 2
              have s3 := (bs1).cell 3
              have hBN := hBa.ext hx1
              have cN := (hBN.cell k).trans (fillA_at ps i n k (inner ps i k) hki)
              rcases hal : aliveAt ps k with _ | _
              · have HAL := Lib.hid hal
                rw [hal] at cN
                go_wp2_with fail
                go_roundw
                case rel => exact ⟨k + 1, by omega, by go_num, hya.trans hx1, by rw [IN.out, HAL.out, Bool.false_and, Bool.or_false]; exact hBN⟩
                case measure => simp [intOf]; omega
              · have HAL := Lib.hid hal
                rw [hal] at cN
                have cI := (hBN.cell i).trans (fillA_own ps i n (inner ps i k))
                have fI := hBN.frozen i
                go_wp2_with fail
                go_roundw
                case rel =>
                  have hs := hBN.set_ i (.bool true)
                  rw [bools_set, fillA_set] at hs
                  exact ⟨k + 1, by omega, by go_num, (hya.trans hx1).set (p := ⟨w.heap.size, i, none⟩) (Nat.le_refl _) _, by rw [IN.out, HAL.out, LD.out, Bool.true_and, Bool.or_true]; exact hs⟩
                case measure => simp [intOf]; omega
            · have e2 : ((i : Int) == (k : Int) + 1) = false := by simp; omega
              have LD := Lib.hid (hL.trans (decide_eq_false e1))
              clear hL e1
              go_wp2_with fail
              refine (HJ.out _).mono ?_
              rintro e w1 ⟨rfl, hx9⟩
              have hx1 := Ext.trans (Ext.refl _) hx9
              have bs1 := bs.ext hx1
              clear s0 s1 s2 s3 hx9
              have s0 := (bs1).cell 0
              have s1 := (bs1).cell 1
              have s2 := (bs1).cell 2
              have s3 := (bs1).cell 3
              go_wp2_with fail
              refine (HJ.out _).mono ?_
              rintro e w2 ⟨rfl, hx9⟩
              have hx2 := Ext.trans hx1 hx9
              have bs2 := bs.ext hx2
              clear s0 s1 s2 s3 hx9
              have s0 := (bs2).cell 0
              have s1 := (bs2).cell 1
              have s2 := (bs2).cell 2
              have s3 := (bs2).cell 3
              go_wp2_with fail
              refine (HA.out _).mono ?_
              rintro e w3 ⟨rfl, hx9⟩
              have hx3 := Ext.trans hx2 hx9
              have bs3 := bs.ext hx3
              clear s0 s1 s2 s3 hx9
              have s0 := (bs3).cell 0
              have s1 := (bs3).cell 1
              have s2 := (bs3).cell 2
              have s3 := (bs3).cell 3
              have hBN := hBa.ext hx3
              have cN := (hBN.cell k).trans (fillA_at ps i n k (inner ps i k) hki)
              rcases hal : aliveAt ps k with _ | _
              all_goals
                rw [hal] at cN
                go_wp2_with fail
                go_roundw
                case rel => exact ⟨k + 1, by omega, by go_num, hya.trans hx3, by rw [IN.out, LD.out, Bool.and_false, Bool.or_false]; exact hBN⟩
                case measure => simp [intOf]; omega
          rw [if_neg h2] at hL
          by_cases h5 : co = 5
          · rw [if_pos h5] at hL
            have hA : asksC co = false := by rw [h5]; rfl
            have hJ : (co == 5) = true := by rw [h5]; rfl
            rw [hA, hJ] at HJ
            rw [hA] at HA
            clear hK h6 h2 h5
            rcases e2 : (th == (i : Int)) with _ | _
            · have LD := Lib.hid (hL.trans e2)
              clear hL
              go_wp2_with fail
              refine (HJ.out _).mono ?_
              rintro e w1 ⟨rfl, hx9⟩
              have hx1 := Ext.trans (Ext.refl _) hx9
              have bs1 := bs.ext hx1
              clear s0 s1 s2 s3 hx9
              have s0 := (bs1).cell 0
              have s1 := (bs1).cell 1
              have s2 := (bs1).cell 2
              have s3 := (bs1).cell 3
              go_wp2_with fail
              refine (HJ.out _).mono ?_
              rintro e w2 ⟨rfl, hx9⟩
              have hx2 := Ext.trans hx1 hx9
              have bs2 := bs.ext hx2
              clear s0 s1 s2 s3 hx9
              have s0 := (bs2).cell 0
              have s1 := (bs2).cell 1
              have s2 := (bs2).cell 2
              have s3 := (bs2).cell 3
              go_wp2_with fail
              refine (HA.out _).mono ?_
              rintro e w3 ⟨rfl, hx9⟩
              have hx3 := Ext.trans hx2 hx9
              have bs3 := bs.ext hx3
              clear s0 s1 s2 s3 hx9
              have s0 := (bs3).cell 0
              have s1 := (bs3).cell 1
              have s2 := (bs3).cell 2
              have s3 := (bs3).cell 3
              have hBN := hBa.ext hx3
              have cN := (hBN.cell k).trans (fillA_at ps i n k (inner ps i k) hki)
              rcases hal : aliveAt ps k with _ | _
              all_goals
                rw [hal] at cN
                go_wp2_with fail
                go_roundw
                case rel => exact ⟨k + 1, by omega, by go_num, hya.trans hx3, by rw [IN.out, LD.out, Bool.and_false, Bool.or_false]; exact hBN⟩
                case measure => simp [intOf]; omega
            · have LD := Lib.hid (hL.trans e2)
              clear hL
              go_wp2_with fail
              refine (HJ.out _).mono ?_
              rintro e w1 ⟨rfl, hx9⟩
              have hx1 := Ext.trans (Ext.refl _) hx9
              have bs1 := bs.ext hx1
              clear s0 s1 s2 s3 hx9
              have s0 := (bs1).cell 0
              have s1 := (bs1).cell 1
              have s2 := (bs1).cell 2
              have s3 := (bs1).cell 3
              go_wp2_with fail
              refine (HJ.out _).mono ?_
              rintro e w2 ⟨rfl, hx9⟩
              have hx2 := Ext.trans hx1 hx9
              have bs2 := bs.ext hx2
              clear s0 s1 s2 s3 hx9
              have s0 := (bs2).cell 0
              have s1 := (bs2).cell 1
              have s2 := (bs2).cell 2
              have s3 := (bs2).cell 3
              have hBN := hBa.ext hx2
              have cN := (hBN.cell k).trans (fillA_at ps i n k (inner ps i k) hki)
              rcases hal : aliveAt ps k with _ | _
              · have HAL := Lib.hid hal
                rw [hal] at cN
                go_wp2_with fail
                go_roundw
                case rel => exact ⟨k + 1, by omega, by go_num, hya.trans hx2, by rw [IN.out, HAL.out, Bool.false_and, Bool.or_false]; exact hBN⟩
                case measure => simp [intOf]; omega
              · have HAL := Lib.hid hal
                rw [hal] at cN
                have cI := (hBN.cell i).trans (fillA_own ps i n (inner ps i k))
                have fI := hBN.frozen i
                go_wp2_with fail
                go_roundw
                case rel =>
                  have hs := hBN.set_ i (.bool true)
                  rw [bools_set, fillA_set] at hs
                  exact ⟨k + 1, by omega, by go_num, (hya.trans hx2).set (p := ⟨w.heap.size, i, none⟩) (Nat.le_refl _) _, by rw [IN.out, HAL.out, LD.out, Bool.true_and, Bool.or_true]; exact hs⟩
                case measure => simp [intOf]; omega
          rw [if_neg h5] at hL
          have hA : asksC co = true := by
            rcases hK with ⟨h, _, _, _⟩ | ⟨h, _, _⟩ | ⟨h, _, _⟩ | ⟨h, _, _, _⟩ | ⟨h, _, _⟩
            · exact absurd (.inl h) h2
            · exact absurd (.inr h) h2
            · exact absurd h h6
            · exact absurd h h5
            · dsimp only at h
              rcases h with h | h | h | h <;> rw [h] <;> rfl
          have hJ : (co == 5) = false := by simpa using h5
          rw [hA, hJ] at HJ
          rw [hA] at HA
          clear hK h6 h2 h5
          rcases e2 : (th == (i : Int)) with _ | _
          · rw [e2, Bool.false_or] at hL
            rcases e3 : (el == (i : Int)) with _ | _
            · have LD := Lib.hid (hL.trans e3)
              clear hL
              go_wp2_with fail
              refine (HJ.out _).mono ?_
              rintro e w1 ⟨rfl, hx9⟩
              have hx1 := Ext.trans (Ext.refl _) hx9
              have bs1 := bs.ext hx1
              clear s0 s1 s2 s3 hx9
              have s0 := (bs1).cell 0
              have s1 := (bs1).cell 1
              have s2 := (bs1).cell 2
              have s3 := (bs1).cell 3
              go_wp2_with fail
              refine (HJ.out _).mono ?_
              rintro e w2 ⟨rfl, hx9⟩
              have hx2 := Ext.trans hx1 hx9
              have bs2 := bs.ext hx2
              clear s0 s1 s2 s3 hx9
              have s0 := (bs2).cell 0
              have s1 := (bs2).cell 1
              have s2 := (bs2).cell 2
              have s3 := (bs2).cell 3
              go_wp2_with fail
              refine (HA.out _).mono ?_
              rintro e w3 ⟨rfl, hx9⟩
              have hx3 := Ext.trans hx2 hx9
              have bs3 := bs.ext hx3
              clear s0 s1 s2 s3 hx9
              have s0 := (bs3).cell 0
              have s1 := (bs3).cell 1
              have s2 := (bs3).cell 2
              have s3 := (bs3).cell 3
              have hBN := hBa.ext hx3
              have cN := (hBN.cell k).trans (fillA_at ps i n k (inner ps i k) hki)
              rcases hal : aliveAt ps k with _ | _
              all_goals
                rw [hal] at cN
                go_wp2_with fail
                go_roundw
                case rel => exact ⟨k + 1, by omega, by go_num, hya.trans hx3, by rw [IN.out, LD.out, Bool.and_false, Bool.or_false]; exact hBN⟩
                case measure => simp [intOf]; omega
            · have LD := Lib.hid (hL.trans e3)
              clear hL
              go_wp2_with fail
              refine (HJ.out _).mono ?_
              rintro e w1 ⟨rfl, hx9⟩
              have hx1 := Ext.trans (Ext.refl _) hx9
              have bs1 := bs.ext hx1
              clear s0 s1 s2 s3 hx9
              have s0 := (bs1).cell 0
              have s1 := (bs1).cell 1
              have s2 := (bs1).cell 2
              have s3 := (bs1).cell 3
              go_wp2_with fail
              refine (HJ.out _).mono ?_
              rintro e w2 ⟨rfl, hx9⟩
              have hx2 := Ext.trans hx1 hx9
              have bs2 := bs.ext hx2
              clear s0 s1 s2 s3 hx9
              have s0 := (bs2).cell 0
              have s1 := (bs2).cell 1
              have s2 := (bs2).cell 2
              have s3 := (bs2).cell 3
              go_wp2_with fail
              refine (HA.out _).mono ?_
              rintro e w3 ⟨rfl, hx9⟩
              have hx3 := Ext.trans hx2 hx9
              have bs3 := bs.ext hx3
              clear s0 s1 s2 s3 hx9
              have s0 := (bs3).cell 0
              have s1 := (bs3).cell 1
              have s2 := (bs3).cell 2
              have s3 := (bs3).cell 3
              have hBN := hBa.ext hx3
              have cN := (hBN.cell k).trans (fillA_at ps i n k (inner ps i k) hki)
              rcases hal : aliveAt ps k with _ | _
              · have HAL := Lib.hid hal
                rw [hal] at cN
                go_wp2_with fail
                go_roundw
                case rel => exact ⟨k + 1, by omega, by go_num, hya.trans hx3, by rw [IN.out, HAL.out, Bool.false_and, Bool.or_false]; exact hBN⟩
                case measure => simp [intOf]; omega
              · have HAL := Lib.hid hal
                rw [hal] at cN
                have cI := (hBN.cell i).trans (fillA_own ps i n (inner ps i k))
                have fI := hBN.frozen i
                go_wp2_with fail
                go_roundw
                case rel =>
                  have hs := hBN.set_ i (.bool true)
                  rw [bools_set, fillA_set] at hs
                  exact ⟨k + 1, by omega, by go_num, (hya.trans hx3).set (p := ⟨w.heap.size, i, none⟩) (Nat.le_refl _) _, by rw [IN.out, HAL.out, LD.out, Bool.true_and, Bool.or_true]; exact hs⟩
                case measure => simp [intOf]; omega
          · rw [e2, Bool.true_or] at hL
            have LD := Lib.hid hL
            clear hL
            go_wp2_with fail
            refine (HJ.out _).mono ?_
            rintro e w1 ⟨rfl, hx9⟩
            have hx1 := Ext.trans (Ext.refl _) hx9
            have bs1 := bs.ext hx1
            clear s0 s1 s2 s3 hx9
            have s0 := (bs1).cell 0
            have s1 := (bs1).cell 1
            have s2 := (bs1).cell 2
            have s3 := (bs1).cell 3
            go_wp2_with fail
            refine (HJ.out _).mono ?_
            rintro e w2 ⟨rfl, hx9⟩
            have hx2 := Ext.trans hx1 hx9
            have bs2 := bs.ext hx2
            clear s0 s1 s2 s3 hx9
            have s0 := (bs2).cell 0
            have s1 := (bs2).cell 1
            have s2 := (bs2).cell 2
            have s3 := (bs2).cell 3
            have hBN := hBa.ext hx2
            have cN := (hBN.cell k).trans (fillA_at ps i n k (inner ps i k) hki)
            rcases hal : aliveAt ps k with _ | _
            · have HAL := Lib.hid hal
              rw [hal] at cN
              go_wp2_with fail
              go_roundw
              case rel => exact ⟨k + 1, by omega, by go_num, hya.trans hx2, by rw [IN.out, HAL.out, Bool.false_and, Bool.or_false]; exact hBN⟩
              case measure => simp [intOf]; omega
            · have HAL := Lib.hid hal
              rw [hal] at cN
              have cI := (hBN.cell i).trans (fillA_own ps i n (inner ps i k))
              have fI := hBN.frozen i
              go_wp2_with fail
              go_roundw
              case rel =>
                have hs := hBN.set_ i (.bool true)
                rw [bools_set, fillA_set] at hs
                exact ⟨k + 1, by omega, by go_num, (hya.trans hx2).set (p := ⟨w.heap.size, i, none⟩) (Nat.le_refl _) _, by rw [IN.out, HAL.out, LD.out, Bool.true_and, Bool.or_true]; exact hs⟩
              case measure => simp [intOf]; omega
        · obtain rfl : k = i := by omega
          have hin := inner_at HY.out k (by rw [HP.out]; exact hlt)
          rw [hin, fillA_next] at hB
          clear hin
          go_wp2_with fail
          go_roundw
          case rel => exact ⟨k + 1, by omega, by go_num, hy, hB⟩
          case measure => simp [intOf]; omega
    · obtain rfl : i = n := by omega
      go_wp2_with fail
      go_ret
      exact ⟨rfl, by rw [HT.out]; exact hB, hy⟩
end Go.Proofs.Ytjlhfmedaandeaa
