import Derived.Test.YtplpffcolcjboaaCells22
import Derived.Test.YtplpffcolcjboaaWalkInsn4
/- The law CellsLimit, walked. -/
namespace Go.Proofs.Ytplpffcolcjboaa
open Go.RowKit Go.ChangeShapes Go.WideShapes
set_option linter.unusedVariables false
set_option linter.unusedSimpArgs false

set_option maxHeartbeats 2000000 in
set_option maxRecDepth 100000 in
theorem cellsLimit_walk (a : Int) (ha : (Lit.int .i64 a).wf = true) (W : World) :
    Calls Try.prog 10 #[.int .i64 a] W fun e w' => e = .returned (.bool true) ∧ Ext W w' := by
  by_cases h1 : a < 4090
  · go_enter Try.func10, Try.ntmps10
    go_wp2
    go_ret
    exact ⟨rfl, Ext.refl _⟩
  by_cases h2 : 4100 < a
  · go_enter Try.func10, Try.ntmps10
    go_wp2
    go_ret
    exact ⟨rfl, Ext.refl _⟩
  obtain ⟨n, rfl⟩ : ∃ n : Nat, a = (n : Int) := ⟨a.toNat, by omega⟩
  have n1 : 4090 ≤ n := by omega
  have n2 : n ≤ 4100 := by omega
  obtain ⟨i0, hi, hz0, hz1, hz2⟩ := info_parts info_ins
  have hrep : (madeCells #[Value.int .u16 0, .int .u8 0, .int .u8 0, .int .u32 0] (n * 4)) = (pc (taxs 0 n)).toArray := by
    apply Array.toList_inj.1
    rw [rep4, taxs_zero]
  have hmk : ∀ w : World, (Instr.makeSlice 30 (.int .i64 (n : Int)) (.int .i64 (n : Int))).run Try.prog w = .ok (.slice (some ⟨w.heap.size, 0, none⟩) n n) (w.alloc (.cells (pc (taxs 0 n)).toArray 25)) := fun w => by
    have := make_run 30 25 i0 _ Try.underlying30 hi hz0 .i64 .i64 n n (Nat.le_refl _) (by omega) (by omega) w
    rw [hz1] at this
    rw [← hrep]
    exact this
  clear hi hz0 hz1 hz2 ha h1 h2 hrep
  have hx := (Ext.refl W).alloc (.cells (pc (taxs 0 n)).toArray 25)
  have hB := Blk.new W 25 (pc (taxs 0 n)).toArray
  have HTS := Lib.hid (taxs_set · n)
  have HTL := Lib.hid (fun k h => taxs_len k n h)
  have R := Lib.hid (fun A c W h => reachedI A n c (List.replicate n taxI) W List.length_replicate (taxs_ok n) h)
  have S := Lib.hid (fun A c W h => sureI A n c (List.replicate n taxI) W List.length_replicate (taxs_ok n) h)
  have N := Lib.hid (fun A c (x : Int) W h => nextI A n c (List.replicate n taxI) x W List.length_replicate (by omega) (taxs_ok n) h)
  go_enter Try.func10, Try.ntmps10
  go_wp2_with fail
  go_loopw [4] (fun i wr => ∃ k : Nat, k ≤ n ∧ i = .int .i64 k ∧ Ext W wr ∧ Blk wr W.heap.size 25 (pc (taxs k n)).toArray) (fun i _ => n - (intOf i).toNat)
  case atStart => exact ⟨0, by omega, rfl, hx, hB⟩
  case round =>
    clear hx hB
    obtain ⟨k, hk, rfl, hx, hB⟩ := hrel
    by_cases hlt : k < n
    · have k1 : (0 : Int) ≤ k := by omega
      have k2 : (k : Int) < n := by omega
      obtain ⟨v, hv⟩ : ∃ v, wr.cell? ⟨W.heap.size, k * 4, none⟩ = some v := ⟨_, (hB.cell (k * 4)).trans (Array.getElem?_eq_getElem (by simp [pc_length, HTL.out k hk]; omega))⟩
      have hf := hB.frozen (k * 4)
      have hB2 := hB.set_ (k * 4) (.int .u16 7)
      rw [HTS.out k hlt] at hB2
      have hx2 := Ext.set hx (p := ⟨W.heap.size, k * 4, none⟩) (Nat.le_refl _) (.int .u16 7)
      have HB2 := Lib.hid hB2
      have HX2 := Lib.hid hx2
      clear hB2 hx2 hB hx
      go_wp2_with fail
      go_roundw
      case rel => exact ⟨k + 1, by omega, by go_num, HX2.out, HB2.out⟩
      case measure => simp [intOf]; omega
    · obtain rfl : k = n := by omega
      rw [taxs_all] at hB
      have hM : InM wr (some ⟨W.heap.size, 0, none⟩) (pc (List.replicate k taxI)) := InM.ofBlk hB (by simp)
      clear hB hmk HTS HTL
      have HM := Lib.hid hM
      clear hM
      by_cases big : 4096 < k
      · have b1 : (4096 : Int) < k := by omega
        have er : reachT (List.replicate k taxI) = [] := by unfold reachT; rw [if_pos (by simpa using big)]
        have es : sureT (List.replicate k taxI) = [] := by unfold sureT; rw [if_pos (by simpa using big)]
        have en : nextL (List.replicate k taxI) 5 = [] := by unfold nextL; rw [if_pos (.inr (.inr (by simpa using big)))]
        have N5 := Lib.hid (fun A c W h => N.out A c 5 W h)
        rw [er] at R
        rw [es] at S
        rw [en] at N5
        simp only [List.length_nil] at R S N5
        clear er es en N
        go_wp2_with fail
        refine (R.out _ _ _ HM.out).mono ?_
        rintro e w1 ⟨A1, rfl, _, hx1⟩
        go_wp2_with fail
        refine (S.out _ _ _ (HM.out.ext hx1)).mono ?_
        rintro e w2 ⟨A2, rfl, _, hx2⟩
        go_wp2_with fail
        refine (N5.out _ _ _ ((HM.out.ext hx1).ext hx2)).mono ?_
        rintro e w3 ⟨A3, c3, rfl, _, hx3⟩
        go_wp2
        go_ret
        exact ⟨rfl, ((hx.trans hx1).trans hx2).trans hx3⟩
      · have b1 : ¬ (4096 : Int) < k := by omega
        obtain ⟨lr, hr⟩ := tax_reachT k (by omega) (by omega)
        obtain ⟨ls, hs⟩ := tax_sureT k (by omega) (k - 1) (by omega)
        have en : nextL (List.replicate k taxI) 5 = [6] := by
          have := tax_next k 5 (by omega) (by omega)
          rw [if_pos (by omega)] at this
          exact this
        have N5 := Lib.hid (fun A c W h => N.out A c 5 W h)
        rw [en] at N5
        rw [lr] at R
        rw [ls] at S
        simp only [List.length_cons, List.length_nil, Nat.zero_add] at N5
        generalize reachT (List.replicate k taxI) = rl at *
        generalize sureT (List.replicate k taxI) = sl at *
        have HR := Lib.hid hr
        have HS := Lib.hid hs
        clear hr hs lr ls en N
        have t1 : IntKind.i64.wrap ((k : Int) - 1) = ((k - 1 : Nat) : Int) := by rw [show ((k : Int) - 1) = ((k - 1 : Nat) : Int) by omega]; exact IntWalk.i64_in _ (by omega)
        have t2 : (0 : Int) ≤ ((k - 1 : Nat) : Int) := by omega
        have t3 : ((k - 1 : Nat) : Int) < k := by omega
        go_wp2_with fail
        refine (R.out _ _ _ HM.out).mono ?_
        rintro e w1 ⟨A1, rfl, hA1, hx1⟩
        go_wp2_with fail
        refine (S.out _ _ _ (HM.out.ext hx1)).mono ?_
        rintro e w2 ⟨A2, rfl, hA2, hx2⟩
        go_wp2_with fail
        refine (N5.out _ _ _ ((HM.out.ext hx1).ext hx2)).mono ?_
        rintro e w3 ⟨A3, c3, rfl, _, hx3⟩
        replace hA1 := (hA1.ext hx2).ext hx3
        replace hA2 := hA2.ext hx3
        obtain ⟨b1', o1, hq1, hc1⟩ := hA1 (k - 1) (.bool true) (by rw [List.getElem?_map, HR.out]; rfl)
        obtain ⟨b2', o2, hq2, hc2⟩ := hA2 (k - 1) (.int .u16 0) (by rw [nums, List.getElem?_map, HS.out]; rfl)
        subst hq1 hq2
        have hz := ((hx.trans hx1).trans hx2).trans hx3
        clear hA1 hA2 hx hx1 hx2 hx3
        generalize hk1 : k - 1 = k1' at *
        go_wp2
        go_ret
        exact ⟨rfl, hz⟩
end Go.Proofs.Ytplpffcolcjboaa
