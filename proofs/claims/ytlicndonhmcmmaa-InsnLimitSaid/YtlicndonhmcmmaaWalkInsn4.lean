import Derived.Test.YtlicndonhmcmmaaPrg9
import Derived.Test.YtlicndonhmcmmaaPrg7
namespace Go.Proofs.Ytlicndonhmcmmaa
open Go.RowKit Go.ChangeShapes Go.WideShapes
set_option linter.unusedVariables false
set_option linter.unusedSimpArgs false

theorem parse_long' (A : Option Addr) (n c : Nat) (w : World) (hn : n % 8 = 0) (h : 32768 < n) :
    Calls Try.prog 46 #[.slice A n c] w fun e w' => e = .returned (.tuple #[.slice none 0 0, .int .i64 3]) ∧ Ext w w' := parse_long A n c w hn h
theorem rep4 : ∀ n : Nat, (madeCells #[Value.int .u16 0, .int .u8 0, .int .u8 0, .int .u32 0] (n * 4)).toList = pc (List.replicate n zeroI) := fun n => by
  apply List.ext_getElem?
  intro j
  by_cases hj : j < n * 4
  · have hq : j / 4 < (List.replicate n zeroI).length := by rw [List.length_replicate]; omega
    have := pc_at (List.replicate n zeroI) (j / 4) (j % 4) hq (by omega)
    rw [show j / 4 * 4 + j % 4 = j from by omega] at this
    rw [this, List.getElem_replicate]
    have h4 : j % 4 < 4 := by omega
    simp only [madeCells, Array.toList_map, List.getElem?_map, Array.toList_range, List.getElem?_range hj, Option.map_some]
    have e : (#[Value.int .u16 0, .int .u8 0, .int .u8 0, .int .u32 0] : Array Value).size = 4 := rfl
    rw [e]
    generalize j % 4 = r at *
    match r, h4 with
    | 0, _ => rfl
    | 1, _ => rfl
    | 2, _ => rfl
    | 3, _ => rfl
  · rw [List.getElem?_eq_none, List.getElem?_eq_none]
    · rw [pc_length, List.length_replicate]; omega
    · rw [Array.length_toList, size_madeCells]; omega
set_option maxHeartbeats 1000000 in
set_option maxRecDepth 100000 in
theorem insnLimit_walk (a : Int) (ha : (Lit.int .i64 a).wf = true) (W : World) :
    Calls Try.prog 17 #[.int .i64 a] W fun e w' => e = .returned (.bool true) ∧ Ext W w' := by
  by_cases h1 : a < 4090
  · go_enter Try.func17, Try.ntmps17
    go_wp2
    go_ret
    exact ⟨rfl, Ext.refl _⟩
  by_cases h2 : 4100 < a
  · go_enter Try.func17, Try.ntmps17
    go_wp2
    go_ret
    exact ⟨rfl, Ext.refl _⟩
  obtain ⟨n, rfl⟩ : ∃ n : Nat, a = (n : Int) := ⟨a.toNat, by omega⟩
  have n1 : 4090 ≤ n := by omega
  have n2 : n ≤ 4100 := by omega
  obtain ⟨i0, hi, hz0, hz1, hz2⟩ := info_parts info_ins
  have hmk : ∀ w : World, (Instr.makeSlice 67 (.int .i64 (n : Int)) (.int .i64 (n : Int))).run Try.prog w = .ok (.slice (some ⟨w.heap.size, 0, none⟩) n n) (w.alloc (.cells (madeCells #[.int .u16 0, .int .u8 0, .int .u8 0, .int .u32 0] (n * 4)) 73)) := fun w => by
    have := make_run 67 73 i0 _ Try.underlying67 hi hz0 .i64 .i64 n n (Nat.le_refl _) (by omega) (by omega) w
    rw [hz1] at this
    exact this
  have hmk2 : ∀ w : World, (Instr.makeSlice 23 (.int .i64 (8 * (n : Int))) (.int .i64 (8 * (n : Int)))).run Try.prog w = .ok (.slice (some ⟨w.heap.size, 0, none⟩) (8 * n) (8 * n)) (w.alloc (.cells (madeCells #[.int .u8 0] (8 * n)) 5)) := fun w => by
    have := make_run1 23 5 (.int .u8 0) 1 Try.underlying23 info_u8 rfl .i64 .i64 (8 * n) (8 * n) (Nat.le_refl _) (by omega) (by decide) w
    rw [Int.natCast_mul] at this
    exact this
  clear hi hz0 hz1 hz2 ha h1 h2
  have hl1 : (List.replicate n zeroI).length = n := List.length_replicate
  have hx := Ext.refl W
  by_cases big : 4096 < n
  · have P1 := Lib.hid (fun A c W => print_long A n c W big)
    have P2 := Lib.hid (fun A c W => parse_long A (8 * n) c W (by omega) (by omega))
    have b1 : (4096 : Int) < n := by omega
    clear hl1
    go_enter Try.func17, Try.ntmps17
    go_wp2_with fail
    refine (P1.out _ _ _).mono ?_
    rintro e w1 ⟨rfl, hx'⟩
    replace hx := Ext.trans (by first | exact hx | exact hx.alloc _ | exact (hx.alloc _).alloc _ | exact hx.drew) hx'
    clear hx'
    go_wp2_with fail
    refine (P2.out _ _ _).mono ?_
    rintro e w2 ⟨rfl, hx'⟩
    replace hx := Ext.trans (by first | exact hx | exact hx.alloc _ | exact (hx.alloc _).alloc _ | exact hx.drew) hx'
    clear hx'
    go_wp2_with fail
    go_ret
    exact ⟨rfl, hx⟩
  · have hok : ∀ i ∈ List.replicate n zeroI, i.ok := fun i hi => by
      obtain rfl := List.eq_of_mem_replicate hi
      exact ⟨by decide, by decide, by decide, by decide⟩
    have hB : Byt (List.replicate (8 * n) 0) := fun i hi => by
      obtain rfl := List.eq_of_mem_replicate hi
      decide
    have P1 := Lib.hid (fun A c W h => printI A n c (List.replicate n zeroI) W hl1 (by omega) hok h)
    have P2 := Lib.hid (fun A W h => parseI A (8 * n) (8 * n) (List.replicate (8 * n) 0) W (by omega) (by omega) List.length_replicate hB h)
    rw [show pm (8 * n) = n from by unfold pm; rw [if_pos (by omega)]; omega, show pe (8 * n) = 0 from by unfold pe; rw [if_pos (by omega)]] at P2
    have M1 := Lib.hid (rep4 n)
    have M2 : (madeCells #[Value.int .u8 0] (8 * n)).toList = nums .u8 (List.replicate (8 * n) 0) := by rw [toList_madeCells_one]; simp [nums]
    have M2 := Lib.hid M2
    have b1 : ¬ (4096 : Int) < n := by omega
    have s1 : (n : Int) = (n : Int) := rfl
    clear hl1 hok hB s1
    go_enter Try.func17, Try.ntmps17
    go_wp2_with fail
    refine (P1.out _ _ _ (inM_new M1.out)).mono ?_
    rintro e w1 ⟨Q, q, rfl, _, hx'⟩
    replace hx := Ext.trans (by first | exact hx | exact hx.alloc _ | exact (hx.alloc _).alloc _ | exact hx.drew) hx'
    clear hx'
    go_wp2_with fail
    refine (P2.out _ _ (inM_new M2.out)).mono ?_
    rintro e w2 ⟨R, r, rfl, _, hx'⟩
    replace hx := Ext.trans (by first | exact hx | exact hx.alloc _ | exact (hx.alloc _).alloc _ | exact hx.drew) hx'
    clear hx'
    go_wp2_with fail
    go_ret
    exact ⟨rfl, hx⟩
end Go.Proofs.Ytlicndonhmcmmaa
