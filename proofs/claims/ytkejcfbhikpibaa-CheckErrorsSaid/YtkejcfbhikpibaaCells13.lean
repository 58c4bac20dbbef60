import Derived.Test.YtkejcfbhikpibaaCells12
import Derived.Shelf.Spec.SlicesInsert
/- slices.Repeat of one mask. -/
namespace Go.Proofs.Ytkejcfbhikpibaa
open Go.RowKit Go.ChangeShapes Go.WideShapes
set_option linter.unusedVariables false
set_option linter.unusedSimpArgs false

theorem info_u16 : (Try.prog.info? 29).map (fun i => (i.zero, i.size, i.bytes)) = some (some (.int .u16 0), 1, 2) := by kernel_rfl
theorem size_u16 : (Try.prog.info? 29).map (·.size) = some 1 := by kernel_rfl
/-- The first k masks are laid. -/
def laidM (k n : Nat) : List Int := List.replicate k 65535 ++ List.replicate (n - k) 0
theorem made_masks (n : Nat) : madeCells #[Value.int .u16 0] n = masks (List.replicate n 0) := by
  apply Array.toList_inj.1
  rw [toList_madeCells_one]
  simp [masks]
theorem splice_laid (k m n : Nat) (h : k + m ≤ n) : splice ((laidM k n).map (Value.int .u16)) k ((List.replicate m 65535).map (Value.int .u16)) = (laidM (k + m) n).map (Value.int .u16) := by
  unfold splice laidM
  simp only [List.map_append, List.map_replicate, List.length_replicate]
  rw [List.take_append_of_le_length (by simp), List.take_of_length_le (by simp), List.drop_append, List.drop_of_length_le (by simp)]
  simp only [List.length_replicate, List.nil_append, List.drop_replicate]
  rw [show n - k - (k + m - k) = n - (k + m) by omega, ← List.append_assoc, List.replicate_append_replicate]

set_option maxHeartbeats 2000000 in
set_option maxRecDepth 100000 in
theorem repeatI (g0 n : Nat) (hn : n ≤ 4096) (w : World) (B0 : Blk w g0 29 (masks [65535])) :
    Calls Try.prog 43 #[.slice (some ⟨g0, 0, none⟩) 1 1, .int .i64 n] w fun e w' => e = .returned (.slice (some ⟨w.heap.size, 0, none⟩) n n) ∧ Blk w' w.heap.size 29 (masks (List.replicate n 65535)) ∧ Ext w w' := by
  rcases Nat.eq_zero_or_pos n with h0 | h0
  · subst h0
    have hmk0 : ∀ W : World, (Instr.makeSlice 55 (.int .i64 0) (.int .i64 0)).run Try.prog W = .ok (.slice (some ⟨W.heap.size, 0, none⟩) 0 0) (W.alloc (.cells (madeCells #[Value.int .u16 0] 0) 29)) := fun W => make_run1 (P := Try.prog) 55 29 (.int .u16 0) 2 Try.underlying55 info_u16 rfl .i64 .i64 0 0 (Nat.le_refl _) (by omega) (by omega) W
    have HM : ∀ W : World, Calls Try.prog 62 #[.int .u64 1, .int .u64 0] W fun e w' => e = .returned (.tuple #[.int .u64 0, .int .u64 0]) ∧ W = w' := fun W => mul_one' 0 (by omega) W
    have HM := Lib.hid HM
    have hx0 := (Ext.refl w).alloc (.cells (madeCells #[Value.int .u16 0] 0) 29)
    have hB0 : Blk (w.alloc (.cells (madeCells #[Value.int .u16 0] 0) 29)) w.heap.size 29 (masks (List.replicate 0 65535)) := by rw [made_masks]; exact Blk.new w _ (masks [])
    go_enter Try.func43, Try.ntmps43
    go_wp2_with fail
    refine (HM.out _).mono ?_
    rintro e w1 ⟨rfl, rfl⟩
    go_wp2_with (refine wpList_copy_nothing rfl (.tmp 31) (.tmp 32) _ _ rfl 29 Try.underlying55 size_u16 _ _ 0 0 1 1 rfl rfl rfl ?_)
    go_loopw [8] (fun i wr => i = .int .i64 0 ∧ Blk wr w.heap.size 29 (masks (List.replicate 0 65535)) ∧ Ext w wr) (fun _ _ => 0)
    case atStart => exact ⟨rfl, hB0, hx0⟩
    case round =>
      clear hB0 hx0
      obtain ⟨rfl, hB, hx⟩ := hrel
      go_wp2_with fail
      go_ret
      exact ⟨rfl, hB, hx⟩
  · have hmk := fun W => make_run1 (P := Try.prog) 55 29 (.int .u16 0) 2 Try.underlying55 info_u16 rfl .i64 .i64 n n (Nat.le_refl _) (by omega) (by omega) W
    have HM := Lib.hid (fun W => mul_one' n (by omega) W)
    have v1 : IntKind.u64.wrap (n : Int) = n := IntWalk.u64_in _ (by omega)
    have v2 : IntKind.i64.wrap (n : Int) = n := IntWalk.i64_in _ (by omega)
    have b1 : ¬ (9223372036854775807 : Int) < n := by omega
    have b2 : ¬ (n : Int) < 0 := by omega
    have hl2 : (madeCells #[Value.int .u16 0] n).toList.length = n := by simp [size_madeCells]
    have Hl2 := Lib.hid hl2; clear hl2
    go_enter Try.func43, Try.ntmps43
    go_wp2_with fail
    refine (HM.out _).mono ?_
    rintro e w1 ⟨rfl, rfl⟩
    have B1 := B0.alloc (.cells (madeCells #[Value.int .u16 0] n) 29)
    have B1m : InM (w.alloc (.cells (madeCells #[Value.int .u16 0] n) 29)) (some ⟨g0, 0, none⟩) [.int .u16 65535] := B1.inM
    have hmin : [Value.int .u16 65535].length = Nat.min 1 n := by
      show 1 = Nat.min 1 n
      exact (Nat.min_eq_left h0).symm
    have hone : ∀ v ∈ [Value.int .u16 65535], v.oneCell' = true := by
      intro v hv
      simp at hv
      subst hv
      rfl
    have hfit : 0 + [Value.int .u16 65535].length ≤ (madeCells #[Value.int .u16 0] n).toList.length := by rw [Hl2.out]; exact h0
    go_wp2_with (refine wpList_copy_splice rfl (.tmp 31) (.tmp 32) _ _ rfl 29 Try.underlying55 size_u16 _ _ n n 1 1 rfl rfl w.heap.size 0 (madeCells #[Value.int .u16 0] n).toList _ (by rw [Array.toArray_toList]; exact heap_alloc_new w _) [.int .u16 65535] hmin (fun _ => ⟨rfl, ⟨g0, 0, none⟩, rfl, fun j u hj => B1m.add hj⟩) hfit hone w.heap.size w ((Below.refl _ _).alloc (Nat.le_refl _) _) (Nat.le_refl _) ?_; rintro w2 hrow hbel)
    have hB : Blk w2 w.heap.size 29 (masks (laidM 1 n)) := by
      have h := hrow.out
      rw [made_masks, masks, List.toList_toArray, show List.replicate n (0 : Int) = laidM 0 n by simp [laidM], show [Value.int .u16 65535] = (List.replicate 1 65535).map (Value.int .u16) from rfl, splice_laid 0 1 n h0] at h
      exact h
    clear hrow B0 B1 B1m hmin hone hfit Hl2 hmk HM
    go_loopw [8] (fun i wr => ∃ k : Nat, 1 ≤ k ∧ k ≤ n ∧ i = .int .i64 k ∧ Blk wr w.heap.size 29 (masks (laidM k n)) ∧ Ext w wr) (fun i _ => n - (intOf i).toNat)
    case atStart => exact ⟨1, Nat.le_refl _, h0, by rw [show Nat.min 1 n = 1 from Nat.min_eq_left h0], hB, hbel⟩
    case round =>
      clear hB hbel
      obtain ⟨k, hk1, hk, rfl, hB, hx⟩ := hrel
      by_cases hlt : k < n
      · have d1 : (k : Int) < n := by omega
        have d2 : (0 : Int) ≤ k := by omega
        have d3 : (k : Int) ≤ n := by omega
        obtain ⟨m, hm⟩ : ∃ m, m = Nat.min k (n - k) := ⟨_, rfl⟩
        have hm1 : m ≤ n - k ∧ m ≤ k ∧ 1 ≤ m := by
          have e1 : m ≤ n - k := hm ▸ Nat.min_le_right _ _
          have e2 : m ≤ k := hm ▸ Nat.min_le_left _ _
          refine ⟨e1, e2, ?_⟩
          rw [hm]
          exact Nat.le_min.2 ⟨hk1, by omega⟩
        have hsrc : InM wr (some ⟨w.heap.size, 0, none⟩) ((List.replicate m (65535 : Int)).map (Value.int .u16)) := by
          intro j u hj
          have hj2 : j < m := by
            have := (List.getElem?_eq_some_iff.1 hj).1
            simpa using this
          refine ⟨_, _, rfl, ?_⟩
          rw [Nat.zero_add, hB.cell]
          rw [← hj]
          simp [masks, laidM, List.getElem?_append, hj2, show j < k by omega]
        have hcp : ∀ (W : World), W.heap = wr.heap → ∀ ty, (Builtin.copy_ #[55, 55] ty #[.slice (some ⟨w.heap.size, k, none⟩) (n - k) (n - k), .slice (some ⟨w.heap.size, 0, none⟩) k n]).run Try.prog W = .ok (goInt m) (W.setRow w.heap.size (masks (laidM (k + m) n))) := fun W hW ty => by
          have h := run_copy_row (P := Try.prog) W 55 55 ty 29 w.heap.size k (n - k) (n - k) ⟨w.heap.size, 0, none⟩ k n (masks (laidM k n)) 29 ((List.replicate m (65535 : Int)).map (Value.int .u16)) Try.underlying55 size_u16 (by rw [hW]; exact hB) (by simp [hm]) (fun j v hv => by have hc := hsrc.add hv; simp only [World.cell?, hW] at hc ⊢; exact hc) (by simp [masks, laidM]; omega) (by intro v hv; simp at hv; rw [hv.2]; rfl)
          rw [h]
          have e := splice_laid k m n (by omega)
          unfold splice at e
          simp only [masks, List.toList_toArray, ← e, List.append_assoc]
          simp
        have HCP := Lib.hid hcp
        clear hcp hsrc
        have hmix : Try.prog.follows .mixedOrders = true := rfl
        have hnk : ¬ n = k := by omega
        go_wp2_with fail
        have hcp2 : (Builtin.copy_ #[55, 55] 3 #[.slice (some ⟨w.heap.size, k, none⟩) (n - k) (n - k), .slice (some ⟨w.heap.size, 0, none⟩) k n]).run Try.prog wr.drew = .ok (.int .i64 m) (wr.drew.setRow w.heap.size (masks (laidM (k + m) n))) := HCP.out wr.drew rfl _
        have v3 : IntKind.i64.wrap ((k : Int) + m) = (k : Int) + m := IntWalk.i64_in _ (by omega)
        have HMM := Lib.hid hm
        clear hm
        go_region
        go_wp2_with fail
        go_roundw
        case rel =>
          refine ⟨k + m, by omega, by omega, by go_num, setRow_heap wr.drew w.heap.size (masks (laidM k n)) _ 29 (0, 0) hB, ?_⟩
          exact below_setRow hx.drew (Nat.le_refl _) _
        case measure => simp [intOf]; omega
      · obtain rfl : k = n := by omega
        go_wp2_with fail
        go_ret
        refine ⟨rfl, ?_, hx⟩
        have e : laidM k k = List.replicate k 65535 := by simp [laidM]
        rw [e] at hB
        exact hB
end Go.Proofs.Ytkejcfbhikpibaa
