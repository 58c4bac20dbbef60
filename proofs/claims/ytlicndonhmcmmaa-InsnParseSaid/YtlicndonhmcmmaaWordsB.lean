import Derived.Test.YtlicndonhmcmmaaWordsA
import Derived.Lib.AppendZeros
import Derived.Laws.CopyOwn
import Derived.Shelf.Bytes.SlSmallAll
namespace Go.Proofs.Ytlicndonhmcmmaa
open Go.RowKit
set_option linter.unusedVariables false

/-- vestibuleref01.Same at two rows that hold the same numbers. -/
theorem refSame_true (A B : Option Addr) (n c d : Nat) (xs : List Int) (w : World) (hn : xs.length = n) (hb : n ≤ 1000000)
    (h1 : InM w A (nums .u8 xs)) (h2 : InM w B (nums .u8 xs)) :
    Calls Try.prog 24 #[.slice A n c, .slice B n d] w fun e w' => e = .returned (.bool true) ∧ ∃ q, w' = w.drewN q := by
  have Hn := Lib.hid hn; clear hn
  have hne : ((n : Int) != (n : Int)) = false := by simp
  go_enter Try.func24, Try.ntmps24
  go_wp2
  go_loopw [5] (fun i wr => ∃ k q : Nat, k ≤ n ∧ i = .int .i64 k ∧ wr = w.drewN q) (fun i _ => n - (intOf i).toNat)
  case atStart => exact ⟨0, 0, Nat.zero_le _, rfl, rfl⟩
  case round =>
    obtain ⟨k, q, hk, rfl, rfl⟩ := hrel
    by_cases hlt : k < n
    · have hlt' : k < xs.length := by rw [Hn.out]; exact hlt
      obtain ⟨b1, o1, rfl, hb1, hc1⟩ := h1.num hlt'
      obtain ⟨b2, o2, rfl, hb2, hc2⟩ := h2.num hlt'
      generalize hx : xs[k] = x at hc1 hc2
      clear hx h1 h2
      have hq : (x != x) = false := by simp
      go_wp2
      go_quiet (fail)
      go_wp2
      go_roundw
      case rel => exact ⟨k + 1, _, by omega, by go_num, rfl⟩
      case measure => simp [intOf]; omega
    · go_wp2
      go_ret
      exact ⟨rfl, _, rfl⟩

/-- Halves, Whole. -/
theorem halves (x : Int) (w : World) (h0 : 0 ≤ x) (h1 : x < 256 ^ 8) :
    Calls Try.prog 26 #[.int .u64 x] w fun e w' => e = .returned (.tuple #[.int .u32 (x % 4294967296), .int .u32 (x / 4294967296)]) ∧ w = w' := by
  have h2 := Lib.hid h1
  clear h1
  go_enter Try.func26, Try.ntmps26
  go_wp2
  go_ret2
  have h1 := h2.out
  refine ⟨?_, rfl⟩
  have e : ∀ a b c d : Int, a = b → c = d → Ending.returned (.tuple #[Value.int .u32 a, .int .u32 c]) = .returned (.tuple #[Value.int .u32 b, .int .u32 d]) := fun a b c d h k => by rw [h, k]
  exact e _ _ _ _ (by omega) (by omega)

theorem whole_or (x y : Int) (hx : 0 ≤ x ∧ x < 4294967296) (hy : 0 ≤ y ∧ y < 4294967296) : bits .or .u64 (y * 4294967296) x = x + 4294967296 * y := by
  rw [bits_join .u64 64 (by decide) wraps_u64' 32 (y * 4294967296) x (by omega) (by omega) (by omega) hx.1 (by omega) (by omega)]
  omega
theorem whole (x y : Int) (w : World) (hx : 0 ≤ x ∧ x < 4294967296) (hy : 0 ≤ y ∧ y < 4294967296) :
    Calls Try.prog 36 #[.int .u32 x, .int .u32 y] w fun e w' => e = .returned (.int .u64 (x + 4294967296 * y)) ∧ w = w' := by
  obtain ⟨x0, x1⟩ := hx
  obtain ⟨y0, y1⟩ := hy
  go_enter Try.func36, Try.ntmps36
  go_wp2
  go_ret
  exact ⟨ret_int (whole_or x y ⟨x0, x1⟩ ⟨y0, y1⟩), rfl⟩

/-- vestibuleref01.Copy: a row of the call's own. -/
theorem info_u8 : (Try.prog.info? 5).map (fun i => (i.zero, i.size, i.bytes)) = some (some (.int .u8 0), 1, 1) := by kernel_rfl
theorem size_u8 : (Try.prog.info? 5).map (·.size) = some 1 := by kernel_rfl
theorem refCopy (A : Option Addr) (n c : Nat) (xs : List Int) (w : World) (hn : xs.length = n) (hb : n ≤ 1000000) (hM : InM w A (nums .u8 xs)) :
    Calls Try.prog 27 #[.slice A n c] w fun e w' => e = .returned (.slice (some ⟨w.heap.size, 0, none⟩) n n) ∧ Blk w' w.heap.size 5 (nums .u8 xs).toArray ∧ Ext w w' := by
  have hmk := fun W => make_run1 (P := Try.prog) 23 5 (.int .u8 0) 1 Try.underlying23 info_u8 rfl .i64 .i64 n n (Nat.le_refl _) hb (by omega) W
  have Hn := Lib.hid hn; clear hn
  have hl : (nums .u8 xs).length = n := by rw [List.length_map]; exact Hn.out
  have hl2 : (madeCells #[Value.int .u8 0] n).toList.length = n := by simp [size_madeCells]
  have Hl := Lib.hid hl; clear hl
  have Hl2 := Lib.hid hl2; clear hl2
  go_enter Try.func27, Try.ntmps27
  go_wp2_with (refine wpList_copy_splice rfl (.tmp 7) (.tmp 8) _ _ rfl 5 Try.underlying23 size_u8 _ A n n n c rfl rfl w.heap.size 0 (madeCells #[Value.int .u8 0] n).toList _ (by rw [Array.toArray_toList]; exact heap_alloc_new w _) (nums .u8 xs) (by rw [Hl.out]; simp) (fun h0 => ⟨rfl, ?_⟩) (by rw [Hl.out, Hl2.out]; omega) nums_one w.heap.size w ((Below.refl _ _).alloc (Nat.le_refl _) _) (Nat.le_refl _) ?_)
  · obtain ⟨b, off, rfl, _⟩ := hM.some_ h0
    exact ⟨_, rfl, fun j v hv => by rw [World.cell?_alloc_lt]; · exact hM.add hv
                                    · have := block_lt_of_cell (hM.add hv); exact this⟩
  · intro w2 hrow hbel
    go_wp2
    go_ret
    refine ⟨rfl, ?_, hbel⟩
    have h := hrow.out
    unfold Blk
    rw [h]
    have e : splice (madeCells #[Value.int .u8 0] n).toList 0 (nums .u8 xs) = nums .u8 xs := by
      unfold splice
      rw [List.drop_eq_nil_of_le (by rw [Hl.out, Hl2.out]; omega)]
      simp
    rw [e]
end Go.Proofs.Ytlicndonhmcmmaa
