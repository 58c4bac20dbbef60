import Derived.ProofKit
import Derived.OpenShut
import Derived.ShutString
import Derived.ChangeOld
import Derived.Lib.SmallJoins
import Derived.Test.YtkejcfbhikpibaaBase
import Derived.Test.YtkejcfbhikpibaaProg
import Derived.Handy
import Derived.Lib.AppendZeros
import Derived.Laws.CopyOwn
import Derived.Shelf.Bytes.SlSmallAll
namespace Go.Proofs.Ytkejcfbhikpibaa
open Go.RowKit
set_option linter.unusedVariables false

/-- The number of bytes, the least first. -/
def leN : List Int → Int
  | [] => 0
  | b :: r => b + 256 * leN r
/-- The n bytes of a number, the least first. -/
def leB : Nat → Int → List Int
  | 0, _ => []
  | n + 1, x => x % 256 :: leB n (x / 256)
def Byt (bs : List Int) : Prop := ∀ x ∈ bs, 0 ≤ x ∧ x < 256
/-- The number of n bytes at a place. -/
def getB (bs : List Int) (at_ n : Nat) : Int := leN ((bs.drop at_).take n)
def leC (n : Nat) (x : Int) : Array Value := (nums .u8 (leB n x)).toArray

theorem leB_length (n : Nat) : ∀ x, (leB n x).length = n := by
  induction n with
  | zero => intro x; rfl
  | succ n ih => intro x; simp [leB, ih]
theorem leB_byt (n : Nat) : ∀ x, Byt (leB n x) := by
  induction n with
  | zero => intro x y hy; simp [leB] at hy
  | succ n ih =>
    intro x y hy
    simp only [leB, List.mem_cons] at hy
    rcases hy with rfl | hy
    · omega
    · exact ih _ y hy
theorem byt_at {bs : List Int} (h : Byt bs) {k : Nat} (hk : k < bs.length) : 0 ≤ bs[k] ∧ bs[k] < 256 := h _ (List.getElem_mem hk)
theorem Byt.drop {bs : List Int} (h : Byt bs) (k : Nat) : Byt (bs.drop k) := fun x hx => h x (List.mem_of_mem_drop hx)
theorem Byt.take {bs : List Int} (h : Byt bs) (k : Nat) : Byt (bs.take k) := fun x hx => h x (List.mem_of_mem_take hx)
theorem Byt.append {a b : List Int} (h : Byt a) (k : Byt b) : Byt (a ++ b) := fun x hx => by
  rcases List.mem_append.1 hx with hx | hx
  · exact h x hx
  · exact k x hx
theorem seg_succ {bs : List Int} {a N : Nat} (h : a < bs.length) : (bs.drop a).take (N + 1) = bs[a] :: (bs.drop (a + 1)).take N := by
  rw [List.drop_eq_getElem_cons h]; rfl
theorem leN_bd : ∀ (bs : List Int), Byt bs → 0 ≤ leN bs ∧ leN bs < 256 ^ bs.length
  | [], _ => by simp [leN]
  | b :: r, h => by
    have h1 := h b (by simp)
    have h2 := leN_bd r (fun x hx => h x (by simp [hx]))
    simp only [leN, List.length_cons, Int.pow_succ]
    omega
theorem leN_leB : ∀ (n : Nat) (x : Int), 0 ≤ x → x < 256 ^ n → leN (leB n x) = x
  | 0, x, h0, h1 => by simp at h1; simp [leB, leN]; omega
  | n + 1, x, h0, h1 => by
    rw [Int.pow_succ] at h1
    simp only [leB, leN]
    rw [leN_leB n (x / 256) (by omega) (by omega)]
    omega
theorem leB_leN : ∀ (bs : List Int), Byt bs → leB bs.length (leN bs) = bs
  | [], _ => rfl
  | b :: r, h => by
    have h1 := h b (by simp)
    have ih := leB_leN r (fun x hx => h x (by simp [hx]))
    simp only [List.length_cons, leB, leN]
    rw [show (b + 256 * leN r) % 256 = b from by omega, show (b + 256 * leN r) / 256 = leN r from by omega, ih]
theorem leB_mod : ∀ (n : Nat) (x : Int), leB n (x % 256 ^ n) = leB n x
  | 0, _ => rfl
  | n + 1, x => by
    simp only [leB]
    have hp : (0 : Int) < 256 ^ n := by
      have : (0 : Int) < 256 := by decide
      exact Int.pow_pos this
    have e0 : x / (256 * 256 ^ n) = x / 256 / 256 ^ n := (Int.ediv_ediv_of_nonneg (by decide)).symm
    have e1 : x % 256 ^ (n + 1) % 256 = x % 256 := by
      rw [Int.pow_succ, Int.mul_comm]
      exact Int.emod_emod_of_dvd x (Int.dvd_mul_right 256 _)
    have e2 : x % 256 ^ (n + 1) / 256 = x / 256 % 256 ^ n := by
      rw [Int.pow_succ, Int.mul_comm, Int.emod_def, Int.emod_def, e0, Int.mul_assoc]
      omega
    rw [e1, e2, leB_mod n]

theorem or_comm_ (k : IntKind) (x y : Int) : bits .or k x y = bits .or k y x := by simp only [bits]; rw [BitVec.or_comm]
theorem wraps_u16' (n : Int) (h₀ : 0 ≤ n) (h₁ : n < 2 ^ 16) : IntKind.u16.wrap n = n := IntWalk.u16_in n (by omega)
theorem wraps_u32' (n : Int) (h₀ : 0 ≤ n) (h₁ : n < 2 ^ 32) : IntKind.u32.wrap n = n := IntWalk.u32_in n (by omega)
theorem wraps_u64' (n : Int) (h₀ : 0 ≤ n) (h₁ : n < 2 ^ 64) : IntKind.u64.wrap n = n := IntWalk.u64_in n (by omega)

theorem u16_or_0 (y : Int) (h0 : 0 ≤ y) (h1 : y < 256) : bits .or .u16 0 y = y := by
  have := bits_join .u16 16 (by decide) wraps_u16' 8 0 y (by omega) (by omega) (by omega) h0 (by omega) (by omega)
  omega
theorem u16_or_8 (x y : Int) (hx : 0 ≤ x ∧ x < 256) (hy : 0 ≤ y ∧ y < 256) : bits .or .u16 x (y * 256) = x + y * 256 := by
  rw [or_comm_, bits_join .u16 16 (by decide) wraps_u16' 8 (y * 256) x (by omega) (by omega) (by omega) hx.1 (by omega) (by omega)]
  omega
theorem u32_or_0 (y : Int) (h0 : 0 ≤ y) (h1 : y < 256) : bits .or .u32 0 y = y := by
  have := bits_join .u32 32 (by decide) wraps_u32' 8 0 y (by omega) (by omega) (by omega) h0 (by omega) (by omega)
  omega
theorem u32_or_8 (x y : Int) (hx : 0 ≤ x ∧ x < 256) (hy : 0 ≤ y ∧ y < 256) : bits .or .u32 x (y * 256) = x + y * 256 := by
  rw [or_comm_, bits_join .u32 32 (by decide) wraps_u32' 8 (y * 256) x (by omega) (by omega) (by omega) hx.1 (by omega) (by omega)]
  omega
theorem u32_or_16 (x y : Int) (hx : 0 ≤ x ∧ x < 65536) (hy : 0 ≤ y ∧ y < 256) : bits .or .u32 x (y * 65536) = x + y * 65536 := by
  rw [or_comm_, bits_join .u32 32 (by decide) wraps_u32' 16 (y * 65536) x (by omega) (by omega) (by omega) hx.1 (by omega) (by omega)]
  omega
theorem u32_or_24 (x y : Int) (hx : 0 ≤ x ∧ x < 16777216) (hy : 0 ≤ y ∧ y < 256) : bits .or .u32 x (y * 16777216) = x + y * 16777216 := by
  rw [or_comm_, bits_join .u32 32 (by decide) wraps_u32' 24 (y * 16777216) x (by omega) (by omega) (by omega) hx.1 (by omega) (by omega)]
  omega
theorem u64_or_0 (y : Int) (h0 : 0 ≤ y) (h1 : y < 256) : bits .or .u64 0 y = y := by
  have := bits_join .u64 64 (by decide) wraps_u64' 8 0 y (by omega) (by omega) (by omega) h0 (by omega) (by omega)
  omega
theorem u64_or_8 (x y : Int) (hx : 0 ≤ x ∧ x < 256) (hy : 0 ≤ y ∧ y < 256) : bits .or .u64 x (y * 256) = x + y * 256 := by
  rw [or_comm_, bits_join .u64 64 (by decide) wraps_u64' 8 (y * 256) x (by omega) (by omega) (by omega) hx.1 (by omega) (by omega)]
  omega
theorem u64_or_16 (x y : Int) (hx : 0 ≤ x ∧ x < 65536) (hy : 0 ≤ y ∧ y < 256) : bits .or .u64 x (y * 65536) = x + y * 65536 := by
  rw [or_comm_, bits_join .u64 64 (by decide) wraps_u64' 16 (y * 65536) x (by omega) (by omega) (by omega) hx.1 (by omega) (by omega)]
  omega
theorem u64_or_24 (x y : Int) (hx : 0 ≤ x ∧ x < 16777216) (hy : 0 ≤ y ∧ y < 256) : bits .or .u64 x (y * 16777216) = x + y * 16777216 := by
  rw [or_comm_, bits_join .u64 64 (by decide) wraps_u64' 24 (y * 16777216) x (by omega) (by omega) (by omega) hx.1 (by omega) (by omega)]
  omega
theorem u64_or_32 (x y : Int) (hx : 0 ≤ x ∧ x < 4294967296) (hy : 0 ≤ y ∧ y < 256) : bits .or .u64 x (y * 4294967296) = x + y * 4294967296 := by
  rw [or_comm_, bits_join .u64 64 (by decide) wraps_u64' 32 (y * 4294967296) x (by omega) (by omega) (by omega) hx.1 (by omega) (by omega)]
  omega
theorem u64_or_40 (x y : Int) (hx : 0 ≤ x ∧ x < 1099511627776) (hy : 0 ≤ y ∧ y < 256) : bits .or .u64 x (y * 1099511627776) = x + y * 1099511627776 := by
  rw [or_comm_, bits_join .u64 64 (by decide) wraps_u64' 40 (y * 1099511627776) x (by omega) (by omega) (by omega) hx.1 (by omega) (by omega)]
  omega
theorem u64_or_48 (x y : Int) (hx : 0 ≤ x ∧ x < 281474976710656) (hy : 0 ≤ y ∧ y < 256) : bits .or .u64 x (y * 281474976710656) = x + y * 281474976710656 := by
  rw [or_comm_, bits_join .u64 64 (by decide) wraps_u64' 48 (y * 281474976710656) x (by omega) (by omega) (by omega) hx.1 (by omega) (by omega)]
  omega
theorem u64_or_56 (x y : Int) (hx : 0 ≤ x ∧ x < 72057594037927936) (hy : 0 ≤ y ∧ y < 256) : bits .or .u64 x (y * 72057594037927936) = x + y * 72057594037927936 := by
  rw [or_comm_, bits_join .u64 64 (by decide) wraps_u64' 56 (y * 72057594037927936) x (by omega) (by omega) (by omega) hx.1 (by omega) (by omega)]
  omega

theorem u64q (x : Int) (h0 : 0 ≤ x) (h1 : x < 18446744073709551616) : IntKind.u64.wrap (x.tdiv 256) = x / 256 := IntWalk.u64_quo x 256 ⟨h0, by omega, by omega⟩
theorem tm256 (x : Int) (h0 : 0 ≤ x) : x.tmod 256 = x % 256 := IntWalk.rem_in x 256 h0
theorem u64w (x : Int) (h0 : 0 ≤ x) (h1 : x < 18446744073709551616) : IntKind.u64.wrap x = x := IntWalk.u64_in x ⟨h0, by omega⟩
def Lt64 (x : Int) : Prop := x < 18446744073709551616

theorem refPut2 (x : Int) (w : World) (h0 : 0 ≤ x) (h1 : Lt64 x) :
    Calls Try.prog 95 #[.int .u64 x, .int .i64 2] w fun e w' => e = .returned (.slice (some ⟨w.heap.size, 0, none⟩) 2 2) ∧ w' = w.alloc (.cells (leC 2 x) 5) := by
  have hmk : ∀ w, (Instr.makeSlice 23 (.int .i64 2) (.int .i64 2)).run Try.prog w = .ok (.slice (some ⟨w.heap.size, 0, none⟩) 2 2) (w.alloc (.cells #[Value.int .u8 0, Value.int .u8 0] 5)) := fun _ => by kernel_rfl
  go_enter Try.func95, Try.ntmps95
  go_wp2
  go_rounds 3
  go_ret
  refine ⟨rfl, ?_⟩
  unfold Lt64 at h1
  congr 2
  simp only [leC, leB, nums, List.map_cons, List.map_nil]
  simp (disch := omega) only [u64q, tm256]
  simp
theorem refPut4 (x : Int) (w : World) (h0 : 0 ≤ x) (h1 : Lt64 x) :
    Calls Try.prog 95 #[.int .u64 x, .int .i64 4] w fun e w' => e = .returned (.slice (some ⟨w.heap.size, 0, none⟩) 4 4) ∧ w' = w.alloc (.cells (leC 4 x) 5) := by
  have hmk : ∀ w, (Instr.makeSlice 23 (.int .i64 4) (.int .i64 4)).run Try.prog w = .ok (.slice (some ⟨w.heap.size, 0, none⟩) 4 4) (w.alloc (.cells #[Value.int .u8 0, Value.int .u8 0, Value.int .u8 0, Value.int .u8 0] 5)) := fun _ => by kernel_rfl
  go_enter Try.func95, Try.ntmps95
  go_wp2
  go_rounds 5
  go_ret
  refine ⟨rfl, ?_⟩
  unfold Lt64 at h1
  congr 2
  simp only [leC, leB, nums, List.map_cons, List.map_nil]
  simp (disch := omega) only [u64q, tm256]
  simp
theorem refPut8 (x : Int) (w : World) (h0 : 0 ≤ x) (h1 : Lt64 x) :
    Calls Try.prog 95 #[.int .u64 x, .int .i64 8] w fun e w' => e = .returned (.slice (some ⟨w.heap.size, 0, none⟩) 8 8) ∧ w' = w.alloc (.cells (leC 8 x) 5) := by
  have hmk : ∀ w, (Instr.makeSlice 23 (.int .i64 8) (.int .i64 8)).run Try.prog w = .ok (.slice (some ⟨w.heap.size, 0, none⟩) 8 8) (w.alloc (.cells #[Value.int .u8 0, Value.int .u8 0, Value.int .u8 0, Value.int .u8 0, Value.int .u8 0, Value.int .u8 0, Value.int .u8 0, Value.int .u8 0] 5)) := fun _ => by kernel_rfl
  go_enter Try.func95, Try.ntmps95
  go_wp2
  go_rounds 9
  go_ret
  refine ⟨rfl, ?_⟩
  unfold Lt64 at h1
  congr 2
  simp only [leC, leB, nums, List.map_cons, List.map_nil]
  simp (disch := omega) only [u64q, tm256]
  simp
end Go.Proofs.Ytkejcfbhikpibaa

namespace Go.Proofs.Ytkejcfbhikpibaa
open Go.RowKit
set_option linter.unusedVariables false

/-- vestibuleref01.Same at two rows that hold the same numbers. -/
theorem refSame_true (A B : Option Addr) (n c d : Nat) (xs : List Int) (w : World) (hn : xs.length = n) (hb : n ≤ 1000000)
    (h1 : InM w A (nums .u8 xs)) (h2 : InM w B (nums .u8 xs)) :
    Calls Try.prog 15 #[.slice A n c, .slice B n d] w fun e w' => e = .returned (.bool true) ∧ ∃ q, w' = w.drewN q := by
  have Hn := Lib.hid hn; clear hn
  have hne : ((n : Int) != (n : Int)) = false := by simp
  go_enter Try.func15, Try.ntmps15
  go_wp2
  go_loopw [5] (fun i wr => ∃ k q : Nat, k ≤ n ∧ i = .int .i64 k ∧ wr = w.drewN q) (fun i _ => n - (intOf i).toNat)
  case atStart => exact ⟨0, 0, Nat.zero_le _, rfl, rfl⟩
  case round =>
    obtain ⟨k, q, hk, rfl, rfl⟩ := hrel
    by_cases hlt : k < n
    · have hlt' : k < xs.length := by rw [Hn.out]; exact hlt
      obtain ⟨b1, o1, rfl, hb1, hc1⟩ := h1.num hlt'
      obtain ⟨b2, o2, rfl, hb2, hc2⟩ := h2.num hlt'
      generalize hx : xs[k] = x at hc1 hc2
      clear hx h1 h2
      have hq : (x != x) = false := by simp
      go_wp2
      go_quiet (fail)
      go_wp2
      go_roundw
      case rel => exact ⟨k + 1, _, by omega, by go_num, rfl⟩
      case measure => simp [intOf]; omega
    · go_wp2
      go_ret
      exact ⟨rfl, _, rfl⟩

/-- Halves, Whole. -/
theorem halves (x : Int) (w : World) (h0 : 0 ≤ x) (h1 : x < 256 ^ 8) :
    Calls Try.prog 97 #[.int .u64 x] w fun e w' => e = .returned (.tuple #[.int .u32 (x % 4294967296), .int .u32 (x / 4294967296)]) ∧ w = w' := by
  have h2 := Lib.hid h1
  clear h1
  go_enter Try.func97, Try.ntmps97
  go_wp2
  go_ret2
  have h1 := h2.out
  refine ⟨?_, rfl⟩
  have e : ∀ a b c d : Int, a = b → c = d → Ending.returned (.tuple #[Value.int .u32 a, .int .u32 c]) = .returned (.tuple #[Value.int .u32 b, .int .u32 d]) := fun a b c d h k => by rw [h, k]
  exact e _ _ _ _ (by omega) (by omega)

theorem whole_or (x y : Int) (hx : 0 ≤ x ∧ x < 4294967296) (hy : 0 ≤ y ∧ y < 4294967296) : bits .or .u64 (y * 4294967296) x = x + 4294967296 * y := by
  rw [bits_join .u64 64 (by decide) wraps_u64' 32 (y * 4294967296) x (by omega) (by omega) (by omega) hx.1 (by omega) (by omega)]
  omega
/-- vestibuleref01.Copy: a row of the call's own. -/
theorem info_u8 : (Try.prog.info? 5).map (fun i => (i.zero, i.size, i.bytes)) = some (some (.int .u8 0), 1, 1) := by kernel_rfl
theorem size_u8 : (Try.prog.info? 5).map (·.size) = some 1 := by kernel_rfl
theorem refCopy (A : Option Addr) (n c : Nat) (xs : List Int) (w : World) (hn : xs.length = n) (hb : n ≤ 1000000) (hM : InM w A (nums .u8 xs)) :
    Calls Try.prog 13 #[.slice A n c] w fun e w' => e = .returned (.slice (some ⟨w.heap.size, 0, none⟩) n n) ∧ Blk w' w.heap.size 5 (nums .u8 xs).toArray ∧ Ext w w' := by
  have hmk := fun W => make_run1 (P := Try.prog) 23 5 (.int .u8 0) 1 Try.underlying23 info_u8 rfl .i64 .i64 n n (Nat.le_refl _) hb (by omega) W
  have Hn := Lib.hid hn; clear hn
  have hl : (nums .u8 xs).length = n := by rw [List.length_map]; exact Hn.out
  have hl2 : (madeCells #[Value.int .u8 0] n).toList.length = n := by simp [size_madeCells]
  have Hl := Lib.hid hl; clear hl
  have Hl2 := Lib.hid hl2; clear hl2
  go_enter Try.func13, Try.ntmps13
  go_wp2_with (refine wpList_copy_splice rfl (.tmp 7) (.tmp 8) _ _ rfl 5 Try.underlying23 size_u8 _ A n n n c rfl rfl w.heap.size 0 (madeCells #[Value.int .u8 0] n).toList _ (by rw [Array.toArray_toList]; exact heap_alloc_new w _) (nums .u8 xs) (by rw [Hl.out]; simp) (fun h0 => ⟨rfl, ?_⟩) (by rw [Hl.out, Hl2.out]; omega) nums_one w.heap.size w ((Below.refl _ _).alloc (Nat.le_refl _) _) (Nat.le_refl _) ?_)
  · obtain ⟨b, off, rfl, _⟩ := hM.some_ h0
    exact ⟨_, rfl, fun j v hv => by rw [World.cell?_alloc_lt]; · exact hM.add hv
                                    · have := block_lt_of_cell (hM.add hv); exact this⟩
  · intro w2 hrow hbel
    go_wp2
    go_ret
    refine ⟨rfl, ?_, hbel⟩
    have h := hrow.out
    unfold Blk
    rw [h]
    have e : splice (madeCells #[Value.int .u8 0] n).toList 0 (nums .u8 xs) = nums .u8 xs := by
      unfold splice
      rw [List.drop_eq_nil_of_le (by rw [Hl.out, Hl2.out]; omega)]
      simp
    rw [e]
end Go.Proofs.Ytkejcfbhikpibaa

namespace Go.Proofs.Ytkejcfbhikpibaa
open Go.RowKit
set_option linter.unusedVariables false

theorem refGet2_cells (x0 x1 : Int) (w : World) (b o n c at_ : Nat) (h : at_ + 2 ≤ n) (hn : n ≤ 1000000)
    (g0 : 0 ≤ x0 ∧ x0 < 256) (g1 : 0 ≤ x1 ∧ x1 < 256)
    (c0 : w.cell? ⟨b, o + at_, none⟩ = some (.int .u8 x0)) (c1 : w.cell? ⟨b, o + (at_ + 1), none⟩ = some (.int .u8 x1)) :
    Calls Try.prog 82 #[.slice (some ⟨b, o, none⟩) n c, .int .i64 at_, .int .i64 2] w fun e w' => e = .returned (.tuple #[.int .u64 (leN [x0, x1]), .bool true]) ∧ w = w' := by
  have d1 : decide ((at_ : Int) < 0) = false := by simp
  have d0 : decide ((n : Int) < 2) = false := by simp; omega
  have d2 : decide ((n : Int) - 2 < (at_ : Int)) = false := by simp; omega
  go_enter Try.func82, Try.ntmps82
  go_wp2
  go_rounds 3
  go_ret2
  refine ⟨?_, rfl⟩
  simp only [leN, Array.getD_eq_getD_getElem?, List.getElem?_toArray, List.getElem?_cons_succ, List.getElem?_cons_zero, Option.getD_some]
  have e : ∀ a b : Int, a = b → Ending.returned (.tuple #[Value.int .u64 a, .bool true]) = .returned (.tuple #[Value.int .u64 b, .bool true]) := fun a b h => by rw [h]
  exact e _ _ (by omega)
theorem refGet2_ok (A : Option Addr) (n c at_ : Nat) (bs : List Int) (w : World) (hn : bs.length = n) (hb : n ≤ 1000000) (hB : Byt bs) (hM : InM w A (nums .u8 bs)) (h : at_ + 2 ≤ n) :
    Calls Try.prog 82 #[.slice A n c, .int .i64 at_, .int .i64 2] w fun e w' => e = .returned (.tuple #[.int .u64 (getB bs at_ 2), .bool true]) ∧ w = w' := by
  obtain ⟨b, o, rfl, _, k0⟩ := hM.num (k := at_) (by omega)
  have hc : ∀ i (hi : at_ + i < bs.length), w.cell? ⟨b, o + (at_ + i), none⟩ = some (.int .u8 bs[at_ + i]) := fun i hi => hM.cell (nums_at hi)
  have e : getB bs at_ 2 = leN [bs[at_], bs[at_ + 1]] := by
    unfold getB
    rw [seg_succ (by omega), seg_succ (by omega), List.take_zero]
  rw [e]
  exact refGet2_cells _ _ w b o n c at_ h hb (byt_at hB _) (byt_at hB _) k0 (hc 1 (by omega))
theorem refGet2_no (A : Option Addr) (n c : Nat) (a : Int) (w : World) (hb : n ≤ 1000000) (h : a < 0 ∨ (n : Int) - 2 < a) :
    Calls Try.prog 82 #[.slice A n c, .int .i64 a, .int .i64 2] w fun e w' => e = .returned (.tuple #[.int .u64 0, .bool false]) ∧ w = w' := by
  by_cases h0 : a < 0
  · have d0 : decide (a < 0) = true := by simp; omega
    clear h
    go_enter Try.func82, Try.ntmps82
    go_wp2
    go_ret2
    exact ⟨rfl, rfl⟩
  · have d1 : decide (a < 0) = false := by simp; omega
    by_cases h2 : (n : Int) < 2
    · have d0 : decide ((n : Int) < 2) = true := by simp; omega
      clear h
      go_enter Try.func82, Try.ntmps82
      go_wp2
      go_ret2
      exact ⟨rfl, rfl⟩
    · have d0 : decide ((n : Int) < 2) = false := by simp; omega
      have d2 : decide ((n : Int) - 2 < a) = true := by simp; omega
      clear h
      go_enter Try.func82, Try.ntmps82
      go_wp2
      go_ret2
      exact ⟨rfl, rfl⟩
theorem refGet4_cells (x0 x1 x2 x3 : Int) (w : World) (b o n c at_ : Nat) (h : at_ + 4 ≤ n) (hn : n ≤ 1000000)
    (g0 : 0 ≤ x0 ∧ x0 < 256) (g1 : 0 ≤ x1 ∧ x1 < 256) (g2 : 0 ≤ x2 ∧ x2 < 256) (g3 : 0 ≤ x3 ∧ x3 < 256)
    (c0 : w.cell? ⟨b, o + at_, none⟩ = some (.int .u8 x0)) (c1 : w.cell? ⟨b, o + (at_ + 1), none⟩ = some (.int .u8 x1)) (c2 : w.cell? ⟨b, o + (at_ + 2), none⟩ = some (.int .u8 x2)) (c3 : w.cell? ⟨b, o + (at_ + 3), none⟩ = some (.int .u8 x3)) :
    Calls Try.prog 82 #[.slice (some ⟨b, o, none⟩) n c, .int .i64 at_, .int .i64 4] w fun e w' => e = .returned (.tuple #[.int .u64 (leN [x0, x1, x2, x3]), .bool true]) ∧ w = w' := by
  have d1 : decide ((at_ : Int) < 0) = false := by simp
  have d0 : decide ((n : Int) < 4) = false := by simp; omega
  have d2 : decide ((n : Int) - 4 < (at_ : Int)) = false := by simp; omega
  go_enter Try.func82, Try.ntmps82
  go_wp2
  go_rounds 5
  go_ret2
  refine ⟨?_, rfl⟩
  simp only [leN, Array.getD_eq_getD_getElem?, List.getElem?_toArray, List.getElem?_cons_succ, List.getElem?_cons_zero, Option.getD_some]
  have e : ∀ a b : Int, a = b → Ending.returned (.tuple #[Value.int .u64 a, .bool true]) = .returned (.tuple #[Value.int .u64 b, .bool true]) := fun a b h => by rw [h]
  exact e _ _ (by omega)
theorem refGet4_ok (A : Option Addr) (n c at_ : Nat) (bs : List Int) (w : World) (hn : bs.length = n) (hb : n ≤ 1000000) (hB : Byt bs) (hM : InM w A (nums .u8 bs)) (h : at_ + 4 ≤ n) :
    Calls Try.prog 82 #[.slice A n c, .int .i64 at_, .int .i64 4] w fun e w' => e = .returned (.tuple #[.int .u64 (getB bs at_ 4), .bool true]) ∧ w = w' := by
  obtain ⟨b, o, rfl, _, k0⟩ := hM.num (k := at_) (by omega)
  have hc : ∀ i (hi : at_ + i < bs.length), w.cell? ⟨b, o + (at_ + i), none⟩ = some (.int .u8 bs[at_ + i]) := fun i hi => hM.cell (nums_at hi)
  have e : getB bs at_ 4 = leN [bs[at_], bs[at_ + 1], bs[at_ + 2], bs[at_ + 3]] := by
    unfold getB
    rw [seg_succ (by omega), seg_succ (by omega), seg_succ (by omega), seg_succ (by omega), List.take_zero]
  rw [e]
  exact refGet4_cells _ _ _ _ w b o n c at_ h hb (byt_at hB _) (byt_at hB _) (byt_at hB _) (byt_at hB _) k0 (hc 1 (by omega)) (hc 2 (by omega)) (hc 3 (by omega))
theorem refGet4_no (A : Option Addr) (n c : Nat) (a : Int) (w : World) (hb : n ≤ 1000000) (h : a < 0 ∨ (n : Int) - 4 < a) :
    Calls Try.prog 82 #[.slice A n c, .int .i64 a, .int .i64 4] w fun e w' => e = .returned (.tuple #[.int .u64 0, .bool false]) ∧ w = w' := by
  by_cases h0 : a < 0
  · have d0 : decide (a < 0) = true := by simp; omega
    clear h
    go_enter Try.func82, Try.ntmps82
    go_wp2
    go_ret2
    exact ⟨rfl, rfl⟩
  · have d1 : decide (a < 0) = false := by simp; omega
    by_cases h2 : (n : Int) < 4
    · have d0 : decide ((n : Int) < 4) = true := by simp; omega
      clear h
      go_enter Try.func82, Try.ntmps82
      go_wp2
      go_ret2
      exact ⟨rfl, rfl⟩
    · have d0 : decide ((n : Int) < 4) = false := by simp; omega
      have d2 : decide ((n : Int) - 4 < a) = true := by simp; omega
      clear h
      go_enter Try.func82, Try.ntmps82
      go_wp2
      go_ret2
      exact ⟨rfl, rfl⟩
theorem refGet8_cells (x0 x1 x2 x3 x4 x5 x6 x7 : Int) (w : World) (b o n c at_ : Nat) (h : at_ + 8 ≤ n) (hn : n ≤ 1000000)
    (g0 : 0 ≤ x0 ∧ x0 < 256) (g1 : 0 ≤ x1 ∧ x1 < 256) (g2 : 0 ≤ x2 ∧ x2 < 256) (g3 : 0 ≤ x3 ∧ x3 < 256) (g4 : 0 ≤ x4 ∧ x4 < 256) (g5 : 0 ≤ x5 ∧ x5 < 256) (g6 : 0 ≤ x6 ∧ x6 < 256) (g7 : 0 ≤ x7 ∧ x7 < 256)
    (c0 : w.cell? ⟨b, o + at_, none⟩ = some (.int .u8 x0)) (c1 : w.cell? ⟨b, o + (at_ + 1), none⟩ = some (.int .u8 x1)) (c2 : w.cell? ⟨b, o + (at_ + 2), none⟩ = some (.int .u8 x2)) (c3 : w.cell? ⟨b, o + (at_ + 3), none⟩ = some (.int .u8 x3)) (c4 : w.cell? ⟨b, o + (at_ + 4), none⟩ = some (.int .u8 x4)) (c5 : w.cell? ⟨b, o + (at_ + 5), none⟩ = some (.int .u8 x5)) (c6 : w.cell? ⟨b, o + (at_ + 6), none⟩ = some (.int .u8 x6)) (c7 : w.cell? ⟨b, o + (at_ + 7), none⟩ = some (.int .u8 x7)) :
    Calls Try.prog 82 #[.slice (some ⟨b, o, none⟩) n c, .int .i64 at_, .int .i64 8] w fun e w' => e = .returned (.tuple #[.int .u64 (leN [x0, x1, x2, x3, x4, x5, x6, x7]), .bool true]) ∧ w = w' := by
  have d1 : decide ((at_ : Int) < 0) = false := by simp
  have d0 : decide ((n : Int) < 8) = false := by simp; omega
  have d2 : decide ((n : Int) - 8 < (at_ : Int)) = false := by simp; omega
  go_enter Try.func82, Try.ntmps82
  go_wp2
  go_rounds 9
  go_ret2
  refine ⟨?_, rfl⟩
  simp only [leN, Array.getD_eq_getD_getElem?, List.getElem?_toArray, List.getElem?_cons_succ, List.getElem?_cons_zero, Option.getD_some]
  have e : ∀ a b : Int, a = b → Ending.returned (.tuple #[Value.int .u64 a, .bool true]) = .returned (.tuple #[Value.int .u64 b, .bool true]) := fun a b h => by rw [h]
  exact e _ _ (by omega)
theorem refGet8_ok (A : Option Addr) (n c at_ : Nat) (bs : List Int) (w : World) (hn : bs.length = n) (hb : n ≤ 1000000) (hB : Byt bs) (hM : InM w A (nums .u8 bs)) (h : at_ + 8 ≤ n) :
    Calls Try.prog 82 #[.slice A n c, .int .i64 at_, .int .i64 8] w fun e w' => e = .returned (.tuple #[.int .u64 (getB bs at_ 8), .bool true]) ∧ w = w' := by
  obtain ⟨b, o, rfl, _, k0⟩ := hM.num (k := at_) (by omega)
  have hc : ∀ i (hi : at_ + i < bs.length), w.cell? ⟨b, o + (at_ + i), none⟩ = some (.int .u8 bs[at_ + i]) := fun i hi => hM.cell (nums_at hi)
  have e : getB bs at_ 8 = leN [bs[at_], bs[at_ + 1], bs[at_ + 2], bs[at_ + 3], bs[at_ + 4], bs[at_ + 5], bs[at_ + 6], bs[at_ + 7]] := by
    unfold getB
    rw [seg_succ (by omega), seg_succ (by omega), seg_succ (by omega), seg_succ (by omega), seg_succ (by omega), seg_succ (by omega), seg_succ (by omega), seg_succ (by omega), List.take_zero]
  rw [e]
  exact refGet8_cells _ _ _ _ _ _ _ _ w b o n c at_ h hb (byt_at hB _) (byt_at hB _) (byt_at hB _) (byt_at hB _) (byt_at hB _) (byt_at hB _) (byt_at hB _) (byt_at hB _) k0 (hc 1 (by omega)) (hc 2 (by omega)) (hc 3 (by omega)) (hc 4 (by omega)) (hc 5 (by omega)) (hc 6 (by omega)) (hc 7 (by omega))
theorem refGet8_no (A : Option Addr) (n c : Nat) (a : Int) (w : World) (hb : n ≤ 1000000) (h : a < 0 ∨ (n : Int) - 8 < a) :
    Calls Try.prog 82 #[.slice A n c, .int .i64 a, .int .i64 8] w fun e w' => e = .returned (.tuple #[.int .u64 0, .bool false]) ∧ w = w' := by
  by_cases h0 : a < 0
  · have d0 : decide (a < 0) = true := by simp; omega
    clear h
    go_enter Try.func82, Try.ntmps82
    go_wp2
    go_ret2
    exact ⟨rfl, rfl⟩
  · have d1 : decide (a < 0) = false := by simp; omega
    by_cases h2 : (n : Int) < 8
    · have d0 : decide ((n : Int) < 8) = true := by simp; omega
      clear h
      go_enter Try.func82, Try.ntmps82
      go_wp2
      go_ret2
      exact ⟨rfl, rfl⟩
    · have d0 : decide ((n : Int) < 8) = false := by simp; omega
      have d2 : decide ((n : Int) - 8 < a) = true := by simp; omega
      clear h
      go_enter Try.func82, Try.ntmps82
      go_wp2
      go_ret2
      exact ⟨rfl, rfl⟩

/-- bytes.Equal, words.Same. -/
theorem strOf_inj : ∀ (xs ys : List Int), Byt xs → Byt ys → ((strOfNums xs).toList = (strOfNums ys).toList ↔ xs = ys) := by
  intro xs ys hx hy
  rw [Lib.strOfNums_toList, Lib.strOfNums_toList]
  constructor
  · intro h
    have h2 := congrArg (List.map fun u : UInt8 => (u.toNat : Int)) h
    have key : ∀ zs : List Int, Byt zs → (Lib.bytesOf zs).map (fun u : UInt8 => (u.toNat : Int)) = zs := fun zs hz => by
      unfold Lib.bytesOf
      rw [List.map_map]
      conv => rhs; rw [← List.map_id zs]
      refine List.map_congr_left fun z hz' => ?_
      have := hz z hz'
      simp only [Function.comp, id, UInt8.toNat_ofNat']
      omega
    rwa [key xs hx, key ys hy] at h2
  · rintro rfl
    rfl
theorem conv_run (A : Option Addr) (n c : Nat) (xs : List Int) (w : World) (hn : xs.length = n) (hM : InM w A (nums .u8 xs)) :
    (convert 23 9 (.slice A n c)).run Try.prog w = .ok (.string (strOfNums xs)) w := by
  rcases Nat.eq_zero_or_pos n with h0 | h0
  · subst h0
    obtain rfl : xs = [] := List.eq_nil_of_length_eq_zero hn
    exact run_convert_bytes_zero w 23 5 Try.underlying23 Try.underlying5 A c 9 Try.underlying9
  · obtain ⟨b, o, rfl, _⟩ := hM.some_ (by simpa [nums, hn] using h0)
    refine run_convert_bytes_arg (P := Try.prog) w 23 5 Try.underlying23 Try.underlying5 b o n c xs hn (fun i hi => ?_) 9 Try.underlying9
    rw [List.getD_eq_getElem?_getD, List.getElem?_eq_getElem (by omega)]
    exact hM.cell (nums_at _)
theorem wordsSame (A B : Option Addr) (n c m d : Nat) (xs ys : List Int) (w : World) (hn : xs.length = n) (hm : ys.length = m) (hx : Byt xs) (hy : Byt ys)
    (h1 : InM w A (nums .u8 xs)) (h2 : InM w B (nums .u8 ys)) :
    Calls Try.prog 16 #[.slice A n c, .slice B m d] w fun e w' => e = .returned (.bool (decide (xs = ys))) ∧ w = w' := by
  have c1 := conv_run A n c xs w hn h1
  have c2 := conv_run B m d ys w hm h2
  have hs := strOf_inj xs ys hx hy
  generalize strOfNums xs = s1 at *
  generalize strOfNums ys = s2 at *
  have HS := Lib.hid hs
  clear hs hn hm h1 h2
  go_enter Try.func16, Try.ntmps16
  go_wp2_with (go_at_call 30; go_in)
  go_ret
  refine ⟨ret_bool ?_, rfl⟩
  rw [Bool.eq_iff_iff, beq_iff_eq, decide_eq_true_iff]
  exact HS.out

theorem info_Grow : (Try.prog.info? 5).map (fun i => (i.zero, i.size, i.bytes)) = some (some (.int .u8 0), 1, 1) := info_u8
theorem grow_any (N : Nat) (w : World) (hN : N ≤ 1000000) :
    Calls Try.prog 47 #[.slice none 0 0, .int .i64 N] w fun e w' => ∃ A c, e = .returned (.slice A 0 c) ∧ w'.ownsRow w.heap.size 5 1 (.slice A 0 c) 0 [] ∧ Ext w w' := by
  obtain ⟨i0, hi, hz0, hz1, hz2⟩ := info_parts info_u8
  have d0 : decide ((N : Int) < 0) = false := by simp
  rcases Nat.eq_zero_or_pos N with rfl | hp
  · clear hi hz0 hz1 hz2
    go_enter Try.func47, Try.ntmps47
    go_wp2
    go_ret
    exact ⟨_, _, rfl, World.ownsRow_nil _ _ _ _, Ext.refl _⟩
  · have hr := Lib.hid (Lib.run_append_nil_zeros (P := Try.prog) w 23 3 23 5 i0 (.int .u8 0) .i64 .i64 Try.underlying23 Try.underlying3 hi hz0 N hp (by omega) (by omega) (by rw [hz2]; omega))
    have hcap := grownCap_ge w N 0 5
    have hmax := grownCap_le_maxLen w N 0 5 (by unfold maxLen; omega)
    clear hi hz0 hz1 hz2
    generalize grownCap w N 0 5 = C at *
    go_enter Try.func47, Try.ntmps47
    go_wp2_with (at_builtin; refine Lib.wpList_append_run _ rfl (.tmp 20) (.tmp 21) _ _ rfl _ _ rfl rfl _ _ hr.out ?_)
    go_ret
    refine ⟨_, _, rfl, ⟨by simp, .inr ⟨_, _, _, rfl, Nat.le_refl _, heap_alloc_new w.drew _, Nat.zero_le _, hmax, ?_, by simp⟩⟩, ((Ext.refl w).drew).alloc _⟩
    simp [size_zeroCells]
    omega

/-- A slice of bytes as a value, with what it holds. -/
structure Sl where
  A : Option Addr
  n : Nat
  c : Nat
  xs : List Int
def Sl.val (s : Sl) : Value := .slice s.A s.n s.c
def Sl.ok (w : World) (s : Sl) : Prop := s.xs.length = s.n ∧ InM w s.A (nums .u8 s.xs)
def tot : List Sl → Nat
  | [] => 0
  | s :: r => s.n + tot r
def flat : List Sl → List Int
  | [] => []
  | s :: r => s.xs ++ flat r
theorem tot_append (a b : List Sl) : tot (a ++ b) = tot a + tot b := by
  induction a with
  | nil => simp [tot]
  | cons s r ih => simp [tot, ih, Nat.add_assoc]
theorem flat_append (a b : List Sl) : flat (a ++ b) = flat a ++ flat b := by
  induction a with
  | nil => simp [flat]
  | cons s r ih => simp [flat, ih]
theorem flat_length (w : World) : ∀ (l : List Sl), (∀ s ∈ l, s.ok w) → (flat l).length = tot l
  | [], _ => rfl
  | s :: r, h => by
    simp only [flat, tot, List.length_append]
    rw [flat_length w r (fun x hx => h x (by simp [hx])), (h s (by simp)).1]
theorem tot_take_succ (l : List Sl) (k : Nat) (hk : k < l.length) : tot (l.take (k + 1)) = tot (l.take k) + l[k].n := by
  rw [List.take_succ_eq_append_getElem hk, tot_append]
  simp [tot]
theorem flat_take_succ (l : List Sl) (k : Nat) (hk : k < l.length) : flat (l.take (k + 1)) = flat (l.take k) ++ l[k].xs := by
  rw [List.take_succ_eq_append_getElem hk, flat_append]
  simp [flat]
theorem tot_take_le (l : List Sl) (k : Nat) : tot (l.take k) ≤ tot l := by
  conv => rhs; rw [← List.take_append_drop k l, tot_append]
  omega

theorem concat_any (L : Option Addr) (n c : Nat) (ls : List Sl) (w : World) (hn : ls.length = n) (hM : InM w L (ls.map Sl.val)) (hok : ∀ s ∈ ls, s.ok w) (hb : tot ls ≤ 1000000) (hb2 : n ≤ 1000000) :
    Calls Try.prog 29 #[.slice L n c] w fun e w' => ∃ A c', e = .returned (.slice A (tot ls) c') ∧ w'.ownsRow w.heap.size 5 1 (.slice A (tot ls) c') (tot ls) (nums .u8 (flat ls)) ∧ Ext w w' := by
  obtain ⟨i0, hi, hz0, hz1, hz2⟩ := info_parts info_u8
  have HI := Lib.hid hi; have HZ0 := Lib.hid hz0; have HZ1 := Lib.hid hz1; have HZ2 := Lib.hid hz2
  clear hi hz0 hz1 hz2
  have Hn := Lib.hid hn; clear hn
  go_enter Try.func29, Try.ntmps29
  go_wp2
  go_loop [3, 11] (fun sz i => ∃ k : Nat, k ≤ n ∧ i = .int .i64 k ∧ sz = .int .i64 (tot (ls.take k))) (fun _ i => n - (intOf i).toNat)
  case atStart => exact ⟨0, Nat.zero_le _, rfl, rfl⟩
  case round =>
    obtain ⟨k, hk, rfl, rfl⟩ := hrel
    have ht := tot_take_le ls k
    by_cases hlt : k < n
    · have hlt' : k < ls.length := by rw [Hn.out]; exact hlt
      obtain ⟨b1, o1, rfl, hb1, hc1⟩ := hM.at_ (k := k) (by rw [List.length_map]; exact hlt')
      have HS := Lib.hid (tot_take_succ ls k hlt')
      have ht2 := tot_take_le ls (k + 1)
      rw [HS.out] at ht2
      rw [List.getElem_map] at hc1
      generalize ls[k] = s at *
      obtain ⟨A, m, d, xs⟩ := s
      simp only [Sl.val] at hc1 HS ht2
      generalize tot (ls.take k) = T at *
      have hpos : ¬ ((T : Int) + (m : Int) < 0) := by omega
      clear hM hok
      go_wp2
      go_round
      case rel => exact ⟨k + 1, by omega, by go_num, by rw [HS.out]; go_num⟩
      case measure => simp [intOf]; omega
    · obtain rfl : k = n := by omega
      have e : ls.take k = ls := List.take_of_length_le (by rw [Hn.out]; omega)
      have E := Lib.hid e; clear e
      rw [E.out]
      clear E ht hlt hk
      generalize hT : tot ls = T at *
      have HT := Lib.hid hT; clear hT
      go_wp2_with (go_at_call 47; refine (grow_any T w hb).mono ?_; rintro e w1 ⟨A1, c1, rfl, hown1, hx1⟩)
      go_loopw [6, 27] (fun v i wr => ∃ (k : Nat) (A : Option Addr) (c' : Nat), k ≤ ls.length ∧ i = .int .i64 k ∧ v = .slice A (tot (ls.take k)) c' ∧ wr.ownsRow w.heap.size 5 1 (.slice A (tot (ls.take k)) c') (tot (ls.take k)) (nums .u8 (flat (ls.take k))) ∧ Ext w wr) (fun _ i _ => ls.length - (intOf i).toNat)
      case atStart => exact ⟨0, A1, c1, Nat.zero_le _, rfl, rfl, hown1, hx1⟩
      case round =>
        obtain ⟨j, A, c', hj, rfl, rfl, hown, hext⟩ := hrel
        rw [Hn.out] at hj
        by_cases hlt : j < k
        · have hlt' : j < ls.length := by rw [Hn.out]; exact hlt
          obtain ⟨b1, o1, rfl, hb1, hc1⟩ := hM.at_ (k := j) (by rw [List.length_map]; exact hlt')
          have HS := Lib.hid (tot_take_succ ls j hlt')
          have HF := Lib.hid (flat_take_succ ls j hlt')
          have ht2 := tot_take_le ls (j + 1)
          rw [HS.out, HT.out] at ht2
          have hc2 := hext.cell hc1
          rw [List.getElem_map] at hc2
          have hks := hok ls[j] (List.getElem_mem hlt')
          generalize ls[j] = s at *
          obtain ⟨B, m, d, xs⟩ := s
          obtain ⟨hlx, hmx⟩ := hks
          have hmx := hmx.ext hext
          simp only [Sl.val] at hc2 HS ht2 HF hlx hmx
          have HL := Lib.hid hlx; clear hlx hc1
          generalize tot (ls.take j) = U at *
          generalize hFl : flat (ls.take j) = F at *
          clear hFl hM hok
          go_wp2_with (at_builtin; refine wpList_app rfl (.tmp 31) (.tmp 32) _ rfl w.heap.size 5 i0 _ 1 1 Try.underlying23 HI.out HZ0.out HZ1.out HZ2.out rfl (by omega) A U c' (nums .u8 F) rfl hown B m d (nums .u8 xs) rfl (by rw [List.length_map, HL.out, Nat.mul_one]) hmx nums_one (by omega) (by omega) hext.size ?_; intro A2 c2 w2 hown2 hg2 hat2)
          have hx2 := hext.app hown (Nat.le_refl _) hg2
          go_wp2
          go_roundw
          case rel => exact ⟨j + 1, A2, c2, by omega, by go_num, by rw [HS.out], by rw [HS.out, HF.out]; simpa [nums] using hown2, hx2⟩
          case measure => simp [intOf]; omega
        · obtain rfl : j = k := by omega
          have e : ls.take j = ls := List.take_of_length_le (by rw [Hn.out]; omega)
          rw [e, HT.out] at hown
          have E := Lib.hid e; clear e
          rw [E.out, HT.out]
          go_wp2
          go_ret
          rw [HT.out]
          exact ⟨A, c', rfl, hown, hext⟩
theorem cat_any (L : Option Addr) (n c : Nat) (ls : List Sl) (w : World) (hn : ls.length = n) (hM : InM w L (ls.map Sl.val)) (hok : ∀ s ∈ ls, s.ok w) (hb : tot ls ≤ 1000000) (hb2 : n ≤ 1000000) :
    Calls Try.prog 14 #[.slice L n c] w fun e w' => ∃ A c', e = .returned (.slice A (tot ls) c') ∧ w'.ownsRow w.heap.size 5 1 (.slice A (tot ls) c') (tot ls) (nums .u8 (flat ls)) ∧ Ext w w' := by
  go_enter Try.func14, Try.ntmps14
  go_wp2_with (go_at_call 29; refine (concat_any L n c ls w hn hM hok hb hb2).mono ?_; rintro e w1 ⟨A1, c1, rfl, hown1, hx1⟩)
  go_ret
  exact ⟨A1, c1, rfl, hown1, hx1⟩

/-- vestibuleref01.Cat. -/
theorem refCat (A B : Option Addr) (n c m d : Nat) (xs ys : List Int) (w : World) (hn : xs.length = n) (hm : ys.length = m) (hb : n + m ≤ 1000000) (hA : InM w A (nums .u8 xs)) (hB : InM w B (nums .u8 ys)) :
    Calls Try.prog 12 #[.slice A n c, .slice B m d] w fun e w' => e = .returned (.slice (some ⟨w.heap.size, 0, none⟩) (n + m) (n + m)) ∧ Blk w' w.heap.size 5 (nums .u8 (xs ++ ys)).toArray ∧ Ext w w' := by
  have hmk := fun W => make_run1 (P := Try.prog) 23 5 (.int .u8 0) 1 Try.underlying23 info_u8 rfl .i64 .i64 (n + m) (n + m) (Nat.le_refl _) hb (by omega) W
  rw [Int.natCast_add] at hmk
  have hl : (nums .u8 xs).length = n := by rw [List.length_map]; exact hn
  have hl' : (nums .u8 ys).length = m := by rw [List.length_map]; exact hm
  have hl2 : (madeCells #[Value.int .u8 0] (n + m)).toList.length = n + m := by simp [size_madeCells]
  have Hl := Lib.hid hl; clear hl
  have Hl' := Lib.hid hl'; clear hl'
  have Hl2 := Lib.hid hl2; clear hl2
  have Hn := Lib.hid hn; clear hn
  have Hm := Lib.hid hm; clear hm
  have hb' : (n : Int) + (m : Int) ≤ 1000000 := by omega
  go_enter Try.func12, Try.ntmps12
  go_wp2_with (refine wpList_copy_splice rfl (.tmp 12) (.tmp 13) _ _ rfl 5 Try.underlying23 size_u8 _ A (n + m) (n + m) n c rfl rfl w.heap.size 0 (madeCells #[Value.int .u8 0] (n + m)).toList _ (by rw [Array.toArray_toList]; exact heap_alloc_new w _) (nums .u8 xs) (by rw [Hl.out]; simp) (fun h0 => ⟨rfl, ?_⟩) (by rw [Hl.out, Hl2.out]; omega) nums_one w.heap.size w ((Below.refl _ _).alloc (Nat.le_refl _) _) (Nat.le_refl _) ?_)
  · obtain ⟨b, off, rfl, _⟩ := hA.some_ h0
    exact ⟨_, rfl, fun j v hv => by rw [World.cell?_alloc_lt]; · exact hA.add hv
                                    · have := block_lt_of_cell (hA.add hv); exact this⟩
  · intro w2 hrow hbel
    have hB2 := hB.ext hbel
    generalize hS : splice (madeCells #[Value.int .u8 0] (n + m)).toList 0 (nums .u8 xs) = S at hrow
    have hSl : S.length = n + m := by rw [← hS, length_splice _ _ _ (by rw [Hl.out, Hl2.out]; omega), Hl2.out]
    have HSl := Lib.hid hSl; clear hSl
    have HS := Lib.hid hS; clear hS
    have H2 := Lib.hid hrow.out
    go_wp2_with (refine wpList_copy_splice rfl (.tmp 18) (.tmp 19) _ _ rfl 5 Try.underlying23 size_u8 _ B _ _ m d rfl rfl w.heap.size n S _ H2.out (nums .u8 ys) (by rw [Hl'.out]; simp) (fun h0 => ?_) (by rw [Hl'.out, HSl.out]; omega) nums_one w.heap.size w hbel (Nat.le_refl _) ?_)
    case refine_1.inl =>
      exfalso
      have e := Hl'.out
      simp only [List.length_map] at *
      omega
    case refine_1.inr =>
      have h0 : 0 < (nums .u8 ys).length := by assumption
      obtain ⟨b, off, rfl, _⟩ := hB2.some_ h0
      simp
      exact fun j a hj => hB2.add (by simp [hj])
    all_goals
      intro w3 hrow3 hbel3
      go_wp2
      go_ret
      refine ⟨?_, ?_, hbel3⟩
      · first | rfl | (have hm0 : m = 0 := by assumption
                       rw [hm0]; rfl)
      unfold Blk
      rw [hrow3.out]
      have e : splice S n (nums .u8 ys) = nums .u8 (xs ++ ys) := by
        rw [← HS.out]
        unfold splice
        have e1 := Hl.out
        have e2 := Hl'.out
        have e3 := Hl2.out
        rw [List.take_zero, List.nil_append, List.take_append_of_le_length (by omega), List.take_of_length_le (by omega), List.drop_eq_nil_of_le (by simp only [List.length_append, List.length_drop]; omega), List.append_nil]
        simp [nums]
      rw [e]
end Go.Proofs.Ytkejcfbhikpibaa

/- The arguments of the laws, opened: what the reading of an argument as data says of the cells. -/
namespace Go.Proofs.Ytkejcfbhikpibaa
open Go.ChangeShapes Go.WideShapes Go.ChangeAt Go.RowKit
open Go.ChangeMaps (open_string shut_string)
set_option linter.unusedVariables false

theorem own_knob : ownKnob Try.prog.godebug = none := by kernel_rfl
theorem laid_out : laidOutB Try.prog = true := by kernel_rfl

section
variable {H : Type} {enc : TypeId × Value → H} {W : World}

theorem wf_u8 {x : Int} (h : (Lit.int .u8 x).wf = true) : 0 ≤ x ∧ x < 256 := by
  have := bounds_u8 h
  omega
theorem wf_u16 {x : Int} (h : (Lit.int .u16 x).wf = true) : 0 ≤ x ∧ x < 65536 := by
  have := bounds_u16 h
  omega
theorem wf_u32 {x : Int} (h : (Lit.int .u32 x).wf = true) : 0 ≤ x ∧ x < 4294967296 := by
  have := bounds_u32 h
  omega
theorem wf_u64 {x : Int} (h : (Lit.int .u64 x).wf = true) : 0 ≤ x ∧ x < 256 ^ 8 := by
  have := bounds_u64 h
  omega

set_option maxRecDepth 100000 in
theorem open_bytes {base : Nat} {v : Value} {d : DataW H} {p : List MemPlace} (hv : Value.okWide Try.prog W .any base 23 v) (h : DataW.Trod enc Try.prog W 0 (fun _ => true) true 23 v d p) :
    ∃ (A : Option Addr) (n c : Nat) (xs : List Int), v = .slice A n c ∧ xs.length = n ∧ (n ≤ c ∧ c ≤ maxLen) ∧ Byt xs ∧ InM W A (nums .u8 xs) := by
  obtain ⟨a0, len, cap, rfl⟩ := okWide_slice Try.underlying23 hv
  obtain ⟨fuel, hf⟩ := h
  rcases open_ints Try.underlying23 Try.underlying5 (by kernel_rfl) hf with ⟨hcs, _⟩ | ⟨x, l, c, zs, hcs, _, hl, hm, hz, _, hcell, hwz⟩
  · simp [Value.cells] at hcs
    obtain ⟨rfl, rfl, rfl⟩ := hcs
    exact ⟨none, 0, 0, [], rfl, rfl, ⟨Nat.le_refl _, Nat.zero_le _⟩, fun x hx => by simp at hx, InM.nil _ _⟩
  · simp [Value.cells] at hcs
    obtain ⟨rfl, rfl, rfl⟩ := hcs
    have hzl : zs.length = cap := by simpa using hz
    refine ⟨some x, len, cap, zs.take len, rfl, by rw [List.length_take]; omega, ⟨hl, hm⟩, fun y hy => wf_u8 (hwz y (List.mem_of_mem_take hy)), fun j u hu => ?_⟩
    have hj : j < (nums .u8 (zs.take len)).length := (List.getElem?_eq_some_iff.1 hu).1
    have hj2 : j < zs.length := by
      rw [List.length_map, List.length_take] at hj
      omega
    have hc := hcell j hj2
    have hu2 : u = .int .u8 (zs.getD j 0) := by
      have h2 : (nums .u8 (zs.take len))[j]? = some (.int .u8 (zs.getD j 0)) := by
        rw [List.length_map, List.length_take] at hj
        rw [List.getElem?_map, List.getElem?_take_of_lt (by omega), List.getElem?_eq_getElem hj2, List.getD_eq_getElem?_getD, List.getElem?_eq_getElem hj2]
        rfl
      rw [h2] at hu
      exact (Option.some.inj hu).symm
    obtain ⟨b, off, spot⟩ := x
    have hspot : spot = none := by
      have h3 := World.cell?_spot (hcell 0 (by omega))
      simpa [Addr.add] using h3
    subst hspot
    rw [add_plain] at hc
    exact ⟨b, off, rfl, by rw [hc, hu2]⟩
end
end Go.Proofs.Ytkejcfbhikpibaa

namespace Go.Proofs.Ytkejcfbhikpibaa
open Go.RowKit Go.ChangeShapes Go.WideShapes
set_option linter.unusedVariables false

/-- What Get tells of any place. -/
def gb (n : Nat) (a : Int) (k : Nat) : Bool := decide (0 ≤ a ∧ a ≤ (n : Int) - k)
def gv (bs : List Int) (a : Int) (k : Nat) : Int := if gb bs.length a k = true then getB bs a.toNat k else 0
theorem pow256_le {a b : Nat} (h : a ≤ b) : (256 : Int) ^ a ≤ 256 ^ b := by
  obtain ⟨d, rfl⟩ := Nat.exists_eq_add_of_le h
  clear h
  induction d with
  | zero => exact Int.le_refl _
  | succ d ih =>
    rw [← Nat.add_assoc, Int.pow_succ]
    have : (0 : Int) < 256 ^ (a + d) := Int.pow_pos (by decide)
    omega
theorem getB_bd {bs : List Int} (h : Byt bs) (a k : Nat) : 0 ≤ getB bs a k ∧ getB bs a k < 256 ^ k := by
  have h1 := leN_bd ((bs.drop a).take k) ((h.drop a).take k)
  have h2 : ((bs.drop a).take k).length ≤ k := List.length_take_le _ _
  have h3 : (256 : Int) ^ ((bs.drop a).take k).length ≤ 256 ^ k := pow256_le h2
  unfold getB
  omega
theorem gv_bd {bs : List Int} (h : Byt bs) (a : Int) (k : Nat) : 0 ≤ gv bs a k ∧ gv bs a k < 256 ^ k := by
  unfold gv
  split
  · exact getB_bd h _ _
  · exact ⟨Int.le_refl _, Int.pow_pos (by decide)⟩
theorem gb_yes {n : Nat} {a : Int} {k : Nat} (h : 0 ≤ a ∧ a ≤ (n : Int) - k) : gb n a k = true := by unfold gb; simpa using h
theorem gb_no {n : Nat} {a : Int} {k : Nat} (h : ¬ (0 ≤ a ∧ a ≤ (n : Int) - k)) : gb n a k = false := by unfold gb; simpa using h

theorem refGet2_any (A : Option Addr) (n c : Nat) (a : Int) (bs : List Int) (w : World) (hn : bs.length = n) (hb : n ≤ 1000000) (hB : Byt bs) (hM : InM w A (nums .u8 bs)) :
    Calls Try.prog 82 #[.slice A n c, .int .i64 a, .int .i64 2] w fun e w' => e = .returned (.tuple #[.int .u64 (gv bs a 2), .bool (gb n a 2)]) ∧ w = w' := by
  by_cases h : 0 ≤ a ∧ a ≤ (n : Int) - (2 : Nat)
  · obtain ⟨k, rfl⟩ := Int.eq_ofNat_of_zero_le h.1
    rw [gb_yes h, gv, hn, gb_yes h, if_pos rfl, Int.toNat_natCast]
    exact refGet2_ok A n c k bs w hn hb hB hM (by omega)
  · rw [gb_no h, gv, hn, gb_no h, if_neg (by simp)]
    exact refGet2_no A n c a w hb (by omega)
theorem refGet4_any (A : Option Addr) (n c : Nat) (a : Int) (bs : List Int) (w : World) (hn : bs.length = n) (hb : n ≤ 1000000) (hB : Byt bs) (hM : InM w A (nums .u8 bs)) :
    Calls Try.prog 82 #[.slice A n c, .int .i64 a, .int .i64 4] w fun e w' => e = .returned (.tuple #[.int .u64 (gv bs a 4), .bool (gb n a 4)]) ∧ w = w' := by
  by_cases h : 0 ≤ a ∧ a ≤ (n : Int) - (4 : Nat)
  · obtain ⟨k, rfl⟩ := Int.eq_ofNat_of_zero_le h.1
    rw [gb_yes h, gv, hn, gb_yes h, if_pos rfl, Int.toNat_natCast]
    exact refGet4_ok A n c k bs w hn hb hB hM (by omega)
  · rw [gb_no h, gv, hn, gb_no h, if_neg (by simp)]
    exact refGet4_no A n c a w hb (by omega)
theorem refGet8_any (A : Option Addr) (n c : Nat) (a : Int) (bs : List Int) (w : World) (hn : bs.length = n) (hb : n ≤ 1000000) (hB : Byt bs) (hM : InM w A (nums .u8 bs)) :
    Calls Try.prog 82 #[.slice A n c, .int .i64 a, .int .i64 8] w fun e w' => e = .returned (.tuple #[.int .u64 (gv bs a 8), .bool (gb n a 8)]) ∧ w = w' := by
  by_cases h : 0 ≤ a ∧ a ≤ (n : Int) - (8 : Nat)
  · obtain ⟨k, rfl⟩ := Int.eq_ofNat_of_zero_le h.1
    rw [gb_yes h, gv, hn, gb_yes h, if_pos rfl, Int.toNat_natCast]
    exact refGet8_ok A n c k bs w hn hb hB hM (by omega)
  · rw [gb_no h, gv, hn, gb_no h, if_neg (by simp)]
    exact refGet8_no A n c a w hb (by omega)
theorem refPut2_blk (x : Int) (w : World) (h0 : 0 ≤ x) (h1 : x < 256 ^ 8) :
    Calls Try.prog 95 #[.int .u64 x, .int .i64 2] w fun e w' => e = .returned (.slice (some ⟨w.heap.size, 0, none⟩) 2 2) ∧ Blk w' w.heap.size 5 (leC 2 x) ∧ Ext w w' ∧ w'.heap.size = w.heap.size + 1 :=
  (refPut2 x w h0 (by unfold Lt64; omega)).mono fun e w' ⟨he, hw⟩ => by
    subst hw
    exact ⟨he, Blk.new _ _ _, (Ext.refl w).alloc _, by simp⟩
theorem refPut4_blk (x : Int) (w : World) (h0 : 0 ≤ x) (h1 : x < 256 ^ 8) :
    Calls Try.prog 95 #[.int .u64 x, .int .i64 4] w fun e w' => e = .returned (.slice (some ⟨w.heap.size, 0, none⟩) 4 4) ∧ Blk w' w.heap.size 5 (leC 4 x) ∧ Ext w w' ∧ w'.heap.size = w.heap.size + 1 :=
  (refPut4 x w h0 (by unfold Lt64; omega)).mono fun e w' ⟨he, hw⟩ => by
    subst hw
    exact ⟨he, Blk.new _ _ _, (Ext.refl w).alloc _, by simp⟩
theorem refPut8_blk (x : Int) (w : World) (h0 : 0 ≤ x) (h1 : x < 256 ^ 8) :
    Calls Try.prog 95 #[.int .u64 x, .int .i64 8] w fun e w' => e = .returned (.slice (some ⟨w.heap.size, 0, none⟩) 8 8) ∧ Blk w' w.heap.size 5 (leC 8 x) ∧ Ext w w' ∧ w'.heap.size = w.heap.size + 1 :=
  (refPut8 x w h0 (by unfold Lt64; omega)).mono fun e w' ⟨he, hw⟩ => by
    subst hw
    exact ⟨he, Blk.new _ _ _, (Ext.refl w).alloc _, by simp⟩
theorem leC_inM {w : World} {g n : Nat} {t : TypeId} {x : Int} (h : Blk w g t (leC n x)) : InM w (some ⟨g, 0, none⟩) (nums .u8 (leB n x)) := InM.ofBlk h (by simp [leC])

/-- One round of 'b[i]++' on a row of bytes of the call's own. -/
theorem blk_bump {w : World} {g k : Nat} {zs : List Int} {t : TypeId} (h : Blk w g t (nums .u8 zs).toArray) (z : Int) : Blk (w.setCell ⟨g, k, none⟩ (.int .u8 z)) g t (nums .u8 (zs.set k z)).toArray := by
  have := h.set_ k (.int .u8 z)
  simpa [nums, List.map_set] using this

end Go.Proofs.Ytkejcfbhikpibaa

namespace Go.Proofs.Ytkejcfbhikpibaa
open Go.RowKit Go.ChangeShapes Go.WideShapes
set_option linter.unusedVariables false

theorem inM_new {w : World} {t : TypeId} {cs : Array Value} {xs : List Value} (e : cs.toList = xs) : InM (w.alloc (.cells cs t)) (some ⟨w.heap.size, 0, none⟩) xs := InM.ofBlk (Blk.new w t cs) e
theorem byt_lit {bs : List Int} (h : bs.all (fun x => decide (0 ≤ x ∧ x < 256)) = true) : Byt bs := fun x hx => by
  have := List.all_eq_true.1 h x hx
  simpa using this

/-- A contract that leaves the world alone, its world under a name of its own. -/
theorem keep {P : Program} {f : FuncId} {args : Array Value} {w : World} {x : Ending} (h : Calls P f args w fun e w' => e = x ∧ w = w') : Calls P f args w fun e w' => e = x ∧ Ext w w' :=
  h.mono fun e w' ⟨he, hw⟩ => ⟨he, hw ▸ Ext.refl w⟩
theorem keepN {P : Program} {f : FuncId} {args : Array Value} {w : World} {x : Ending} (h : Calls P f args w fun e w' => e = x ∧ ∃ q, w' = w.drewN q) : Calls P f args w fun e w' => e = x ∧ Ext w w' :=
  h.mono fun e w' ⟨he, q, hw⟩ => ⟨he, by rw [hw]; exact (Ext.refl w).drewN q⟩
theorem leC_at {n : Nat} {x : Int} {xs : List Int} (h : leB n x = xs) {w : World} {g : Nat} {t : TypeId} (hb : Blk w g t (leC n x)) : InM w (some ⟨g, 0, none⟩) (nums .u8 xs) := h ▸ leC_inM hb
theorem Ext.one {w w' : World} {o : Obj} (h : Ext (w.alloc o) w') : Ext w w' := ((Ext.refl w).alloc o).trans h

theorem cat2 (L A B : Option Addr) (n c m d : Nat) (xs ys : List Int) (w : World) (hM : InM w L [.slice A n c, .slice B m d]) (hx : xs.length = n) (hy : ys.length = m) (h1 : InM w A (nums .u8 xs)) (h2 : InM w B (nums .u8 ys)) (hb : n + m ≤ 1000000) :
    Calls Try.prog 14 #[.slice L 2 2] w fun e w' => ∃ C c', e = .returned (.slice C (n + m) c') ∧ InM w' C (nums .u8 (xs ++ ys)) ∧ Ext w w' :=
  (cat_any L 2 2 [⟨A, n, c, xs⟩, ⟨B, m, d, ys⟩] w rfl hM (fun s hs => by
    simp only [List.mem_cons, List.not_mem_nil, or_false] at hs
    rcases hs with rfl | rfl
    · exact ⟨hx, h1⟩
    · exact ⟨hy, h2⟩) (by simp [tot]; omega) (by omega)).mono fun e w' ⟨C, c', he, ho, hx⟩ => by
    have e1 : tot [⟨A, n, c, xs⟩, ⟨B, m, d, ys⟩] = n + m := by simp [tot]
    have e2 : flat [⟨A, n, c, xs⟩, ⟨B, m, d, ys⟩] = xs ++ ys := by simp [flat]
    rw [e1, e2] at ho
    rw [e1] at he
    exact ⟨C, c', he, own_inM ho, hx⟩

theorem leB_add : ∀ (a b : Nat) (x : Int), leB (a + b) x = leB a x ++ leB b (x / 256 ^ a)
  | 0, b, x => by simp [leB]
  | a + 1, b, x => by
    rw [show a + 1 + b = (a + b) + 1 from by omega]
    simp only [leB, List.cons_append]
    rw [leB_add a b, Int.pow_succ, Int.mul_comm, ← Int.ediv_ediv_of_nonneg (by decide)]
theorem leB_halves (l h : Int) (hl : 0 ≤ l ∧ l < 4294967296) : leB 8 (l + 4294967296 * h) = leB 4 l ++ leB 4 h := by
  rw [show (8 : Nat) = 4 + 4 from rfl, leB_add, show (256 : Int) ^ 4 = 4294967296 from by decide, show (l + 4294967296 * h) / 4294967296 = h from by omega]
  rw [← leB_mod 4 (l + 4294967296 * h), show (256 : Int) ^ 4 = 4294967296 from by decide, show (l + 4294967296 * h) % 4294967296 = l from by omega]
theorem leB_quarters (l : Int) (hl : 0 ≤ l ∧ l < 4294967296) : leB 4 l = leB 2 (l % 65536) ++ leB 2 (l / 65536) := by
  rw [show (4 : Nat) = 2 + 2 from rfl, leB_add, ← leB_mod 2 l, show (256 : Int) ^ 2 = 65536 from by decide]
theorem getB_leB {n : Nat} {y : Int} (h0 : 0 ≤ y) (h1 : y < 256 ^ n) : getB (leB n y) 0 n = y := by
  unfold getB
  rw [List.drop_zero, List.take_of_length_le (by rw [leB_length]; exact Nat.le_refl _), leN_leB n y h0 h1]

end Go.Proofs.Ytkejcfbhikpibaa
