import Derived.Test.YtlicndonhmcmmaaDataEq
namespace Go.Proofs.Ytlicndonhmcmmaa
open Go.RowKit Go.ChangeShapes Go.WideShapes
set_option linter.unusedVariables false

set_option maxHeartbeats 1000000 in
theorem dataParse_walk (A : Option Addr) (n c : Nat) (xs : List Int) (hn : xs.length = n) (hm : n ≤ c ∧ c ≤ maxLen) (hB : Byt xs) {W : World} (hM : InM W A (nums .u8 xs)) (_ : World) :
    Calls Try.prog 6 #[.slice A n c] W fun e w' => e = .returned (.bool true) ∧ Ext W w' := by
  clear hm
  by_cases t1 : (200 : Int) < n
  · go_enter Try.func6, Try.ntmps6
    go_wp2
    go_ret
    exact ⟨rfl, Ext.refl _⟩
  have b1 : n ≤ 200 := by omega
  by_cases h : n = 64
  · subst h
    generalize hD : parseD xs = D at *
    have c1 := parse_yes A c xs W hn hB hM
    have c2 := fun w1 (hx : Ext W w1) => refParse_yes A c xs w1 hn hB (hM.ext hx)
    rw [hD] at c1
    simp only [hD] at c2
    have C1 := Lib.hid c1; have C2 := Lib.hid c2
    clear c1 c2 hD hn hM
    have heq := fun W : World => dat_eql D W
    obtain ⟨nr, arch, ip, a0, a1, a2, a3, a4, a5⟩ := D
    go_enter Try.func6, Try.ntmps6
    go_wp2_with fail
    refine C1.out.mono ?_
    rintro e w1 ⟨rfl, hx1⟩
    go_wp2_with fail
    refine (C2.out _ (hx1.alloc _)).mono ?_
    rintro e w2 ⟨rfl, hx2⟩
    have Bx1 : Blk (w2.alloc (.cells #[.int .u32 nr, .int .u32 arch, .int .u64 ip, .int .u64 a0, .int .u64 a1, .int .u64 a2, .int .u64 a3, .int .u64 a4, .int .u64 a5] 45)) w1.heap.size 45 #[.int .u32 nr, .int .u32 arch, .int .u64 ip, .int .u64 a0, .int .u64 a1, .int .u64 a2, .int .u64 a3, .int .u64 a4, .int .u64 a5] := ((Blk.new w1 _ _).ext hx2).alloc _
    have Bx2 : Blk (w2.alloc (.cells #[.int .u32 nr, .int .u32 arch, .int .u64 ip, .int .u64 a0, .int .u64 a1, .int .u64 a2, .int .u64 a3, .int .u64 a4, .int .u64 a5] 45)) w2.heap.size 45 #[.int .u32 nr, .int .u32 arch, .int .u64 ip, .int .u64 a0, .int .u64 a1, .int .u64 a2, .int .u64 a3, .int .u64 a4, .int .u64 a5] := Blk.new w2 _ _
    go_wp2_with (first | (refine wpList_load_blk rfl 45 (.tmp 3) rfl _ _ _ _ rfl Bx1 Try.underlying45 rfl (by kernel_rfl) ?_) | (refine wpList_load_blk rfl 45 (.tmp 5) rfl _ _ _ _ rfl Bx2 Try.underlying45 rfl (by kernel_rfl) ?_))
    go_ret
    exact ⟨rfl, (((hx1.alloc _).trans hx2).alloc _)⟩
  · have heq := fun W : World => dat_eql ⟨0, 0, 0, 0, 0, 0, 0, 0, 0⟩ W
    clear hn hM
    go_enter Try.func6, Try.ntmps6
    go_wp2_with fail
    refine (parse_no A n c W h (by omega)).mono ?_
    rintro e w1 ⟨rfl, hx1⟩
    go_wp2_with fail
    refine (refParse_no A n c _ h (by omega)).mono ?_
    rintro e w2 ⟨rfl, hx2⟩
    have Bx1 : Blk (w2.alloc (.cells #[.int .u32 0, .int .u32 0, .int .u64 0, .int .u64 0, .int .u64 0, .int .u64 0, .int .u64 0, .int .u64 0, .int .u64 0] 45)) w1.heap.size 45 #[.int .u32 0, .int .u32 0, .int .u64 0, .int .u64 0, .int .u64 0, .int .u64 0, .int .u64 0, .int .u64 0, .int .u64 0] := ((Blk.new w1 _ _).ext hx2).alloc _
    have Bx2 : Blk (w2.alloc (.cells #[.int .u32 0, .int .u32 0, .int .u64 0, .int .u64 0, .int .u64 0, .int .u64 0, .int .u64 0, .int .u64 0, .int .u64 0] 45)) w2.heap.size 45 #[.int .u32 0, .int .u32 0, .int .u64 0, .int .u64 0, .int .u64 0, .int .u64 0, .int .u64 0, .int .u64 0, .int .u64 0] := Blk.new w2 _ _
    go_wp2_with (first | (refine wpList_load_blk rfl 45 (.tmp 3) rfl _ _ _ _ rfl Bx1 Try.underlying45 rfl (by kernel_rfl) ?_) | (refine wpList_load_blk rfl 45 (.tmp 5) rfl _ _ _ _ rfl Bx2 Try.underlying45 rfl (by kernel_rfl) ?_))
    go_ret
    exact ⟨rfl, (((hx1.alloc _).trans hx2).alloc _)⟩
end Go.Proofs.Ytlicndonhmcmmaa
