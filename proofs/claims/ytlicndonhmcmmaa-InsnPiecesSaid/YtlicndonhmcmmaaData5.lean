import Derived.Test.YtlicndonhmcmmaaData4
namespace Go.Proofs.Ytlicndonhmcmmaa
open Go.RowKit Go.ChangeShapes Go.WideShapes
set_option linter.unusedVariables false

theorem own_of_blk {w : World} {base g n : Nat} {t : TypeId} {cs : List Value} (h : Blk w g t cs.toArray) (hb : base ≤ g) (hn : cs.length = n) (hm : n ≤ 1000000) : w.ownsRow base t 1 (.slice (some ⟨g, 0, none⟩) n n) n cs :=
  ⟨by rw [hn, Nat.mul_one], .inr ⟨g, n, cs.toArray, rfl, hb, h, Nat.le_refl _, by unfold maxLen; omega, by simp [hn], by rw [Nat.mul_one, ← hn]; simp⟩⟩
theorem leB8 (x : Int) : leB 8 x = leB 4 (lo x) ++ leB 4 (hi x) := by
  have h := leB_halves (x % 4294967296) (x / 4294967296) (by omega)
  rwa [show x % 4294967296 + 4294967296 * (x / 4294967296) = x from by omega] at h
theorem bytes_eq (d : Dat) : d.bytes = leB 4 d.nr ++ leB 4 d.arch ++ leB 8 d.ip ++ leB 8 d.a0 ++ leB 8 d.a1 ++ leB 8 d.a2 ++ leB 8 d.a3 ++ leB 8 d.a4 ++ leB 8 d.a5 := by
  simp only [Dat.bytes, Dat.words, prB, leB8, List.append_assoc, List.append_nil]

set_option maxHeartbeats 1000000 in
set_option maxRecDepth 100000 in
theorem refPrint_any (d : Dat) (h : d.ok) (w : World) :
    Calls Try.prog 42 #[d.val] w fun e w' => ∃ A c', e = .returned (.slice A 64 c') ∧ InM w' A (nums .u8 d.bytes) ∧ Ext w w' := by
  obtain ⟨i0, hi, hz0, hz1, hz2⟩ := info_parts info_u8
  have HI := Lib.hid hi; have HZ0 := Lib.hid hz0; have HZ1 := Lib.hid hz1; have HZ2 := Lib.hid hz2
  clear hi hz0 hz1 hz2
  rw [bytes_eq]
  obtain ⟨nr, arch, ip, a0, a1, a2, a3, a4, a5⟩ := d
  obtain ⟨u0, u1, u2, u3, u4, u5, u6, u7, u8⟩ := h
  dsimp only at u0 u1 u2 u3 u4 u5 u6 u7 u8 ⊢
  have v0 : U64 nr := ⟨u0.1, by have := u0.2; omega⟩
  have v1 : U64 arch := ⟨u1.1, by have := u1.2; omega⟩
  obtain ⟨n0, n1⟩ : 0 ≤ nr ∧ nr < 4294967296 := u0
  obtain ⟨n2, n3⟩ : 0 ≤ arch ∧ arch < 4294967296 := u1
  have b0 : Blk (w.alloc (.cells #[.int .u32 nr, .int .u32 arch, .int .u64 ip, .int .u64 a0, .int .u64 a1, .int .u64 a2, .int .u64 a3, .int .u64 a4, .int .u64 a5] 45)) w.heap.size 45 #[.int .u32 nr, .int .u32 arch, .int .u64 ip, .int .u64 a0, .int .u64 a1, .int .u64 a2, .int .u64 a3, .int .u64 a4, .int .u64 a5] := Blk.new _ _ _
  have y0 : Ext w (w.alloc (.cells #[.int .u32 nr, .int .u32 arch, .int .u64 ip, .int .u64 a0, .int .u64 a1, .int .u64 a2, .int .u64 a3, .int .u64 a4, .int .u64 a5] 45)) := (Ext.refl w).alloc _
  go_enter Try.func42, Try.ntmps42
  go_wp2_with fail
  refine (refPut4_blk nr _ v0.1 v0.2).mono ?_
  rintro e w0 ⟨rfl, hb0, hx0, hs0⟩
  have o0 : w0.ownsRow (w.heap.size + 1) 5 1 (.slice (some ⟨w.heap.size + 1, 0, none⟩) 4 4) 4 (nums .u8 (leB 4 nr)) := own_of_blk (by simpa [leC] using hb0) (by omega) (by simp [leB_length]) (by omega)
  have y1 := y0.trans hx0
  have b1 := b0.ext hx0
  clear hb0 hx0 hs0
  have q1 : w0.cell? ⟨w.heap.size, 1, none⟩ = some (.int .u32 arch) := by rw [b1.cell]; rfl
  go_wp2_with fail
  refine (refPut4_blk arch _ v1.1 v1.2).mono ?_
  rintro e w1 ⟨rfl, hb1, hx1, hs1⟩
  have p1 := own_ext o0 hx1
  have m1 := leC_inM hb1
  have hz1 : w.heap.size + 1 ≤ w1.heap.size := Nat.succ_le_of_lt (b1.ext hx1).lt
  have l1 : (nums .u8 (leB 4 arch)).length = 4 * 1 := by rw [List.length_map, leB_length]
  have L1 := Lib.hid l1; clear l1 q1 hs1 hb1
  go_wp2_with (at_builtin; refine wpList_app rfl (.tmp 9) (.tmp 13) _ rfl (w.heap.size + 1) 5 i0 _ 1 1 Try.underlying23 HI.out HZ0.out HZ1.out HZ2.out rfl Nat.zero_lt_one (some ⟨w.heap.size + 1, 0, none⟩) 4 4 (nums .u8 (leB 4 nr)) rfl p1 _ 4 4 (nums .u8 (leB 4 arch)) rfl L1.out m1 nums_one (by decide) (by decide) hz1 ?_; intro A1 c1 z1 r1 g1 t1; have y2 := (y1.trans hx1).app p1 (by omega) g1; have b2 : Blk z1 w.heap.size 45 #[.int .u32 nr, .int .u32 arch, .int .u64 ip, .int .u64 a0, .int .u64 a1, .int .u64 a2, .int .u64 a3, .int .u64 a4, .int .u64 a5] := (b1.ext hx1).grown g1 (fun e => by have := (p1.lt _ e.symm).1; omega); have q2 : z1.cell? ⟨w.heap.size, 2, none⟩ = some (.int .u64 ip) := by rw [b2.cell]; rfl)
  have o1 : z1.ownsRow (w.heap.size + 1) 5 1 (.slice A1 8 c1) 8 (nums .u8 ((leB 4 nr) ++ leB 4 arch)) := by simpa [nums] using r1
  clear r1 t1
  go_wp2_with fail
  refine (refPut8_blk ip _ u2.1 u2.2).mono ?_
  rintro e w2 ⟨rfl, hb2, hx2, hs2⟩
  have p2 := own_ext o1 hx2
  have m2 := leC_inM hb2
  have hz2 : w.heap.size + 1 ≤ w2.heap.size := Nat.succ_le_of_lt (b2.ext hx2).lt
  have l2 : (nums .u8 (leB 8 ip)).length = 8 * 1 := by rw [List.length_map, leB_length]
  have L2 := Lib.hid l2; clear l2 q2 hs2 hb2
  go_wp2_with (at_builtin; refine wpList_app rfl (.tmp 15) (.tmp 18) _ rfl (w.heap.size + 1) 5 i0 _ 1 1 Try.underlying23 HI.out HZ0.out HZ1.out HZ2.out rfl Nat.zero_lt_one A1 8 c1 (nums .u8 ((leB 4 nr) ++ leB 4 arch)) rfl p2 _ 8 8 (nums .u8 (leB 8 ip)) rfl L2.out m2 nums_one (by decide) (by decide) hz2 ?_; intro A2 c2 z2 r2 g2 t2; have y3 := (y2.trans hx2).app p2 (by omega) g2; have b3 : Blk z2 w.heap.size 45 #[.int .u32 nr, .int .u32 arch, .int .u64 ip, .int .u64 a0, .int .u64 a1, .int .u64 a2, .int .u64 a3, .int .u64 a4, .int .u64 a5] := (b2.ext hx2).grown g2 (fun e => by have := (p2.lt _ e.symm).1; omega); have q3 : z2.cell? ⟨w.heap.size, 3, none⟩ = some (.int .u64 a0) := by rw [b3.cell]; rfl)
  have o2 : z2.ownsRow (w.heap.size + 1) 5 1 (.slice A2 16 c2) 16 (nums .u8 (((leB 4 nr) ++ leB 4 arch) ++ leB 8 ip)) := by simpa [nums] using r2
  clear r2 t2
  go_wp2_with fail
  refine wp_loop_rounds 7 ?_
  rw [rounds_succ]
  go_wp2_with fail
  refine (refPut8_blk a0 _ u3.1 u3.2).mono ?_
  rintro e w3 ⟨rfl, hb3, hx3, hs3⟩
  have p3 := own_ext o2 hx3
  have m3 := leC_inM hb3
  have hz3 : w.heap.size + 1 ≤ w3.heap.size := Nat.succ_le_of_lt (b3.ext hx3).lt
  have l3 : (nums .u8 (leB 8 a0)).length = 8 * 1 := by rw [List.length_map, leB_length]
  have L3 := Lib.hid l3; clear l3 q3 hs3 hb3
  go_wp2_with (at_builtin; refine wpList_app rfl (.tmp 24) (.tmp 29) _ rfl (w.heap.size + 1) 5 i0 _ 1 1 Try.underlying23 HI.out HZ0.out HZ1.out HZ2.out rfl Nat.zero_lt_one A2 16 c2 (nums .u8 (((leB 4 nr) ++ leB 4 arch) ++ leB 8 ip)) rfl p3 _ 8 8 (nums .u8 (leB 8 a0)) rfl L3.out m3 nums_one (by decide) (by decide) hz3 ?_; intro A3 c3 z3 r3 g3 t3; have y4 := (y3.trans hx3).app p3 (by omega) g3; have b4 : Blk z3 w.heap.size 45 #[.int .u32 nr, .int .u32 arch, .int .u64 ip, .int .u64 a0, .int .u64 a1, .int .u64 a2, .int .u64 a3, .int .u64 a4, .int .u64 a5] := (b3.ext hx3).grown g3 (fun e => by have := (p3.lt _ e.symm).1; omega); have q4 : z3.cell? ⟨w.heap.size, 4, none⟩ = some (.int .u64 a1) := by rw [b4.cell]; rfl)
  have o3 : z3.ownsRow (w.heap.size + 1) 5 1 (.slice A3 24 c3) 24 (nums .u8 ((((leB 4 nr) ++ leB 4 arch) ++ leB 8 ip) ++ leB 8 a0)) := by simpa [nums] using r3
  clear r3 t3
  rw [rounds_succ]
  go_wp2_with fail
  refine (refPut8_blk a1 _ u4.1 u4.2).mono ?_
  rintro e w4 ⟨rfl, hb4, hx4, hs4⟩
  have p4 := own_ext o3 hx4
  have m4 := leC_inM hb4
  have hz4 : w.heap.size + 1 ≤ w4.heap.size := Nat.succ_le_of_lt (b4.ext hx4).lt
  have l4 : (nums .u8 (leB 8 a1)).length = 8 * 1 := by rw [List.length_map, leB_length]
  have L4 := Lib.hid l4; clear l4 q4 hs4 hb4
  go_wp2_with (at_builtin; refine wpList_app rfl (.tmp 24) (.tmp 29) _ rfl (w.heap.size + 1) 5 i0 _ 1 1 Try.underlying23 HI.out HZ0.out HZ1.out HZ2.out rfl Nat.zero_lt_one A3 24 c3 (nums .u8 ((((leB 4 nr) ++ leB 4 arch) ++ leB 8 ip) ++ leB 8 a0)) rfl p4 _ 8 8 (nums .u8 (leB 8 a1)) rfl L4.out m4 nums_one (by decide) (by decide) hz4 ?_; intro A4 c4 z4 r4 g4 t4; have y5 := (y4.trans hx4).app p4 (by omega) g4; have b5 : Blk z4 w.heap.size 45 #[.int .u32 nr, .int .u32 arch, .int .u64 ip, .int .u64 a0, .int .u64 a1, .int .u64 a2, .int .u64 a3, .int .u64 a4, .int .u64 a5] := (b4.ext hx4).grown g4 (fun e => by have := (p4.lt _ e.symm).1; omega); have q5 : z4.cell? ⟨w.heap.size, 5, none⟩ = some (.int .u64 a2) := by rw [b5.cell]; rfl)
  have o4 : z4.ownsRow (w.heap.size + 1) 5 1 (.slice A4 32 c4) 32 (nums .u8 (((((leB 4 nr) ++ leB 4 arch) ++ leB 8 ip) ++ leB 8 a0) ++ leB 8 a1)) := by simpa [nums] using r4
  clear r4 t4
  rw [rounds_succ]
  go_wp2_with fail
  refine (refPut8_blk a2 _ u5.1 u5.2).mono ?_
  rintro e w5 ⟨rfl, hb5, hx5, hs5⟩
  have p5 := own_ext o4 hx5
  have m5 := leC_inM hb5
  have hz5 : w.heap.size + 1 ≤ w5.heap.size := Nat.succ_le_of_lt (b5.ext hx5).lt
  have l5 : (nums .u8 (leB 8 a2)).length = 8 * 1 := by rw [List.length_map, leB_length]
  have L5 := Lib.hid l5; clear l5 q5 hs5 hb5
  go_wp2_with (at_builtin; refine wpList_app rfl (.tmp 24) (.tmp 29) _ rfl (w.heap.size + 1) 5 i0 _ 1 1 Try.underlying23 HI.out HZ0.out HZ1.out HZ2.out rfl Nat.zero_lt_one A4 32 c4 (nums .u8 (((((leB 4 nr) ++ leB 4 arch) ++ leB 8 ip) ++ leB 8 a0) ++ leB 8 a1)) rfl p5 _ 8 8 (nums .u8 (leB 8 a2)) rfl L5.out m5 nums_one (by decide) (by decide) hz5 ?_; intro A5 c5 z5 r5 g5 t5; have y6 := (y5.trans hx5).app p5 (by omega) g5; have b6 : Blk z5 w.heap.size 45 #[.int .u32 nr, .int .u32 arch, .int .u64 ip, .int .u64 a0, .int .u64 a1, .int .u64 a2, .int .u64 a3, .int .u64 a4, .int .u64 a5] := (b5.ext hx5).grown g5 (fun e => by have := (p5.lt _ e.symm).1; omega); have q6 : z5.cell? ⟨w.heap.size, 6, none⟩ = some (.int .u64 a3) := by rw [b6.cell]; rfl)
  have o5 : z5.ownsRow (w.heap.size + 1) 5 1 (.slice A5 40 c5) 40 (nums .u8 ((((((leB 4 nr) ++ leB 4 arch) ++ leB 8 ip) ++ leB 8 a0) ++ leB 8 a1) ++ leB 8 a2)) := by simpa [nums] using r5
  clear r5 t5
  rw [rounds_succ]
  go_wp2_with fail
  refine (refPut8_blk a3 _ u6.1 u6.2).mono ?_
  rintro e w6 ⟨rfl, hb6, hx6, hs6⟩
  have p6 := own_ext o5 hx6
  have m6 := leC_inM hb6
  have hz6 : w.heap.size + 1 ≤ w6.heap.size := Nat.succ_le_of_lt (b6.ext hx6).lt
  have l6 : (nums .u8 (leB 8 a3)).length = 8 * 1 := by rw [List.length_map, leB_length]
  have L6 := Lib.hid l6; clear l6 q6 hs6 hb6
  go_wp2_with (at_builtin; refine wpList_app rfl (.tmp 24) (.tmp 29) _ rfl (w.heap.size + 1) 5 i0 _ 1 1 Try.underlying23 HI.out HZ0.out HZ1.out HZ2.out rfl Nat.zero_lt_one A5 40 c5 (nums .u8 ((((((leB 4 nr) ++ leB 4 arch) ++ leB 8 ip) ++ leB 8 a0) ++ leB 8 a1) ++ leB 8 a2)) rfl p6 _ 8 8 (nums .u8 (leB 8 a3)) rfl L6.out m6 nums_one (by decide) (by decide) hz6 ?_; intro A6 c6 z6 r6 g6 t6; have y7 := (y6.trans hx6).app p6 (by omega) g6; have b7 : Blk z6 w.heap.size 45 #[.int .u32 nr, .int .u32 arch, .int .u64 ip, .int .u64 a0, .int .u64 a1, .int .u64 a2, .int .u64 a3, .int .u64 a4, .int .u64 a5] := (b6.ext hx6).grown g6 (fun e => by have := (p6.lt _ e.symm).1; omega); have q7 : z6.cell? ⟨w.heap.size, 7, none⟩ = some (.int .u64 a4) := by rw [b7.cell]; rfl)
  have o6 : z6.ownsRow (w.heap.size + 1) 5 1 (.slice A6 48 c6) 48 (nums .u8 (((((((leB 4 nr) ++ leB 4 arch) ++ leB 8 ip) ++ leB 8 a0) ++ leB 8 a1) ++ leB 8 a2) ++ leB 8 a3)) := by simpa [nums] using r6
  clear r6 t6
  rw [rounds_succ]
  go_wp2_with fail
  refine (refPut8_blk a4 _ u7.1 u7.2).mono ?_
  rintro e w7 ⟨rfl, hb7, hx7, hs7⟩
  have p7 := own_ext o6 hx7
  have m7 := leC_inM hb7
  have hz7 : w.heap.size + 1 ≤ w7.heap.size := Nat.succ_le_of_lt (b7.ext hx7).lt
  have l7 : (nums .u8 (leB 8 a4)).length = 8 * 1 := by rw [List.length_map, leB_length]
  have L7 := Lib.hid l7; clear l7 q7 hs7 hb7
  go_wp2_with (at_builtin; refine wpList_app rfl (.tmp 24) (.tmp 29) _ rfl (w.heap.size + 1) 5 i0 _ 1 1 Try.underlying23 HI.out HZ0.out HZ1.out HZ2.out rfl Nat.zero_lt_one A6 48 c6 (nums .u8 (((((((leB 4 nr) ++ leB 4 arch) ++ leB 8 ip) ++ leB 8 a0) ++ leB 8 a1) ++ leB 8 a2) ++ leB 8 a3)) rfl p7 _ 8 8 (nums .u8 (leB 8 a4)) rfl L7.out m7 nums_one (by decide) (by decide) hz7 ?_; intro A7 c7 z7 r7 g7 t7; have y8 := (y7.trans hx7).app p7 (by omega) g7; have b8 : Blk z7 w.heap.size 45 #[.int .u32 nr, .int .u32 arch, .int .u64 ip, .int .u64 a0, .int .u64 a1, .int .u64 a2, .int .u64 a3, .int .u64 a4, .int .u64 a5] := (b7.ext hx7).grown g7 (fun e => by have := (p7.lt _ e.symm).1; omega); have q8 : z7.cell? ⟨w.heap.size, 8, none⟩ = some (.int .u64 a5) := by rw [b8.cell]; rfl)
  have o7 : z7.ownsRow (w.heap.size + 1) 5 1 (.slice A7 56 c7) 56 (nums .u8 ((((((((leB 4 nr) ++ leB 4 arch) ++ leB 8 ip) ++ leB 8 a0) ++ leB 8 a1) ++ leB 8 a2) ++ leB 8 a3) ++ leB 8 a4)) := by simpa [nums] using r7
  clear r7 t7
  rw [rounds_succ]
  go_wp2_with fail
  refine (refPut8_blk a5 _ u8.1 u8.2).mono ?_
  rintro e w8 ⟨rfl, hb8, hx8, hs8⟩
  have p8 := own_ext o7 hx8
  have m8 := leC_inM hb8
  have hz8 : w.heap.size + 1 ≤ w8.heap.size := Nat.succ_le_of_lt (b8.ext hx8).lt
  have l8 : (nums .u8 (leB 8 a5)).length = 8 * 1 := by rw [List.length_map, leB_length]
  have L8 := Lib.hid l8; clear l8 q8 hs8 hb8
  go_wp2_with (at_builtin; refine wpList_app rfl (.tmp 24) (.tmp 29) _ rfl (w.heap.size + 1) 5 i0 _ 1 1 Try.underlying23 HI.out HZ0.out HZ1.out HZ2.out rfl Nat.zero_lt_one A7 56 c7 (nums .u8 ((((((((leB 4 nr) ++ leB 4 arch) ++ leB 8 ip) ++ leB 8 a0) ++ leB 8 a1) ++ leB 8 a2) ++ leB 8 a3) ++ leB 8 a4)) rfl p8 _ 8 8 (nums .u8 (leB 8 a5)) rfl L8.out m8 nums_one (by decide) (by decide) hz8 ?_; intro A8 c8 z8 r8 g8 t8; have y9 := (y8.trans hx8).app p8 (by omega) g8; have b9 : Blk z8 w.heap.size 45 #[.int .u32 nr, .int .u32 arch, .int .u64 ip, .int .u64 a0, .int .u64 a1, .int .u64 a2, .int .u64 a3, .int .u64 a4, .int .u64 a5] := (b8.ext hx8).grown g8 (fun e => by have := (p8.lt _ e.symm).1; omega))
  have o8 : z8.ownsRow (w.heap.size + 1) 5 1 (.slice A8 64 c8) 64 (nums .u8 (((((((((leB 4 nr) ++ leB 4 arch) ++ leB 8 ip) ++ leB 8 a0) ++ leB 8 a1) ++ leB 8 a2) ++ leB 8 a3) ++ leB 8 a4) ++ leB 8 a5)) := by simpa [nums] using r8
  clear r8 t8
  rw [rounds_succ]
  go_wp2
  go_ret
  exact ⟨A8, c8, rfl, own_inM o8, y9⟩
end Go.Proofs.Ytlicndonhmcmmaa
