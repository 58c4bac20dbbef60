import Derived.Test.YtjlhfmedaandeaaOptTop2
import Derived.Test.YtjlhfmedaandeaaSym2
/- vestibulelaw26.awake. -/
namespace Go.Proofs.Ytjlhfmedaandeaa
open Go.RowKit Go.ChangeShapes Go.WideShapes
set_option linter.unusedVariables false
set_option linter.unusedSimpArgs false

def awA : List Sy := [⟨21, 0, 1, 2⟩, ⟨5, 0, 3, 0⟩, ⟨6, 5, 0, 0⟩, ⟨6, 5, 0, 0⟩]
def awB : List Sy := [⟨32, 0, 0, 0⟩, ⟨5, 0, 3, 0⟩, ⟨6, 1, 0, 0⟩, ⟨6, 2, 0, 0⟩]
theorem awA_t : threadL awA = [⟨21, 0, 3, 2⟩, ⟨5, 0, 3, 0⟩, ⟨6, 5, 0, 0⟩, ⟨6, 5, 0, 0⟩] := by decide +kernel
theorem awA_s : shareL awA = [⟨21, 0, 1, 3⟩, ⟨5, 0, 3, 0⟩, ⟨6, 5, 0, 0⟩, ⟨6, 5, 0, 0⟩] := by decide +kernel
theorem awA_o : optL awA = [⟨5, 0, 1, 0⟩, ⟨6, 5, 0, 0⟩] := by decide +kernel
theorem awB_d : deadL awB = [⟨32, 0, 0, 0⟩, ⟨5, 0, 2, 0⟩, ⟨6, 2, 0, 0⟩] := by decide +kernel
theorem awA_may : mayL awA = true := by decide +kernel
theorem awB_may : mayL awB = true := by decide +kernel
theorem aw_ok {ps : List Sy} (h : (ps.all fun i => decide (0 ≤ i.code) && decide (i.code < 65536) && decide (0 ≤ i.k) && decide (i.k < 4294967296) && decide (-9223372036854775808 ≤ i.th) && decide (i.th < 9223372036854775808) && decide (-9223372036854775808 ≤ i.el) && decide (i.el < 9223372036854775808)) = true) : ∀ i ∈ ps, i.ok := fun i hi => by
  have := (List.all_eq_true.1 h) i hi
  simp only [Bool.and_eq_true, decide_eq_true_eq] at this
  obtain ⟨⟨⟨⟨⟨⟨⟨a, b⟩, c⟩, d⟩, e⟩, f⟩, g⟩, k⟩ := this
  exact ⟨⟨a, b⟩, ⟨c, d⟩, ⟨e, f⟩, ⟨g, k⟩⟩
theorem awA_ok : ∀ i ∈ awA, i.ok := aw_ok (by decide +kernel)
theorem awB_ok : ∀ i ∈ awB, i.ok := aw_ok (by decide +kernel)
set_option maxHeartbeats 4000000 in
set_option maxRecDepth 100000 in
theorem awake26 (W : World) : Calls Try.prog 33 #[] W fun e w' => e = .returned (.bool true) ∧ Ext W w' := by
  have hbA := Blk.new W 32 #[.int .u16 21, .int .u32 0, .int .i64 1, .int .i64 2, .int .u16 5, .int .u32 0, .int .i64 3, .int .i64 0, .int .u16 6, .int .u32 5, .int .i64 0, .int .i64 0, .int .u16 6, .int .u32 5, .int .i64 0, .int .i64 0]
  have hxA := (Ext.refl W).alloc (.cells #[.int .u16 21, .int .u32 0, .int .i64 1, .int .i64 2, .int .u16 5, .int .u32 0, .int .i64 3, .int .i64 0, .int .u16 6, .int .u32 5, .int .i64 0, .int .i64 0, .int .u16 6, .int .u32 5, .int .i64 0, .int .i64 0] 32)
  have HMA := Lib.hid (InM.ofBlk (xs := sc awA) hbA rfl)
  have HT := Lib.hid (fun g W' hW => by
    have h := topThreadYes g 0 4 4 awA W' rfl awA_ok (by decide) hW awA_may
    rw [awA_t] at h
    exact h)
  have HS := Lib.hid (fun g W' hW => by
    have h := topShareYes g 0 4 4 awA W' rfl awA_ok (by decide) hW awA_may
    rw [awA_s] at h
    exact h)
  have HO := Lib.hid (fun g W' hW => by
    have h := topOptYes g 0 4 4 awA W' rfl awA_ok (by decide) hW awA_may
    rw [awA_o] at h
    exact h)
  have HD := Lib.hid (fun g W' hW => by
    have h := topDeadYes g 0 4 4 awB W' rfl awB_ok (by decide) hW awB_may
    rw [awB_d] at h
    exact h)
  have HN := Lib.hid (fun W' => topOptNo none 0 0 [] W' rfl (by simp) (by decide) (InM.nil _ _) (by decide))
  unfold TopR at HT HS HO HD
  simp only [List.length_cons, List.length_nil, Nat.reduceAdd] at HT HS HO HD
  clear hbA
  go_enter Try.func33, Try.ntmps33
  go_wp2_with fail
  refine (HT.out _ _ HMA.out).mono ?_
  rintro e w1 ⟨g1, c1, m1, rfl, hb1, -, hx1⟩
  go_wp2_with fail
  refine (HS.out _ _ (HMA.out.ext hx1)).mono ?_
  rintro e w2 ⟨g2, c2, m2, rfl, hb2, -, hx2⟩
  go_wp2_with fail
  refine (HO.out _ _ (HMA.out.ext (hx1.trans hx2))).mono ?_
  rintro e w3 ⟨g3, c3, m3, rfl, hb3, -, hx3⟩
  have hbB := Blk.new w3 32 #[.int .u16 32, .int .u32 0, .int .i64 0, .int .i64 0, .int .u16 5, .int .u32 0, .int .i64 3, .int .i64 0, .int .u16 6, .int .u32 1, .int .i64 0, .int .i64 0, .int .u16 6, .int .u32 2, .int .i64 0, .int .i64 0]
  have hxB := (Ext.refl w3).alloc (.cells #[.int .u16 32, .int .u32 0, .int .i64 0, .int .i64 0, .int .u16 5, .int .u32 0, .int .i64 3, .int .i64 0, .int .u16 6, .int .u32 1, .int .i64 0, .int .i64 0, .int .u16 6, .int .u32 2, .int .i64 0, .int .i64 0] 32)
  have HMB := Lib.hid (InM.ofBlk (xs := sc awB) hbB rfl)
  clear hbB
  go_wp2_with fail
  refine (HD.out _ _ HMB.out).mono ?_
  rintro e w4 ⟨g4, c4, m4, rfl, hb4, -, hx4⟩
  go_wp2_with fail
  refine (HN.out _).mono ?_
  rintro e w5 ⟨rfl, hx5⟩
  have hx45 := hx4.trans hx5
  have hx35 := hxB.trans hx45
  have b1 := hb1.ext (hx2.trans (hx3.trans hx35))
  have b2 := hb2.ext (hx3.trans hx35)
  have b3 := hb3.ext hx35
  have b4 := hb4.ext hx5
  obtain ⟨-, -, p2, p3⟩ := blk_sym b1 (k := 0) (by decide) rfl
  obtain ⟨-, -, q2, q3⟩ := blk_sym b2 (k := 0) (by decide) rfl
  obtain ⟨r0, r1, r2, r3⟩ := blk_sym b3 (k := 0) (by decide) rfl
  obtain ⟨-, r5, -, -⟩ := blk_sym b3 (k := 1) (by decide) rfl
  obtain ⟨-, -, s6, -⟩ := blk_sym b4 (k := 1) (by decide) rfl
  obtain ⟨-, s9, -, -⟩ := blk_sym b4 (k := 2) (by decide) rfl
  have e1 := fun W => (sym_eql ⟨5, 0, 1, 0⟩ ⟨5, 0, 1, 0⟩ W)
  have f1 := fun a b W => (sym_guard_eql ⟨5, 0, 1, 0⟩ ⟨5, 0, 1, 0⟩ a b W)
  simp only [Sy.val, Sy.cells, decide_true] at e1 f1
  simp only [Nat.zero_mul, Nat.zero_add, Nat.reduceMul, Nat.reduceAdd] at p2 p3 q2 q3 r0 r1 r2 r3 r5 s6 s9
  have hfin := hxA.trans (hx1.trans (hx2.trans (hx3.trans hx35)))
  clear b1 b2 b3 b4 hb1 hb2 hb3 hb4 hx1 hx2 hx3 hxA hxB hx4 hx5 hx45 hx35
  go_wp2_with fail
  go_ret
  exact ⟨rfl, hfin⟩
end Go.Proofs.Ytjlhfmedaandeaa
